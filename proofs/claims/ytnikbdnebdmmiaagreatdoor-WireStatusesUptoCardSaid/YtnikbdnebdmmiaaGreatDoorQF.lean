/- What the proof of WireStatusesUptoCard stands on (texts merged; names shortened by a program): part 6. -/
import Derived.Test.YtnikbdnebdmmiaaGreatDoorQE
import Derived.Test.YtnikbdnebdmmiaaGreatDoorProg
import Derived.KernelRfl
import Derived.Laws.RangeAny
import Derived.Lib.TrimU
import Derived.Lib.Strings
set_option linter.defProp false
set_option linter.unusedSectionVars false
set_option linter.unusedSimpArgs false
set_option linter.unusedVariables false
namespace Go.Proofs.YtnikbdnebdmmiaaGreatDoor
section
variable [AP]
set_option maxRecDepth 100000
def AcK:Af := .seq (.ops [po_ 2 (.mov (ci_ 0))] [0])
 (.seq (.ops [so_ 3 (.alloc (.val (.int .i64 ((0:Nat):Int))))] [0,3])
 (.seq (.block 0 (.seq (.ops [mv_ 5 0,po_ 6 (.eqN 1 (.t 5) (.c .nilIface) false),mv_ 4 6] [0,3,4])
 (.cond (.t 4)
 (.seq (.ops [po_ 2 (.mov (ci_ 0))] [2])
  (.ret))
 (.seq (.ops [mv_ 8 0,po_ 9 (.iface 78 (.t 3)),so_ 10 (.call 36 [.t 8,.t 9]),mv_ 7 10] [3,7])
  (.cond (.t 7)
  (.seq (.ops [po_ 11 (.load false 1 (.t 3)),mv_ 2 11] [2])
   (.ret))
  (.skip))))))
 (.seq (.ops [po_ 2 (.mov (.c (.int .i64 (-1))))] [2])
 (.ret))))
def AcS:List VR:=[.tmp 2]
theorem AhR:Tryz.f11.body.bind (trC Tryz.prog Tryz.f11.ntmps)=some (er AcK):=by kernel_rfl
theorem Ah6:trR Tryz.prog Tryz.f11.results.toList=some AcS:=by kernel_rfl
def Aev:=Ac AcK.eq_1
theorem AfD {K:TV→Prop} {e:Env} {H:List Ob}:res AcS e H K=res [.tmp 2] e H K:=Aa rfl
def Y7:=(aI_ @Aev @AfD)
def Abb:=Dj 12 Tryz.func11 AhR Ah6 rfl
def TU:Af := .seq (.ops [mv_ 13 4,mv_ 14 3,po_ 15 (.idxA 1 (.t 13) (.t 14)),⟨none,.s (.store 1 (.t 15) (.c (.int .u8 ((71:Nat):Int)))),none⟩] [3,4])
 (.seq (.ops [mv_ 16 4,mv_ 17 3,po_ 18 (.bin 3 .add (.t 17) (ci_ 1)),po_ 19 (.idxA 1 (.t 16) (.t 18)),⟨none,.s (.store 1 (.t 19) (.c (.int .u8 ((72:Nat):Int)))),none⟩] [3,4])
 (.seq (.ops [mv_ 20 4,mv_ 21 3,po_ 22 (.slV 1 (.t 20) none (some (.t 21))),mv_ 2 22] [2])
 (.ret)))
def U6:Af := .seq (.ops [mv_ 10 4,mv_ 11 0,so_ 12 (.copy 1 (.t 10) (.t 11))] [3,4])
 TU
def U7:Af := .seq (.ops [mv_ 7 3,po_ 8 (.bin 3 .add (.t 7) (ci_ 2)),so_ 9 (.mks 1 1 (.val (.int .u8 ((0:Nat):Int))) (.t 8) (.t 8)),mv_ 4 9] [0,3,4])
 U6
def Ud:Af := .seq (.ops [mv_ 5 0,po_ 6 (.lenV (.t 5)),mv_ 3 6] [0,3])
 U7
def Aaq:Af := .seq (.ops [po_ 2 (.mov (.c (.slice none 0 0)))] [0])
 Ud
def ZR:List VR:=[.tmp 2]
theorem Ae7:Tryz.f17.body.bind (trC Tryz.prog Tryz.f17.ntmps)=some (er Aaq):=by kernel_rfl
theorem Aff:trR Tryz.prog Tryz.f17.results.toList=some ZR:=by kernel_rfl
def ZI:=Ac TU.eq_1
def Zx:=Ac U6.eq_1
def ZA:=Ac U7.eq_1
def Zl:=Ac Ud.eq_1
def Acv:=Ac Aaq.eq_1
theorem Ab7 {K:TV→Prop} {e:Env} {H:List Ob}:res ZR e H K=res [.tmp 2] e H K:=Aa rfl
def Aft:=(aI_ (aI_ (aI_ @ZI @Zx) (aI_ @ZA @Zl)) (aI_ @Acv @Ab7))
def AdL:=Dj 23 Tryz.func17 Ae7 Aff rfl
def Ut:Af := .seq (.seq (.ops [mv_ 36 8,mv_ 37 6,po_ 38 (.lenV (.t 37)),po_ 39 (.bin 3 .lss (.t 36) (.t 38))] [6,7,8,39])
 (.cond (.t 39)
 (.skip)
 (.exit 0)))
 (.seq (.block 1 (.ops [mv_ 42 6,mv_ 43 8,mv_ 44 6,mv_ 45 8,po_ 46 (.idxA 1 (.t 44) (.t 45)),po_ 47 (.load false 1 (.t 46)),po_ 48 (.bin 5 .xor (.t 47) (.c (.int .u8 ((85:Nat):Int)))),po_ 49 (.idxA 1 (.t 42) (.t 43)),⟨none,.s (.store 1 (.t 49) (.t 48)),none⟩] [6,7,8]))
 (.ops [mv_ 40 8,po_ 41 (.bin 3 .add (.t 40) (ci_ 1)),mv_ 8 41] [6,7,8]))
def UH:Af := .block 0 (.loop [6,7,8] Ut)
def UN:Af := .seq (.ops [mv_ 50 7,mv_ 4 50] [4])
 (.ret)
def Uf:Af := .seq (.seq (.ops [po_ 8 (.mov (ci_ 0))] [6,7,8])
 UH)
 UN
def Uw:Af := .seq (.ops [mv_ 20 7,mv_ 21 20,⟨some 22,.p (.mov (.t 6)),some ⟨21,true⟩⟩,⟨some 23,.p (.mov (.t 5)),some ⟨21,true⟩⟩,⟨some 24,.p (.idxA 1 (.t 22) (.t 23)),some ⟨21,true⟩⟩,⟨some 25,.p (.load false 1 (.t 24)),some ⟨21,true⟩⟩,⟨some 26,.p (.bin 5 .eql (.t 25) (.c (.int .u8 ((71:Nat):Int)))),some ⟨21,true⟩⟩,po_ 27 (.pick (.t 21) (.t 26) (.c (.bool false))),mv_ 28 27,⟨some 29,.p (.mov (.t 6)),some ⟨28,true⟩⟩,⟨some 30,.p (.mov (.t 5)),some ⟨28,true⟩⟩,⟨some 31,.p (.bin 3 .add (.t 30) (ci_ 1)),some ⟨28,true⟩⟩,⟨some 32,.p (.idxA 1 (.t 29) (.t 31)),some ⟨28,true⟩⟩,⟨some 33,.p (.load false 1 (.t 32)),some ⟨28,true⟩⟩,⟨some 34,.p (.bin 5 .eql (.t 33) (.c (.int .u8 ((72:Nat):Int)))),some ⟨28,true⟩⟩,po_ 35 (.pick (.t 28) (.t 34) (.c (.bool false))),mv_ 7 35] [6,7])
 Uf
def U8:Af := .seq (.ops [mv_ 15 6,mv_ 16 5,po_ 17 (.slV 1 (.t 15) none (some (.t 16))),mv_ 18 1,so_ 19 (.call 10 [.t 17,.t 18]),mv_ 7 19] [5,6,7])
 Uw
def TS:Af := .seq (.ops [mv_ 11 0,mv_ 12 5,po_ 13 (.bin 3 .add (.t 12) (ci_ 2)),po_ 14 (.slV 1 (.t 11) none (some (.t 13))),mv_ 6 14] [1,5,6])
 U8
def Uh:Af := .seq (.ops [mv_ 9 1,po_ 10 (.lenV (.t 9)),mv_ 5 10] [0,1,5])
 TS
def Aag:Af := .seq (.ops [po_ 4 (.mov (.c (.bool false)))] [0,1])
 Uh
def Aak:List VR:=[.tmp 4]
theorem Aew:Tryz.f19.body.bind (trC Tryz.prog Tryz.f19.ntmps)=some (er Aag):=by kernel_rfl
theorem AeS:trR Tryz.prog Tryz.f19.results.toList=some Aak:=by kernel_rfl
def YY:=Ac Ut.eq_1
def Zt:=Ac UH.eq_1
def Zr:=Ac UN.eq_1
def Y5:=Ac Uf.eq_1
def Y2:=Ac Uw.eq_1
def Zk:=Ac U8.eq_1
def Zn:=Ac TS.eq_1
def Zf:=Ac Uh.eq_1
def Aco:=Ac Aag.eq_1
theorem Ab8 {K:TV→Prop} {e:Env} {H:List Ob}:res Aak e H K=res [.tmp 4] e H K:=Aa rfl
def OD:=(aI_ (aI_ (aI_ (aI_ @YY @Zt) (aI_ @Zr @Y5)) (aI_ (aI_ @Y2 @Zk) (aI_ @Zn @Zf))) (aI_ @Aco @Ab8))
def Ade:=Dj 51 Tryz.func19 Aew AeS rfl
def Wi:Af := .seq (.block 1 (.seq (.draw 4 [mv_ 17 0,mv_ 18 5,po_ 19 (.idxA 1 (.t 17) (.t 18)),po_ 20 (.load false 1 (.t 19)),mv_ 21 1,mv_ 22 5,po_ 23 (.idxA 1 (.t 21) (.t 22)),po_ 24 (.load false 1 (.t 23)),po_ 25 (.bin 5 .neq (.t 20) (.t 24))] [0,1,5,25])
 (.cond (.t 25)
 (.seq (.ops [po_ 4 (.mov (.c (.bool false)))] [4])
  (.ret))
 (.skip))))
 (.ops [mv_ 15 5,po_ 16 (.bin 3 .add (.t 15) (ci_ 1)),mv_ 5 16] [0,1,5])
def VQ:Af := .seq (.seq (.ops [mv_ 11 5,mv_ 12 0,po_ 13 (.lenV (.t 12)),po_ 14 (.bin 3 .lss (.t 11) (.t 13))] [0,1,5,14])
 (.cond (.t 14)
 (.skip)
 (.exit 0)))
 Wi
def VT:Af := .block 0 (.loop [0,1,5] VQ)
def VU:Af := .seq (.ops [po_ 4 (.mov (.c (.bool true)))] [4])
 (.ret)
def VW:Af := .seq (.seq (.ops [po_ 5 (.mov (ci_ 0))] [0,1,5])
 VT)
 VU
def Wp:Af := .seq (.seq (.ops [mv_ 6 0,po_ 7 (.lenV (.t 6)),mv_ 8 1,po_ 9 (.lenV (.t 8)),po_ 10 (.bin 3 .neq (.t 7) (.t 9))] [0,1,10])
 (.cond (.t 10)
 (.seq (.ops [po_ 4 (.mov (.c (.bool false)))] [4])
  (.ret))
 (.skip)))
 VW
def Abu:Af := .seq (.ops [po_ 4 (.mov (.c (.bool false)))] [0,1])
 Wp
def AbN:List VR:=[.tmp 4]
theorem Agf:Tryz.f10.body.bind (trC Tryz.prog Tryz.f10.ntmps)=some (er Abu):=by kernel_rfl
theorem AfM:trR Tryz.prog Tryz.f10.results.toList=some AbN:=by kernel_rfl
def AaT:=Ac Wi.eq_1
def AaV:=Ac VQ.eq_1
def AaG:=Ac VT.eq_1
def AaS:=Ac VU.eq_1
def AaN:=Ac VW.eq_1
def AaC:=Ac Wp.eq_1
def Ac2:=Ac Abu.eq_1
theorem Adu {K:TV→Prop} {e:Env} {H:List Ob}:res AbN e H K=res [.tmp 4] e H K:=Aa rfl
def NF:=(aI_ (aI_ (aI_ @AaT @AaV) (aI_ @AaG @AaS)) (aI_ (aI_ @AaN @AaC) (aI_ @Ac2 @Adu)))
def Afv:=Dj 26 Tryz.func10 Agf AfM rfl
end
section
open Go.RowKit
variable [AP] [CO]
theorem QL.refl {F:Nat→Prop} {w:World} (h:∀ b,F b→b<w.heap.size):QL F w F w:=⟨rfl,rfl,rfl,Nat.le_refl _,fun _ _=>rfl,fun _ h=>h,fun _ _ h=>h,h⟩
theorem QL.alloc {F F':Nat→Prop} {w w':World} (h:QL F w F' w') (o:Obj):QL F w F' (w'.alloc o) :=
 ⟨h.os,h.tape,h.output,by have:=h.size; simp; omega,fun b hb=>(Dx w' o (Nat.lt_of_lt_of_le hb h.size)).trans (h.same b hb),h.keepF,h.oldF,fun b hb=>by have:=h.ltF b hb; simp; omega⟩
abbrev eno (n:Int):TV := .ifc 33 (i64 n)
theorem AlB {n:Int} {id ver:Nat} {p:List (Nat×Nat)} {x x':TV} {H:List Ob} {K:TV→List Ob→Prop} (ho:H[id]?=some (.obj ver x)) (hs2:WV p x (i64 n)=some x') (hk:K (tb true) (H.set id (.obj ver x'))) :
  Am Tryz.prog 36 [eno n,.ifc 78 (.op id ver p)] H K:=by
 intro β F w vs hs hv
 obtain ⟨u,us,rfl,h1,h2⟩:=BA.cons.1 hv
 obtain ⟨u2,us2,rfl,h3,h4⟩:=BA.cons.1 h2
 rw [BA.nil] at h4; subst h4
 -- the two arguments
 have e1:u = .iface 33 (.int .i64 n):=by
  rcases h1 with h | h | ⟨xs0,h,rfl⟩
  ·cases h
  ·cases h
  ·rw [Aj] at h
   obtain ⟨v,rfl,vs,h,rfl⟩:=h
   rw [Aj] at h
   obtain ⟨rfl,_⟩:=h
   rfl
 obtain ⟨b,o,hbo,rfl⟩:∃ b o,β id ver=some (b,o)∧u2 = .iface 78 (.pointer (some ⟨b,o+Fb p,none⟩)):=by
  rcases h3 with h | h | ⟨xs0,h,rfl⟩
  ·cases h
  ·cases h
  ·rw [Aj] at h
   obtain ⟨v,rfl,vs,h,rfl⟩:=h
   rw [Aj] at h
   obtain ⟨_,b,o,hb,rfl⟩:=h
   exact ⟨b,o,hb,rfl⟩
 subst e1
 have hgl:=hs.glob.at CO.k
 have hg:w.cell? ⟨0,0,none⟩=some (.iface 170 (.agg #[.pointer (some ⟨9,25,none⟩)])):=hgl 0 _ rfl
 have hrow:∀ c w,Aj c w (i64 n) [.int .i64 n]:=fun c w=>by rw [Aj]; exact ⟨rfl,rfl⟩
 obtain ⟨_,_,ht⟩:=hs.store ho hbo hs2 (hrow _ _)
 obtain ⟨t1,t2⟩:=ht 0 (by simp)
 obtain ⟨old,hold⟩:=Option.isSome_iff_exists.1 t1
 refine (As4 n ⟨b,o+Fb p,none⟩ old w hg hold t2).mono ?_
 rintro e w' ⟨rfl,rfl⟩
 have hst:=((((QL.refl (F:=F) hs.lt).alloc (.cells #[.pointer (some ⟨b,o+Fb p,none⟩)] 78)).alloc (.cells #[.pointer (some ⟨9,78,none⟩),.pointer (some ⟨w.heap.size,0,none⟩),.int .u64 150] 124)).alloc (.cells #[.pointer (some ⟨9,78,none⟩),.pointer (some ⟨w.heap.size,0,none⟩),.int .u64 150] 124)).alloc (.cells #[.int .i64 n] 33)
 obtain ⟨k1,k2,_⟩:=(hst.sim hs).store ho hbo hs2 (hrow _ _)
 exact ⟨_,tb true,β,_,F,rfl,hk,k1,hst.later.trans k2,Rep.of_val⟩
theorem AxV {n:Int}:BC Tryz.prog 11 [eno n] (fun x=>x=i64 n):=by
 refine Am.toPureV (Abb (by simp) ?_)
 simp -dsimp (disch:=first | assumption | omega) only [↓Ai,Ad,Ag,Ah,eq_self,Nat.reduceEqDiff,↓reduceIte,reduceCtorEq,↓Y7]
 refine AlB (x:=i64 ((0:Nat):Int)) (x':=i64 n) rfl (by rw [Ahp]; rfl) ?_
 simp -dsimp (disch:=first | assumption | omega) only [↓Ai,Ad,Ag,Ah,eq_self,Nat.reduceEqDiff,↓reduceIte,reduceCtorEq,↓Y7]
theorem Auj:BC Tryz.prog 11 [.val .nilIface] (fun x=>x=i64 ((0:Nat):Int)):=by
 refine Am.toPureV (Abb (by simp) ?_)
 simp -dsimp (disch:=first | assumption | omega) only [↓Ai,Ad,Ag,Ah,eq_self,Nat.reduceEqDiff,↓reduceIte,reduceCtorEq,↓Y7]
end
section
open Go.RowKit
variable [AP]
variable {P:Program}
def Agg (P:Program) (f:FuncId) (args:List TV) (R:TV→Prop) (RP:Value→Prop):Prop :=
 ∀ (β:Nat→Nat→Option (Nat×Nat)) (F:Nat→Prop) (w:World) (vs:List Value),((∀ b,F b→b<w.heap.size)∧Jp F w)→BA ⟨β,[],F⟩ w args vs →
  Calls P f vs.toArray w fun e w'=>∃ F',QL F w F' w'∧((∃ v x,e = .returned v∧R x∧Rep ⟨β,[],fun b=>F' b∧w.heap.size≤b⟩ w' x v)∨∃ u,e = .panicked [{ v:=u,recovered:=false }]∧RP u)
theorem Agg.mono {f:FuncId} {args:List TV} {R R':TV→Prop} {RP RP':Value→Prop} (h:Agg P f args R RP) (hr:∀ x,R x→R' x) (hp:∀ u,RP u→RP' u):Agg P f args R' RP' :=
 fun β F w vs hF hv=>(h β F w vs hF hv).mono fun _ _ ⟨F',h1,h2⟩=>⟨F',h1,h2.imp (fun ⟨v,x,k1,k2,k3⟩=>⟨v,x,k1,hr _ k2,k3⟩) fun ⟨u,k1,k2⟩=>⟨u,k1,hp _ k2⟩⟩
def Aun (x x':TV):Prop:=∀ (c:Ctx) (w:World) (v:Value),AiA c w x v→AiA c w x' v
inductive Afd:List TV→List TV→Prop
 | nil:Afd [] []
 | cons {x x':TV} {xs xs':List TV}:Aun x x'→Afd xs xs'→Afd (x::xs) (x'::xs')
theorem Afd.rep {c:Ctx} {w:World} {xs xs':List TV} (h:Afd xs xs'):∀ {vs:List Value},BA c w xs vs→BA c w xs' vs:=by
 induction h with
 | nil=>exact fun h=>h
 | cons h1 h2 ih =>
  intro vs hv
  rw [BA.cons] at hv ⊢
  obtain ⟨u,us,rfl,k1,k2⟩:=hv
  exact ⟨u,us,rfl,h1 _ _ _ k1,ih k2⟩
theorem AgU {k:Nat}:Aun (.val (.slice none 0 0)) (.sl k []):=fun c w v h=>by
 have hv:v = .slice none 0 0:=by
  have h':Rep c w (.val (.slice none 0 0)) v := .inl h
  rw [Rep.val] at h'; exact h'
 subst hv
 refine .inr (.inr ⟨[.slice none 0 0],?_,rfl⟩)
 rw [Aj]
 exact ⟨by simp,.inl ⟨rfl,none,0,rfl,by omega⟩⟩
theorem BC.argL {f:FuncId} {args args':List TV} {R:TV→Prop} (h:BC P f args' R) (hc:Afd args args'):BC P f args R :=
 fun β F w vs hF hv=>h β F w vs hF (hc.rep hv)
theorem Afd.tup {xs xs':List TV} (h:Afd xs xs'):∀ (c:Ctx) (w:World) (v:Value),Rep c w (.tup xs) v→Rep c w (.tup xs') v:=by
 rintro c w v ((h1 | h1 | ⟨us,h1,_⟩) | ⟨ys,vs,h1,h2,h3⟩)
 ·cases h1
 ·cases h1
 ·rw [Aj] at h1; exact h1.elim
 ·cases h1
  exact .inr ⟨xs',vs,rfl,h2,h.rep h3⟩
end
section
variable [AP]
set_option maxRecDepth 100000
def LM:Af := .seq (.seq (.ops [mv_ 5 1,po_ 6 (.lenV (.t 5)),po_ 7 (.bin 3 .eql (.t 6) (ci_ 0))] [0,1,7])
 (.cond (.t 7)
 (.seq (.ops [mv_ 8 0,so_ 9 (.appS 5 (.t 8) (.c (.string (str [48,48,48,48])))),mv_ 4 9] [4])
  (.ret))
 (.skip)))
 (.seq (.ops [mv_ 10 0,mv_ 11 1,po_ 12 (.lenV (.t 11)),po_ 13 (.bin 3 .add (.t 12) (ci_ 4)),so_ 14 (.call 86 [.t 13]),so_ 15 (.appS 5 (.t 10) (.t 14)),mv_ 16 1,so_ 17 (.app 1 1 5 (.t 15) (.t 16)),mv_ 4 17] [4])
 (.ret))
def Qb:Af := .seq (.ops [po_ 4 (.mov (.c (.slice none 0 0)))] [0,1])
 LM
def QC:List VR:=[.tmp 4]
theorem Zh:Tryz.f54.body.bind (trC Tryz.prog Tryz.f54.ntmps)=some (er Qb):=by kernel_rfl
theorem ZH:trR Tryz.prog Tryz.f54.results.toList=some QC:=by kernel_rfl
def TE:=Ac LM.eq_1
def WJ:=Ac Qb.eq_1
theorem WB {K:TV→Prop} {e:Env} {H:List Ob}:res QC e H K=res [.tmp 4] e H K:=Aa rfl
def A7:=(aI_ (aI_ @TE @WJ) @WB)
def N9:=Dj 18 Tryz.func54 Zh ZH rfl
def SB:Af := .seq (.draw 12 [mv_ 3 0,po_ 4 (.bin 3 .shr (.t 3) (.c (.int .u64 ((12:Nat):Int)))),po_ 5 (.bin 3 .and (.t 4) (ci_ 15)),po_ 6 (.idxS (.c (.string (str [48,49,50,51,52,53,54,55,56,57,97,98,99,100,101,102]))) (.t 5)),mv_ 7 0,po_ 8 (.bin 3 .shr (.t 7) (.c (.int .u64 ((8:Nat):Int)))),po_ 9 (.bin 3 .and (.t 8) (ci_ 15)),po_ 10 (.idxS (.c (.string (str [48,49,50,51,52,53,54,55,56,57,97,98,99,100,101,102]))) (.t 9)),mv_ 11 0,po_ 12 (.bin 3 .shr (.t 11) (.c (.int .u64 ((4:Nat):Int)))),po_ 13 (.bin 3 .and (.t 12) (ci_ 15)),po_ 14 (.idxS (.c (.string (str [48,49,50,51,52,53,54,55,56,57,97,98,99,100,101,102]))) (.t 13)),mv_ 15 0,po_ 16 (.bin 3 .and (.t 15) (ci_ 15)),po_ 17 (.idxS (.c (.string (str [48,49,50,51,52,53,54,55,56,57,97,98,99,100,101,102]))) (.t 16)),⟨some 18,.s (.bslice 1 4 (.val (.int .u8 ((0:Nat):Int))) [⟨0,.t 6⟩,⟨1,.t 10⟩,⟨2,.t 14⟩,⟨3,.t 17⟩]),none⟩,po_ 19 (.b2s (.t 18)),mv_ 2 19] [2])
 (.ret)
def YL:Af := .seq (.ops [po_ 2 (.mov (.c (.string (str []))))] [0])
 SB
def XC:List VR:=[.tmp 2]
theorem Aed:Tryz.f86.body.bind (trC Tryz.prog Tryz.f86.ntmps)=some (er YL):=by kernel_rfl
theorem Adx:trR Tryz.prog Tryz.f86.results.toList=some XC:=by kernel_rfl
def Yq:=Ac SB.eq_1
def Abe:=Ac YL.eq_1
theorem AbV {K:TV→Prop} {e:Env} {H:List Ob}:res XC e H K=res [.tmp 2] e H K:=Aa rfl
def Ads:=(aI_ (aI_ @Yq @Abe) @AbV)
def Acl:=Dj 20 Tryz.func86 Aed Adx rfl
def VP:Af := .seq (.seq (.ops [mv_ 23 4,po_ 24 (.eqN 1 (.t 23) (.c .nilIface) true),mv_ 25 24,⟨some 26,.p (.mov (.t 6)),some ⟨25,false⟩⟩,⟨some 27,.p (.conv .i64 (.t 26)),some ⟨25,false⟩⟩,⟨some 28,.s (.call 86 [.t 27]),some ⟨25,false⟩⟩,⟨some 29,.p (.mov (.t 5)),some ⟨25,false⟩⟩,⟨some 30,.p (.bin 9 .neq (.t 28) (.t 29)),some ⟨25,false⟩⟩,po_ 31 (.pick (.t 25) (.c (.bool true)) (.t 30)),mv_ 32 31,⟨some 33,.p (.mov (.t 6)),some ⟨32,false⟩⟩,⟨some 34,.p (.bin 190 .leq (.t 33) (.c (.int .u64 ((4:Nat):Int)))),some ⟨32,false⟩⟩,po_ 35 (.pick (.t 32) (.c (.bool true)) (.t 34)),mv_ 36 35,⟨some 37,.p (.mov (.t 6)),some ⟨36,false⟩⟩,⟨some 38,.p (.bin 190 .gtr (.t 37) (.c (.int .u64 ((1004:Nat):Int)))),some ⟨36,false⟩⟩,po_ 39 (.pick (.t 36) (.c (.bool true)) (.t 38)),mv_ 40 39,⟨some 41,.p (.mov (.t 6)),some ⟨40,false⟩⟩,⟨some 42,.p (.mov (.t 0)),some ⟨40,false⟩⟩,⟨some 43,.p (.lenV (.t 42)),some ⟨40,false⟩⟩,⟨some 44,.p (.conv .u64 (.t 43)),some ⟨40,false⟩⟩,⟨some 45,.p (.bin 190 .gtr (.t 41) (.t 44)),some ⟨40,false⟩⟩,po_ 46 (.pick (.t 40) (.c (.bool true)) (.t 45))] [0,6,46])
 (.cond (.t 46)
 (.seq (.ops [po_ 47 (.iface 33 (ci_ 110)),po_ 2 (.mov (.c (.slice none 0 0))),po_ 3 (.mov (.c (.slice none 0 0))),mv_ 4 47] [2,3,4])
  (.ret))
 (.skip)))
 (.seq (.draw 3 [mv_ 48 0,mv_ 49 6,po_ 50 (.slV 1 (.t 48) (some (ci_ 4)) (some (.t 49))),mv_ 51 0,mv_ 52 6,po_ 53 (.slV 1 (.t 51) (some (.t 52)) none),mv_ 2 50,mv_ 3 53,po_ 4 (.mov (.c .nilIface))] [2,3,4])
 (.ret))
def Ws:Af := .seq (.ops [mv_ 19 5,so_ 20 (.call 103 [.t 19,.c (.int .i64 ((16:Nat):Int)),.c (.int .i64 ((16:Nat):Int))]),mv_ 18 20,po_ 21 (.ext 0 (.t 18)),po_ 22 (.ext 1 (.t 18)),mv_ 6 21,mv_ 4 22] [0,4,5,6])
 VP
def VV:Af := .seq (.seq (.ops [mv_ 14 5,po_ 15 (.bin 9 .eql (.t 14) (.c (.string (str [48,48,48,48]))))] [0,5,15])
 (.cond (.t 15)
 (.seq (.draw 2 [mv_ 16 0,po_ 17 (.slV 1 (.t 16) (some (ci_ 4)) none),po_ 2 (.mov (.c (.slice none 0 0))),mv_ 3 17,po_ 4 (.mov (.c .nilIface))] [2,3,4])
  (.ret))
 (.skip)))
 Ws
def VX:Af := .seq (.ops [mv_ 11 0,po_ 12 (.slV 1 (.t 11) none (some (ci_ 4))),po_ 13 (.b2s (.t 12)),mv_ 5 13] [0,5])
 VV
def VZ:Af := .seq (.seq (.ops [mv_ 7 0,po_ 8 (.lenV (.t 7)),po_ 9 (.bin 3 .lss (.t 8) (ci_ 4))] [0,9])
 (.cond (.t 9)
 (.seq (.ops [po_ 10 (.iface 33 (ci_ 110)),po_ 2 (.mov (.c (.slice none 0 0))),po_ 3 (.mov (.c (.slice none 0 0))),mv_ 4 10] [2,3,4])
  (.ret))
 (.skip)))
 VX
def Abp:Af := .seq (.ops [po_ 2 (.mov (.c (.slice none 0 0))),po_ 3 (.mov (.c (.slice none 0 0))),po_ 4 (.mov (.c .nilIface))] [0])
 VZ
def AbG:List VR:=[.tmp 2,.tmp 3,.tmp 4]
theorem AfV:Tryz.f77.body.bind (trC Tryz.prog Tryz.f77.ntmps)=some (er Abp):=by kernel_rfl
theorem AgD:trR Tryz.prog Tryz.f77.results.toList=some AbG:=by kernel_rfl
def RU:=Ac VP.eq_1
def AaM:=Ac Ws.eq_1
def Td:=Ac VV.eq_1
def SG:=Ac VX.eq_1
def LJ:=Ac VZ.eq_1
def Rt:=Ac Abp.eq_1
theorem Dv {K:TV→Prop} {e:Env} {H:List Ob}:res AbG e H K=res [.tmp 2,.tmp 3,.tmp 4] e H K:=Aa rfl
def AfB:=Dj 54 Tryz.func77 AfV AgD rfl
def Ur:Af := .seq (.seq (.ops [mv_ 17 7,po_ 18 (.eqN 1 (.t 17) (.c .nilIface) true)] [4,5,6,7,18])
 (.cond (.t 18)
 (.seq (.ops [mv_ 19 7,po_ 2 (.mov (.c (.slice none 0 0))),mv_ 3 19] [2,3])
  (.ret))
 (.skip)))
 (.seq (.ops [mv_ 20 4,mv_ 21 5,so_ 22 (.call 81 [.t 21]),⟨some 23,.s (.bslice 1 1 (.val (.slice none 0 0)) [⟨0,.t 22⟩]),none⟩,so_ 24 (.app 1 24 23 (.t 20) (.t 23)),mv_ 4 24] [4,6])
 (.ops [mv_ 25 6,mv_ 0 25] [0,4]))
def TY:Af := .block 1 (.seq (.ops [mv_ 12 0,so_ 13 (.call 77 [.t 12]),mv_ 11 13,po_ 14 (.ext 0 (.t 11)),po_ 15 (.ext 1 (.t 11)),po_ 16 (.ext 2 (.t 11)),mv_ 5 14,mv_ 6 15,mv_ 7 16] [4,5,6,7])
 Ur)
def UO:Af := .seq (.seq (.ops [mv_ 8 0,po_ 9 (.lenV (.t 8)),po_ 10 (.bin 3 .gtr (.t 9) (ci_ 0))] [0,4,10])
 (.cond (.t 10)
 (.skip)
 (.exit 0)))
 TY
def Uo:Af := .seq (.ops [mv_ 26 4,mv_ 2 26,po_ 3 (.mov (.c .nilIface))] [2,3])
 (.ret)
def TR:Af := .seq (.block 0 (.own 4 1 (.loop [0,4] UO)))
 Uo
def UL:Af := .seq (.ops [po_ 4 (.mov (.c (.slice none 0 0)))] [0,4])
 TR
def Aar:Af := .seq (.ops [po_ 2 (.mov (.c (.slice none 0 0))),po_ 3 (.mov (.c .nilIface))] [0])
 UL
def Aao:List VR:=[.tmp 2,.tmp 3]
theorem Aer:Tryz.f94.body.bind (trC Tryz.prog Tryz.f94.ntmps)=some (er Aar):=by kernel_rfl
theorem Ae4:trR Tryz.prog Tryz.f94.results.toList=some Aao:=by kernel_rfl
def PU:=Ac Ur.eq_1
def YZ:=Ac TY.eq_1
def PR:=Ac UO.eq_1
def Y3:=Ac Uo.eq_1
def Zp:=Ac TR.eq_1
def ZO:=Ac UL.eq_1
def Acf:=Ac Aar.eq_1
theorem Wq {K:TV→Prop} {e:Env} {H:List Ob}:res Aao e H K=res [.tmp 2,.tmp 3] e H K:=Aa rfl
def AdW:=Dj 27 Tryz.func94 Aer Ae4 rfl
def UM:Af := .seq (.block 1 (.seq (.ops [po_ 21 (.idxA 1 (.t 17) (.t 19)),po_ 22 (.load false 1 (.t 21)),mv_ 8 22] [6,8,17,18,19])
 (.ops [mv_ 23 6,mv_ 24 8,po_ 25 (.b2s (.t 24)),so_ 26 (.call 79 [.t 25,.c (.string (str [10]))]),so_ 27 (.call 78 [.t 26,.c (.string (str [32]))]),⟨some 28,.s (.bslice 1 1 (.val (.slice none 0 0)) [⟨0,.t 27⟩]),none⟩,so_ 29 (.app 1 24 111 (.t 23) (.t 28)),mv_ 6 29] [6,17,18,19])))
 (.ops [po_ 30 (.bin 3 .add (.t 19) (ci_ 1)),mv_ 19 30] [6,17,18,19])
def Uj:Af := .seq (.cond (.t 20)
 (.skip)
 (.exit 0))
 UM
def Ua:Af := .seq (.ops [po_ 20 (.bin 3 .lss (.t 19) (.t 18))] [6,17,18,19,20])
 Uj
def U0:Af := .block 0 (.own 6 1 (.loop [6,17,18,19] Ua))
def UV:Af := .seq (.ops [mv_ 31 6,mv_ 2 31,po_ 3 (.mov (.c .nilIface))] [2,3])
 (.ret)
def UA:Af := .seq (.seq (.ops [mv_ 17 4,po_ 18 (.lenV (.t 17)),po_ 19 (.mov (ci_ 0))] [6,17,18,19])
 U0)
 UV
def UC:Af := .seq (.ops [po_ 6 (.mov (.c (.slice none 0 0)))] [4,6])
 UA
def Ui:Af := .seq (.seq (.ops [mv_ 14 5,po_ 15 (.eqN 1 (.t 14) (.c .nilIface) true)] [4,5,15])
 (.cond (.t 15)
 (.seq (.ops [mv_ 16 5,po_ 2 (.mov (.c (.slice none 0 0))),mv_ 3 16] [2,3])
  (.ret))
 (.skip)))
 UC
def TL:Af := .seq (.ops [mv_ 10 0,so_ 11 (.call 94 [.t 10]),mv_ 9 11,po_ 12 (.ext 0 (.t 9)),po_ 13 (.ext 1 (.t 9)),mv_ 4 12,mv_ 5 13] [4,5])
 Ui
def Aad:Af := .seq (.ops [po_ 2 (.mov (.c (.slice none 0 0))),po_ 3 (.mov (.c .nilIface))] [0])
 TL
def Aai:List VR:=[.tmp 2,.tmp 3]
theorem Afq:Tryz.f64.body.bind (trC Tryz.prog Tryz.f64.ntmps)=some (er Aad):=by kernel_rfl
theorem Ae1:trR Tryz.prog Tryz.f64.results.toList=some Aai:=by kernel_rfl
def P9:=Ac UM.eq_1
def JF:=Ac Uj.eq_1
def Jz:=Ac Ua.eq_1
def Y8:=Ac U0.eq_1
def Zd:=Ac UV.eq_1
def Zu:=Ac UA.eq_1
def Y4:=Ac UC.eq_1
def Qn:=Ac Ui.eq_1
def ZL:=Ac TL.eq_1
def Ab3:=Ac Aad.eq_1
theorem V7 {K:TV→Prop} {e:Env} {H:List Ob}:res Aai e H K=res [.tmp 2,.tmp 3] e H K:=Aa rfl
def Ado:=Dj 32 Tryz.func64 Afq Ae1 rfl
def Aaj:Af := .seq (.ops [po_ 6 (.mov (.c .nilIface))] [0,1,2])
 (.seq (.seq (.ops [mv_ 7 2,po_ 8 (.eqN 1 (.t 7) (.c .nilIface) true),mv_ 9 8,⟨some 10,.p (.mov (.t 0)),some ⟨9,false⟩⟩,⟨some 11,.p (.mov (.t 1)),some ⟨9,false⟩⟩,⟨some 12,.s (.call 96 [.t 10,.t 11]),some ⟨9,false⟩⟩,⟨some 13,.p (.un .not (.t 12)),some ⟨9,false⟩⟩,po_ 14 (.pick (.t 9) (.c (.bool true)) (.t 13))] [14])
 (.cond (.t 14)
 (.seq (.ops [po_ 15 (.iface 33 (ci_ 111)),mv_ 6 15] [6])
  (.ret))
 (.skip)))
 (.seq (.ops [po_ 6 (.mov (.c .nilIface))] [6])
 (.ret)))
def Z4:List VR:=[.tmp 6]
theorem AeN:Tryz.f66.body.bind (trC Tryz.prog Tryz.f66.ntmps)=some (er Aaj):=by kernel_rfl
theorem Aem:trR Tryz.prog Tryz.f66.results.toList=some Z4:=by kernel_rfl
def V3:=Ac Aaj.eq_1
theorem O7 {K:TV→Prop} {e:Env} {H:List Ob}:res Z4 e H K=res [.tmp 6] e H K:=Aa rfl
def YC:=Dj 16 Tryz.func66 AeN Aem rfl
def Sv:Af := .ops [mv_ 4 0,mv_ 5 0,po_ 6 (.nilc (.t 5)),po_ 7 (.fieldA 1 1 (.t 6)),po_ 8 (.load false 1 (.t 7)),mv_ 9 8,⟨some 10,.p (.mov (.t 1)),some ⟨9,false⟩⟩,⟨some 11,.p (.un .not (.t 10)),some ⟨9,false⟩⟩,po_ 12 (.pick (.t 9) (.c (.bool true)) (.t 11)),po_ 13 (.nilc (.t 4)),po_ 14 (.fieldA 1 1 (.t 13)),⟨none,.s (.store 1 (.t 14) (.t 12)),none⟩] []
def Ti:List VR:=[]
theorem AaK:Tryz.f27.body.bind (trC Tryz.prog Tryz.f27.ntmps)=some (er Sv):=by kernel_rfl
theorem Aau:trR Tryz.prog Tryz.f27.results.toList=some Ti:=by kernel_rfl
def Yc:=Ac Sv.eq_1
theorem XY {K:TV→Prop} {e:Env} {H:List Ob}:res Ti e H K=res [] e H K:=Aa rfl
def RF:=(aI_ @Yc @XY)
def ZK:=Dj 15 Tryz.func27 AaK Aau rfl
def TM:Af := .sdraw 5 [mv_ 4 0,mv_ 5 0,po_ 6 (.nilc (.t 5)),po_ 7 (.fieldA 0 0 (.t 6)),po_ 8 (.load false 1 (.t 7)),mv_ 9 1,so_ 10 (.call 55 [.t 9,.c (.string (str [32]))]),po_ 11 (.bin 9 .add (.t 10) (.c (.string (str [10])))),so_ 12 (.s2b (.t 11)),so_ 13 (.call 54 [.t 8,.t 12]),po_ 14 (.nilc (.t 4)),po_ 15 (.fieldA 0 0 (.t 14)),⟨none,.s (.store 1 (.t 15) (.t 13)),none⟩] []
def UI:List VR:=[]
theorem Aa2:Tryz.f29.body.bind (trC Tryz.prog Tryz.f29.ntmps)=some (er TM):=by kernel_rfl
theorem AbF:trR Tryz.prog Tryz.f29.results.toList=some UI:=by kernel_rfl
def Za:=Ac TM.eq_1
theorem ZP {K:TV→Prop} {e:Env} {H:List Ob}:res UI e H K=res [] e H K:=Aa rfl
def AbT:=(aI_ @Za @ZP)
def Aaz:=Dj 16 Tryz.func29 Aa2 AbF rfl
def Pm:Af := .ops [mv_ 2 0,mv_ 3 0,po_ 4 (.nilc (.t 3)),po_ 5 (.fieldA 0 0 (.t 4)),po_ 6 (.load false 1 (.t 5)),so_ 7 (.appS 5 (.t 6) (.c (.string (str [48,48,48,48])))),po_ 8 (.nilc (.t 2)),po_ 9 (.fieldA 0 0 (.t 8)),⟨none,.s (.store 1 (.t 9) (.t 7)),none⟩] []
def PG:List VR:=[]
theorem Zb:Tryz.f31.body.bind (trC Tryz.prog Tryz.f31.ntmps)=some (er Pm):=by kernel_rfl
theorem Zo:trR Tryz.prog Tryz.f31.results.toList=some PG:=by kernel_rfl
def Xp:=Ac Pm.eq_1
theorem WT {K:TV→Prop} {e:Env} {H:List Ob}:res PG e H K=res [] e H K:=Aa rfl
def Qh:=(aI_ @Xp @WT)
def Ym:=Dj 10 Tryz.func31 Zb Zo rfl
def Nz:Af := .seq (.seq (.ops [mv_ 4 0,po_ 5 (.nilc (.t 4)),po_ 6 (.fieldA 1 1 (.t 5)),po_ 7 (.load false 1 (.t 6))] [0,7])
 (.cond (.t 7)
 (.seq (.ops [po_ 8 (.iface 33 (ci_ 111)),po_ 2 (.mov (.c (.slice none 0 0))),mv_ 3 8] [2,3])
  (.ret))
 (.skip)))
 (.seq (.ops [mv_ 9 0,po_ 10 (.nilc (.t 9)),po_ 11 (.fieldA 0 0 (.t 10)),po_ 12 (.load false 1 (.t 11)),mv_ 2 12,po_ 3 (.mov (.c .nilIface))] [2,3])
 (.ret))
def RS:Af := .seq (.ops [po_ 2 (.mov (.c (.slice none 0 0))),po_ 3 (.mov (.c .nilIface))] [0])
 Nz
def SY:List VR:=[.tmp 2,.tmp 3]
theorem AaU:Tryz.f32.body.bind (trC Tryz.prog Tryz.f32.ntmps)=some (er RS):=by kernel_rfl
theorem AaA:trR Tryz.prog Tryz.f32.results.toList=some SY:=by kernel_rfl
def U1:=Ac Nz.eq_1
def Yg:=Ac RS.eq_1
theorem XG {K:TV→Prop} {e:Env} {H:List Ob}:res SY e H K=res [.tmp 2,.tmp 3] e H K:=Aa rfl
def SV:=(aI_ (aI_ @U1 @Yg) @XG)
def ZM:=Dj 13 Tryz.func32 AaU AaA rfl
def QD:Af := .seq (.draw 12 [mv_ 3 0,po_ 4 (.bin 3 .quo (.t 3) (ci_ 4096)),po_ 5 (.bin 3 .rem (.t 4) (ci_ 16)),po_ 6 (.idxS (.c (.string (str [48,49,50,51,52,53,54,55,56,57,97,98,99,100,101,102]))) (.t 5)),mv_ 7 0,po_ 8 (.bin 3 .quo (.t 7) (ci_ 256)),po_ 9 (.bin 3 .rem (.t 8) (ci_ 16)),po_ 10 (.idxS (.c (.string (str [48,49,50,51,52,53,54,55,56,57,97,98,99,100,101,102]))) (.t 9)),mv_ 11 0,po_ 12 (.bin 3 .quo (.t 11) (ci_ 16)),po_ 13 (.bin 3 .rem (.t 12) (ci_ 16)),po_ 14 (.idxS (.c (.string (str [48,49,50,51,52,53,54,55,56,57,97,98,99,100,101,102]))) (.t 13)),mv_ 15 0,po_ 16 (.bin 3 .rem (.t 15) (ci_ 16)),po_ 17 (.idxS (.c (.string (str [48,49,50,51,52,53,54,55,56,57,97,98,99,100,101,102]))) (.t 16)),⟨some 18,.s (.bslice 1 4 (.val (.int .u8 ((0:Nat):Int))) [⟨0,.t 6⟩,⟨1,.t 10⟩,⟨2,.t 14⟩,⟨3,.t 17⟩]),none⟩,po_ 19 (.b2s (.t 18)),mv_ 2 19] [2])
 (.ret)
def Wu:Af := .seq (.ops [po_ 2 (.mov (.c (.string (str []))))] [0])
 QD
def Wh:List VR:=[.tmp 2]
theorem Ace:Tryz.f90.body.bind (trC Tryz.prog Tryz.f90.ntmps)=some (er Wu):=by kernel_rfl
theorem Acb:trR Tryz.prog Tryz.f90.results.toList=some Wh:=by kernel_rfl
def Xh:=Ac QD.eq_1
def AaH:=Ac Wu.eq_1
theorem Aav {K:TV→Prop} {e:Env} {H:List Ob}:res Wh e H K=res [.tmp 2] e H K:=Aa rfl
def Ab5:=(aI_ (aI_ @Xh @AaH) @Aav)
def Abn:=Dj 20 Tryz.func90 Ace Acb rfl
def Uu:Af := .seq (.seq (.ops [mv_ 3 0,po_ 4 (.lenV (.t 3)),po_ 5 (.bin 3 .eql (.t 4) (ci_ 0))] [0,5])
 (.cond (.t 5)
 (.seq (.ops [⟨some 6,.s (.bslice 1 4 (.val (.int .u8 ((0:Nat):Int))) [⟨0,.c (.int .u8 ((48:Nat):Int))⟩,⟨1,.c (.int .u8 ((48:Nat):Int))⟩,⟨2,.c (.int .u8 ((48:Nat):Int))⟩,⟨3,.c (.int .u8 ((48:Nat):Int))⟩]),none⟩,so_ 7 (.cvS (.t 6)),mv_ 2 7] [2])
  (.ret))
 (.skip)))
 (.seq (.ops [mv_ 8 0,po_ 9 (.lenV (.t 8)),po_ 10 (.bin 3 .add (.t 9) (ci_ 4)),so_ 11 (.call 90 [.t 10]),so_ 12 (.s2b (.t 11)),mv_ 13 0,so_ 14 (.app 1 1 5 (.t 12) (.t 13)),mv_ 2 14] [2])
 (.ret))
def Z8:Af := .seq (.ops [po_ 2 (.mov (.c (.slice none 0 0)))] [0])
 Uu
def Aal:List VR:=[.tmp 2]
theorem Aeq:Tryz.f58.body.bind (trC Tryz.prog Tryz.f58.ntmps)=some (er Z8):=by kernel_rfl
theorem Aeo:trR Tryz.prog Tryz.f58.results.toList=some Aal:=by kernel_rfl
def Qg:=Ac Uu.eq_1
def Wl:=Ac Z8.eq_1
theorem VS {K:TV→Prop} {e:Env} {H:List Ob}:res Aal e H K=res [.tmp 2] e H K:=Aa rfl
def Adt:=Dj 15 Tryz.func58 Aeq Aeo rfl
def TK:Af := .seq (.seq (.ops [mv_ 25 0,po_ 26 (.lenV (.t 25)),mv_ 27 5,po_ 28 (.bin 3 .add (ci_ 4) (.t 27)),po_ 29 (.bin 3 .lss (.t 26) (.t 28))] [0,5,29])
 (.cond (.t 29)
 (.seq (.ops [mv_ 30 0,po_ 2 (.mov (.c (.slice none 0 0))),mv_ 3 30,po_ 4 (.mov (.c (.bool false)))] [2,3,4])
  (.ret))
 (.skip)))
 (.seq (.draw 5 [mv_ 31 0,mv_ 32 5,po_ 33 (.bin 3 .add (ci_ 4) (.t 32)),po_ 34 (.slV 1 (.t 31) (some (ci_ 4)) (some (.t 33))),mv_ 35 0,mv_ 36 5,po_ 37 (.bin 3 .add (ci_ 4) (.t 36)),po_ 38 (.slV 1 (.t 35) (some (.t 37)) none),mv_ 2 34,mv_ 3 38,po_ 4 (.mov (.c (.bool true)))] [2,3,4])
 (.ret))
def UD:Af := .cond (.t 24)
 TK
 (.skip)
def NH:Af := .seq (.ops [mv_ 20 0,po_ 21 (.slV 1 (.t 20) none (some (ci_ 4))),po_ 22 (.b2s (.t 21)),mv_ 23 6,po_ 24 (.bin 9 .eql (.t 22) (.t 23))] [0,5,24])
 UD
def Uk:Af := .seq (.seq (.ops [mv_ 18 5,po_ 19 (.bin 3 .eql (.t 18) (ci_ 0))] [0,5,6,19])
 (.cond (.t 19)
 (.ops [po_ 6 (.mov (.c (.string (str [48,48,48,48]))))] [0,5,6])
 (.skip)))
 NH
def Ux:Af := .seq (.block 1 (.seq (.ops [mv_ 15 5,po_ 16 (.bin 3 .add (.t 15) (ci_ 4)),so_ 17 (.call 90 [.t 16]),mv_ 6 17] [0,5,6])
 Uk))
 (.ops [mv_ 13 5,po_ 14 (.bin 3 .add (.t 13) (ci_ 1)),mv_ 5 14] [0,5])
def TN:Af := .seq (.seq (.ops [mv_ 11 5,po_ 12 (.bin 3 .leq (.t 11) (ci_ 1000))] [0,5,12])
 (.cond (.t 12)
 (.skip)
 (.exit 0)))
 Ux
def Va:Af := .block 0 (.loop [0,5] TN)
def Uz:Af := .seq (.ops [mv_ 39 0,po_ 2 (.mov (.c (.slice none 0 0))),mv_ 3 39,po_ 4 (.mov (.c (.bool false)))] [2,3,4])
 (.ret)
def TP:Af := .seq (.seq (.ops [po_ 5 (.mov (ci_ 0))] [0,5])
 Va)
 Uz
def Sz:Af := .seq (.seq (.ops [mv_ 7 0,po_ 8 (.lenV (.t 7)),po_ 9 (.bin 3 .lss (.t 8) (ci_ 4))] [0,9])
 (.cond (.t 9)
 (.seq (.ops [mv_ 10 0,po_ 2 (.mov (.c (.slice none 0 0))),mv_ 3 10,po_ 4 (.mov (.c (.bool false)))] [2,3,4])
  (.ret))
 (.skip)))
 TP
def Aah:Af := .seq (.ops [po_ 2 (.mov (.c (.slice none 0 0))),po_ 3 (.mov (.c (.slice none 0 0))),po_ 4 (.mov (.c (.bool false)))] [0])
 Sz
def ZV:List VR:=[.tmp 2,.tmp 3,.tmp 4]
theorem Ael:Tryz.f82.body.bind (trC Tryz.prog Tryz.f82.ntmps)=some (er Aah):=by kernel_rfl
theorem Ae0:trR Tryz.prog Tryz.f82.results.toList=some ZV:=by kernel_rfl
def PE:=Ac TK.eq_1
def JL:=Ac UD.eq_1
def JR:=Ac NH.eq_1
def Qe:=Ac Uk.eq_1
def Qq:=Ac Ux.eq_1
def JO:=Ac TN.eq_1
def Y1:=Ac Va.eq_1
def Zj:=Ac Uz.eq_1
def ZE:=Ac TP.eq_1
def Ox:=Ac Sz.eq_1
def V8:=Ac Aah.eq_1
theorem EW {K:TV→Prop} {e:Env} {H:List Ob}:res ZV e H K=res [.tmp 2,.tmp 3,.tmp 4] e H K:=Aa rfl
def AdC:=Dj 40 Tryz.func82 Ael Ae0 rfl
def Sm:Af := .block 1 (.seq (.ops [mv_ 12 0,so_ 13 (.call 82 [.t 12]),mv_ 11 13,po_ 14 (.ext 0 (.t 11)),po_ 15 (.ext 1 (.t 11)),po_ 16 (.ext 2 (.t 11)),mv_ 5 14,mv_ 6 15,mv_ 7 16] [4,5,6,7])
 (.seq (.seq (.ops [mv_ 17 7,po_ 18 (.un .not (.t 17))] [4,5,6,18])
 (.cond (.t 18)
 (.seq (.ops [po_ 2 (.mov (.c (.slice none 0 0))),po_ 3 (.mov (.c (.bool false)))] [2,3])
  (.ret))
 (.skip)))
 (.seq (.ops [mv_ 19 4,mv_ 20 5,⟨some 21,.s (.bslice 1 1 (.val (.slice none 0 0)) [⟨0,.t 20⟩]),none⟩,so_ 22 (.app 1 24 23 (.t 19) (.t 21)),mv_ 4 22] [4,6])
 (.ops [mv_ 23 6,mv_ 0 23] [0,4]))))
def RN:Af := .seq (.seq (.ops [mv_ 8 0,po_ 9 (.lenV (.t 8)),po_ 10 (.bin 3 .gtr (.t 9) (ci_ 0))] [0,4,10])
 (.cond (.t 10)
 (.skip)
 (.exit 0)))
 Sm
def SH:Af := .seq (.ops [mv_ 24 4,mv_ 2 24,po_ 3 (.mov (.c (.bool true)))] [2,3])
 (.ret)
def SN:Af := .seq (.block 0 (.own 4 1 (.loop [0,4] RN)))
 SH
def Si:Af := .seq (.ops [po_ 4 (.mov (.c (.slice none 0 0)))] [0,4])
 SN
def YJ:Af := .seq (.ops [po_ 2 (.mov (.c (.slice none 0 0))),po_ 3 (.mov (.c (.bool false)))] [0])
 Si
def XJ:List VR:=[.tmp 2,.tmp 3]
theorem Aea:Tryz.f67.body.bind (trC Tryz.prog Tryz.f67.ntmps)=some (er YJ):=by kernel_rfl
theorem AdA:trR Tryz.prog Tryz.f67.results.toList=some XJ:=by kernel_rfl
def X7:=Ac Sm.eq_1
def Oj:=Ac RN.eq_1
def XX:=Ac SH.eq_1
def Yw:=Ac SN.eq_1
def YA:=Ac Si.eq_1
def Abt:=Ac YJ.eq_1
theorem UZ {K:TV→Prop} {e:Env} {H:List Ob}:res XJ e H K=res [.tmp 2,.tmp 3] e H K:=Aa rfl
def Acu:=Dj 25 Tryz.func67 Aea AdA rfl
def Aam:Af := .seq (.ops [po_ 2 (.mov (.c (.slice none 0 0)))] [0])
 (.seq (.ops [mv_ 3 0,po_ 4 (.bin 9 .add (.t 3) (.c (.string (str [10])))),so_ 5 (.s2b (.t 4)),so_ 6 (.call 58 [.t 5]),mv_ 2 6] [2])
 (.ret))
def Aab:List VR:=[.tmp 2]
theorem AeI:Tryz.f34.body.bind (trC Tryz.prog Tryz.f34.ntmps)=some (er Aam):=by kernel_rfl
theorem AeW:trR Tryz.prog Tryz.f34.results.toList=some Aab:=by kernel_rfl
def Aci:=Ac Aam.eq_1
theorem Ab0 {K:TV→Prop} {e:Env} {H:List Ob}:res Aab e H K=res [.tmp 2] e H K:=Aa rfl
def Aeh:=Dj 7 Tryz.func34 AeI AeW rfl
def Tq:Af := .seq (.seq (.ops [mv_ 24 0,mv_ 25 5,po_ 26 (.idxA 1 (.t 24) (.t 25)),po_ 27 (.load false 1 (.t 26)),po_ 28 (.bin 5 .eql (.t 27) (.c (.int .u8 ((32:Nat):Int))))] [0,3,4,5,28])
 (.cond (.t 28)
 (.seq (.ops [mv_ 29 3,mv_ 30 4,⟨some 31,.s (.bslice 1 1 (.val (.string (str []))) [⟨0,.t 30⟩]),none⟩,so_ 32 (.app 1 16 9 (.t 29) (.t 31)),mv_ 3 32] [0,3,5])
  (.seq (.ops [po_ 4 (.mov (.c (.string (str []))))] [0,3,4,5])
  (.exit 1)))
 (.skip)))
 (.ops [mv_ 33 4,mv_ 34 0,mv_ 35 5,po_ 36 (.idxA 1 (.t 34) (.t 35)),po_ 37 (.load false 1 (.t 36)),⟨some 38,.s (.bslice 1 1 (.val (.int .u8 ((0:Nat):Int))) [⟨0,.t 37⟩]),none⟩,po_ 39 (.b2s (.t 38)),po_ 40 (.bin 9 .add (.t 33) (.t 39)),mv_ 4 40] [0,3,4,5])
def S9:Af := .seq (.block 1 (.seq (.seq (.ops [mv_ 12 0,mv_ 13 5,po_ 14 (.idxA 1 (.t 12) (.t 13)),po_ 15 (.load false 1 (.t 14)),po_ 16 (.bin 5 .eql (.t 15) (.c (.int .u8 ((10:Nat):Int)))),mv_ 17 16,⟨some 18,.p (.mov (.t 5)),some ⟨17,true⟩⟩,⟨some 19,.p (.bin 3 .add (.t 18) (ci_ 1)),some ⟨17,true⟩⟩,⟨some 20,.p (.mov (.t 0)),some ⟨17,true⟩⟩,⟨some 21,.p (.lenV (.t 20)),some ⟨17,true⟩⟩,⟨some 22,.p (.bin 3 .eql (.t 19) (.t 21)),some ⟨17,true⟩⟩,po_ 23 (.pick (.t 17) (.t 22) (.c (.bool false)))] [0,3,4,5,23])
 (.cond (.t 23)
 (.exit 0)
 (.skip)))
 Tq))
 (.ops [mv_ 10 5,po_ 11 (.bin 3 .add (.t 10) (ci_ 1)),mv_ 5 11] [0,3,4,5])
def Sj:Af := .seq (.seq (.ops [mv_ 6 5,mv_ 7 0,po_ 8 (.lenV (.t 7)),po_ 9 (.bin 3 .lss (.t 6) (.t 8))] [0,3,4,5,9])
 (.cond (.t 9)
 (.skip)
 (.exit 0)))
 S9
def RZ:Af := .block 0 (.own 3 1 (.loop [0,3,4,5] Sj))
def RH:Af := .seq (.ops [mv_ 41 3,mv_ 42 4,⟨some 43,.s (.bslice 1 1 (.val (.string (str []))) [⟨0,.t 42⟩]),none⟩,so_ 44 (.app 1 16 9 (.t 41) (.t 43)),mv_ 2 44] [2])
 (.ret)
def SX:Af := .seq (.seq (.ops [po_ 5 (.mov (ci_ 0))] [0,3,4,5])
 RZ)
 RH
def SQ:Af := .seq (.ops [po_ 4 (.mov (.c (.string (str []))))] [0,3,4])
 SX
def Tj:Af := .seq (.ops [po_ 3 (.mov (.c (.slice none 0 0)))] [0,3])
 SQ
def XD:Af := .seq (.ops [po_ 2 (.mov (.c (.slice none 0 0)))] [0])
 Tj
def Xw:List VR:=[.tmp 2]
theorem Adg:Tryz.f68.body.bind (trC Tryz.prog Tryz.f68.ntmps)=some (er XD):=by kernel_rfl
theorem Ad1:trR Tryz.prog Tryz.f68.results.toList=some Xw:=by kernel_rfl
def Ic:=Ac Tq.eq_1
def E5:=Ac S9.eq_1
def Dz:=Ac Sj.eq_1
def XZ:=Ac RZ.eq_1
def Oe:=Ac RH.eq_1
def YE:=Ac SX.eq_1
def Yo:=Ac SQ.eq_1
def Ya:=Ac Tj.eq_1
def Abj:=Ac XD.eq_1
theorem Ub {K:TV→Prop} {e:Env} {H:List Ob}:res Xw e H K=res [.tmp 2] e H K:=Aa rfl
def Acs:=Dj 45 Tryz.func68 Adg Ad1 rfl
end
section
open Go.RowKit
variable [AP]
abbrev UY:TV := .val (.slice none 0 0)
theorem AxR {n:Nat}:List.take 4 ((((((List.replicate 4 (TV.val (.int .u8 ((0:Nat):Int)))).set 0 (by8 (dig (n / 4096 % 16)))).set 1 (by8 (dig (n / 256 % 16)))).set 2 (by8 (dig (n / 16 % 16)))).set 3 (by8 (dig (n % 16)))))=(YU n).map by8:=by simp [YU]
theorem XP (n:Nat) (hn:n≤5000000):BC Tryz.prog 86 [i64 (n:Int)] (fun x=>x = .val (.string (str (YU n)))):=by
 refine Am.toPureV (Acl (by simp) ?_)
 have a1:=KC (n / 4096 % 16) (by omega)
 have a2:=KC (n / 256 % 16) (by omega)
 have a3:=KC (n / 16 % 16) (by omega)
 have a4:=KC (n % 16) (by omega)
 simp -dsimp (disch:=first | assumption | omega) only [↓Ai,Ad,Ag,Ah,eq_self,Nat.reduceEqDiff,Nat.reducePow,↓reduceIte,reduceCtorEq,Nat.reduceLeDiff,↓Ads,AoP,←Ai6,Axq,a1,a2,a3,a4,AxR]
theorem Ad0 (n:Nat) (hn:n≤65535):BC Tryz.prog 90 [i64 (n:Int)] (fun x=>x = .val (.string (str (YU n)))):=by
 refine Am.toPureV (Abn (by simp) ?_)
 have a1:=KC (n / 4096 % 16) (by omega)
 have a2:=KC (n / 256 % 16) (by omega)
 have a3:=KC (n / 16 % 16) (by omega)
 have a4:=KC (n % 16) (by omega)
 simp -dsimp (disch:=first | assumption | omega) only [↓Ai,Ad,Ag,Ah,eq_self,Nat.reduceEqDiff,↓reduceIte,reduceCtorEq,Nat.reduceLeDiff,↓Ab5,AoP,←Ai6,a1,a2,a3,a4,AxR]
def MO (x:List UInt8):TV:=if x=[] then UY else slB x
def AtV (b:List UInt8) (r:TV):Prop:=(∀ x s,x.length≤1000→BG x++s=b→r = .tup [MO x,slB s,.val .nilIface])∧((∀ x s,x.length≤1000→BG x++s≠b)→r = .tup [UY,UY,eno 110])
variable [Au] [Az]
theorem Axc (b:List UInt8) (hb:b.length≤1000000):BC Tryz.prog 77 [slB b] (AtV b):=by
 refine Am.toPureV (AfB (by simp) ?_)
 have no:(∀ x s,x.length≤1000→BG x++s≠b)→AtV b (.tup [UY,UY,eno 110]):=fun h=>⟨fun x s hx e=>absurd e (h x s hx),fun _=>rfl⟩
 by_cases h4:4≤b.length
 case neg =>
  simp -dsimp (disch:=first | assumption | omega | (simp only [Ae];try omega)) only [↓Ai,Ad,Ag,Ah,eq_self,Nat.reduceEqDiff,↓reduceIte,reduceCtorEq,↓Rt,↓LJ,↓Dv]
  exact no fun x s hx e=>by have:=(CW e).2.2; omega
 have ht4:((b.map by8).take 4).length=4:=by simp; omega
 have htl:(b.take 4).length=4:=by simp; omega
 by_cases hz:b.take 4=Rj
 ·have hz':(b.take 4=[48,48,48,48])=True:=eq_true hz
  simp -dsimp (disch:=first | assumption | omega | (simp only [Ae];try omega)) only [↓Ai,Ad,Ag,Ah,eq_self,Nat.reduceEqDiff,↓reduceIte,reduceCtorEq,hz',↓Rt,↓LJ,↓SG,↓Td,↓Dv]
  refine ⟨fun x s hx e => ?_,fun h=>absurd (AeA hz) (h [] _ (by simp))⟩
  obtain ⟨rfl,rfl⟩:=YH hx (by simp) (e.trans (AeA hz).symm)
  rfl
 have hz':¬ b.take 4=[48,48,48,48]:=hz
 have hne:∀ x s,x.length≤1000→BG x++s=b→b.take 4=YU (x.length+4):=fun x s hx e=>by
  have h:=(CW e).1
  unfold Aay at h
  split at h
  ·exact absurd h hz
  ·exact h
 simp -dsimp (disch:=first | assumption | omega | (simp only [Ae];try omega)) only [↓Ai,Ad,Ag,Ah,eq_self,Nat.reduceEqDiff,↓reduceIte,reduceCtorEq,hz',↓Rt,↓LJ,↓SG,↓Td,↓AaM]
 refine (AfW (b.take 4) (by omega)).calls rfl fun r hr => ?_
 cases hp:pX (b.take 4) with
 | none =>
  obtain ⟨m,_,rfl⟩:=hr.2 hp
  clear hr
  simp -dsimp (disch:=first | assumption | omega | (simp only [Ae];try omega)) only [↓Ai,Ad,Ag,Ah,eq_self,Nat.reduceEqDiff,↓reduceIte,reduceCtorEq,↓RU,↓Dv]
  exact no fun x s hx e=>by rw [hne x s hx e,Akk (by omega)] at hp; cases hp
 | some n =>
  rw [hr.1 n hp]
  clear hr
  have hn:n<65536:=by
   unfold pX at hp
   split at hp
   ·rename_i h; rw [←Option.some.inj hp]; exact h.2.2
   ·cases hp
  have key:∀ x s,x.length≤1000→BG x++s=b→n=x.length+4:=fun x s hx e=>by
   rw [hne x s hx e,Akk (by omega)] at hp
   exact (Option.some.inj hp).symm
  have hx0:∀ x s,x.length≤1000→BG x++s=b→x≠[]:=fun x s hx e h0=>by
   subst h0
   exact hz (CW e).1
  simp -dsimp (disch:=first | assumption | omega | (simp only [Ae];try omega)) only [↓Ai,Ad,Ag,Ah,eq_self,Nat.reduceEqDiff,↓reduceIte,reduceCtorEq,↓RU]
  refine (XP n (by omega)).calls rfl fun r hr => ?_
  subst hr
  have hwb:IntKind.u64.wrap (b.length:Int)=(b.length:Int):=ZC (by omega)
  by_cases hcan:YU n=b.take 4
  case neg =>
   simp -dsimp (disch:=first | assumption | omega | (simp only [Ae];try omega)) only [↓Ai,Ad,Ag,Ah,eq_self,Nat.reduceEqDiff,↓reduceIte,reduceCtorEq,hcan,↓Dv]
   exact no fun x s hx e=>hcan (by rw [key x s hx e]; exact (hne x s hx e).symm)
  by_cases hn4:n≤4
  ·simp -dsimp (disch:=first | assumption | omega | (simp only [Ae];try omega)) only [↓Ai,Ad,Ag,Ah,eq_self,Nat.reduceEqDiff,↓reduceIte,reduceCtorEq,hcan,hn4,↓Dv]
   exact no fun x s hx e=>by have:=key x s hx e; have:=hx0 x s hx e; rw [ne_eq,←List.length_eq_zero_iff] at this; omega
  by_cases hnb:1004<n
  ·simp -dsimp (disch:=first | assumption | omega | (simp only [Ae];try omega)) only [↓Ai,Ad,Ag,Ah,eq_self,Nat.reduceEqDiff,↓reduceIte,reduceCtorEq,hcan,hn4,hnb,↓Dv]
   exact no fun x s hx e=>by have:=key x s hx e; omega
  by_cases hnl:b.length<n
  ·simp -dsimp (disch:=first | assumption | omega | (simp only [Ae];try omega)) only [↓Ai,Ad,Ag,Ah,eq_self,Nat.reduceEqDiff,↓reduceIte,reduceCtorEq,hcan,hn4,hnb,hwb,hnl,↓Dv]
   exact no fun x s hx e=>by have:=key x s hx e; have:=(CW e).2.2; omega
  simp -dsimp (disch:=first | assumption | omega | (simp only [Ae];try omega)) only [↓Ai,Ad,Ag,Ah,eq_self,Nat.reduceEqDiff,↓reduceIte,reduceCtorEq,hcan,hn4,hnb,hwb,hnl,↓Dv]
  have hlo:=Aq4 h4 (by omega) (by omega) (by omega) hcan.symm
  rw [List.drop_take] at hlo
  have hl4:(List.take (n - 4) (List.drop 4 b)).length=n - 4:=by simp; omega
  refine ⟨fun x s hx e => ?_,fun h=>absurd hlo (h _ _ (by omega))⟩
  obtain ⟨rfl,rfl⟩:=YH hx (by omega) (e.trans hlo.symm)
  have hxn:List.take (n - 4) (List.drop 4 b)≠[]:=fun h=>by rw [h] at hl4; simp at hl4; omega
  unfold MO
  rw [if_neg hxn]
end
section
variable [AP]
set_option maxRecDepth 100000
def Xt:Af := .seq (.ops [po_ 2 (.mov (.c (.slice none 0 0)))] [0])
 (.seq (.seq (.ops [mv_ 3 0,so_ 4 (.eqS (.t 3) false)] [0,4])
 (.cond (.t 4)
 (.seq (.ops [po_ 2 (.mov (.c (.slice none 0 0)))] [2])
  (.ret))
 (.skip)))
 (.seq (.ops [so_ 5 (.bslice 1 0 (.val (.int .u8 ((0:Nat):Int))) []),mv_ 6 0,so_ 7 (.app 1 1 5 (.t 5) (.t 6)),mv_ 2 7] [2])
 (.ret)))
def Yb:List VR:=[.tmp 2]
theorem Ady:Tryz.f81.body.bind (trC Tryz.prog Tryz.f81.ntmps)=some (er Xt):=by kernel_rfl
theorem AdO:trR Tryz.prog Tryz.f81.results.toList=some Yb:=by kernel_rfl
def Abv:=Ac Xt.eq_1
theorem AbM {K:TV→Prop} {e:Env} {H:List Ob}:res Yb e H K=res [.tmp 2] e H K:=Aa rfl
def Xz:=(aI_ @Abv @AbM)
def We:=Dj 8 Tryz.func81 Ady AdO rfl
def YN:Af := .seq (.ops [po_ 4 (.mov (.c (.bool false)))] [0,1])
 (.seq (.ops [mv_ 5 0,po_ 6 (.b2s (.t 5)),mv_ 7 1,po_ 8 (.b2s (.t 7)),po_ 9 (.bin 9 .eql (.t 6) (.t 8)),mv_ 4 9] [4])
 (.ret))
def Ye:List VR:=[.tmp 4]
theorem Adn:Tryz.f96.body.bind (trC Tryz.prog Tryz.f96.ntmps)=some (er YN):=by kernel_rfl
theorem Aek:trR Tryz.prog Tryz.f96.results.toList=some Ye:=by kernel_rfl
def AbU:=Ac YN.eq_1
theorem Abc {K:TV→Prop} {e:Env} {H:List Ob}:res Ye e H K=res [.tmp 4] e H K:=Aa rfl
def Ac7:=(aI_ @AbU @Abc)
def Acm:=Dj 10 Tryz.func96 Adn Aek rfl
end
section
open Go.RowKit
variable [AP]
theorem AuK (l:List UInt8) (hlen:l.length≤1000000) (hn:l≠[]):Ou Tryz.prog 81 [slB l] (fun r=>r=slB l):=by
 refine Am.toFreshV (We (by simp) ?_)
 have hn0:l.length≠0:=fun e=>hn (List.length_eq_zero_iff.1 e)
 have ht:(l.map by8).take l.length=l.map by8:=List.take_of_length_le (by simp)
 simp -dsimp (disch:=first | assumption | omega | (simp only [Ae];try omega)) only [↓Ai,Ad,Ag,Ah,eq_self,Nat.reduceEqDiff,↓reduceIte,reduceCtorEq,ht,↓Xz]
theorem AsL:BC Tryz.prog 81 [UY] (fun r=>r=UY):=by
 refine Am.toPureV (We (by simp) ?_)
 simp -dsimp (disch:=first | assumption | omega | (simp only [Ae];try omega)) only [↓Ai,Ad,Ag,Ah,eq_self,↓reduceIte,reduceCtorEq,↓Xz,Option.isNone_none]
theorem Atj (x:List UInt8) (hx:x.length≤1000):BC Tryz.prog 81 [MO x] (fun r=>r=MO x):=by
 unfold MO
 by_cases h:x=[]
 ·rw [if_pos h]; exact AsL
 ·rw [if_neg h]; exact (AuK x (by omega) h).pure
def Asp (b:List UInt8) (r:TV):Prop:=(∀ ls,AV ls b→r = .tup [.sl 1 (ls.map MO),.val .nilIface])∧((∀ ls,¬ AV ls b)→r = .tup [UY,eno 110])
variable [Au] [Az]
theorem Auc (b:List UInt8) (hb:b.length≤1000000):BC Tryz.prog 94 [slB b] (Asp b):=by
 refine Am.toPureV (AdW (by simp) ?_)
 have no:(∀ ls,¬ AV ls b)→Asp b (.tup [UY,eno 110]):=fun h=>⟨fun x hx=>absurd hx (h x),fun _=>rfl⟩
 simp -dsimp (disch:=first | assumption | omega | (simp only [Ae];try omega)) only [↓Ai,Ad,Ag,Ah,eq_self,↓reduceIte,reduceCtorEq,↓Acf,↓ZO,↓Zp]
 refine Fp (fun q e H=>∃ (ls:List (List UInt8)) (rest:List UInt8) (k v cp:Nat),q=rest.length∧ls.length+rest.length≤1000000∧LI b ls rest∧H[k]?=some (.obj v (.arr ls.length 1 (ls.map MO)))∧e=[(0,slB rest),(4,.os 1 k v [] 0 ls.length cp)]) b.length ?_ ?_
 ·exact ⟨[],b,0,0,0,rfl,by simpa using hb,⟨by simp,rfl⟩,rfl,rfl⟩
 rintro q e H ⟨ls,rest,k,v,cp,rfl,hrl,hI,hk,rfl⟩
 have hkl:=(List.getElem?_eq_some_iff.1 hk).1
 by_cases hr0:rest=[]
 ·subst hr0
  have hL:AV ls b:=⟨hI.ok,by have:=hI.eq; simpa using this⟩
  have hkt:(ls.map MO).take ls.length=ls.map MO:=List.take_of_length_le (by simp)
  simp -dsimp (disch:=first | assumption | omega | (simp only [Ae];try omega)) only [↓Ai,Ad,Ag,Ah,eq_self,Nat.reduceLT,Nat.reduceEqDiff,↓reduceIte,reduceCtorEq,hk,hkt,↓PR,↓Y3,↓Wq]
  exact ⟨fun ms hm=>by rw [UW hm hL],fun h=>absurd hL (h ls)⟩
 have hr1:0<rest.length:=List.length_pos_iff.2 hr0
 simp -dsimp (disch:=first | assumption | omega | (simp only [Ae];try omega)) only [↓Ai,Ad,Ag,Ah,eq_self,Nat.reduceEqDiff,↓reduceIte,reduceCtorEq,↓PR,↓YZ]
 refine (Axc rest (by omega)).calls rfl fun r hr => ?_
 by_cases hx:∃ x s,x.length≤1000∧BG x++s=rest
 case neg =>
  have hno:∀ x s,x.length≤1000→BG x++s≠rest:=fun x s h e=>hx ⟨x,s,h,e⟩
  rw [hr.2 hno]
  simp -dsimp (disch:=first | assumption | omega | (simp only [Ae];try omega)) only [↓Ai,Ad,Ag,Ah,eq_self,Nat.reduceEqDiff,↓reduceIte,reduceCtorEq,↓PU,↓Wq]
  exact no (hI.no hr0 hno)
 obtain ⟨x,s,hx1,hx2⟩:=hx
 rw [hr.1 x s hx1 hx2]
 clear hr
 have hlen:=(CW hx2).2.2
 have hct:=Atj x hx1
 have hst:=hI.step hx1 hx2
 have hp:EY (MO x)=true∧AL (MO x)=1∧lays (MO x)=true∧WE (MO x)=false∧CJ (MO x)=false:=by
  unfold MO
  by_cases h:x=[]
  ·rw [if_pos h]; exact ⟨rfl,rfl,rfl,rfl,rfl⟩
  ·rw [if_neg h]; exact ⟨rfl,rfl,rfl,rfl,rfl⟩
 obtain ⟨p1,p2,p3,p4,p5⟩:=hp
 simp -dsimp (disch:=first | assumption | omega | (simp only [Ae];try omega)) only [↓Ai,Ad,Ag,Ah,eq_self,Nat.reduceEqDiff,↓reduceIte,reduceCtorEq,p5,↓PU]
 refine hct.calls (by unfold MO; split<;>rfl) fun r hr => ?_
 subst hr
 have hA:∀ T:List Ob,(H++T)[k]?=some (.obj v (.arr ls.length 1 (ls.map MO))):=fun T=>by rw [List.getElem?_append_left hkl]; exact hk
 have hl1:ls.length≤1000000:=by omega
 have hkt:(ls.map MO).take ls.length=ls.map MO:=List.take_of_length_le (by simp)
 have h11:∀ y z:TV,List.take 1 ((List.replicate 1 z).set 0 y)=[y]:=fun y z=>rfl
 simp -dsimp (disch:=first | assumption | omega | (simp only [Ae];try omega)) only [↓Ai,Ad,Ag,Ah,eq_self,Nat.reduceEqDiff,↓reduceIte,reduceCtorEq,Nat.reduceLeDiff,p1,p2,p3,hA,hkt,h11]
 have hL:(ls++[x]).length=ls.length+1:=by simp
 refine AB s.length (by omega) (by simp) ⟨ls++[x],s,k,v+1,ls.length+1,rfl,by omega,hst,?_,by rw [hL]; rfl⟩
 rw [List.getElem?_append_left (by simp; omega),List.getElem?_set_self hkl,hL,List.map_append]; rfl
end
section
open Go.RowKit
variable [AP]
def Aro (b:List UInt8) (r:TV):Prop:=(∀ x s,x.length≤1000→BG x++s=b→r = .tup [slB x,slB s,tb true])∧((∀ x s,x.length≤1000→BG x++s≠b)→r = .tup [UY,slB b,tb false])
theorem AsG {b w:List UInt8} {n:Nat} {E:Env} {Q:VEx→Env→List Ob→Prop} (hb:b.length≤1000000) (h4:4≤b.length) (hn:n≤1000)
  (hyes:b.take 4=w→4+n≤b.length→Q .ret [(2,slB ((b.drop 4).take n)),(3,slB (b.drop (4+n))),(4,tb true)] [])
  (hbad:b.take 4=w→¬ 4+n≤b.length→Q .ret [(2,UY),(3,slB b),(4,tb false)] [])
  (hnext:b.take 4≠w→Q .nor [(0,slB b),(5,i64 (n:Int)),(24,tb false)] []) :
  vwp Tryz.prog NH Q ((0,slB b)::(5,i64 (n:Int))::(6,ts w)::E) []:=by
 have hs:4+n - 4=n:=by omega
 by_cases hw:b.take 4=w
 ·subst hw
  by_cases hl:4+n≤b.length
  ·have hl':¬ b.length<4+n:=by omega
   simp -dsimp (disch:=first | assumption | omega | (simp only [Ae];try omega)) only [↓Ai,Ad,Ag,Ah,eq_self,Nat.reduceEqDiff,↓reduceIte,reduceCtorEq,hl',hs,↓JR,↓JL,↓PE]
   exact hyes rfl hl
  ·have hl':b.length<4+n:=by omega
   simp -dsimp (disch:=first | assumption | omega | (simp only [Ae];try omega)) only [↓Ai,Ad,Ag,Ah,eq_self,Nat.reduceEqDiff,↓reduceIte,reduceCtorEq,hl',↓JR,↓JL,↓PE]
   exact hbad rfl hl
 ·simp -dsimp (disch:=first | assumption | omega | (simp only [Ae];try omega)) only [↓Ai,Ad,Ag,Ah,eq_self,Nat.reduceEqDiff,↓reduceIte,reduceCtorEq,hw,↓JR,↓JL]
  exact hnext hw
theorem At3 (b:List UInt8) (hb:b.length≤1000000):BC Tryz.prog 82 [slB b] (Aro b):=by
 refine Am.toPureV (AdC (by simp) ?_)
 have no:(∀ x s,x.length≤1000→BG x++s≠b)→Aro b (.tup [UY,slB b,tb false]):=fun h=>⟨fun x s hx e=>absurd e (h x s hx),fun _=>rfl⟩
 by_cases h4:4≤b.length
 case neg =>
  simp -dsimp (disch:=first | assumption | omega | (simp only [Ae];try omega)) only [↓Ai,Ad,Ag,Ah,eq_self,Nat.reduceEqDiff,↓reduceIte,reduceCtorEq,↓V8,↓Ox,↓EW]
  exact no fun x s hx e=>by have:=(CW e).2.2; omega
 simp -dsimp (disch:=first | assumption | omega | (simp only [Ae];try omega)) only [↓Ai,Ad,Ag,Ah,eq_self,↓reduceIte,reduceCtorEq,↓V8,↓Ox,↓ZE,↓Y1]
 refine Fp (fun q e H=>∃ n:Nat,q=1001 - n∧n≤1001∧(∀ x s,x.length≤1000→BG x++s=b→n≤x.length)∧H=[]∧e=[(0,slB b),(5,i64 (n:Int))]) 1001 ?_ ?_
 ·exact ⟨0,rfl,by omega,fun _ _ _ _=>Nat.zero_le _,rfl,rfl⟩
 rintro q e H ⟨n,rfl,hn,hle,rfl,rfl⟩
 by_cases h1000:n≤1000
 case neg =>
  simp -dsimp (disch:=first | assumption | omega | (simp only [Ae];try omega)) only [↓Ai,Ad,Ag,Ah,eq_self,Nat.reduceEqDiff,↓reduceIte,reduceCtorEq,↓JO,↓Zj,↓EW]
  exact no fun x s hx e=>by have:=hle x s hx e; omega
 have step:(∀ x s,x.length≤1000→BG x++s=b→x.length≠n)→∀ x s,x.length≤1000→BG x++s=b→n+1≤x.length:=fun h x s hx e=>by
  have:=hle x s hx e; have:=h x s hx e; omega
 have yes:b.take 4=YU (if n=0 then 0 else n+4)→4+n≤b.length→Aro b (.tup [slB ((b.drop 4).take n),slB (b.drop (4+n)),tb true]):=fun hw hl=>by
  have hxl:((b.drop 4).take n).length=n:=by simp; omega
  have hE:BG ((b.drop 4).take n)++b.drop (4+n)=b:=by
   rw [Ad4]
   unfold Aay
   rw [hxl,←hw,List.append_assoc,←List.drop_drop,List.take_append_drop,List.take_append_drop]
  refine ⟨fun x s hx e => ?_,fun h=>absurd hE (h _ _ (by omega))⟩
  obtain ⟨rfl,rfl⟩:=YH hx (by omega) (e.trans hE.symm)
  rfl
 by_cases h0:n=0
 ·subst h0
  simp -dsimp (disch:=first | assumption | omega | (simp only [Ae];try omega)) only [↓Ai,Ad,Ag,Ah,eq_self,Nat.reduceEqDiff,↓reduceIte,reduceCtorEq,↓JO,↓Qq]
  refine (Ad0 4 (by omega)).calls rfl fun r hr => ?_
  subst hr
  simp -dsimp (disch:=first | assumption | omega | (simp only [Ae];try omega)) only [↓Ai,Ad,Ag,Ah,eq_self,Nat.reduceEqDiff,↓reduceIte,reduceCtorEq,↓Qe]
  refine AsG hb h4 h1000 (fun hw hl => ?_) (fun hw hl => ?_) (fun hw => ?_)
  ·simp -dsimp (disch:=first | assumption | omega | (simp only [Ae];try omega)) only [↓Ai,Ad,Ag,Ah,eq_self,Nat.reduceEqDiff,↓reduceIte,Nat.reduceAdd,↓EW]
   exact yes hw hl
  ·simp -dsimp (disch:=first | assumption | omega | (simp only [Ae];try omega)) only [↓Ai,Ad,Ag,Ah,eq_self,Nat.reduceEqDiff,↓reduceIte,↓EW]
   exact no fun x s hx e=>by
    have h1:=AdQ (AdX hx) (by omega) ((CW e).1.symm.trans (show b.take 4=YU 0 from hw))
    have h2:=(CW e).2.2
    unfold Aay at h1; split at h1<;>omega
  ·simp -dsimp (disch:=first | assumption | omega | (simp only [Ae];try omega)) only [↓Ai,Ad,Ag,Ah,eq_self,↓reduceIte,reduceCtorEq]
   refine AB (1001 - (0+1)) (by omega) (by simp) ⟨0+1,by omega,by omega,step fun x s hx e h=>hw ?_,rfl,rfl⟩
   rw [(CW e).1]
   unfold Aay
   rw [if_pos h]; rfl
 ·rw [if_neg h0] at yes
  simp -dsimp (disch:=first | assumption | omega | (simp only [Ae];try omega)) only [↓Ai,Ad,Ag,Ah,eq_self,Nat.reduceEqDiff,↓reduceIte,reduceCtorEq,↓JO,↓Qq]
  refine (Ad0 (n+4) (by omega)).calls rfl fun r hr => ?_
  subst hr
  simp -dsimp (disch:=first | assumption | omega | (simp only [Ae];try omega)) only [↓Ai,Ad,Ag,Ah,eq_self,Nat.reduceEqDiff,↓reduceIte,reduceCtorEq,h0,↓Qe]
  refine AsG hb h4 h1000 (fun hw hl => ?_) (fun hw hl => ?_) (fun hw => ?_)
  ·simp -dsimp (disch:=first | assumption | omega | (simp only [Ae];try omega)) only [↓Ai,Ad,Ag,Ah,eq_self,Nat.reduceEqDiff,↓reduceIte,↓EW]
   exact yes hw hl
  ·simp -dsimp (disch:=first | assumption | omega | (simp only [Ae];try omega)) only [↓Ai,Ad,Ag,Ah,eq_self,Nat.reduceEqDiff,↓reduceIte,↓EW]
   exact no fun x s hx e=>by
    have h1:=AdQ (AdX hx) (by omega) ((CW e).1.symm.trans hw)
    have h2:=(CW e).2.2
    unfold Aay at h1; split at h1<;>omega
  ·simp -dsimp (disch:=first | assumption | omega | (simp only [Ae];try omega)) only [↓Ai,Ad,Ag,Ah,eq_self,↓reduceIte,reduceCtorEq]
   refine AB (1001 - (n+1)) (by omega) (by simp) ⟨n+1,by omega,by omega,step fun x s hx e h=>hw ?_,rfl,rfl⟩
   rw [(CW e).1]
   unfold Aay
   rw [if_neg (by omega),h]
def AoJ (b:List UInt8) (r:TV):Prop:=(∀ ls,AV ls b→r = .tup [.sl 1 (ls.map slB),tb true])∧((∀ ls,¬ AV ls b)→r = .tup [UY,tb false])
theorem Aqy (b:List UInt8) (hb:b.length≤1000000):BC Tryz.prog 67 [slB b] (AoJ b):=by
 refine Am.toPureV (Acu (by simp) ?_)
 have no:(∀ ls,¬ AV ls b)→AoJ b (.tup [UY,tb false]):=fun h=>⟨fun x hx=>absurd hx (h x),fun _=>rfl⟩
 simp -dsimp (disch:=first | assumption | omega | (simp only [Ae];try omega)) only [↓Ai,Ad,Ag,Ah,eq_self,↓reduceIte,reduceCtorEq,↓Abt,↓YA,↓Yw]
 refine Fp (fun q e H=>∃ (ls:List (List UInt8)) (rest:List UInt8) (k v cp:Nat),q=rest.length∧ls.length+rest.length≤1000000∧LI b ls rest∧H[k]?=some (.obj v (.arr ls.length 1 (ls.map slB)))∧e=[(0,slB rest),(4,.os 1 k v [] 0 ls.length cp)]) b.length ?_ ?_
 ·exact ⟨[],b,0,0,0,rfl,by simpa using hb,⟨by simp,rfl⟩,rfl,rfl⟩
 rintro q e H ⟨ls,rest,k,v,cp,rfl,hrl,hI,hk,rfl⟩
 have hkl:=(List.getElem?_eq_some_iff.1 hk).1
 have hkt:(ls.map slB).take ls.length=ls.map slB:=List.take_of_length_le (by simp)
 by_cases hr0:rest=[]
 ·subst hr0
  have hL:AV ls b:=⟨hI.ok,by have:=hI.eq; simpa using this⟩
  simp -dsimp (disch:=first | assumption | omega | (simp only [Ae];try omega)) only [↓Ai,Ad,Ag,Ah,eq_self,Nat.reduceLT,Nat.reduceEqDiff,↓reduceIte,reduceCtorEq,hk,hkt,↓Oj,↓XX,↓UZ]
  exact ⟨fun ms hm=>by rw [UW hm hL],fun h=>absurd hL (h ls)⟩
 have hr1:0<rest.length:=List.length_pos_iff.2 hr0
 simp -dsimp (disch:=first | assumption | omega | (simp only [Ae];try omega)) only [↓Ai,Ad,Ag,Ah,eq_self,Nat.reduceEqDiff,↓reduceIte,reduceCtorEq,↓Oj,↓X7]
 refine (At3 rest (by omega)).calls rfl fun r hr => ?_
 by_cases hx:∃ x s,x.length≤1000∧BG x++s=rest
 case neg =>
  have hno:∀ x s,x.length≤1000→BG x++s≠rest:=fun x s h e=>hx ⟨x,s,h,e⟩
  rw [hr.2 hno]
  simp -dsimp (disch:=first | assumption | omega | (simp only [Ae];try omega)) only [↓Ai,Ad,Ag,Ah,eq_self,Nat.reduceEqDiff,↓reduceIte,reduceCtorEq,↓UZ]
  exact no (hI.no hr0 hno)
 obtain ⟨x,s,hx1,hx2⟩:=hx
 rw [hr.1 x s hx1 hx2]
 clear hr
 have hlen:=(CW hx2).2.2
 have hst:=hI.step hx1 hx2
 have hA:∀ T:List Ob,(H++T)[k]?=some (.obj v (.arr ls.length 1 (ls.map slB))):=fun T=>by rw [List.getElem?_append_left hkl]; exact hk
 have hl1:ls.length≤1000000:=by omega
 have h11:∀ y z:TV,List.take 1 ((List.replicate 1 z).set 0 y)=[y]:=fun y z=>rfl
 simp -dsimp (disch:=first | assumption | omega | (simp only [Ae];try omega)) only [↓Ai,Ad,Ag,Ah,eq_self,Nat.reduceEqDiff,↓reduceIte,reduceCtorEq,Nat.reduceLeDiff,hA,hkt,h11]
 have hL:(ls++[x]).length=ls.length+1:=by simp
 refine AB s.length (by omega) (by simp) ⟨ls++[x],s,k,v+1,ls.length+1,rfl,by omega,hst,?_,by rw [hL]; rfl⟩
 rw [List.getElem?_append_left (by simp; omega),List.getElem?_set_self hkl,hL,List.map_append]; rfl
end
section
open Go.RowKit
variable [AP]
section
omit [AP]
def spl:List UInt8→List UInt8→List (List UInt8)
 | w,[]=>[w]
 | w,b::l=>if b=32 then w::spl [] l else spl (w++[b]) l
def FV (b:List UInt8):List UInt8:=if b.getLast?=some 10 then b.dropLast else b
def KY (b:List UInt8):List (List UInt8):=spl [] (FV b)
theorem AiV {b:List UInt8} {i:Nat} (h:i<b.length) (hno:¬ (b[i]?=some 10∧i+1=b.length)) (hi:i≤(FV b).length):i<(FV b).length∧(FV b)[i]?=b[i]?:=by
 unfold FV at hi ⊢
 split
 ·rename_i h1
  rw [if_pos h1,List.length_dropLast] at hi
  have hlt:i<b.length - 1:=by
   rcases Nat.lt_or_ge i (b.length - 1) with h2 | h2
   ·exact h2
   ·exfalso
    refine hno ⟨?_,by omega⟩
    rw [List.getLast?_eq_getElem?] at h1
    rw [show i=b.length - 1 by omega]; exact h1
  refine ⟨by rw [List.length_dropLast]; exact hlt,?_⟩
  rw [List.getElem?_dropLast,if_pos hlt]
 ·exact ⟨h,rfl⟩
theorem Aij {b:List UInt8} {i:Nat} (h:b[i]?=some 10) (h1:i+1=b.length):(FV b).length=i:=by
 unfold FV
 rw [if_pos (by rw [List.getLast?_eq_getElem?,show b.length - 1=i by omega]; exact h),List.length_dropLast]; omega
theorem Abf (b:List UInt8):(FV b).length≤b.length:=by
 unfold FV
 split
 ·rw [List.length_dropLast]; omega
 ·exact Nat.le_refl _
end
theorem Aen {b:UInt8}:(∀ y:TV,y∈[TV.val (Value.int IntKind.u8 (b.toNat:Int))]→AfU y)=True:=by
 refine eq_true ?_
 intro y hy
 obtain rfl:=List.mem_singleton.1 hy
 exact Ac4 b
theorem Ati (b:List UInt8) (hb:b.length≤1000000):BC Tryz.prog 68 [slB b] (fun r=>r = .sl 1 ((KY b).map ts)):=by
 refine Am.toPureV (Acs (by simp) ?_)
 have h11:∀ y z:TV,(List.replicate 1 z).set 0 y=[y]:=fun y z=>rfl
 have h12:∀ y:TV,List.take 1 [y]=[y]:=fun y=>rfl
 simp -dsimp (disch:=first | assumption | omega | (simp only [Ae];try omega)) only [↓Ai,Ad,Ag,Ah,eq_self,Nat.reduceEqDiff,↓reduceIte,reduceCtorEq,↓Abj,↓Ya,↓Yo,↓YE,↓XZ]
 refine Fp (fun q e H=>∃ (i:Nat) (ws:List (List UInt8)) (w:List UInt8) (k v cp:Nat),q=b.length - i∧i≤(FV b).length∧i≤b.length∧ws.length≤i∧w.length≤i∧KY b=ws++spl w ((FV b).drop i)∧H[k]?=some (.obj v (.arr ws.length 1 (ws.map ts)))∧e=[(0,slB b),(3,.os 1 k v [] 0 ws.length cp),(4,ts w),(5,i64 (i:Int))]) b.length ?_ ?_
 ·exact ⟨0,[],[],0,0,0,rfl,Nat.zero_le _,Nat.zero_le _,Nat.le_refl _,Nat.le_refl _,rfl,rfl,rfl⟩
 rintro q e H ⟨i,ws,w,k,v,cp,rfl,hit,hib,hwi,hwl,hsp,hk,rfl⟩
 have hkl:=(List.getElem?_eq_some_iff.1 hk).1
 have hkt:(ws.map ts).take ws.length=ws.map ts:=List.take_of_length_le (by simp)
 have hA:∀ T:List Ob,(H++T)[k]?=some (.obj v (.arr ws.length 1 (ws.map ts))):=fun T=>by rw [List.getElem?_append_left hkl]; exact hk
 have hws1:ws.length≤1000000:=by omega
 by_cases hil:i<b.length
 case neg =>
  have hd:(FV b).drop i=[]:=List.drop_eq_nil_of_le (by have:=Abf b; omega)
  rw [hd] at hsp
  have hfin:KY b=ws++[w]:=by rw [hsp]; rfl
  simp -dsimp (disch:=first | assumption | omega | (simp only [Ae];try omega)) only [↓Ai,Ad,Ag,Ah,eq_self,Nat.reduceEqDiff,↓reduceIte,reduceCtorEq,Nat.reduceLeDiff,hA,hkt,h11,↓Dz,↓Oe,↓Ub]
  have hLe:List.take (ws.length+1) (ws.map ts++[ts w])=(ws++[w]).map ts:=by rw [List.map_append]; exact List.take_of_length_le (by simp)
  rw [hLe,hfin]
 obtain ⟨c,hc⟩:∃ c,b[i]?=some c:=⟨_,List.getElem?_eq_getElem hil⟩
 have hc8:(b.map by8)[i]?=some (by8 c):=by rw [List.getElem?_map,hc]; rfl
 by_cases hend:c.toNat=10∧i+1=b.length
 ·obtain ⟨h10,hlast⟩:=hend
  have hd:(FV b).drop i=[]:=List.drop_eq_nil_of_le (by rw [Aij (by rw [hc,show c=10 from UInt8.toNat_inj.1 h10]) hlast]; exact Nat.le_refl _)
  rw [hd] at hsp
  have hfin:KY b=ws++[w]:=by rw [hsp]; rfl
  simp -dsimp (disch:=first | assumption | omega | (simp only [Ae];try omega)) only [↓Ai,Ad,Ag,Ah,eq_self,Nat.reduceEqDiff,↓reduceIte,reduceCtorEq,Nat.reduceLeDiff,hc8,h10,hlast,hA,hkt,h11,↓Dz,↓E5,↓Oe,↓Ub]
  have hLe:List.take (ws.length+1) (ws.map ts++[ts w])=(ws++[w]).map ts:=by rw [List.map_append]; exact List.take_of_length_le (by simp)
  rw [hLe,hfin]
 obtain ⟨hti,htc⟩:=AiV hil (fun h=>hend ⟨by rw [hc] at h; rw [Option.some.inj h.1]; rfl,h.2⟩) hit
 rw [hc] at htc
 have hdr:(FV b).drop i=c::(FV b).drop (i+1):=by
  rw [List.drop_eq_getElem_cons hti]
  rw [List.getElem?_eq_getElem hti] at htc
  rw [Option.some.inj htc]
 rw [hdr,spl] at hsp
 by_cases h32:c.toNat=32
 ·have hc32:c=32:=UInt8.toNat_inj.1 h32
  rw [if_pos hc32] at hsp
  have h10:¬ c.toNat=10:=by omega
  simp -dsimp (disch:=first | assumption | omega | (simp only [Ae];try omega)) only [↓Ai,Ad,Ag,Ah,eq_self,Nat.reduceEqDiff,↓reduceIte,reduceCtorEq,Nat.reduceLeDiff,hc8,h32,hA,hkt,h11,↓Dz,↓E5,↓Ic]
  have hL:(ws++[w]).length=ws.length+1:=by simp
  refine AB (b.length - (i+1)) (by omega) (by simp) ⟨i+1,ws++[w],[],k,v+1,ws.length+1,rfl,by omega,by omega,by omega,Nat.zero_le _,by rw [hsp]; simp,?_,by rw [hL]; rfl⟩
  rw [List.getElem?_append_left (by simp; omega),List.getElem?_set_self hkl,hL,List.map_append]; rfl
 ·have hc32:¬ c=32:=fun e=>h32 (by rw [e]; rfl)
  rw [if_neg hc32] at hsp
  have hwl2:w.length+[c].length≤9223372036854775807:=by simp; omega
  by_cases h10:c.toNat=10
  ·have hlast:¬ i+1=b.length:=fun e=>hend ⟨h10,e⟩
   simp -dsimp (disch:=first | assumption | omega | (simp only [Ae];try omega)) only [↓Ai,Ad,Ag,Ah,eq_self,Nat.reduceEqDiff,↓reduceIte,reduceCtorEq,Nat.reduceLeDiff,hc8,h10,hlast,h11,AdG,Aen,Aei,↓Dz,↓E5,↓Ic]
   exact AB (b.length - (i+1)) (by omega) (by simp) ⟨i+1,ws,w++[c],k,v,cp,rfl,by omega,by omega,by omega,by simp; omega,hsp,by rw [List.getElem?_append_left hkl]; exact hk,rfl⟩
  ·simp -dsimp (disch:=first | assumption | omega | (simp only [Ae];try omega)) only [↓Ai,Ad,Ag,Ah,eq_self,Nat.reduceEqDiff,↓reduceIte,reduceCtorEq,Nat.reduceLeDiff,hc8,h10,h32,h11,AdG,Aen,Aei,↓Dz,↓E5,↓Ic]
   exact AB (b.length - (i+1)) (by omega) (by simp) ⟨i+1,ws,w++[c],k,v,cp,rfl,by omega,by omega,by omega,by simp; omega,hsp,by rw [List.getElem?_append_left hkl]; exact hk,rfl⟩
end
section
variable [AP]
set_option maxRecDepth 100000
def Uc:Af := .seq (.ops [po_ 4 (.mov (.c (.slice none 0 0)))] [0,1])
 (.seq (.ops [mv_ 5 0,mv_ 6 1,so_ 7 (.call 104 [.t 5,.t 6,.c (.int .i64 ((0:Nat):Int)),.c (.int .i64 (-1))]),mv_ 4 7] [4])
 (.ret))
def TT:List VR:=[.tmp 4]
theorem Abx:Tryz.f78.body.bind (trC Tryz.prog Tryz.f78.ntmps)=some (er Uc):=by kernel_rfl
theorem Abk:trR Tryz.prog Tryz.f78.results.toList=some TT:=by kernel_rfl
def YX:=Ac Uc.eq_1
theorem ZG {K:TV→Prop} {e:Env} {H:List Ob}:res TT e H K=res [.tmp 4] e H K:=Aa rfl
def UE:=(aI_ @YX @ZG)
def AaF:=Dj 8 Tryz.func78 Abx Abk rfl
def JZ:Af := .seq (.ops [mv_ 42 9,mv_ 43 10,mv_ 44 0,mv_ 45 11,mv_ 46 2,po_ 47 (.bin 3 .add (.t 45) (.t 46)),po_ 48 (.slS (.t 44) none (some (.t 47))),po_ 49 (.idxA 1 (.t 42) (.t 43)),⟨none,.s (.store 1 (.t 49) (.t 48)),none⟩] [0,1,2,3,9,10,11])
 (.seq (.ops [mv_ 50 0,mv_ 51 11,mv_ 52 1,po_ 53 (.lenS (.t 52)),po_ 54 (.bin 3 .add (.t 51) (.t 53)),po_ 55 (.slS (.t 50) (some (.t 54)) none),mv_ 0 55] [0,1,2,3,9,10])
 (.ops [mv_ 56 10,po_ 57 (.bin 3 .add (.t 56) (ci_ 1)),mv_ 10 57] [0,1,2,3,9,10]))
def Ku:Af := .seq (.seq (.ops [mv_ 40 11,po_ 41 (.bin 3 .lss (.t 40) (ci_ 0))] [0,1,2,3,9,10,11,41])
 (.cond (.t 41)
 (.exit 0)
 (.skip)))
 JZ
def KF:Af := .block 1 (.seq (.ops [mv_ 37 0,mv_ 38 1,so_ 39 (.call 99 [.t 37,.t 38]),mv_ 11 39] [0,1,2,3,9,10,11])
 Ku)
def KT:Af := .seq (.seq (.ops [mv_ 34 10,mv_ 35 3,po_ 36 (.bin 3 .lss (.t 34) (.t 35))] [0,1,2,3,9,10,36])
 (.cond (.t 36)
 (.skip)
 (.exit 0)))
 KF
def Kr:Af := .seq (.ops [mv_ 58 9,mv_ 59 10,mv_ 60 0,po_ 61 (.idxA 1 (.t 58) (.t 59)),⟨none,.s (.store 1 (.t 61) (.t 60)),none⟩] [9,10])
 (.seq (.ops [mv_ 62 9,mv_ 63 10,po_ 64 (.bin 3 .add (.t 63) (ci_ 1)),po_ 65 (.slV 1 (.t 62) none (some (.t 64))),mv_ 8 65] [8])
 (.ret))
def KO:Af := .seq (.block 0 (.loop [0,1,2,3,9,10] KT))
 Kr
def Ld:Af := .seq (.ops [po_ 10 (.mov (ci_ 0))] [0,1,2,3,9,10])
 KO
def Lp:Af := .seq (.ops [mv_ 32 3,po_ 33 (.bin 3 .sub (.t 32) (ci_ 1)),mv_ 3 33] [0,1,2,3,9])
 Ld
def KA:Af := .seq (.ops [mv_ 30 3,so_ 31 (.mks 1 16 (.val (.string (str []))) (.t 30) (.t 30)),mv_ 9 31] [0,1,2,3,9])
 Lp
def Jd:Af := .seq (.ops [mv_ 25 3,mv_ 26 0,po_ 27 (.lenS (.t 26)),po_ 28 (.bin 3 .add (.t 27) (ci_ 1)),po_ 29 (.min (.t 25) (.t 28)),mv_ 3 29] [0,1,2,3])
 KA
def I9:Af := .seq (.seq (.ops [mv_ 19 3,po_ 20 (.bin 3 .lss (.t 19) (ci_ 0))] [0,1,2,3,20])
 (.cond (.t 20)
 (.ops [mv_ 21 0,mv_ 22 1,so_ 23 (.call 121 [.t 21,.t 22]),po_ 24 (.bin 3 .add (.t 23) (ci_ 1)),mv_ 3 24] [0,1,2,3])
 (.skip)))
 Jd
def I5:Af := .seq (.seq (.ops [mv_ 14 1,po_ 15 (.bin 9 .eql (.t 14) (.c (.string (str []))))] [0,1,2,3,15])
 (.cond (.t 15)
 (.seq (.ops [mv_ 16 0,mv_ 17 3,so_ 18 (.call 120 [.t 16,.t 17]),mv_ 8 18] [8])
  (.ret))
 (.skip)))
 I9
def Jo:Af := .seq (.seq (.ops [mv_ 12 3,po_ 13 (.bin 3 .eql (.t 12) (ci_ 0))] [0,1,2,3,13])
 (.cond (.t 13)
 (.seq (.ops [po_ 8 (.mov (.c (.slice none 0 0)))] [8])
  (.ret))
 (.skip)))
 I5
def OC:Af := .seq (.ops [po_ 8 (.mov (.c (.slice none 0 0)))] [0,1,2,3])
 Jo
def Oc:List VR:=[.tmp 8]
theorem XQ:Tryz.f104.body.bind (trC Tryz.prog Tryz.f104.ntmps)=some (er OC):=by kernel_rfl
theorem Xr:trR Tryz.prog Tryz.f104.results.toList=some Oc:=by kernel_rfl
def Q4:=Ac JZ.eq_1
def QN:=Ac Ku.eq_1
def Q5:=Ac KF.eq_1
def Ik:=Ac KT.eq_1
def QW:=Ac Kr.eq_1
def Rw:=Ac KO.eq_1
def QS:=Ac Ld.eq_1
def Ro:=Ac Lp.eq_1
def QY:=Ac KA.eq_1
def Pq:=Ac Jd.eq_1
def Pg:=Ac I9.eq_1
def Qc:=Ac I5.eq_1
def Px:=Ac Jo.eq_1
def VB:=Ac OC.eq_1
theorem VA {K:TV→Prop} {e:Env} {H:List Ob}:res Oc e H K=res [.tmp 8] e H K:=Aa rfl
def WS:=Dj 66 Tryz.func104 XQ Xr rfl
end
section
open Go.RowKit
variable [AP]
section
omit [AP]
def ixW (c:UInt8):List UInt8→Option Nat
 | []=>none
 | b::l=>if b=c then some 0 else (ixW c l).map (· + 1)
theorem Aeg (c:UInt8):∀ l:List UInt8,Lib.indexByte l c=(match ixW c l with | some i=>(i:Int) | none => -1):=by
 intro l
 induction l with
 | nil=>rfl
 | cons b l ih =>
  rw [Lib.indexByte,ixW]
  by_cases e:b=c
  ·simp [e]
  ·rw [if_neg (by simpa using e),if_neg e,ih]
   cases hc:ixW c l with
   | none=>simp
   | some i =>
    have:¬ ((i:Int) == -1)=true:=by simp
    simp only [Option.map_some]
    rw [if_neg this]; rfl
theorem AoH:∀ (l w:List UInt8),(∀ i,ixW 32 l=some i→i<l.length∧spl w l=(w++l.take i)::spl [] (l.drop (i+1))∧l.count 32=(l.drop (i+1)).count 32+1)∧(ixW 32 l=none→spl w l=[w++l]∧l.count 32=0)
 | [],w=>⟨fun i h=>(by cases h),fun _=>⟨(by simp [spl]),rfl⟩⟩
 | b::l,w=>by
  by_cases e:b=32
  ·subst e
   refine ⟨fun i h => ?_,fun h => ?_⟩
   ·rw [ixW,if_pos rfl] at h
    cases h
    exact ⟨by simp,by simp [spl],by simp⟩
   ·rw [ixW,if_pos rfl] at h; cases h
  ·obtain ⟨h1,h2⟩:=AoH l (w++[b])
   refine ⟨fun i h => ?_,fun h => ?_⟩
   ·rw [ixW,if_neg e] at h
    obtain ⟨j,hj,rfl⟩:=Option.map_eq_some_iff.1 h
    obtain ⟨a1,a2,a3⟩:=h1 j hj
    refine ⟨by simp; omega,?_,?_⟩
    ·rw [spl,if_neg e,a2]; simp
    ·rw [List.count_cons_of_ne (by simpa using e),a3]; rfl
   ·rw [ixW,if_neg e] at h
    obtain ⟨a1,a2⟩:=h2 (Option.map_eq_none_iff.1 h)
    refine ⟨by rw [spl,if_neg e,a1]; simp,by rw [List.count_cons_of_ne (by simpa using e),a2]⟩
end
theorem BC.ofSameW {f:FuncId} {args:List Value} {r:Value} (h:∀ (F:Nat→Prop) w,Jp F w→Calls Tryz.prog f args.toArray w fun e w'=>e = .returned r∧w'=w):BC Tryz.prog f (args.map .val) (fun x=>x = .val r):=by
 intro β F w vs hF hv
 have hvs:vs=args:=by
  clear h hF
  induction args generalizing vs with
  | nil=>rw [List.map_nil,BA.nil] at hv; exact hv
  | cons a args ih =>
   rw [List.map_cons] at hv
   obtain ⟨v,us,rfl,h1,h2⟩:=BA.cons.1 hv
   have:=Rep.val.1 (Or.inl h1:Rep _ _ _ _)
   rw [this,ih us h2]
 subst hvs
 refine (h F w hF.2).mono ?_
 rintro e w' ⟨rfl,rfl⟩
 exact ⟨_,_,F,rfl,rfl,Rep.of_val,⟨rfl,rfl,rfl,Nat.le_refl _,fun _ _=>rfl,fun _ h=>h,fun _ _ h=>h,hF.1⟩⟩
theorem Agp (l:List UInt8):(str l).data.toList=l:=by simp [str]
theorem AkN (s:List UInt8) (c:UInt8):BC Tryz.prog 99 [ts s,ts [c]] (fun x=>x=i64 (Lib.indexByte s c)):=by
 have:=BC.ofSameW (f:=99) (args:=[.string (str s),.string (str [c])]) (r := .int .i64 (Lib.indexByte s c)) fun F w _=>by
  have:=Tryz.strings_Index_one (str s) c w
  rw [Agp] at this; exact this
 exact this
theorem AjJ (s:List UInt8) (c:UInt8):BC Tryz.prog 121 [ts s,ts [c]] (fun x=>x=i64 ((s.count c:Nat):Int)):=by
 have:=BC.ofSameW (f:=121) (args:=[.string (str s),.string (str [c])]) (r := .int .i64 ((s.count c:Nat):Int)) fun F w _=>by
  have:=Tryz.strings_Count_one (str s) c w
  rw [Agp] at this; exact this
 exact this
theorem AiW (s:List UInt8) (hs:s.length≤1000000):BC Tryz.prog 79 [ts s,ts [10]] (fun x=>x=ts (Lib.trimSuffix s [10])):=by
 have:=BC.ofSameW (f:=79) (args:=[.string (str s),.string (str [10])]) (r := .string (str (Lib.trimSuffix s [10]))) fun F w _=>by
  have:=Tryz.strings_TrimSuffix (str s) (str [10]) w (by show s.toArray.size≤_; simp; omega)
  rw [Agp,Agp] at this; exact this
 exact this
theorem Ai2:∀ l:List (List UInt8),NE (l.map ts)=true
 | []=>rfl
 | x::l=>by rw [List.map_cons,NE,Ai2 l]; rfl
theorem Ajr (s:List UInt8) (hs:s.length≤1000000):Ou Tryz.prog 104 [ts s,ts [32],i64 ((0:Nat):Int),i64 (-1)] (fun r=>r = .sl 1 ((spl [] s).map ts)):=by
 refine Am.toFreshV (WS (by simp) ?_)
 have hcl:s.count 32≤s.length:=List.count_le_length
 simp -dsimp (disch:=first | assumption | omega | (simp only [Ae];try omega)) only [↓Ai,Ad,Ag,Ah,eq_self,Nat.reduceEqDiff,↓reduceIte,Nat.reduceAdd,reduceCtorEq,↓VB,↓Px,↓Qc,↓Pg]
 refine (AjJ s 32).calls rfl fun r hr => ?_
 subst hr
 simp -dsimp (disch:=first | assumption | omega | (simp only [Ae];try omega)) only [↓Ai,Ad,Ag,Ah,eq_self,Nat.reduceEqDiff,↓reduceIte,reduceCtorEq,Nat.reduceLeDiff,AU,↓Pq,↓QY,↓Ro,↓QS,↓Rw]
 refine Fp (fun q e H=>∃ (i:Nat) (ws:List (List UInt8)) (rest:List UInt8),q=s.count 32 - i∧i≤s.count 32∧ws.length=i∧rest.length≤s.length∧rest.count 32=s.count 32 - i∧spl [] s=ws++spl [] rest∧H=[.obj 0 (.arr (s.count 32+1) 1 (ws.map ts++List.replicate (s.count 32+1 - i) (ts [])))]∧e=[(0,ts rest),(1,ts [32]),(2,i64 ((0:Nat):Int)),(3,i64 ((s.count 32:Nat):Int)),(9,.os 1 0 0 [] 0 (s.count 32+1) (s.count 32+1)),(10,i64 (i:Int))]) (s.count 32) ?_ ?_
 ·refine ⟨0,[],s,rfl,Nat.zero_le _,rfl,Nat.le_refl _,rfl,rfl,rfl,by simp [forget,get]⟩
 rintro q e H ⟨i,ws,rest,rfl,hi,hwl,hrl,hrc,hsp,rfl,rfl⟩
 obtain ⟨x1,x2⟩:=AoH rest []
 have hix:=Aeg 32 rest
 have hwl':(ws.map ts).length=i:=by rw [List.length_map]; exact hwl
 obtain ⟨n,hn⟩:∃ n,s.count 32+1 - i=n+1:=⟨s.count 32 - i,by omega⟩
 have hget:(ws.map ts++List.replicate (s.count 32+1 - i) (ts []))[i]?=some (ts []):=by
  rw [List.getElem?_append_right (by omega),hwl',Nat.sub_self,hn]; rfl
 have hset:∀ c,(ws.map ts++List.replicate (s.count 32+1 - i) (ts [])).set i c=ws.map ts++(c::List.replicate n (ts [])):=fun c=>by
  rw [List.set_append_right _ _ (by omega),hwl',Nat.sub_self,hn]; rfl
 have hwd:AL (ts [])=1:=rfl
 by_cases hil:i<s.count 32
 ·simp -dsimp (disch:=first | assumption | omega | (simp only [Ae];try omega)) only [↓Ai,Ad,Ag,Ah,eq_self,Nat.reduceEqDiff,↓reduceIte,reduceCtorEq,↓Ik,↓Q5]
  refine (AkN rest 32).calls rfl fun r hr => ?_
  subst hr
  rw [hix]
  cases hm:ixW 32 rest with
  | none=>have:=(x2 hm).2; omega
  | some m =>
   obtain ⟨a1,a2,a3⟩:=x1 m hm
   simp only
   simp -dsimp (disch:=first | assumption | omega | (simp only [Ae];try omega)) only [↓Ai,Ad,Ag,Ah,eq_self,Nat.reduceEqDiff,↓reduceIte,reduceCtorEq,AU,hget,hset,hwd,Nat.add_zero,↓QN,↓Q4]
   refine AB (s.count 32 - (i+1)) (by omega) (by simp) ⟨i+1,ws++[rest.take m],rest.drop (m+1),rfl,by omega,by simp; omega,by simp; omega,by omega,by rw [hsp,a2]; simp,?_,by simp [forget,get]⟩
   rw [show s.count 32+1 - (i+1)=n by omega,List.map_append,List.append_assoc]; rfl
 ·have hi2:i=s.count 32:=by omega
  simp -dsimp (disch:=first | assumption | omega | (simp only [Ae];try omega)) only [↓Ai,Ad,Ag,Ah,eq_self,Nat.reduceEqDiff,↓reduceIte,reduceCtorEq,Nat.reduceLeDiff,hget,hset,hwd,↓Ik,↓QW,↓VA]
  have hnone:ixW 32 rest=none:=by
   cases hm:ixW 32 rest with
   | none=>rfl
   | some m=>have:=(x1 m hm).2.2; omega
  have hfin:spl [] s=ws++[rest]:=by rw [hsp,(x2 hnone).1]; rfl
  have htk:List.take (i+1) (ws.map ts++ts rest::List.replicate n (ts []))=(ws++[rest]).map ts:=by
   rw [List.map_append,show ws.map ts++ts rest::List.replicate n (ts [])=(ws.map ts++[ts rest])++List.replicate n (ts []) by simp,List.take_left' (by simp; omega)]; rfl
  rw [htk,hfin,if_pos (Ai2 _)]
  exact rfl
theorem AoS (s:List UInt8) (hs:s.length≤1000000):BC Tryz.prog 78 [ts s,ts [32]] (fun r=>r = .sl 1 ((spl [] s).map ts)):=by
 refine Am.toPureV (AaF (by simp) ?_)
 simp -dsimp (disch:=first | assumption | omega | (simp only [Ae];try omega)) only [↓Ai,Ad,Ag,Ah,eq_self,Nat.reduceEqDiff,↓reduceIte,Nat.reduceAdd,reduceCtorEq,↓UE]
 refine (Ajr s hs).pure.calls rfl fun r hr => ?_
 subst hr
 simp -dsimp (disch:=first | assumption | omega | (simp only [Ae];try omega)) only [↓Ai,Ad,Ag,Ah,eq_self,↓reduceIte,↓UE]
end
section
open Go.RowKit
variable [AP] [Au] [Az]
theorem AeE (s:List UInt8):Lib.trimSuffix s [10]=FV s:=by
 unfold Lib.trimSuffix FV
 by_cases h:s.getLast?=some 10
 ·obtain ⟨l,rfl⟩:∃ l,s=l++[10]:=by
   rcases List.eq_nil_or_concat s with rfl | ⟨l,x,hx⟩
   ·cases h
   ·rw [List.concat_eq_append] at hx
    subst hx
    simp at h
    subst h
    exact ⟨l,rfl⟩
  simp [Lib.hasSuffix]
 ·rw [if_neg h,if_neg]
  intro hs
  apply h
  unfold Lib.hasSuffix at hs
  have:=List.isSuffixOf_iff_suffix.1 hs
  obtain ⟨t,rfl⟩:=this
  simp
abbrev L6 (x:List UInt8):TV := .sl 1 ((KY x).map ts)
theorem Aq7:(∀ y:TV,y∈([]:List TV)→AfU y)=True:=eq_true (fun y h=>by cases h)
theorem Aii:(if (none:Option Addr).isNone=true then some ([]:List TV) else none)=some []:=by simp
def Att (b:List UInt8) (r:TV):Prop:=(∀ ls,AV ls b→r = .tup [.sl 1 (ls.map L6),.val .nilIface])∧((∀ ls,¬ AV ls b)→r = .tup [UY,eno 110])
theorem AtN (b:List UInt8) (hb:b.length≤1000000):BC Tryz.prog 64 [slB b] (Att b):=by
 refine Am.toPureV (Ado (by simp) ?_)
 simp -dsimp (disch:=first | assumption | omega | (simp only [Ae];try omega)) only [↓Ai,Ad,Ag,Ah,eq_self,↓reduceIte,reduceCtorEq,↓Ab3,↓ZL]
 refine (Auc b hb).calls rfl fun r hr => ?_
 by_cases h:∃ ls,AV ls b
 case neg =>
  have hno:∀ ls,¬ AV ls b:=fun ls k=>h ⟨ls,k⟩
  rw [hr.2 hno]
  simp -dsimp (disch:=first | assumption | omega | (simp only [Ae];try omega)) only [↓Ai,Ad,Ag,Ah,eq_self,Nat.reduceEqDiff,↓reduceIte,↓Qn,↓V7]
  exact ⟨fun ls k=>absurd k (hno ls),fun _=>rfl⟩
 obtain ⟨ls,hls⟩:=h
 rw [hr.1 ls hls]
 clear hr
 have hlen:ls.length≤1000000:=by
  have h1:∀ l:List (List UInt8),l.length≤(l.flatMap BG).length:=fun l=>by
   induction l with
   | nil=>simp
   | cons x l ih=>rw [List.flatMap_cons,List.length_append,Ip,List.length_cons]; omega
  have:=h1 ls
  rw [hls.2] at this
  omega
 have fin:Att b (.tup [.sl 1 (ls.map L6),.val .nilIface]):=⟨fun ms hm=>by rw [UW hm hls],fun k=>absurd hls (k ls)⟩
 simp -dsimp (disch:=first | assumption | omega | (simp only [Ae];try omega)) only [↓Ai,Ad,Ag,Ah,eq_self,Nat.reduceEqDiff,↓reduceIte,↓Qn,↓Y4,↓Zu,↓Y8]
 refine Fp (fun q e H=>∃ (i k v cp:Nat),q=ls.length - i∧i≤ls.length∧H[k]?=some (.obj v (.arr i 1 ((ls.take i).map L6)))∧e=[(6,.os 1 k v [] 0 i cp),(17,.sl 1 (ls.map MO)),(18,i64 (ls.length:Int)),(19,i64 (i:Int))]) ls.length ?_ ?_
 ·exact ⟨0,0,0,0,rfl,Nat.zero_le _,rfl,by simp [forget,get]⟩
 rintro q e H ⟨i,k,v,cp,rfl,hi,hk,rfl⟩
 have hkl:=(List.getElem?_eq_some_iff.1 hk).1
 have hwl:((ls.take i).map L6).length=i:=by rw [List.length_map,List.length_take,Nat.min_eq_left hi]
 have hwt:((ls.take i).map L6).take i=(ls.take i).map L6:=List.take_of_length_le (by omega)
 by_cases hil:i<ls.length
 case neg =>
  have hi2:i=ls.length:=by omega
  have htt:ls.take i=ls:=List.take_of_length_le (by omega)
  rw [htt] at hwl hwt hk
  simp -dsimp (disch:=first | assumption | omega | (simp only [Ae];try omega)) only [↓Ai,Ad,Ag,Ah,eq_self,Nat.reduceEqDiff,↓reduceIte,hk,hwl,↓Jz,↓JF,↓Zd,↓V7]
  exact fin
 have hg:ls[i]?=some ls[i]:=List.getElem?_eq_getElem hil
 have hgl:(ls.map MO)[i]?=some (MO ls[i]):=by rw [List.getElem?_map,hg]; rfl
 have hx1:=hls.1 _ (List.mem_of_getElem? hg)
 have hsn:(ls.take (i+1)).map L6=(ls.take i).map L6++[L6 ls[i]]:=by rw [List.take_succ_eq_append_getElem hil,List.map_append]; rfl
 generalize ls[i]=x at *
 have hA:∀ T:List Ob,(H++T)[k]?=some (.obj v (.arr i 1 ((ls.take i).map L6))):=fun T=>by rw [List.getElem?_append_left hkl]; exact hk
 have h11:∀ y z:TV,List.take 1 ((List.replicate 1 z).set 0 y)=[y]:=fun y z=>rfl
 have htl:=Abf x
 by_cases hx:x=[]
 ·subst hx
  have hl0:MO []=UY:=rfl
  rw [hl0] at hgl
  simp -dsimp (disch:=first | assumption | omega | (simp only [Ae];try omega)) only [↓Ai,Ad,Ag,Ah,eq_self,Nat.reduceEqDiff,↓reduceIte,hgl,Aii,Aq7,↓Jz,↓JF,↓P9]
  refine (AiW [] (by omega)).calls rfl fun r hr => ?_
  subst hr
  rw [AeE]
  simp -dsimp (disch:=first | assumption | omega | (simp only [Ae];try omega)) only [↓Ai,Ad,Ag,Ah,eq_self,↓reduceIte]
  refine (AoS (FV []) (by omega)).calls rfl fun r hr => ?_
  subst hr
  simp -dsimp (disch:=first | assumption | omega | (simp only [Ae];try omega)) only [↓Ai,Ad,Ag,Ah,eq_self,Nat.reduceEqDiff,↓reduceIte,Nat.reduceLeDiff,hA,hwl,h11]
  refine AB (ls.length - (i+1)) (by omega) (by simp) ⟨i+1,k,v+1,i+1,rfl,by omega,?_,by simp [forget,get]⟩
  rw [List.getElem?_append_left (by simp; omega),List.getElem?_set_self hkl,hsn]; rfl
 ·have hl0:MO x=slB x:=if_neg hx
  rw [hl0] at hgl
  simp -dsimp (disch:=first | assumption | omega | (simp only [Ae];try omega)) only [↓Ai,Ad,Ag,Ah,eq_self,Nat.reduceEqDiff,↓reduceIte,hgl,↓Jz,↓JF,↓P9]
  refine (AiW x (by omega)).calls rfl fun r hr => ?_
  subst hr
  rw [AeE]
  simp -dsimp (disch:=first | assumption | omega | (simp only [Ae];try omega)) only [↓Ai,Ad,Ag,Ah,eq_self,↓reduceIte]
  refine (AoS (FV x) (by omega)).calls rfl fun r hr => ?_
  subst hr
  simp -dsimp (disch:=first | assumption | omega | (simp only [Ae];try omega)) only [↓Ai,Ad,Ag,Ah,eq_self,Nat.reduceEqDiff,↓reduceIte,Nat.reduceLeDiff,hA,hwl,h11]
  refine AB (ls.length - (i+1)) (by omega) (by simp) ⟨i+1,k,v+1,i+1,rfl,by omega,?_,by simp [forget,get]⟩
  rw [List.getElem?_append_left (by simp; omega),List.getElem?_set_self hkl,hsn]; rfl
end
section
open Go.RowKit
variable [AP]
theorem AgM {c:Ctx} {w:World}:∀ {ws:List (List UInt8)} {vs:List Value},Ak c w (ws.map ts) vs→vs=ws.map fun x=>Value.string (str x)
 | [],vs,h=>by rw [List.map_nil,Ak] at h; exact h
 | x::ws,vs,h=>by
  rw [List.map_cons,Ak] at h
  obtain ⟨a,b,rfl,h1,h2⟩:=h
  rw [Aj] at h1
  rw [h1.1,AgM h2]; rfl
theorem AwL (ws:List (List UInt8)) (hne:ws≠[]) (hlen:(Lib.join ws [32]).length≤4000000) (hn:ws.length≤1000000):BC Tryz.prog 55 [.sl 1 (ws.map ts),ts [32]] (fun r=>r=ts (Lib.join ws [32])):=by
 intro β F w vs hF hv
 obtain ⟨v1,us,rfl,h1,hv⟩:=BA.cons.1 hv
 obtain ⟨v2,us,rfl,h2,hv⟩:=BA.cons.1 hv
 rw [BA.nil] at hv; subst hv
 obtain rfl:=Rep.val.1 (Or.inl h2:Rep _ _ _ _)
 obtain ⟨_,h | ⟨b,off,cap,xs,rfl,hcap,hcap2,hFb,hx,hcell⟩⟩:=Rep.sl (Or.inl h1:Rep _ _ _ _)
 ·exact absurd (List.map_eq_nil_iff.1 h.1) hne
 have hxs:=AgM hx
 subst hxs
 have hmap:(ws.map str).map (·.data.toList)=ws:=by
  rw [List.map_map]
  conv=>rhs; rw [←List.map_id ws]
  exact List.map_congr_left fun x _=>Agp x
 have hlen2:(ws.map ts).length=(ws.map str).length:=by simp
 have hj:Lib.join ((ws.map str).map (·.data.toList)) (str [32]).data.toList=Lib.join ws [32]:=by rw [hmap,Agp]
 rw [hlen2] at hcap ⊢
 have hc:=Tryz.strings_Join b off cap (ws.map str) (str [32]) w (fun j x hjx=>by
  rw [List.getElem?_map] at hjx
  obtain ⟨y,hy,rfl⟩:=Option.map_eq_some_iff.1 hjx
  exact hcell j _ (by rw [List.getElem?_map,hy]; rfl)) (hF.1 b hFb) (by simp; omega) hcap (by rw [hj]; omega)
 rw [hj] at hc
 refine hc.mono ?_
 rintro e w' ⟨rfl,hb⟩
 exact ⟨_,_,F,rfl,rfl,Rep.of_val,⟨hb.os,hb.tape,hb.output,hb.size,hb.block,fun _ h=>h,fun _ _ h=>h,fun b hb'=>Nat.lt_of_lt_of_le (hF.1 b hb') hb.size⟩⟩
end
section
open Go.RowKit
variable [AP]
theorem Afc {α:Type} {l:List α} {n:Nat} (h:l.length≤n):l.take n=l:=List.take_of_length_le h
def Acx (H:List Ob) (r:TV) (l:List UInt8):Option Nat→Prop
 | none=>r=UY∧l=[]
 | some j=>∃ v,r = .os 1 j v [] 0 l.length l.length∧H[j]?=some (.obj v (.arr l.length 1 (l.map by8)))
theorem Acx.tup {H:List Ob} {r:TV} {l:List UInt8} {J:Option Nat} (h:Acx H r l J):CJ r=false:=by
 cases J with
 | none=>obtain ⟨rfl,_⟩:=h; rfl
 | some j=>obtain ⟨v,rfl,_⟩:=h; rfl
def AuY (J:Option Nat) (H H':List Ob):Prop:=H.length≤H'.length∧∀ i,i<H.length→J≠some i→H'[i]?=H[i]?
theorem bl4:bl (str [48,48,48,48])=Rj:=AU
theorem Ahr {m:List UInt8} {J:Option Nat} {H:List Ob} {j v n:Nat} {cs:List TV} (hJ:J=some j) (hj:j<H.length) (hn:n=m.length) (hcs:cs=m.map by8) :
  ∃ j',Acx (H.set j (.obj v (.arr n 1 cs))) (.os 1 j v [] 0 n n) m (some j')∧AuY J H (H.set j (.obj v (.arr n 1 cs)))∧(J=some j'∨H.length≤j'):=by
 subst hn hcs hJ
 exact ⟨j,⟨v,rfl,by simp [hj]⟩,⟨by simp,fun i hi hne=>List.getElem?_set_ne (fun e=>hne (by rw [e]))⟩,.inl rfl⟩
theorem Ahj {m:List UInt8} {H:List Ob} {v n:Nat} {cs:List TV} (hn:n=m.length) (hcs:cs=m.map by8) :
  ∃ j',Acx (H++[.obj v (.arr n 1 cs)]) (.os 1 H.length v [] 0 n n) m (some j')∧AuY none H (H++[.obj v (.arr n 1 cs)])∧(False∨H.length≤j'):=by
 subst hn hcs
 exact ⟨H.length,⟨v,rfl,by simp⟩,⟨by simp,fun i hi _=>List.getElem?_append_left hi⟩,.inr (Nat.le_refl _)⟩
set_option maxHeartbeats 1000000 in
theorem Au4 {o:TV} {l line:List UInt8} {J:Option Nat} {H:List Ob} (h:Acx H o l J) (hl:l.length≤100000000000) (hn:line.length≤4000000) :
  Am Tryz.prog 54 [o,slB line] H (fun x H'=>∃ j,Acx H' x (l++BG line) (some j)∧AuY J H H'∧(J=some j∨H.length≤j)):=by
 refine N9 (by simp) ?_
 have h4:(YU (line.length+4)).length=4:=rfl
 have z4:Rj.length=4:=rfl
 by_cases h0:line.length=0
 ·have hP:BG line=Rj:=by unfold BG; rw [if_pos h0]
  rw [hP]
  cases J with
  | none =>
   obtain ⟨rfl,rfl⟩:=h
   simp -dsimp (disch:=first | assumption | omega | (simp only [Ae];try omega)) only [↓Ai,Ad,Ag,Ah,eq_self,Nat.reduceEqDiff,↓reduceIte,Nat.reduceAdd,reduceCtorEq,Nat.reduceLeDiff,↓A7,bl4,z4]
   exact Ahj rfl rfl
  | some j =>
   obtain ⟨v,rfl,hj⟩:=h
   have hjl:j<H.length:=(List.getElem?_eq_some_iff.1 hj).1
   simp -dsimp (disch:=first | assumption | omega | (simp only [Ae];try omega)) only [↓Ai,Ad,Ag,Ah,eq_self,Nat.reduceEqDiff,↓reduceIte,Nat.reduceAdd,reduceCtorEq,Nat.reduceLeDiff,↓A7,bl4,z4,hj]
   exact Ahr rfl hjl (by rw [List.length_append,z4]) (by rw [List.map_append])
 ·have hP:BG line=YU (line.length+4)++line:=by unfold BG; rw [if_neg h0]
  rw [hP]
  cases J with
  | none =>
   obtain ⟨rfl,rfl⟩:=h
   simp -dsimp (disch:=first | assumption | omega | (simp only [Ae];try omega)) only [↓Ai,Ad,Ag,Ah,eq_self,Nat.reduceEqDiff,↓reduceIte,Nat.reduceAdd,reduceCtorEq,↓A7]
   refine (XP (line.length+4) (by omega)).calls rfl ?_
   rintro _ rfl
   simp -dsimp (disch:=first | assumption | omega | (simp only [Ae];try omega)) only [↓Ai,Ad,Ag,Ah,eq_self,Nat.reduceEqDiff,↓reduceIte,Nat.reduceAdd,reduceCtorEq,Nat.reduceLeDiff,↓A7,AU,h4]
   exact Ahj (by rw [List.length_append,h4]) (by rw [List.map_append])
  | some j =>
   obtain ⟨v,rfl,hj⟩:=h
   have hjl:j<H.length:=(List.getElem?_eq_some_iff.1 hj).1
   simp -dsimp (disch:=first | assumption | omega | (simp only [Ae];try omega)) only [↓Ai,Ad,Ag,Ah,eq_self,Nat.reduceEqDiff,↓reduceIte,Nat.reduceAdd,reduceCtorEq,↓A7]
   refine (XP (line.length+4) (by omega)).calls rfl ?_
   rintro _ rfl
   simp -dsimp (disch:=first | assumption | omega | (simp only [Ae];try omega)) only [↓Ai,Ad,Ag,Ah,eq_self,Nat.reduceEqDiff,↓reduceIte,reduceCtorEq,Nat.reduceLeDiff,↓A7,AU,h4,hj]
   refine Ahr rfl hjl (by rw [List.length_append,List.length_append,h4]; omega) ?_
   rw [Afc (by simp [h4]),List.map_append,List.map_append,List.append_assoc]
set_option maxHeartbeats 1000000 in
theorem Aou {o:TV} {l line:List UInt8} {J:Option Nat} {H:List Ob} {id2 ver2:Nat} (h:Acx H o l J) (h2:H[id2]?=some (.obj ver2 (.arr line.length 1 (line.map by8)))) (hne:J≠some id2) (hl:l.length≤100000000000) (hn:line.length≤4000000) :
  Am Tryz.prog 54 [o,.os 1 id2 ver2 [] 0 line.length line.length] H (fun x H'=>∃ j,Acx H' x (l++BG line) (some j)∧AuY J H H'∧(J=some j∨H.length≤j)):=by
 refine N9 (by simp) ?_
 have hl2:id2<H.length:=(List.getElem?_eq_some_iff.1 h2).1
 have hlt:(line.map by8).take line.length=line.map by8:=List.take_of_length_le (by simp)
 have h2a:∀ T:List Ob,(H++T)[id2]?=some (.obj ver2 (.arr line.length 1 (line.map by8))):=fun T=>by rw [List.getElem?_append_left hl2]; exact h2
 have h4:(YU (line.length+4)).length=4:=rfl
 have z4:Rj.length=4:=rfl
 by_cases h0:line.length=0
 ·have hP:BG line=Rj:=by unfold BG; rw [if_pos h0]
  rw [hP]
  cases J with
  | none =>
   obtain ⟨rfl,rfl⟩:=h
   simp -dsimp (disch:=first | assumption | omega | (simp only [Ae];try omega)) only [↓Ai,Ad,Ag,Ah,eq_self,Nat.reduceEqDiff,↓reduceIte,Nat.reduceAdd,reduceCtorEq,Nat.reduceLeDiff,↓A7,bl4,z4]
   exact Ahj rfl rfl
  | some j =>
   obtain ⟨v,rfl,hj⟩:=h
   have hjl:j<H.length:=(List.getElem?_eq_some_iff.1 hj).1
   have h2s:∀ o:Ob,(H.set j o)[id2]?=some (.obj ver2 (.arr line.length 1 (line.map by8))):=fun o=>by rw [List.getElem?_set_ne (fun e=>hne (by rw [e]))]; exact h2
   simp -dsimp (disch:=first | assumption | omega | (simp only [Ae];try omega)) only [↓Ai,Ad,Ag,Ah,eq_self,Nat.reduceEqDiff,↓reduceIte,Nat.reduceAdd,reduceCtorEq,Nat.reduceLeDiff,↓A7,bl4,z4,hj]
   exact Ahr rfl hjl (by rw [List.length_append,z4]) (by rw [List.map_append])
 ·have hP:BG line=YU (line.length+4)++line:=by unfold BG; rw [if_neg h0]
  rw [hP]
  cases J with
  | none =>
   obtain ⟨rfl,rfl⟩:=h
   simp -dsimp (disch:=first | assumption | omega | (simp only [Ae];try omega)) only [↓Ai,Ad,Ag,Ah,eq_self,Nat.reduceEqDiff,↓reduceIte,Nat.reduceAdd,reduceCtorEq,↓A7]
   refine (XP (line.length+4) (by omega)).calls rfl ?_
   rintro _ rfl
   simp -dsimp (disch:=first | assumption | omega | (simp only [Ae];try omega)) only [↓Ai,Ad,Ag,Ah,eq_self,Nat.reduceEqDiff,↓reduceIte,Nat.reduceAdd,reduceCtorEq,Nat.reduceLeDiff,↓A7,AU,h4,h2a,hlt]
   exact Ahj (by rw [List.length_append,h4]) (by rw [List.map_append])
  | some j =>
   obtain ⟨v,rfl,hj⟩:=h
   have hjl:j<H.length:=(List.getElem?_eq_some_iff.1 hj).1
   have h2s:∀ o:Ob,(H.set j o)[id2]?=some (.obj ver2 (.arr line.length 1 (line.map by8))):=fun o=>by rw [List.getElem?_set_ne (fun e=>hne (by rw [e]))]; exact h2
   simp -dsimp (disch:=first | assumption | omega | (simp only [Ae];try omega)) only [↓Ai,Ad,Ag,Ah,eq_self,Nat.reduceEqDiff,↓reduceIte,Nat.reduceAdd,reduceCtorEq,↓A7]
   refine (XP (line.length+4) (by omega)).calls rfl ?_
   rintro _ rfl
   simp -dsimp (disch:=first | assumption | omega | (simp only [Ae];try omega)) only [↓Ai,Ad,Ag,Ah,eq_self,Nat.reduceEqDiff,↓reduceIte,reduceCtorEq,Nat.reduceLeDiff,↓A7,AU,h4,hj,h2s,hlt]
   refine Ahr rfl hjl (by rw [List.length_append,List.length_append,h4]; omega) ?_
   rw [Afc (by simp [h4]),List.map_append,List.map_append,List.append_assoc]
theorem ArR {H:List Ob} {N:Nat} {o:TV} {bad ok:Bool} {K:TV→List Ob→Prop} (hT:H[N]?=some (.obj 0 (.agg [o,tb bad]))) (ho:AL o=1) (hk:K (.tup []) (H.set N (.obj 0 (.agg [o,tb (bad || !ok)])))) :
  Am Tryz.prog 27 [.op N 0 [],tb ok] H K:=by
 refine ZK (by simp) ?_
 cases bad with
 | true =>
  simp -dsimp (disch:=first | assumption | omega | (simp only [Ae];try omega)) only [↓Ai,Ad,Ag,Ah,eq_self,Nat.reduceEqDiff,↓reduceIte,Nat.reduceAdd,reduceCtorEq,hT,ho,↓RF]
  exact hk
 | false =>
  simp -dsimp (disch:=first | assumption | omega | (simp only [Ae];try omega)) only [↓Ai,Ad,Ag,Ah,eq_self,Nat.reduceEqDiff,↓reduceIte,Nat.reduceAdd,reduceCtorEq,hT,ho,↓RF]
  exact hk
theorem Ayl {H:List Ob} {N:Nat} {o:TV} {l:List UInt8} {bad:Bool} {J:Option Nat} {id ver cp:Nat} {ws:List (List UInt8)} (hT:H[N]?=some (.obj 0 (.agg [o,tb bad]))) (hrow:Acx H o l J) (hws:H[id]?=some (.obj ver (.arr ws.length 1 (ws.map ts)))) (hne:ws≠[]) (hwn:ws.length≤1000000) (hj:(Lib.join ws [32]).length≤3000000) (hl:l.length≤100000000000) {K:TV→List Ob→Prop}
  (hk:∀ H' o' j,Acx H' o' (l++BG (Lib.join ws [32]++[10])) (some j)→H'[N]?=some (.obj 0 (.agg [o',tb bad]))→(∀ i,i<H.length→i≠N→J≠some i→H'[i]?=H[i]?)→H.length≤H'.length→(J=some j∨H.length≤j)→K (.tup []) H') :
  Am Tryz.prog 29 [.op N 0 [],.os 1 id ver [] 0 ws.length cp] H K:=by
 refine Aaz (by simp) ?_
 have hwt:(ws.map ts).take ws.length=ws.map ts:=List.take_of_length_le (by simp)
 have htup:=hrow.tup
 have how:AL o=1∧WE o=false:=by
  cases J with
  | none=>obtain ⟨rfl,_⟩:=hrow; exact ⟨rfl,rfl⟩
  | some j=>obtain ⟨v,rfl,_⟩:=hrow; exact ⟨rfl,rfl⟩
 obtain ⟨o1,o2⟩:=how
 have hjl:(Lib.join ws [32]++[(10:UInt8)]).length≤4000000:=by simp; omega
 have hcat:Fe 9 BinOp.add (.string (str (Lib.join ws [32]))) (.string (str [10]))=some (.string (str (Lib.join ws [32]++[10]))):=AdG (by simp; omega)
 simp -dsimp (disch:=first | assumption | omega | (simp only [Ae];try omega)) only [↓Ai,Ad,Ag,Ah,eq_self,Nat.reduceEqDiff,Nat.reduceMod,↓reduceIte,Nat.reduceAdd,reduceCtorEq,hT,o1,o2,↓AbT]
 refine Am.callsP ((AwL ws hne (by omega) hwn).lends (args':=[.sl 1 (ws.map ts),ts [32]]) (by simp -dsimp (disch:=first | assumption | omega | (simp only [Ae];try omega)) only [Ag,Ah,eq_self,↓reduceIte,hws,hwt]) fun r hr=>⟨by rw [hr]; rfl,?_,?_⟩)
 case refine_2=>exact Ajv (id:=N) (ver:=0) (p:=[(0,0)]) (by simp [get]) rfl Adw
 subst hr
 generalize Lib.join ws [32]++[(10:UInt8)]=x at *
 have hx9:x.length≤9223372036854775807:=by omega
 simp -dsimp (disch:=first | assumption | omega | (simp only [Ae];try omega)) only [↓Ai,Ad,Ag,Ah,eq_self,Nat.reduceEqDiff,↓reduceIte,reduceCtorEq,htup,hcat,AU]
 have hNl:N<H.length:=(List.getElem?_eq_some_iff.1 hT).1
 have hJN:J≠some N:=by
  rintro rfl
  obtain ⟨v,_,h⟩:=hrow
  rw [hT] at h
  cases h
 have hJl:∀ j,J=some j→j<H.length:=by
  rintro j rfl
  obtain ⟨v,_,h⟩:=hrow
  exact (List.getElem?_eq_some_iff.1 h).1
 have hrow':∀ T:List Ob,Acx (H++T) o l J:=fun T=>by
  cases J with
  | none=>exact hrow
  | some j =>
   obtain ⟨v,h1,h2⟩:=hrow
   exact ⟨v,h1,by rw [List.getElem?_append_left (hJl j rfl)]; exact h2⟩
 refine Am.callsP (Am.mono (Aou (J:=J) (line:=x) (hrow' _) (by simp) (fun e=>Nat.lt_irrefl _ (hJl _ e)) hl (by omega)) ?_)
 rintro y H2 ⟨j,k1,k2,k3⟩
 have hTn:H2[N]?=some (.obj 0 (.agg [o,tb bad])):=by
  rw [k2.2 N (by simp; omega) hJN,List.getElem?_append_left hNl]; exact hT
 have h2l:H.length+1≤H2.length:=by have:=k2.1; simpa using this
 have hjN:j≠N:=by
  rcases k3 with h | h
  ·rintro rfl; exact hJN h
  ·simp at h; omega
 have hyw:AL y=1∧WE y=false∧CJ y=false∧lays y=true:=by
  obtain ⟨v,rfl,_⟩:=k1; exact ⟨rfl,rfl,rfl,rfl⟩
 obtain ⟨y1,y2,y3,y4⟩:=hyw
 refine ⟨?_,?_⟩
 ·simp -dsimp (disch:=first | assumption | omega | (simp only [Ae];try omega)) only [↓Ai,Ad,Ag,Ah,eq_self,Nat.reduceEqDiff,↓reduceIte,reduceCtorEq,hTn,y1,y4,o1]
  refine ⟨hk _ y j ?_ (List.getElem?_set_self (by omega)) (fun i hi hiN hJi => ?_) (by rw [List.length_set]; omega) ?_,Adw⟩
  ·obtain ⟨v,hy,hj2⟩:=k1
   exact ⟨v,hy,by rw [List.getElem?_set_ne (Ne.symm hjN)]; exact hj2⟩
  ·rw [List.getElem?_set_ne (Ne.symm hiN),k2.2 i (by simp; omega) hJi,List.getElem?_append_left hi]
  ·rcases k3 with h | h
   ·exact .inl h
   ·simp at h; exact .inr (by omega)
 ·refine Ajv (id:=N) (ver:=0) (p:=[(0,0)]) (by simp [get]) ?_ Adw
  rw [hTn,List.getElem?_append_left hNl,hT]
end
section
open Go.RowKit
variable [AP]
theorem AtQ {H:List Ob} {N:Nat} {o:TV} {bad:Bool} {K:TV→List Ob→Prop} (hT:H[N]?=some (.obj 0 (.agg [o,tb bad]))) (ho:AL o=1) (hag:WE o=false) (htu:CJ o=false)
  (hk:K (.tup (if bad then [UY,eno 111] else [o,.val .nilIface])) H) :
  Am Tryz.prog 32 [.op N 0 []] H K:=by
 refine ZM (by simp) ?_
 cases bad with
 | true =>
  simp -dsimp (disch:=first | assumption | omega | (simp only [Ae];try omega)) only [↓Ai,Ad,Ag,Ah,eq_self,Nat.reduceEqDiff,↓reduceIte,Nat.reduceAdd,reduceCtorEq,hT,ho,↓SV]
  exact hk
 | false =>
  simp -dsimp (disch:=first | assumption | omega | (simp only [Ae];try omega)) only [↓Ai,Ad,Ag,Ah,eq_self,Nat.reduceEqDiff,↓reduceIte,Nat.reduceAdd,reduceCtorEq,hT,ho,hag,htu,↓SV]
  exact hk
theorem Ao8 {H:List Ob} {N:Nat} {o:TV} {l:List UInt8} {bad:Bool} {J:Option Nat} (hT:H[N]?=some (.obj 0 (.agg [o,tb bad]))) (hrow:Acx H o l J) (hl:l.length≤100000000000) {K:TV→List Ob→Prop}
  (hk:∀ H' o' j,Acx H' o' (l++Rj) (some j)→H'[N]?=some (.obj 0 (.agg [o',tb bad]))→(∀ i,i<H.length→i≠N→J≠some i→H'[i]?=H[i]?)→H.length≤H'.length→(J=some j∨H.length≤j)→K (.tup []) H') :
  Am Tryz.prog 31 [.op N 0 []] H K:=by
 refine Ym (by simp) ?_
 have hNl:N<H.length:=(List.getElem?_eq_some_iff.1 hT).1
 have z4:Rj.length=4:=rfl
 cases J with
 | none =>
  obtain ⟨rfl,rfl⟩:=hrow
  have hA:∀ T:List Ob,(H++T)[N]?=some (.obj 0 (.agg [UY,tb bad])):=fun T=>by rw [List.getElem?_append_left hNl]; exact hT
  simp -dsimp (disch:=first | assumption | omega | (simp only [Ae];try omega)) only [↓Ai,Ad,Ag,Ah,eq_self,Nat.reduceEqDiff,↓reduceIte,reduceCtorEq,Nat.reduceLeDiff,hT,hA,bl4,z4,↓Qh]
  refine hk _ _ H.length ⟨1,rfl,?_⟩ ?_ (fun i hi hiN _ => ?_) (by simp) (.inr (Nat.le_refl _))
  ·rw [List.getElem?_append_right (by simp)]; simp [z4]
  ·rw [List.getElem?_append_left (by simpa using hNl),List.getElem?_set_self hNl]; rfl
  ·rw [List.getElem?_append_left (by simpa using hi),List.getElem?_set_ne (Ne.symm hiN)]
 | some j =>
  obtain ⟨v,rfl,hj⟩:=hrow
  have hjN:j≠N:=by rintro rfl; rw [hT] at hj; cases hj
  have hjl:j<H.length:=(List.getElem?_eq_some_iff.1 hj).1
  have hS:∀ o:Ob,(H.set j o)[N]?=some (.obj 0 (.agg [.os 1 j v [] 0 l.length l.length,tb bad])):=fun o=>by rw [List.getElem?_set_ne hjN]; exact hT
  have hlt:(l.map by8).take l.length=l.map by8:=List.take_of_length_le (by simp)
  simp -dsimp (disch:=first | assumption | omega | (simp only [Ae];try omega)) only [↓Ai,Ad,Ag,Ah,eq_self,Nat.reduceEqDiff,↓reduceIte,reduceCtorEq,Nat.reduceLeDiff,hT,hj,hS,hlt,bl4,z4,↓Qh]
  have hL:(l++Rj).length=l.length+4:=by simp [z4]
  refine hk _ _ j ⟨v+1,rfl,?_⟩ ?_ (fun i hi hiN hji => ?_) (by simp) (.inl rfl)
  ·rw [List.getElem?_set_ne (Ne.symm hjN),List.getElem?_set_self hjl,hL,List.map_append]
  ·rw [List.getElem?_set_self (by simpa using hNl),hL]
  ·rw [List.getElem?_set_ne (Ne.symm hiN),List.getElem?_set_ne (fun e=>hji (by rw [e]))]
end
section
open Go.RowKit
variable [AP]
end
section
open Go.RowKit
variable [AP]
def hv (c:UInt8):Nat:=if 48≤c.toNat∧c.toNat≤57 then c.toNat - 48 else if 97≤c.toNat∧c.toNat≤102 then c.toNat - 87 else 16
end
section
open Go.RowKit
variable [AP]
def Amk (s:List UInt8):Prop:=∀ c∈s,c≠32
theorem Ahm:∀ {s w r:List UInt8},Amk s→spl w (s++32::r)=(w++s)::spl [] r
 | [],w,r,_=>by rw [List.nil_append,spl,if_pos rfl,List.append_nil]
 | c::s,w,r,h=>by
  rw [List.cons_append,spl,if_neg (h c (by simp)),Ahm (fun x hx=>h x (by simp [hx])),List.append_assoc]; rfl
theorem Aha:∀ {s w:List UInt8},Amk s→spl w s=[w++s]
 | [],w,_=>by rw [spl,List.append_nil]
 | c::s,w,h=>by
  rw [spl,if_neg (h c (by simp)),Aha (fun x hx=>h x (by simp [hx])),List.append_assoc]; rfl
theorem QV {a b:List UInt8} {l:List (List UInt8)}:Lib.join (a::b::l) [32]=a++32::Lib.join (b::l) [32]:=by
 simp [Lib.join,List.intercalate]
theorem X4 {a:List UInt8}:Lib.join [a] [32]=a:=by simp [Lib.join,List.intercalate]
theorem Ag5:∀ {ws:List (List UInt8)},ws≠[]→(∀ w∈ws,Amk w)→spl [] (Lib.join ws [32])=ws
 | [],h,_=>absurd rfl h
 | [a],_,h=>by rw [X4,Aha (h a (by simp)),List.nil_append]
 | a::b::l,_,h=>by
  rw [QV,Ahm (h a (by simp)),Ag5 (by simp) (fun w hw=>h w (by simp [hw])),List.nil_append]
theorem Agx (s:List UInt8):FV (s++[10])=s:=by simp [FV]
def Iu (ws:List (List UInt8)):List UInt8:=Lib.join ws [32]++[10]
theorem Aib {ws:List (List UInt8)} (hne:ws≠[]) (h:∀ w∈ws,Amk w):KY (Iu ws)=ws:=by
 unfold KY Iu
 rw [Agx,Ag5 hne h]
def Ab1 (wss:List (List (List UInt8))):List UInt8:=wss.flatMap fun ws=>BG (Iu ws)
theorem Ac5 {a b:List (List (List UInt8))}:Ab1 (a++b)=Ab1 a++Ab1 b:=by simp [Ab1]
theorem Ad8 {ws:List (List UInt8)}:Ab1 [ws]=BG (Iu ws):=by simp [Ab1]
theorem AkG {wss:List (List (List UInt8))} (h:∀ ws∈wss,(Iu ws).length≤1000):AV (wss.map Iu) (Ab1 wss) :=
 ⟨fun x hx=>by obtain ⟨ws,hw,rfl⟩:=List.mem_map.1 hx; exact h ws hw,by rw [Ab1,List.flatMap_map]⟩
theorem AV.app {l m:List (List UInt8)} {a b:List UInt8} (h:AV l a) (k:AV m b):AV (l++m) (a++b) :=
 ⟨fun x hx=>(List.mem_append.1 hx).elim (h.1 x) (k.1 x),by rw [List.flatMap_append,h.2,k.2]⟩
theorem AhZ:AV [[]] Rj:=⟨by simp,rfl⟩
theorem Agi {wss:List (List (List UInt8))} (h:∀ ws∈wss,ws≠[]∧∀ w∈ws,Amk w):(wss.map Iu).map KY=wss:=by
 rw [List.map_map]
 conv=>rhs; rw [←List.map_id wss]
 exact List.map_congr_left fun ws hw=>Aib (h ws hw).1 (h ws hw).2
end
section
open Go.RowKit
variable [AP]
def TSt (N z:Nat) (H:List Ob) (l:List UInt8) (ok:Prop) (n:Nat):Prop:=∃ (o:TV) (m:List UInt8) (bad:Bool) (J:Option Nat),H[N]?=some (.obj 0 (.agg [o,tb bad]))∧Acx H o m J∧J≠some z∧(bad=false↔ok)∧(ok→m=l)∧m.length≤n∧z≤N
theorem TSt.iff {N z:Nat} {H:List Ob} {l:List UInt8} {ok ok':Prop} {n:Nat} (h:TSt N z H l ok n) (e:ok↔ok'):TSt N z H l ok' n:=by
 obtain ⟨o,m,bad,J,h1,h2,h3,h4,h5,h6,h7⟩:=h
 exact ⟨o,m,bad,J,h1,h2,h3,h4.trans e,fun k=>h5 (e.2 k),h6,h7⟩
theorem TSt.le {N z:Nat} {H:List Ob} {l:List UInt8} {ok:Prop} {n n':Nat} (h:TSt N z H l ok n) (e:n≤n'):TSt N z H l ok n':=by
 obtain ⟨o,m,bad,J,h1,h2,h3,h4,h5,h6,h7⟩:=h
 exact ⟨o,m,bad,J,h1,h2,h3,h4,h5,by omega,h7⟩
theorem Acx.lt {H:List Ob} {o:TV} {l:List UInt8} {j:Nat} (h:Acx H o l (some j)):j<H.length:=by
 obtain ⟨v,_,h⟩:=h
 exact (List.getElem?_eq_some_iff.1 h).1
theorem Acx.same {H H':List Ob} {o:TV} {l:List UInt8} {J:Option Nat} (h:Acx H o l J) (k:∀ j,J=some j→H'[j]?=H[j]?):Acx H' o l J:=by
 cases J with
 | none=>exact h
 | some j =>
  obtain ⟨v,h1,h2⟩:=h
  exact ⟨v,h1,by rw [k j rfl]; exact h2⟩
theorem TSt.lt {N z:Nat} {H:List Ob} {l:List UInt8} {ok:Prop} {n:Nat} (h:TSt N z H l ok n):N<H.length:=by
 obtain ⟨o,m,bad,J,h1,_⟩:=h
 exact (List.getElem?_eq_some_iff.1 h1).1
theorem TSt.grow {N z:Nat} {H:List Ob} {l:List UInt8} {ok:Prop} {n:Nat} (h:TSt N z H l ok n) (T:List Ob):TSt N z (H++T) l ok n:=by
 have hl:=h.lt
 obtain ⟨o,m,bad,J,h1,h2,h3,h4,h5,h6,h7⟩:=h
 refine ⟨o,m,bad,J,by rw [List.getElem?_append_left hl]; exact h1,h2.same fun j e => ?_,h3,h4,h5,h6,h7⟩
 subst e
 exact List.getElem?_append_left h2.lt
theorem Acx.one {H:List Ob} {o:TV} {l:List UInt8} {J:Option Nat} (h:Acx H o l J):AL o=1∧WE o=false∧CJ o=false:=by
 cases J with
 | none=>obtain ⟨rfl,_⟩:=h; exact ⟨rfl,rfl,rfl⟩
 | some j=>obtain ⟨v,rfl,_⟩:=h; exact ⟨rfl,rfl,rfl⟩
theorem TSt.new {N z:Nat} {H:List Ob} (h:H[N]?=some (.obj 0 (.agg [UY,tb false]))) (hz:z≤N):TSt N z H [] True 0:=⟨UY,[],false,none,h,⟨rfl,rfl⟩,by simp,by simp,fun _=>rfl,by simp,hz⟩
theorem AuC {N z:Nat} {H:List Ob} {l:List UInt8} {ok:Prop} {n:Nat} {b:Bool} {K:TV→List Ob→Prop} (h:TSt N z H l ok n) (hk:∀ H',TSt N z H' l (ok∧b=true) n→(∀ i,i≠N→H'[i]?=H[i]?)→H'.length=H.length→K (.tup []) H') :
  Am Tryz.prog 27 [.op N 0 [],tb b] H K:=by
 have hl:=h.lt
 obtain ⟨o,m,bad,J,h1,h2,h3,h4,h5,h6,h7⟩:=h
 have hJ1:J≠some N:=by rintro rfl; obtain ⟨v,_,h⟩:=h2; rw [h1] at h; cases h
 refine ArR h1 h2.one.1 (hk _ ⟨o,m,_,J,List.getElem?_set_self hl,h2.same fun j e=>List.getElem?_set_ne (fun k=>hJ1 (by rw [e,k])),h3,?_,fun k=>h5 k.1,h6,h7⟩ (fun i hi=>List.getElem?_set_ne (Ne.symm hi)) (by simp))
 cases bad<;>cases b<;>simp_all
theorem AxS {N z:Nat} {H:List Ob} {l:List UInt8} {ok:Prop} {n id ver cp:Nat} {ws:List (List UInt8)} {K:TV→List Ob→Prop} (h:TSt N z H l ok n) (hws:H[id]?=some (.obj ver (.arr ws.length 1 (ws.map ts)))) (hne:ws≠[]) (hwn:ws.length≤1000000) (hj:(Lib.join ws [32]).length≤3000000) (hn:n≤100000000000)
  (hk:∀ H',TSt N z H' (l++BG (Iu ws)) ok (n+3000015)→(z<N→H'[z]?=H[z]?)→H.length≤H'.length→K (.tup []) H') :
  Am Tryz.prog 29 [.op N 0 [],.os 1 id ver [] 0 ws.length cp] H K:=by
 have hl:=h.lt
 obtain ⟨o,m,bad,J,h1,h2,h3,h4,h5,h6,h7⟩:=h
 refine Ayl h1 h2 hws hne hwn hj (by omega) fun H' o' j k1 k2 k3 k4 k5=>hk H' ⟨o',_,bad,some j,k2,k1,?_,h4,fun k=>by rw [h5 k]; rfl,?_,h7⟩ (fun hz=>k3 z (by omega) (by omega) h3) k4
 ·rintro e
  rw [Option.some.inj e] at k5
  rcases k5 with e | e
  ·exact h3 e
  ·omega
 ·rw [List.length_append,Ip,List.length_append,List.length_singleton]; omega
theorem AuP {N z:Nat} {H:List Ob} {l:List UInt8} {ok:Prop} {n:Nat} {K:TV→List Ob→Prop} (h:TSt N z H l ok n) (hn:n≤100000000000)
  (hk:∀ H',TSt N z H' (l++Rj) ok (n+4)→(z<N→H'[z]?=H[z]?)→H.length≤H'.length→K (.tup []) H') :
  Am Tryz.prog 31 [.op N 0 []] H K:=by
 have hl:=h.lt
 obtain ⟨o,m,bad,J,h1,h2,h3,h4,h5,h6,h7⟩:=h
 refine Ao8 h1 h2 (by omega) fun H' o' j k1 k2 k3 k4 k5=>hk H' ⟨o',_,bad,some j,k2,k1,?_,h4,fun k=>by rw [h5 k],?_,h7⟩ (fun hz=>k3 z (by omega) (by omega) h3) k4
 ·rintro e
  rw [Option.some.inj e] at k5
  rcases k5 with e | e
  ·exact h3 e
  ·omega
 ·rw [List.length_append]; show m.length+4≤n+4; omega
def Ats (H:List Ob) (l:List UInt8) (ok:Prop) (x y:TV):Prop:=(ok∧(∃ j v,x = .os 1 j v [] 0 l.length l.length∧H[j]?=some (.obj v (.arr l.length 1 (l.map by8))))∧y = .val .nilIface)∨(¬ ok∧x=UY∧y=eno 111)
theorem Aw4 {N z:Nat} {H:List Ob} {l:List UInt8} {ok:Prop} {n:Nat} {K:TV→List Ob→Prop} (h:TSt N z H l ok n) (hl:l≠[])
  (hk:∀ x y,Ats H l ok x y→K (.tup [x,y]) H) :
  Am Tryz.prog 32 [.op N 0 []] H K:=by
 obtain ⟨o,m,bad,J,h1,h2,h3,h4,h5,h6,h7⟩:=h
 have:=h2.one
 refine AtQ h1 this.1 this.2.1 this.2.2 ?_
 cases bad with
 | true=>exact hk _ _ (.inr ⟨(fun k=>Bool.noConfusion (h4.2 k)),rfl,rfl⟩)
 | false =>
  have hok:=h4.1 rfl
  obtain rfl:=h5 hok
  cases J with
  | none=>exact absurd h2.2 hl
  | some j =>
   obtain ⟨v,rfl,hj⟩:=h2
   exact hk _ _ (.inl ⟨hok,⟨j,v,rfl,hj⟩,rfl⟩)
end
section
variable [AP]
set_option maxRecDepth 100000
def Og:Af := .seq (.ops [po_ 4 (.mov (.c .nilFunc))] [0,1])
 (.seq (.ops [mv_ 5 0,mv_ 6 1,so_ 7 (.call 102 [.t 5,.t 6,.c (.int .i64 ((0:Nat):Int))]),mv_ 4 7] [4])
 (.ret))
def Oz:List VR:=[.tmp 4]
theorem XH:Tryz.f76.body.bind (trC Tryz.prog Tryz.f76.ntmps)=some (er Og):=by kernel_rfl
theorem YD:trR Tryz.prog Tryz.f76.results.toList=some Oz:=by kernel_rfl
def Vm:=Ac Og.eq_1
theorem VF {K:TV→Prop} {e:Env} {H:List Ob}:res Oz e H K=res [.tmp 4] e H K:=Aa rfl
def OA:=(aI_ @Vm @VF)
def Wx:=Dj 8 Tryz.func76 XH YD rfl
def Ov:Af := .seq (.ops [so_ 3 (.box (.t 0)),so_ 4 (.box (.t 1)),so_ 5 (.box (.t 2)),po_ 6 (.mov (.c .nilFunc))] [3,4,5])
 (.seq (.ops [po_ 7 (.mkf (.func 117) [] [.t 4,.t 3,.t 5]),mv_ 6 7] [6])
 (.ret))
def Ot:List VR:=[.tmp 6]
theorem Yi:Tryz.f102.body.bind (trC Tryz.prog Tryz.f102.ntmps)=some (er Ov):=by kernel_rfl
theorem YP:trR Tryz.prog Tryz.f102.results.toList=some Ot:=by kernel_rfl
def Vu:=Ac Ov.eq_1
theorem Vx {K:TV→Prop} {e:Env} {H:List Ob}:res Ot e H K=res [.tmp 6] e H K:=Aa rfl
def XT:=(aI_ @Vu @Vx)
def WM:=Dj 8 Tryz.func102 Yi YP rfl
def Hr:Af := .block 1 (.seq (.ops [po_ 16 (.load false 1 (.t 2)),so_ 17 (.call 118 [.t 16]),mv_ 15 17,po_ 18 (.ext 0 (.t 15)),po_ 19 (.ext 1 (.t 15)),mv_ 5 18,mv_ 6 19] [0,2,6])
 (.seq (.seq (.ops [mv_ 20 0,po_ 21 (.load false 1 (.t 2)),mv_ 22 6,po_ 23 (.slS (.t 21) none (some (.t 22))),so_ 24 (.callv (.t 20) [.t 23]),po_ 25 (.un .not (.t 24))] [0,2,6,25])
 (.cond (.t 25)
 (.ret)
 (.skip)))
 (.ops [po_ 26 (.load false 1 (.t 2)),mv_ 27 6,po_ 28 (.slS (.t 26) (some (.t 27)) none),⟨none,.s (.store 1 (.t 2) (.t 28)),none⟩] [0,2])))
def Hg:Af := .seq (.seq (.ops [po_ 12 (.load false 1 (.t 2)),po_ 13 (.lenS (.t 12)),po_ 14 (.bin 3 .gtr (.t 13) (ci_ 0))] [0,2,14])
 (.cond (.t 14)
 (.skip)
 (.exit 0)))
 Hr
def Ht:Af := .ret
def Ig:Af := .seq (.block 0 (.loop [0,2] Hg))
 Ht
def H7:Af := .cond (.t 11)
 Ig
 (.skip)
def Io:Af := .seq (.ops [po_ 34 (.load false 1 (.t 2)),mv_ 35 7,po_ 36 (.load false 1 (.t 3)),po_ 37 (.bin 3 .add (.t 35) (.t 36)),po_ 38 (.slS (.t 34) none (some (.t 37))),mv_ 8 38] [0,1,2,3,7,8])
 (.seq (.seq (.ops [mv_ 39 0,mv_ 40 8,so_ 41 (.callv (.t 39) [.t 40]),po_ 42 (.un .not (.t 41))] [0,1,2,3,7,42])
 (.cond (.t 42)
 (.ret)
 (.skip)))
 (.ops [po_ 43 (.load false 1 (.t 2)),mv_ 44 7,po_ 45 (.load false 1 (.t 1)),po_ 46 (.lenS (.t 45)),po_ 47 (.bin 3 .add (.t 44) (.t 46)),po_ 48 (.slS (.t 43) (some (.t 47)) none),⟨none,.s (.store 1 (.t 2) (.t 48)),none⟩] [0,1,2,3]))
def HY:Af := .seq (.seq (.ops [mv_ 32 7,po_ 33 (.bin 3 .lss (.t 32) (ci_ 0))] [0,1,2,3,7,33])
 (.cond (.t 33)
 (.exit 2)
 (.skip)))
 Io
def Hm:Af := .block 3 (.seq (.ops [po_ 29 (.load false 1 (.t 2)),po_ 30 (.load false 1 (.t 1)),so_ 31 (.call 99 [.t 29,.t 30]),mv_ 7 31] [0,1,2,3,7])
 HY)
def Hz:Af := .ops [mv_ 49 0,po_ 50 (.load false 1 (.t 2)),so_ 51 (.callv (.t 49) [.t 50])] []
def Gu:Af := .seq (.block 2 (.loop [0,1,2,3] Hm))
 Hz
def MH:Af := .seq (.seq (.ops [po_ 9 (.load false 1 (.t 1)),po_ 10 (.lenS (.t 9)),po_ 11 (.bin 3 .eql (.t 10) (ci_ 0))] [0,1,2,3,11])
 H7)
 Gu
def LQ:List VR:=[]
theorem VE:Tryz.f117.body.bind (trC Tryz.prog Tryz.f117.ntmps)=some (er MH):=by kernel_rfl
theorem VI:trR Tryz.prog Tryz.f117.results.toList=some LQ:=by kernel_rfl
def O5:=Ac Hr.eq_1
def OI:=Ac Hg.eq_1
def OQ:=Ac Ht.eq_1
def OX:=Ac Ig.eq_1
def OM:=Ac H7.eq_1
def OH:=Ac Io.eq_1
def O4:=Ac HY.eq_1
def OO:=Ac Hm.eq_1
def OE:=Ac Hz.eq_1
def NU:=Ac Gu.eq_1
def TD:=Ac MH.eq_1
theorem Tu {K:TV→Prop} {e:Env} {H:List Ob}:res LQ e H K=res [] e H K:=Aa rfl
def Ce:=(aI_ (aI_ (aI_ (aI_ @O5 @OI) (aI_ @OQ @OX)) (aI_ (aI_ @OM @OH) (aI_ @O4 @OO))) (aI_ (aI_ @OE @NU) (aI_ @TD @Tu)))
def U5:=Dj 52 Tryz.func117 VE VI rfl
end
section
open Go.RowKit
variable [AP]
theorem BC.ofBelow {f:FuncId} {args:List Value} {r:Value} (h:∀ (F:Nat→Prop) w,Jp F w→Calls Tryz.prog f args.toArray w fun e w'=>e = .returned r∧Below w.heap.size w w'):BC Tryz.prog f (args.map .val) (fun x=>x = .val r):=by
 intro β F w vs hF hv
 have hvs:vs=args:=by
  clear h hF
  induction args generalizing vs with
  | nil=>rw [List.map_nil,BA.nil] at hv; exact hv
  | cons a args ih =>
   rw [List.map_cons] at hv
   obtain ⟨v,us,rfl,h1,h2⟩:=BA.cons.1 hv
   have:=Rep.val.1 (Or.inl h1:Rep _ _ _ _)
   rw [this,ih us h2]
 subst hvs
 refine (h F w hF.2).mono ?_
 rintro e w' ⟨rfl,hb⟩
 exact ⟨_,_,F,rfl,rfl,Rep.of_val,⟨hb.os,hb.tape,hb.output,hb.size,hb.block,fun _ h=>h,fun _ _ h=>h,fun b hb'=>Nat.lt_of_lt_of_le (hF.1 b hb') hb.size⟩⟩
theorem PK {B:Nat} (w:World):Below B w w:=⟨rfl,rfl,rfl,Nat.le_refl _,fun _ _=>rfl⟩
theorem Aiv (w:World) (k:Nat) (os:Array Obj):Below w.heap.size w (Sort.grow (w.drewN k) os):=⟨rfl,rfl,rfl,by simp [Sort.grow,World.drewN],fun i hi=>by simp [Sort.grow,World.drewN,Array.getElem?_append_left hi]⟩
theorem AoK (l:List UInt8):(str l).data.toList=l:=by simp [str]
theorem Qd (s p:List UInt8) (hs:s.length≤9223372036854775807):BC Tryz.prog 71 [ts s,ts p] (fun x=>x=tb (Lib.hasSuffix s p)):=by
 have h:=BC.ofBelow (f:=71) (args:=[.string (str s),.string (str p)]) (r := .bool (Lib.hasSuffix s p)) (fun F w _=>by
  have h1:=Tryz.strings_HasSuffix (str s) (str p) w (by simpa [str,ByteArray.size] using hs)
  rw [AoK,AoK] at h1
  refine h1.mono ?_
  rintro e w' ⟨rfl,rfl⟩
  exact ⟨rfl,PK _⟩)
 exact h
section
variable [Aq]
theorem AjT {F:Nat→Prop} {w:World} (h:Jp F w):Lib.TabIs Tryz.prog w "internal/strconv.uint64pow10" .u64 Lib.pow10Tab:=by
 obtain ⟨_,t,fr,h1⟩:=h 2 _ Aq.k
 have h2:Tryz.prog.globalNamed "internal/strconv.uint64pow10" = some 2:=by kernel_rfl
 have h3:AO.cells.toArray=(Lib.pow10Tab.map fun z=>Value.int .u64 z).toArray:=by kernel_rfl
 unfold Lib.TabIs World.var?
 rw [h2,Option.bind_some,h1,h3]
theorem Axl (n:Int) (h0 : -9223372036854775808≤n) (h1:n≤9223372036854775807):BC Tryz.prog 50 [i64 n] (fun x=>x=ts (Lib.itoa n)):=by
 have h:=BC.ofBelow (f:=50) (args:=[.int .i64 n]) (r := .string (str (Lib.itoa n))) (fun F w hg=>by
  refine (Tryz.strconv_Itoa n h0 h1 w (AjT hg)).mono ?_
  rintro e w' ⟨rfl,k,os,rfl⟩
  exact ⟨rfl,Aiv _ _ _⟩)
 exact h
end
end
section
open Go.RowKit
variable [AP]
def CU (c:UInt8):List UInt8→List (List UInt8)
 | []=>[[]]
 | b::l=>if b=c then []::CU c l else match CU c l with
  | []=>[[b]]
  | p::ps=>(b::p)::ps
theorem Aa7 (c:UInt8):∀ l:List UInt8,(Lib.indexByte l c = -1∧c∉l∧CU c l=[l])∨∃ k:Nat,Lib.indexByte l c=(k:Int)∧k<l.length∧l[k]?=some c∧c∉l.take k∧CU c l=l.take k::CU c (l.drop (k+1))
 | [] => .inl ⟨rfl,by simp,rfl⟩
 | b::l=>by
  by_cases h:b=c
  ·subst h
   refine .inr ⟨0,by simp [Lib.indexByte],by simp,rfl,by simp,by simp [CU]⟩
  ·rcases Aa7 c l with ⟨h1,h2,h3⟩ | ⟨k,h1,h2,h3,h4,h5⟩
   ·refine .inl ⟨by simp [Lib.indexByte,h,h1],by simp [h2,Ne.symm h],by rw [CU,if_neg h,h3]⟩
   ·refine .inr ⟨k+1,?_,by simp; omega,by simpa using h3,by simp [h4,Ne.symm h],by rw [CU,if_neg h,h5]; simp⟩
    have:¬ ((k:Int) = -1):=by omega
    simp [Lib.indexByte,h,h1,this]
theorem AkZ (s:List UInt8) (c:UInt8):BC Tryz.prog 99 [ts s,ts [c]] (fun x=>x=i64 (Lib.indexByte s c)):=by
 have h:=BC.ofBelow (f:=99) (args:=[.string (str s),.string (str [c])]) (r := .int .i64 (Lib.indexByte s c)) (fun F w _=>by
  have h1:=Tryz.strings_Index_one (str s) c w
  rw [AoK] at h1
  refine h1.mono ?_
  rintro e w' ⟨rfl,rfl⟩
  exact ⟨rfl,PK _⟩)
 exact h
theorem Aie {c:UInt8} {I:List UInt8→List Ob→Prop} {J E:List Ob→Prop} {id sp sid sv L:Nat} {r0:List UInt8} {H0:List Ob}
  (hI:∀ r H,I r H→L≤H.length∧r.length≤9223372036854775800∧H[sid]?=some (.obj 0 (ts r))∧H[sp]?=some (.obj 0 (ts [c]))∧H[sv]?=some (.obj 0 (i64 ((0:Nat):Int))))
  (hy:∀ r H k,I r H→k<r.length→CU c r=r.take k::CU c (r.drop (k+1))→Sl Tryz.prog id 0 [ts (r.take k)] H (fun y H'=>(y = .val (.bool true)∧H'[sid]?=some (.obj 0 (ts r))∧H'[sp]?=some (.obj 0 (ts [c]))∧I (r.drop (k+1)) (H'.set sid (.obj 0 (ts (r.drop (k+1))))))∨(y = .val (.bool false)∧J H')))
  (hend:∀ r H,I r H→CU c r=[r]→Sl Tryz.prog id 0 [ts r] H (fun y H'=>E H'))
  (h0:I r0 H0) (hL:H0.length=L):Am Tryz.prog 117 [.yl id 0,.op sp 0 [],.op sid 0 [],.op sv 0 []] H0 (fun _ H'=>E H'∨J H'):=by
 refine U5 (by simp) ?_
 obtain ⟨_,_,_,q2,_⟩:=hI r0 H0 h0
 simp -dsimp (disch:=first | assumption | omega) only [↓Ai,Ad,Ag,Ah,eq_self,Nat.reduceEqDiff,↓reduceIte,Nat.reduceAdd,reduceCtorEq,↓Ce,q2,AU]
 refine Fp (fun m e H=>∃ r,m=r.length∧e=[(0,.yl id 0),(1,.op sp 0 []),(2,.op sid 0 []),(3,.op sv 0 [])]∧I r H) r0.length ?_ ?_
 ·exact ⟨r0,rfl,rfl,h0⟩
 ·rintro n e H ⟨r,rfl,rfl,hr⟩
  obtain ⟨h1,h2,h3,h4,h5⟩:=hI r H hr
  simp -dsimp (disch:=first | assumption | omega) only [↓Ai,Ad,Ag,Ah,eq_self,Nat.reduceEqDiff,↓reduceIte,reduceCtorEq,↓Ce,h3,h4]
  refine (AkZ r c).calls rfl ?_
  rintro _ rfl
  rcases Aa7 c r with ⟨k1,k2,k3⟩ | ⟨k,k1,k2,k3,k4,k5⟩
  ·rw [k1]
   simp -dsimp (disch:=first | assumption | omega) only [↓Ai,Ad,Ag,Ah,eq_self,Nat.reduceEqDiff,↓reduceIte,reduceCtorEq,↓Ce,h3]
   refine Sl.mono (hend r H hr k3) ?_
   rintro y H' hE
   simp -dsimp (disch:=first | assumption | omega) only [↓Ai,Ad,Ag,↓Ce]
   exact .inl hE
  ·rw [k1]
   simp -dsimp (disch:=first | assumption | omega) only [↓Ai,Ad,Ag,Ah,eq_self,Nat.reduceEqDiff,↓reduceIte,reduceCtorEq,↓Ce,h3,h5,AU]
   refine Sl.mono (hy r H k hr k2 k5) ?_
   rintro y H' (⟨rfl,g1,g2,g3⟩ | ⟨rfl,hJ⟩)
   ·simp -dsimp (disch:=first | assumption | omega) only [↓Ai,Ad,Ag,Ah,eq_self,Nat.reduceEqDiff,↓reduceIte,reduceCtorEq,g1,g2,AU]
    exact AB (r.length - (k+1)) (by omega) (by rw [hL]; exact (hI _ _ g3).1) ⟨r.drop (k+1),by simp,rfl,g3⟩
   ·simp -dsimp (disch:=first | assumption | omega) only [↓Ai,Ad,Ag,Ah,eq_self,Nat.reduceEqDiff,↓reduceIte,reduceCtorEq,↓Ce]
    exact .inr hJ
end
section
open Go.RowKit
variable [AP]
theorem Arq (l:List UInt8):(str l).size=l.length:=by show l.toArray.size=_; simp
theorem Ao4 (l:List UInt8) (k:Nat) (c:UInt8) (hk:l[k]?=some c) (hc:c.toNat<128):(Utf8.decode (str l) k).1=c.toNat∧(Utf8.decode (str l) k).2=1:=by
 obtain ⟨hl,rfl⟩:=List.getElem?_eq_some_iff.1 hk
 have h:k<(str l).size:=by rw [Arq]; exact hl
 have e:((str l)[k]'h)=l[k]:=rfl
 have:=decode_ascii (str l) k h (by rw [e]; exact hc)
 rw [this,e]; exact ⟨rfl,rfl⟩
end
section
open Go.RowKit
variable [AP]
theorem Aoh (l:List UInt8) (k:Nat) (c:UInt8) (hk:l[k]?=some c) (hc:128≤c.toNat):128≤(Utf8.decode (str l) k).1∧(Utf8.decode (str l) k).1≤1114111∧1≤(Utf8.decode (str l) k).2:=by
 obtain ⟨hl,rfl⟩:=List.getElem?_eq_some_iff.1 hk
 have h:k<(str l).size:=by rw [Arq]; exact hl
 have e:((str l)[k]'h)=l[k]:=rfl
 obtain ⟨h1,h2⟩:=decode_high (str l) k h (by rw [e]; exact hc)
 exact ⟨h1,Lib.rune_le _ _,h2⟩
end
section
open Go.RowKit
variable [AP]
theorem AfZ {c:UInt8} {l:List UInt8} (h:c∉l):CU c l=[l]:=by
 induction l with
 | nil=>rfl
 | cons b l ih=>rw [CU,if_neg (fun e=>h (by simp [e])),ih (fun e=>h (by simp [e]))]
theorem AfO {c:UInt8} {l:List UInt8} {k:Nat} (h:l[k]?=some c) (hn:c∉l.take k):CU c l=l.take k::CU c (l.drop (k+1)):=by
 induction l generalizing k with
 | nil=>simp at h
 | cons b l ih =>
  cases k with
  | zero=>simp at h; simp [CU,h]
  | succ k =>
   rw [List.getElem?_cons_succ] at h
   rw [List.take_succ_cons] at hn
   rw [CU,if_neg (fun e=>hn (by simp [e])),ih h (fun e=>hn (by simp [e]))]; rfl
theorem Ajn (s:List UInt8) (c:UInt8) (H:List Ob):Am Tryz.prog 76 [ts s,ts [c]] H (fun x H'=>x = .fn (.func 117) [] [.op (H.length+1) 0 [],.op H.length 0 [],.op (H.length+2) 0 []]∧H'=H++[.obj 0 (ts s),.obj 0 (ts [c]),.obj 0 (i64 ((0:Nat):Int))]):=by
 refine Wx (by simp) ?_
 simp -dsimp (disch:=first | assumption | omega) only [↓Ai,Ad,Ag,Ah,eq_self,Nat.reduceEqDiff,↓reduceIte,Nat.reduceAdd,reduceCtorEq,↓OA]
 refine WM (by simp) ?_
 simp -dsimp (disch:=first | assumption | omega) only [↓Ai,Ad,Ag,Ah,eq_self,Nat.reduceEqDiff,↓reduceIte,Nat.reduceAdd,reduceCtorEq,↓XT,↓OA,List.append_assoc]
end
section
open Go.RowKit
variable [AP]
section
omit [AP]
def Aoi (a b:UInt8) (s:List UInt8):Prop:=∃ j:Nat,s[j]?=some a∧s[j+1]?=some b
theorem Ai0 {a b c:UInt8} {s:List UInt8}:Aoi a b (c::s)↔(c=a∧s[0]?=some b)∨Aoi a b s:=by
 constructor
 ·rintro ⟨j,h1,h2⟩
  cases j with
  | zero=>simp at h1 h2; exact .inl ⟨h1,by simpa using h2⟩
  | succ j=>exact .inr ⟨j,by simpa using h1,by simpa using h2⟩
 ·rintro (⟨rfl,h⟩ | ⟨j,h1,h2⟩)
  ·exact ⟨0,rfl,by simpa using h⟩
  ·exact ⟨j+1,by simpa using h1,by simpa using h2⟩
theorem Afw (a b:UInt8):∀ s:List UInt8,0≤Lib.index s [a,b]↔Aoi a b s
 | []=>by simp [Lib.index,Aoi]
 | c::l=>by
  have ih:=Afw a b l
  have hg:=Lib.index_ge l [a,b]
  rw [Ai0,←ih,Lib.index]
  have hp:([a,b].isPrefixOf (c::l))=true↔(c=a∧l[0]?=some b):=by
   cases l with
   | nil=>simp [List.isPrefixOf]
   | cons d l=>simp only [List.isPrefixOf,Bool.and_true,Bool.and_eq_true,beq_iff_eq,List.getElem?_cons_zero,Option.some.injEq]; exact ⟨fun h=>⟨h.1.symm,h.2.symm⟩,fun h=>⟨h.1.symm,h.2.symm⟩⟩
  by_cases h:([a,b].isPrefixOf (c::l))=true
  ·rw [if_pos h]; exact ⟨fun _ => .inl (hp.1 h),fun _=>Int.le_refl 0⟩
  ·rw [if_neg h]
   have h':¬ (c=a∧l[0]?=some b):=fun k=>h (hp.2 k)
   simp only [h',false_or]
   by_cases h2:(Lib.index l [a,b] == -1)=true
   ·rw [if_pos h2]
    have h3:Lib.index l [a,b] = -1:=by simpa using h2
    rw [h3]
   ·rw [if_neg h2]
    have h3:Lib.index l [a,b] ≠ -1:=fun e=>h2 (by rw [e]; rfl)
    omega
theorem OB (a b:UInt8) (s:List UInt8):Lib.contains s [a,b]=true↔Aoi a b s:=by
 unfold Lib.contains; rw [decide_eq_true_eq]; exact Afw a b s
def VK (c:UInt8):Bool:=decide (33≤c.toNat∧c.toNat≤126∧c∉[(126:UInt8),94,58,63,42,91,92])
def DI (p:List UInt8):Bool:=decide (p≠[]∧p[0]?≠some 46∧¬ (5≤p.length∧p.drop (p.length - 5)=[46,108,111,99,107]))
def Aor (s:List UInt8):Prop:=s=[72,69,65,68]∨(s.length≤60∧s.take 5=[114,101,102,115,47]∧s[s.length - 1]?≠some 46∧¬ Aoi 46 46 s∧¬ Aoi 64 123 s∧(∀ c∈s,VK c=true)∧(CU 47 s).all DI=true)
theorem Aa4 (p:List UInt8):Lib.hasSuffix p [46,108,111,99,107]=true↔(5≤p.length∧p.drop (p.length - 5)=[46,108,111,99,107]):=by
 unfold Lib.hasSuffix
 rw [List.isSuffixOf_iff_suffix]
 constructor
 ·rintro ⟨t,rfl⟩
  simp
 ·rintro ⟨h1,h2⟩
  exact ⟨p.take (p.length - 5),by rw [←h2]; exact List.take_append_drop _ _⟩
theorem AcU (p:List UInt8) (c:UInt8):Lib.hasSuffix p [c]=true↔p[p.length - 1]?=some c:=by
 unfold Lib.hasSuffix
 rw [List.isSuffixOf_iff_suffix]
 constructor
 ·rintro ⟨t,rfl⟩
  simp
 ·intro h
  obtain ⟨hl,rfl⟩:=List.getElem?_eq_some_iff.1 h
  refine ⟨p.take (p.length - 1),?_⟩
  have e:p≠[]:=by intro e; subst e; simp at hl
  have h2:p.drop (p.length - 1)=[p[p.length - 1]]:=by
   rw [List.drop_eq_getElem_cons hl,List.drop_eq_nil_of_le (by omega)]
  rw [←h2]; exact List.take_append_drop _ _
theorem Abq (p:List UInt8):Lib.hasPrefix p [114,101,102,115,47]=true↔p.take 5=[114,101,102,115,47]:=by
 unfold Lib.hasPrefix
 rw [List.isPrefixOf_iff_prefix,List.prefix_iff_eq_take]
 exact eq_comm
theorem AlM {s:List UInt8} (h:s.length<6):¬ ((s.take 5=[114,101,102,115,47])∧(CU 47 s).all DI=true):=by
 rintro ⟨h1,h2⟩
 rw [List.take_of_length_le (by omega)] at h1
 subst h1
 revert h2
 decide
end
end
section
open Go.RowKit
variable [AP]
theorem Afb {s:List UInt8} (h:Aor s):s.length≤60∧Amk s:=by
 rcases h with rfl | h
 ·exact ⟨by decide,fun c hc=>by simp at hc; rcases hc with rfl | rfl | rfl | rfl<;>decide⟩
 ·refine ⟨h.1,fun c hc e => ?_⟩
  have:=h.2.2.2.2.2.1 c hc
  subst e
  revert this; decide
abbrev Ays:=List UInt8×List UInt8
structure Ayy where
 head:List UInt8
 refs:List Ays
theorem Aba {a b:List UInt8}:Iu [a,b]=a++32::b++[10]:=by
 unfold Iu
 rw [QV,X4]
end
section
variable [AP]
set_option maxRecDepth 100000
def Tt:Af := .ops [mv_ 3 30] [2,3]
def SK:Af := .block 1 (.seq (.ops [mv_ 31 3,po_ 32 (.bin 9 .eql (.t 31) (.c (.string (str [])))),mv_ 33 32,⟨some 34,.p (.mov (.t 3)),some ⟨33,false⟩⟩,⟨some 35,.p (.idxS (.t 34) (ci_ 0)),some ⟨33,false⟩⟩,⟨some 36,.p (.bin 5 .eql (.t 35) (.c (.int .u8 ((46:Nat):Int)))),some ⟨33,false⟩⟩,po_ 37 (.pick (.t 33) (.c (.bool true)) (.t 36)),mv_ 38 37,⟨some 39,.p (.mov (.t 3)),some ⟨38,false⟩⟩,⟨some 40,.s (.call 71 [.t 39,.c (.string (str [46,108,111,99,107]))]),some ⟨38,false⟩⟩,po_ 41 (.pick (.t 38) (.c (.bool true)) (.t 40))] [2,41])
 (.cond (.t 41)
 (.seq (.ops [⟨none,.s (.store 1 (.t 2) (.c (.bool false))),none⟩] [])
  (.ret))
 (.skip)))
def Tn:Af := .block 0 (.rfunc (.t 29) [30] Tt SK)
def RX:Af := .seq (.ops [⟨none,.s (.store 1 (.t 2) (.c (.bool true))),none⟩] [2])
 (.ret)
def Sr:Af := .seq (.seq (.ops [mv_ 28 0,so_ 29 (.call 76 [.t 28,.c (.string (str [47]))])] [2,29])
 Tn)
 RX
def RJ:Af := .seq (.seq (.ops [mv_ 26 0,so_ 27 (.call 73 [.t 26,.c (.func (.func 74) #[] #[])])] [0,2,27])
 (.cond (.t 27)
 (.seq (.ops [⟨none,.s (.store 1 (.t 2) (.c (.bool false))),none⟩] [2])
  (.ret))
 (.skip)))
 Sr
def SA:Af := .seq (.seq (.ops [mv_ 6 0,po_ 7 (.lenS (.t 6)),po_ 8 (.bin 3 .gtr (.t 7) (ci_ 60)),mv_ 9 8,⟨some 10,.p (.mov (.t 0)),some ⟨9,false⟩⟩,⟨some 11,.s (.call 70 [.t 10,.c (.string (str [114,101,102,115,47]))]),some ⟨9,false⟩⟩,⟨some 12,.p (.un .not (.t 11)),some ⟨9,false⟩⟩,po_ 13 (.pick (.t 9) (.c (.bool true)) (.t 12)),mv_ 14 13,⟨some 15,.p (.mov (.t 0)),some ⟨14,false⟩⟩,⟨some 16,.s (.call 71 [.t 15,.c (.string (str [46]))]),some ⟨14,false⟩⟩,po_ 17 (.pick (.t 14) (.c (.bool true)) (.t 16)),mv_ 18 17,⟨some 19,.p (.mov (.t 0)),some ⟨18,false⟩⟩,⟨some 20,.s (.call 72 [.t 19,.c (.string (str [46,46]))]),some ⟨18,false⟩⟩,po_ 21 (.pick (.t 18) (.c (.bool true)) (.t 20)),mv_ 22 21,⟨some 23,.p (.mov (.t 0)),some ⟨22,false⟩⟩,⟨some 24,.s (.call 72 [.t 23,.c (.string (str [64,123]))]),some ⟨22,false⟩⟩,po_ 25 (.pick (.t 22) (.c (.bool true)) (.t 24))] [0,2,25])
 (.cond (.t 25)
 (.seq (.ops [⟨none,.s (.store 1 (.t 2) (.c (.bool false))),none⟩] [2])
  (.ret))
 (.skip)))
 RJ
def RG:Af := .seq (.seq (.ops [mv_ 4 0,po_ 5 (.bin 9 .eql (.t 4) (.c (.string (str [72,69,65,68]))))] [0,2,5])
 (.cond (.t 5)
 (.seq (.ops [⟨none,.s (.store 1 (.t 2) (.c (.bool true))),none⟩] [2])
  (.ret))
 (.skip)))
 SA
def XK:Af := .seq (.ops [so_ 2 (.alloc (.val (.bool false)))] [0,2])
 RG
def Yu:List VR:=[.cell 2 false 1]
theorem Ad5:Tryz.f40.body.bind (trC Tryz.prog Tryz.f40.ntmps)=some (er XK):=by kernel_rfl
theorem Ac9:trR Tryz.prog Tryz.f40.results.toList=some Yu:=by kernel_rfl
def Xy:=Ac Tt.eq_1
def XU:=Ac SK.eq_1
def Yv:=Ac Tn.eq_1
def XV:=Ac RX.eq_1
def YB:=Ac Sr.eq_1
def YG:=Ac RJ.eq_1
def YI:=Ac SA.eq_1
def Yk:=Ac RG.eq_1
def Aa5:=Ac XK.eq_1
theorem Abh {K:TV→Prop} {e:Env} {H:List Ob}:res Yu e H K=res [.cell 2 false 1] e H K:=Aa rfl
def AC:=(aI_ (aI_ (aI_ (aI_ @Xy @XU) (aI_ @Yv @XV)) (aI_ (aI_ @YB @YG) (aI_ @YI @Yk))) (aI_ @Aa5 @Abh))
def Aca:=Dj 42 Tryz.func40 Ad5 Ac9 rfl
def UR:Af := .seq (.ops [po_ 2 (.mov (.c (.bool false)))] [0])
 (.seq (.ops [mv_ 3 0,po_ 4 (.bin 21 .lss (.t 3) (.c (.int .i32 ((33:Nat):Int)))),mv_ 5 4,⟨some 6,.p (.mov (.t 0)),some ⟨5,false⟩⟩,⟨some 7,.p (.bin 21 .gtr (.t 6) (.c (.int .i32 ((126:Nat):Int)))),some ⟨5,false⟩⟩,po_ 8 (.pick (.t 5) (.c (.bool true)) (.t 7)),mv_ 9 8,⟨some 10,.p (.mov (.t 0)),some ⟨9,false⟩⟩,⟨some 11,.s (.call 75 [.c (.string (str [126,94,58,63,42,91,92])),.t 10]),some ⟨9,false⟩⟩,po_ 12 (.pick (.t 9) (.c (.bool true)) (.t 11)),mv_ 2 12] [2])
 (.ret))
def Ue:List VR:=[.tmp 2]
theorem Abr:Tryz.f74.body.bind (trC Tryz.prog Tryz.f74.ntmps)=some (er UR):=by kernel_rfl
theorem Aa3:trR Tryz.prog Tryz.f74.results.toList=some Ue:=by kernel_rfl
def ZN:=Ac UR.eq_1
theorem Zv {K:TV→Prop} {e:Env} {H:List Ob}:res Ue e H K=res [.tmp 2] e H K:=Aa rfl
def Hw:=(aI_ @ZN @Zv)
def AaB:=Dj 13 Tryz.func74 Abr Aa3 rfl
def RI:Af := .seq (.seq (.ops [mv_ 47 6,po_ 48 (.bin 3 .eql (.t 47) (ci_ 0)),mv_ 49 48,⟨some 50,.p (.mov (.t 0)),some ⟨49,false⟩⟩,⟨some 51,.p (.mov (.t 4)),some ⟨49,false⟩⟩,⟨some 52,.p (.idxS (.t 50) (.t 51)),some ⟨49,false⟩⟩,⟨some 53,.p (.bin 5 .eql (.t 52) (.c (.int .u8 ((46:Nat):Int)))),some ⟨49,false⟩⟩,po_ 54 (.pick (.t 49) (.c (.bool true)) (.t 53)),mv_ 55 54,⟨some 56,.p (.mov (.t 6)),some ⟨55,false⟩⟩,⟨some 57,.p (.bin 3 .geq (.t 56) (ci_ 5)),some ⟨55,false⟩⟩,⟨some 58,.p (.mov (.t 57)),some ⟨55,false⟩⟩,⟨some 59,.p (.mov (.t 0)),some ⟨58,true⟩⟩,⟨some 60,.p (.mov (.t 5)),some ⟨58,true⟩⟩,⟨some 61,.p (.bin 3 .sub (.t 60) (ci_ 5)),some ⟨58,true⟩⟩,⟨some 62,.p (.mov (.t 5)),some ⟨58,true⟩⟩,⟨some 63,.p (.slS (.t 59) (some (.t 61)) (some (.t 62))),some ⟨58,true⟩⟩,⟨some 64,.p (.bin 9 .eql (.t 63) (.c (.string (str [46,108,111,99,107])))),some ⟨58,true⟩⟩,⟨some 65,.p (.pick (.t 58) (.t 64) (.c (.bool false))),some ⟨55,false⟩⟩,po_ 66 (.pick (.t 55) (.c (.bool true)) (.t 65))] [0,3,5,66])
 (.cond (.t 66)
 (.seq (.ops [po_ 2 (.mov (.c (.bool false)))] [2])
  (.ret))
 (.skip)))
 (.seq (.ops [mv_ 67 5,po_ 68 (.bin 3 .add (.t 67) (ci_ 1)),mv_ 4 68] [0,3,4,5])
 (.exit 1))
def RY:Af := .seq (.ops [mv_ 44 5,mv_ 45 4,po_ 46 (.bin 3 .sub (.t 44) (.t 45)),mv_ 6 46] [0,3,4,5,6])
 RI
def RQ:Af := .cond (.t 43)
 RY
 (.skip)
def RV:Af := .seq (.ops [mv_ 106 5,po_ 107 (.bin 3 .gtr (.t 106) (ci_ 0)),mv_ 108 107,⟨some 109,.p (.mov (.t 7)),some ⟨108,true⟩⟩,⟨some 110,.p (.bin 5 .eql (.t 109) (.c (.int .u8 ((46:Nat):Int)))),some ⟨108,true⟩⟩,⟨some 111,.p (.mov (.t 110)),some ⟨108,true⟩⟩,⟨some 112,.p (.mov (.t 0)),some ⟨111,true⟩⟩,⟨some 113,.p (.mov (.t 5)),some ⟨111,true⟩⟩,⟨some 114,.p (.bin 3 .sub (.t 113) (ci_ 1)),some ⟨111,true⟩⟩,⟨some 115,.p (.idxS (.t 112) (.t 114)),some ⟨111,true⟩⟩,⟨some 116,.p (.bin 5 .eql (.t 115) (.c (.int .u8 ((46:Nat):Int)))),some ⟨111,true⟩⟩,⟨some 117,.p (.pick (.t 111) (.t 116) (.c (.bool false))),some ⟨108,true⟩⟩,⟨some 118,.p (.mov (.t 117)),some ⟨108,true⟩⟩,⟨some 119,.p (.mov (.t 7)),some ⟨118,false⟩⟩,⟨some 120,.p (.bin 5 .eql (.t 119) (.c (.int .u8 ((123:Nat):Int)))),some ⟨118,false⟩⟩,⟨some 121,.p (.mov (.t 120)),some ⟨118,false⟩⟩,⟨some 122,.p (.mov (.t 0)),some ⟨121,true⟩⟩,⟨some 123,.p (.mov (.t 5)),some ⟨121,true⟩⟩,⟨some 124,.p (.bin 3 .sub (.t 123) (ci_ 1)),some ⟨121,true⟩⟩,⟨some 125,.p (.idxS (.t 122) (.t 124)),some ⟨121,true⟩⟩,⟨some 126,.p (.bin 5 .eql (.t 125) (.c (.int .u8 ((64:Nat):Int)))),some ⟨121,true⟩⟩,⟨some 127,.p (.pick (.t 121) (.t 126) (.c (.bool false))),some ⟨118,false⟩⟩,⟨some 128,.p (.pick (.t 118) (.c (.bool true)) (.t 127)),some ⟨108,true⟩⟩,po_ 129 (.pick (.t 108) (.t 128) (.c (.bool false)))] [0,3,4,5,129])
 (.cond (.t 129)
 (.seq (.ops [po_ 2 (.mov (.c (.bool false)))] [2])
  (.ret))
 (.skip))
def RD:Af := .seq (.seq (.ops [mv_ 72 7,po_ 73 (.bin 5 .lss (.t 72) (.c (.int .u8 ((33:Nat):Int)))),mv_ 74 73,⟨some 75,.p (.mov (.t 7)),some ⟨74,false⟩⟩,⟨some 76,.p (.bin 5 .gtr (.t 75) (.c (.int .u8 ((126:Nat):Int)))),some ⟨74,false⟩⟩,po_ 77 (.pick (.t 74) (.c (.bool true)) (.t 76)),mv_ 78 77,⟨some 79,.p (.mov (.t 7)),some ⟨78,false⟩⟩,⟨some 80,.p (.bin 5 .eql (.t 79) (.c (.int .u8 ((126:Nat):Int)))),some ⟨78,false⟩⟩,po_ 81 (.pick (.t 78) (.c (.bool true)) (.t 80)),mv_ 82 81,⟨some 83,.p (.mov (.t 7)),some ⟨82,false⟩⟩,⟨some 84,.p (.bin 5 .eql (.t 83) (.c (.int .u8 ((94:Nat):Int)))),some ⟨82,false⟩⟩,po_ 85 (.pick (.t 82) (.c (.bool true)) (.t 84)),mv_ 86 85,⟨some 87,.p (.mov (.t 7)),some ⟨86,false⟩⟩,⟨some 88,.p (.bin 5 .eql (.t 87) (.c (.int .u8 ((58:Nat):Int)))),some ⟨86,false⟩⟩,po_ 89 (.pick (.t 86) (.c (.bool true)) (.t 88)),mv_ 90 89,⟨some 91,.p (.mov (.t 7)),some ⟨90,false⟩⟩,⟨some 92,.p (.bin 5 .eql (.t 91) (.c (.int .u8 ((63:Nat):Int)))),some ⟨90,false⟩⟩,po_ 93 (.pick (.t 90) (.c (.bool true)) (.t 92)),mv_ 94 93,⟨some 95,.p (.mov (.t 7)),some ⟨94,false⟩⟩,⟨some 96,.p (.bin 5 .eql (.t 95) (.c (.int .u8 ((42:Nat):Int)))),some ⟨94,false⟩⟩,po_ 97 (.pick (.t 94) (.c (.bool true)) (.t 96)),mv_ 98 97,⟨some 99,.p (.mov (.t 7)),some ⟨98,false⟩⟩,⟨some 100,.p (.bin 5 .eql (.t 99) (.c (.int .u8 ((91:Nat):Int)))),some ⟨98,false⟩⟩,po_ 101 (.pick (.t 98) (.c (.bool true)) (.t 100)),mv_ 102 101,⟨some 103,.p (.mov (.t 7)),some ⟨102,false⟩⟩,⟨some 104,.p (.bin 5 .eql (.t 103) (.c (.int .u8 ((92:Nat):Int)))),some ⟨102,false⟩⟩,po_ 105 (.pick (.t 102) (.c (.bool true)) (.t 104))] [0,3,4,5,7,105])
 (.cond (.t 105)
 (.seq (.ops [po_ 2 (.mov (.c (.bool false)))] [2])
  (.ret))
 (.skip)))
 RV
def SS:Af := .seq (.ops [mv_ 69 0,mv_ 70 5,po_ 71 (.idxS (.t 69) (.t 70)),mv_ 7 71] [0,3,4,5,7])
 RD
def Tf:Af := .seq (.block 1 (.seq (.seq (.ops [mv_ 35 5,mv_ 36 3,po_ 37 (.bin 3 .eql (.t 35) (.t 36)),mv_ 38 37,⟨some 39,.p (.mov (.t 0)),some ⟨38,false⟩⟩,⟨some 40,.p (.mov (.t 5)),some ⟨38,false⟩⟩,⟨some 41,.p (.idxS (.t 39) (.t 40)),some ⟨38,false⟩⟩,⟨some 42,.p (.bin 5 .eql (.t 41) (.c (.int .u8 ((47:Nat):Int)))),some ⟨38,false⟩⟩,po_ 43 (.pick (.t 38) (.c (.bool true)) (.t 42))] [0,3,4,5,43])
 RQ)
 SS))
 (.ops [mv_ 33 5,po_ 34 (.bin 3 .add (.t 33) (ci_ 1)),mv_ 5 34] [0,3,4,5])
def SC:Af := .seq (.seq (.ops [mv_ 30 5,mv_ 31 3,po_ 32 (.bin 3 .leq (.t 30) (.t 31))] [0,3,4,5,32])
 (.cond (.t 32)
 (.skip)
 (.exit 0)))
 Tf
def SE:Af := .block 0 (.loop [0,3,4,5] SC)
def Po:Af := .seq (.ops [po_ 2 (.mov (.c (.bool true)))] [2])
 (.ret)
def P5:Af := .seq (.seq (.ops [po_ 5 (.mov (ci_ 0))] [0,3,4,5])
 SE)
 Po
def Qx:Af := .seq (.ops [po_ 4 (.mov (ci_ 0))] [0,3,4])
 P5
def Qr:Af := .seq (.seq (.ops [mv_ 12 3,po_ 13 (.bin 3 .gtr (.t 12) (ci_ 60)),mv_ 14 13,⟨some 15,.p (.mov (.t 3)),some ⟨14,false⟩⟩,⟨some 16,.p (.bin 3 .lss (.t 15) (ci_ 6)),some ⟨14,false⟩⟩,po_ 17 (.pick (.t 14) (.c (.bool true)) (.t 16)),mv_ 18 17,⟨some 19,.p (.mov (.t 0)),some ⟨18,false⟩⟩,⟨some 20,.p (.slS (.t 19) none (some (ci_ 5))),some ⟨18,false⟩⟩,⟨some 21,.p (.bin 9 .neq (.t 20) (.c (.string (str [114,101,102,115,47])))),some ⟨18,false⟩⟩,po_ 22 (.pick (.t 18) (.c (.bool true)) (.t 21)),mv_ 23 22,⟨some 24,.p (.mov (.t 0)),some ⟨23,false⟩⟩,⟨some 25,.p (.mov (.t 3)),some ⟨23,false⟩⟩,⟨some 26,.p (.bin 3 .sub (.t 25) (ci_ 1)),some ⟨23,false⟩⟩,⟨some 27,.p (.idxS (.t 24) (.t 26)),some ⟨23,false⟩⟩,⟨some 28,.p (.bin 5 .eql (.t 27) (.c (.int .u8 ((46:Nat):Int)))),some ⟨23,false⟩⟩,po_ 29 (.pick (.t 23) (.c (.bool true)) (.t 28))] [0,3,29])
 (.cond (.t 29)
 (.seq (.ops [po_ 2 (.mov (.c (.bool false)))] [2])
  (.ret))
 (.skip)))
 Qx
def Qi:Af := .seq (.ops [mv_ 10 0,po_ 11 (.lenS (.t 10)),mv_ 3 11] [0,3])
 Qr
def QE:Af := .seq (.seq (.ops [mv_ 8 0,po_ 9 (.bin 9 .eql (.t 8) (.c (.string (str [72,69,65,68]))))] [0,9])
 (.cond (.t 9)
 (.seq (.ops [po_ 2 (.mov (.c (.bool true)))] [2])
  (.ret))
 (.skip)))
 Qi
def Yp:Af := .seq (.ops [po_ 2 (.mov (.c (.bool false)))] [0])
 QE
def YS:List VR:=[.tmp 2]
theorem Adp:Tryz.f41.body.bind (trC Tryz.prog Tryz.f41.ntmps)=some (er Yp):=by kernel_rfl
theorem AdZ:trR Tryz.prog Tryz.f41.results.toList=some YS:=by kernel_rfl
def YK:=Ac RI.eq_1
def X8:=Ac RY.eq_1
def YR:=Ac RQ.eq_1
def YM:=Ac RV.eq_1
def Xu:=Ac RD.eq_1
def Xx:=Ac SS.eq_1
def XF:=Ac Tf.eq_1
def Xv:=Ac SC.eq_1
def X9:=Ac SE.eq_1
def Xm:=Ac Po.eq_1
def Wy:=Ac P5.eq_1
def Xd:=Ac Qx.eq_1
def WO:=Ac Qr.eq_1
def WU:=Ac Qi.eq_1
def WZ:=Ac QE.eq_1
def AbW:=Ac Yp.eq_1
theorem AbI {K:TV→Prop} {e:Env} {H:List Ob}:res YS e H K=res [.tmp 2] e H K:=Aa rfl
def Aw:=(aI_ (aI_ (aI_ (aI_ (aI_ @YK @X8) (aI_ @YR @YM)) (aI_ (aI_ @Xu @Xx) (aI_ @XF @Xv))) (aI_ (aI_ (aI_ @X9 @Xm) (aI_ @Wy @Xd)) (aI_ (aI_ @WO @WU) (aI_ @WZ @AbW)))) @AbI)
def Acp:=Dj 130 Tryz.func41 Adp AdZ rfl
def Jb:Af := .seq (.ops [po_ 4 (.mov (.c (.bool false)))] [0,1])
 (.seq (.ops [mv_ 5 0,mv_ 6 1,so_ 7 (.call 100 [.t 5,.t 6]),po_ 8 (.bin 3 .geq (.t 7) (ci_ 0)),mv_ 4 8] [4])
 (.ret))
def Jr:List VR:=[.tmp 4]
theorem TG:Tryz.f73.body.bind (trC Tryz.prog Tryz.f73.ntmps)=some (er Jb):=by kernel_rfl
theorem TC:trR Tryz.prog Tryz.f73.results.toList=some Jr:=by kernel_rfl
def PD:=Ac Jb.eq_1
theorem Qk {K:TV→Prop} {e:Env} {H:List Ob}:res Jr e H K=res [.tmp 4] e H K:=Aa rfl
def IL:=(aI_ @PD @Qk)
def Q8:=Dj 9 Tryz.func73 TG TC rfl
def MV:Af := .seq (.ops [po_ 4 (.mov (ci_ 0))] [0,1])
 (.seq (.ops [mv_ 5 0,mv_ 6 1,so_ 7 (.call 113 [.t 5,.t 6,.c (.bool true)]),mv_ 4 7] [4])
 (.ret))
def NK:List VR:=[.tmp 4]
theorem Xk:Tryz.f100.body.bind (trC Tryz.prog Tryz.f100.ntmps)=some (er MV):=by kernel_rfl
theorem Xo:trR Tryz.prog Tryz.f100.results.toList=some NK:=by kernel_rfl
def Un:=Ac MV.eq_1
theorem TQ {K:TV→Prop} {e:Env} {H:List Ob}:res NK e H K=res [.tmp 4] e H K:=Aa rfl
def Np:=(aI_ @Un @TQ)
def VH:=Dj 8 Tryz.func100 Xk Xo rfl
def Jg:Af := .seq (.ops [so_ 11 (.nxtS (.t 10)),po_ 12 (.ext 0 (.t 11))] [1,2,10,11,12])
 (.seq (.cond (.t 12)
 (.skip)
 (.exit 0))
 (.block 1 (.seq (.ops [po_ 13 (.ext 1 (.t 11)),po_ 14 (.ext 2 (.t 11)),mv_ 7 13,mv_ 8 14] [1,2,7,8,10])
 (.seq (.ops [mv_ 15 1,mv_ 16 8,so_ 17 (.callv (.t 15) [.t 16]),mv_ 18 2,po_ 19 (.eqB (.t 17) (.t 18) false)] [1,2,7,10,19])
 (.cond (.t 19)
 (.seq (.ops [mv_ 20 7,mv_ 6 20] [6])
  (.ret))
 (.skip))))))
def I8:Af := .block 0 (.loop [1,2,10] Jg)
def Jl:Af := .seq (.ops [po_ 6 (.mov (.c (.int .i64 (-1))))] [6])
 (.ret)
def IJ:Af := .seq (.seq (.ops [mv_ 9 0,so_ 10 (.rngS (.t 9))] [1,2,10])
 I8)
 Jl
def NJ:Af := .seq (.ops [po_ 6 (.mov (ci_ 0))] [0,1,2])
 IJ
def Nu:List VR:=[.tmp 6]
theorem Xg:Tryz.f113.body.bind (trC Tryz.prog Tryz.f113.ntmps)=some (er NJ):=by kernel_rfl
theorem WC:trR Tryz.prog Tryz.f113.results.toList=some Nu:=by kernel_rfl
def Qm:=Ac Jg.eq_1
def Qo:=Ac I8.eq_1
def Pj:=Ac Jl.eq_1
def Pi:=Ac IJ.eq_1
def U3:=Ac NJ.eq_1
theorem Um {K:TV→Prop} {e:Env} {H:List Ob}:res Nu e H K=res [.tmp 6] e H K:=Aa rfl
def EP:=(aI_ (aI_ (aI_ @Qm @Qo) (aI_ @Pj @Pi)) (aI_ @U3 @Um))
def Vq:=Dj 21 Tryz.func113 Xg WC rfl
end
section
open Go.RowKit
class Fa [AP]:Prop where
 k:∃ m,IM 1=some (.one (.int .i64 m))
variable [AP]
theorem Ah0 (s p:List UInt8):BC Tryz.prog 70 [ts s,ts p] (fun x=>x=tb (Lib.hasPrefix s p)):=by
 have h:=BC.ofBelow (f:=70) (args:=[.string (str s),.string (str p)]) (r := .bool (Lib.hasPrefix s p)) (fun F w _=>by
  have h1:=Tryz.strings_HasPrefix (str s) (str p) w
  rw [AoK,AoK] at h1
  refine h1.mono ?_
  rintro e w' ⟨rfl,rfl⟩
  exact ⟨rfl,PK _⟩)
 exact h
theorem Adq (s:List UInt8) (c:UInt8) (hc:c.toNat<128):BC Tryz.prog 75 [ts s,.val (.int .i32 ((c.toNat:Nat):Int))] (fun x=>x=tb (decide (c∈s))):=by
 have h:=BC.ofBelow (f:=75) (args:=[.string (str s),.int .i32 c.toNat]) (r := .bool (decide (c∈s))) (fun F w _=>by
  have h1:=Tryz.strings_ContainsRune_ascii (str s) c.toNat w (by omega) (by omega)
  have e2:((c.toNat:Int)).toNat.toUInt8=c:=by rw [Int.toNat_natCast]; simp
  have e3:decide (0≤Lib.indexByte s c)=decide (c∈s):=by
   rcases Aa7 c s with ⟨h1,h2,_⟩ | ⟨k,h1,h2,h3,_⟩
   ·rw [h1]; simp [h2]
   ·rw [h1]; simp [List.mem_of_getElem? h3]
  rw [AoK,e2,e3] at h1
  refine h1.mono ?_
  rintro e w' ⟨rfl,rfl⟩
  exact ⟨rfl,PK _⟩)
 exact h
theorem Ae6 [Fa] (s p:List UInt8) (hs:s.length≤4000000):BC Tryz.prog 72 [ts s,ts p] (fun x=>x=tb (Lib.contains s p)):=by
 have h:=BC.ofBelow (f:=72) (args:=[.string (str s),.string (str p)]) (r := .bool (Lib.contains s p)) (fun F w hg=>by
  obtain ⟨m,hm⟩:=Fa.k
  obtain ⟨_,t,fr,hh⟩:=hg _ _ hm
  have h1:=Tryz.strings_Contains (str s) (str p) m w (by rw [Arq]; omega) (by simp [World.cell?,hh,GV.cells])
  rw [AoK,AoK] at h1
  refine h1.mono ?_
  rintro e w' ⟨rfl,rfl⟩
  exact ⟨rfl,PK _⟩)
 exact h
def AoA (r:Int):Bool:=decide (r<33∨126<r∨UInt8.ofNat r.toNat∈[(126:UInt8),94,58,63,42,91,92])
theorem ArK (r:Int) (h0:0≤r) (h1:r≤1114111):BC Tryz.prog 74 [.val (.int .i32 r)] (fun x=>x=tb (AoA r)):=by
 refine Am.toPureV (AaB (by simp) ?_)
 by_cases h2:r<33
 ·simp -dsimp (disch:=first | assumption | omega) only [↓Ai,Ad,Ag,Ah,eq_self,Nat.reduceEqDiff,↓reduceIte,reduceCtorEq,↓Hw]
  simp [AoA,h2]
 by_cases h3:126<r
 ·simp -dsimp (disch:=first | assumption | omega) only [↓Ai,Ad,Ag,Ah,eq_self,Nat.reduceEqDiff,↓reduceIte,reduceCtorEq,↓Hw]
  simp [AoA,h3]
 simp -dsimp (disch:=first | assumption | omega) only [↓Ai,Ad,Ag,Ah,eq_self,Nat.reduceEqDiff,↓reduceIte,reduceCtorEq,↓Hw]
 have e:(r:Int)=(((UInt8.ofNat r.toNat).toNat:Nat):Int):=by rw [UInt8.toNat_ofNat',Nat.mod_eq_of_lt (by omega)]; omega
 rw [e]
 refine (Adq [126,94,58,63,42,91,92] (UInt8.ofNat r.toNat) (by omega)).calls rfl ?_
 rintro _ rfl
 simp -dsimp (disch:=first | assumption | omega) only [↓Ai,Ad,Ag,Ah,eq_self,Nat.reduceEqDiff,↓reduceIte,↓Hw]
 have:AoA ((UInt8.ofNat r.toNat).toNat:Int)=decide (UInt8.ofNat r.toNat∈[(126:UInt8),94,58,63,42,91,92]):=by
  rw [←e]; unfold AoA; congr 1; simp only [h2,h3,false_or]
 rw [this]
theorem Akn (c:UInt8):AoA ((c.toNat:Nat):Int) = !VK c:=by
 unfold AoA VK
 rw [Int.toNat_natCast,UInt8.ofNat_toNat,←decide_not]
 congr 1
 simp only [Decidable.not_and_iff_not_or_not,Decidable.not_not]
 apply propext
 constructor
 ·rintro (h | h | h)
  ·left; omega
  ·right; left; omega
  ·right; right; exact h
 ·rintro (h | h | h)
  ·left; omega
  ·right; left; omega
  ·right; right; exact h
theorem ArP:(false == true)=false:=rfl
theorem Aif (s:List UInt8) (hs:s.length≤1000):BC Tryz.prog 113 [ts s,.val (.func (.func 74) #[] #[]),tb true] (fun x=>∃ i:Int,x=i64 i∧(0≤i↔¬ ∀ c∈s,VK c=true)):=by
 refine Am.toPureV (Vq (by simp) ?_)
 simp -dsimp (disch:=first | assumption | omega) only [↓Ai,Ad,Ag,Ah,eq_self,Nat.reduceEqDiff,↓reduceIte,Nat.reduceAdd,reduceCtorEq,↓EP,AU]
 refine Fp (fun q e H=>∃ pos:Nat,q=s.length - pos∧(∀ j x,j<pos→s[j]?=some x→VK x=true)∧e=[(1,.val (.func (.func 74) #[] #[])),(2,tb true),(10,.op 0 0 [])]∧H=[.sit s pos]) s.length ?_ ?_
 ·exact ⟨0,rfl,fun j x h=>by omega,rfl,rfl⟩
 ·rintro q e H ⟨pos,rfl,hno,rfl,rfl⟩
  by_cases hp:pos<s.length
  ·obtain ⟨c,hc⟩:∃ c,s[pos]?=some c:=⟨_,List.getElem?_eq_getElem hp⟩
   by_cases h7:c.toNat<128
   ·obtain ⟨d1,d2⟩:=Ao4 s pos c hc h7
    simp -dsimp (disch:=first | assumption | omega) only [↓Ai,Ad,Ag,Ah,eq_self,Nat.reduceEqDiff,↓reduceIte,↓EP,d1,d2]
    refine ⟨by kernel_rfl,?_⟩
    refine (ArK ((c.toNat:Nat):Int) (by omega) (by omega)).calls rfl ?_
    rintro _ rfl
    rw [Akn]
    cases hgc:VK c with
    | false =>
     simp -dsimp (disch:=first | assumption | omega) only [↓Ai,Ad,Ag,Ah,eq_self,Nat.reduceEqDiff,↓reduceIte]
     exact ⟨_,rfl,fun _ hall=>(by rw [hall c (List.mem_of_getElem? hc)] at hgc; cases hgc),fun _=>by omega⟩
    | true =>
     simp -dsimp (disch:=first | assumption | omega) only [↓Ai,Ad,Ag,Ah,eq_self,Nat.reduceEqDiff,↓reduceIte,ArP]
     refine AB (s.length - (pos+1)) (by omega) (by simp) ⟨pos+1,rfl,fun j x hj hx => ?_,rfl,rfl⟩
     by_cases e:j=pos
     ·subst e; rw [hc] at hx; cases hx; exact hgc
     ·exact hno j x (by omega) hx
   ·obtain ⟨d1,d2,d3⟩:=Aoh s pos c hc (by omega)
    simp -dsimp (disch:=first | assumption | omega) only [↓Ai,Ad,Ag,Ah,eq_self,Nat.reduceEqDiff,↓reduceIte,↓EP]
    generalize (Utf8.decode (str s) pos).1=r at *
    generalize (Utf8.decode (str s) pos).2=k at *
    refine ⟨by kernel_rfl,?_⟩
    refine (ArK (r:Int) (by omega) (by omega)).calls rfl ?_
    rintro _ rfl
    have e:AoA (r:Int)=true:=by unfold AoA; rw [decide_eq_true_eq]; right; left; omega
    rw [e]
    simp -dsimp (disch:=first | assumption | omega) only [↓Ai,Ad,Ag,Ah,eq_self,Nat.reduceEqDiff,↓reduceIte]
    refine ⟨_,rfl,fun _ hall => ?_,fun _=>by omega⟩
    have:=hall c (List.mem_of_getElem? hc)
    unfold VK at this
    rw [decide_eq_true_eq] at this
    omega
  ·simp -dsimp (disch:=first | assumption | omega) only [↓Ai,Ad,Ag,Ah,eq_self,Nat.reduceEqDiff,↓reduceIte,↓EP]
   refine ⟨-1,rfl,fun h=>by omega,fun h=>absurd (fun c hc => ?_) h⟩
   obtain ⟨j,hj,rfl⟩:=List.mem_iff_getElem.1 hc
   exact hno j _ (by omega) (List.getElem?_eq_getElem hj)
theorem AdT (s:List UInt8) (hs:s.length≤1000):BC Tryz.prog 73 [ts s,.val (.func (.func 74) #[] #[])] (fun x=>∃ b,x=tb b∧(b=true↔¬ ∀ c∈s,VK c=true)):=by
 refine Am.toPureV (Q8 (by simp) ?_)
 simp -dsimp (disch:=first | assumption | omega) only [↓Ai,Ad,Ag,Ah,eq_self,Nat.reduceEqDiff,↓reduceIte,Nat.reduceAdd,reduceCtorEq,↓IL]
 refine VH (by simp) ?_
 simp -dsimp (disch:=first | assumption | omega) only [↓Ai,Ad,Ag,Ah,eq_self,Nat.reduceEqDiff,↓reduceIte,Nat.reduceAdd,reduceCtorEq,↓Np]
 refine (Aif s hs).calls rfl ?_
 rintro _ ⟨i,rfl,hi⟩
 simp -dsimp (disch:=first | assumption | omega) only [↓Ai,Ad,Ag,Ah,eq_self,↓reduceIte,↓Np,↓IL]
 exact ⟨_,rfl,by rw [decide_eq_true_eq]; exact hi⟩
end
section
open Go.RowKit
variable [AP]
theorem CQ {q:Prop} (h:¬ q) (b:Bool) (hb:b=false):(b=true↔q):=by subst hb; simp [h]
theorem AbK {q:Prop} (h:q) (b:Bool) (hb:b=true):(b=true↔q):=by subst hb; simp [h]
theorem AcQ (p:List UInt8):(DI p=false∧(p=[]∨∃ c l,p=c::l∧(c=46∨(c≠46∧Lib.hasSuffix p [46,108,111,99,107]=true))))∨(DI p=true∧∃ c l,p=c::l∧c≠46∧Lib.hasSuffix p [46,108,111,99,107]=false):=by
 cases p with
 | nil=>left; exact ⟨by unfold DI; simp,.inl rfl⟩
 | cons c l =>
  by_cases h1:c=46
  ·left; subst h1; exact ⟨by unfold DI; simp,.inr ⟨_,_,rfl,.inl rfl⟩⟩
  ·cases h2:Lib.hasSuffix (c::l) [46,108,111,99,107] with
   | true =>
    left
    have:=(Aa4 _).1 h2
    exact ⟨by unfold DI; rw [decide_eq_false_iff_not]; exact fun h=>h.2.2 this,.inr ⟨_,_,rfl,.inr ⟨h1,rfl⟩⟩⟩
   | false =>
    right
    have:¬ (5≤(c::l).length∧(c::l).drop ((c::l).length - 5)=[46,108,111,99,107]):=fun h=>by rw [(Aa4 _).2 h] at h2; cases h2
    exact ⟨by unfold DI; rw [decide_eq_true_eq]; exact ⟨by simp,by simpa using h1,this⟩,_,_,rfl,h1,rfl⟩
theorem AgJ [Fa] (s:List UInt8) (hs:s.length≤4000000):BC Tryz.prog 40 [ts s] (fun x=>∃ b,x=tb b∧(b=true↔Aor s)):=by
 refine Am.toPureV (Aca (by simp) ?_)
 by_cases h0:s=[72,69,65,68]
 ·subst h0
  simp -dsimp (disch:=first | assumption | omega) only [↓Ai,Ad,Ag,Ah,eq_self,Nat.reduceEqDiff,↓reduceIte,reduceCtorEq,↓AC]
  exact ⟨_,rfl,AbK (.inl rfl) _ rfl⟩
 by_cases h1:60<s.length
 ·simp -dsimp (disch:=first | assumption | omega) only [↓Ai,Ad,Ag,Ah,eq_self,Nat.reduceEqDiff,↓reduceIte,reduceCtorEq,↓AC,h0,AU]
  exact ⟨_,rfl,CQ (fun h=>h.elim h0 fun h=>by omega) _ rfl⟩
 simp -dsimp (disch:=first | assumption | omega) only [↓Ai,Ad,Ag,Ah,eq_self,Nat.reduceEqDiff,↓reduceIte,reduceCtorEq,↓AC,h0,AU]
 refine (Ah0 s _).calls rfl ?_
 rintro _ rfl
 cases h2:Lib.hasPrefix s [114,101,102,115,47] with
 | false =>
  simp -dsimp (disch:=first | assumption | omega) only [↓Ai,Ad,Ag,Ah,eq_self,Nat.reduceEqDiff,↓reduceIte,reduceCtorEq,↓AC]
  refine ⟨_,rfl,CQ (fun h=>h.elim h0 fun h => ?_) _ rfl⟩
  rw [(Abq s).2 h.2.1] at h2; cases h2
 | true =>
 have h2':=(Abq s).1 h2
 simp -dsimp (disch:=first | assumption | omega) only [↓Ai,Ad,Ag,Ah,eq_self,Nat.reduceEqDiff,↓reduceIte,reduceCtorEq]
 refine (Qd s [46] (by omega)).calls rfl ?_
 rintro _ rfl
 cases h3:Lib.hasSuffix s [46] with
 | true =>
  simp -dsimp (disch:=first | assumption | omega) only [↓Ai,Ad,Ag,Ah,eq_self,Nat.reduceEqDiff,↓reduceIte,reduceCtorEq,↓AC]
  exact ⟨_,rfl,CQ (fun h=>h.elim h0 fun h=>h.2.2.1 ((AcU s 46).1 h3)) _ rfl⟩
 | false =>
 have h3':s[s.length - 1]?≠some 46:=fun h=>by rw [(AcU s 46).2 h] at h3; cases h3
 simp -dsimp (disch:=first | assumption | omega) only [↓Ai,Ad,Ag,Ah,eq_self,Nat.reduceEqDiff,↓reduceIte,reduceCtorEq]
 refine (Ae6 s [46,46] hs).calls rfl ?_
 rintro _ rfl
 cases h4:Lib.contains s [46,46] with
 | true =>
  simp -dsimp (disch:=first | assumption | omega) only [↓Ai,Ad,Ag,Ah,eq_self,Nat.reduceEqDiff,↓reduceIte,reduceCtorEq,↓AC]
  exact ⟨_,rfl,CQ (fun h=>h.elim h0 fun h=>h.2.2.2.1 ((OB 46 46 s).1 h4)) _ rfl⟩
 | false =>
 have h4':¬ Aoi 46 46 s:=fun h=>by rw [(OB 46 46 s).2 h] at h4; cases h4
 simp -dsimp (disch:=first | assumption | omega) only [↓Ai,Ad,Ag,Ah,eq_self,Nat.reduceEqDiff,↓reduceIte,reduceCtorEq]
 refine (Ae6 s [64,123] hs).calls rfl ?_
 rintro _ rfl
 cases h5:Lib.contains s [64,123] with
 | true =>
  simp -dsimp (disch:=first | assumption | omega) only [↓Ai,Ad,Ag,Ah,eq_self,Nat.reduceEqDiff,↓reduceIte,reduceCtorEq,↓AC]
  exact ⟨_,rfl,CQ (fun h=>h.elim h0 fun h=>h.2.2.2.2.1 ((OB 64 123 s).1 h5)) _ rfl⟩
 | false =>
 have h5':¬ Aoi 64 123 s:=fun h=>by rw [(OB 64 123 s).2 h] at h5; cases h5
 simp -dsimp (disch:=first | assumption | omega) only [↓Ai,Ad,Ag,Ah,eq_self,Nat.reduceEqDiff,↓reduceIte,reduceCtorEq,↓AC]
 refine (AdT s (by omega)).calls rfl ?_
 rintro _ ⟨b,rfl,hb⟩
 cases b with
 | true =>
  simp -dsimp (disch:=first | assumption | omega) only [↓Ai,Ad,Ag,Ah,eq_self,Nat.reduceEqDiff,↓reduceIte,reduceCtorEq,↓AC]
  exact ⟨_,rfl,CQ (fun h=>h.elim h0 fun h=>hb.1 rfl h.2.2.2.2.2.1) _ rfl⟩
 | false =>
 have h6':∀ c∈s,VK c=true:=Classical.not_not.1 fun h=>by have:=hb.2 h; cases this
 simp -dsimp (disch:=first | assumption | omega) only [↓Ai,Ad,Ag,Ah,eq_self,Nat.reduceEqDiff,↓reduceIte,reduceCtorEq,↓AC]
 refine Am.mono (Ajn s 47 _) ?_
 rintro x H' ⟨rfl,rfl⟩
 have key:Aor s↔(CU 47 s).all DI=true:=⟨fun h=>h.elim (fun h=>absurd h h0) fun h=>h.2.2.2.2.2.2,fun h => .inr ⟨by omega,h2',h3',h4',h5',h6',h⟩⟩
 simp -dsimp (disch:=first | assumption | omega) only [↓Ai,Ad,Ag,Ah,eq_self,Nat.reduceEqDiff,↓reduceIte,Nat.reduceAdd,reduceCtorEq,↓AC]
 refine Arh rfl (by kernel_rfl) rfl rfl ?_
 intro N fn ca cb hc
 refine Am.mono (Aie (c:=47) (id:=4) (sp:=2) (sid:=1) (sv:=3) (L:=5) (r0:=s)
  (I:=fun r H=>(CU 47 s).all DI=(CU 47 r).all DI∧r.length≤s.length∧H=[.obj 0 (tb false),.obj 0 (ts r),.obj 0 (ts [47]),.obj 0 (i64 ((0:Nat):Int)),.lp .ready none fn N [(2,.op 0 0 []),(29,.fn (.func 117) [] [.op 2 0 [],.op 1 0 [],.op 3 0 []])] [30] ca cb])
  (J:=fun H=>(CU 47 s).all DI=false∧∃ r,H=[.obj 0 (tb false),.obj 0 (ts r),.obj 0 (ts [47]),.obj 0 (i64 ((0:Nat):Int)),.lp .done (some .ret) fn N [(2,.op 0 0 []),(29,.fn (.func 117) [] [.op 2 0 [],.op 1 0 [],.op 3 0 []])] [30] ca cb])
  (E:=fun H=>((CU 47 s).all DI=false∧∃ r,H=[.obj 0 (tb false),.obj 0 (ts r),.obj 0 (ts [47]),.obj 0 (i64 ((0:Nat):Int)),.lp .done (some .ret) fn N [(2,.op 0 0 []),(29,.fn (.func 117) [] [.op 2 0 [],.op 1 0 [],.op 3 0 []])] [30] ca cb])
   ∨ ((CU 47 s).all DI=true∧∃ r,H=[.obj 0 (tb false),.obj 0 (ts r),.obj 0 (ts [47]),.obj 0 (i64 ((0:Nat):Int)),.lp .ready none fn N [(2,.op 0 0 []),(29,.fn (.func 117) [] [.op 2 0 [],.op 1 0 [],.op 3 0 []])] [30] ca cb])) ?_ ?_ ?_ ?_ rfl) ?_
 ·rintro r H ⟨g1,g2,rfl⟩
  exact ⟨by simp,by omega,rfl,rfl,rfl⟩
 ·rintro r H k ⟨g1,g2,rfl⟩ hk hp
  rw [hp,List.all_cons] at g1
  have hlen:(r.take k).length≤1000:=by simp; omega
  refine AeH rfl hc rfl rfl rfl ?_
  rcases AcQ (r.take k) with ⟨hn,(h | ⟨c,l,h,(rfl | ⟨hc1,hc2⟩)⟩)⟩ | ⟨hn,c,l,h,hc1,hc2⟩
  ·rw [h]
   simp -dsimp (disch:=first | assumption | omega) only [↓Ai,Ad,Ag,Ah,eq_self,Nat.reduceEqDiff,↓reduceIte,↓AC,Yj,AbZ]
   exact .inr ⟨by rw [g1,hn,Bool.false_and],_,rfl⟩
  ·rw [h]
   simp -dsimp (disch:=first | assumption | omega) only [↓Ai,Ad,Ag,Ah,eq_self,Nat.reduceEqDiff,UInt8.reduceToNat,↓reduceIte,reduceCtorEq,↓AC,Yj,AbZ,AU]
   exact .inr ⟨by rw [g1,hn,Bool.false_and],_,rfl⟩
  ·have hd:¬ c.toNat=46:=fun e=>hc1 (UInt8.toNat_inj.1 e)
   have hne:¬ (c::l)=[]:=by simp
   rw [h] at hc2 ⊢
   have hle:(c::l).length≤9223372036854775807:=by rw [←h]; omega
   simp -dsimp (disch:=first | assumption | omega) only [↓Ai,Ad,Ag,Ah,eq_self,Nat.reduceEqDiff,↓reduceIte,reduceCtorEq,↓AC,Yj,AU,hd]
   refine (Qd (c::l) [46,108,111,99,107] hle).calls rfl ?_
   rintro _ rfl
   rw [hc2]
   simp -dsimp (disch:=first | assumption | omega) only [↓Ai,Ad,Ag,Ah,eq_self,Nat.reduceEqDiff,↓reduceIte,AbZ]
   exact .inr ⟨by rw [g1,hn,Bool.false_and],_,rfl⟩
  ·have hd:¬ c.toNat=46:=fun e=>hc1 (UInt8.toNat_inj.1 e)
   have hne:¬ (c::l)=[]:=by simp
   rw [h] at hc2 ⊢
   have hle:(c::l).length≤9223372036854775807:=by rw [←h]; omega
   simp -dsimp (disch:=first | assumption | omega) only [↓Ai,Ad,Ag,Ah,eq_self,Nat.reduceEqDiff,↓reduceIte,reduceCtorEq,↓AC,Yj,AU,hd]
   refine (Qd (c::l) [46,108,111,99,107] hle).calls rfl ?_
   rintro _ rfl
   rw [hc2]
   simp -dsimp (disch:=first | assumption | omega) only [↓Ai,Ad,Ag,Ah,eq_self,Nat.reduceEqDiff,↓reduceIte,Nat.reduceAdd,AbZ]
   refine ⟨5,⟨by omega,by omega,.inl (by omega)⟩,.inl ⟨rfl,rfl,by rw [g1,hn,Bool.true_and],by omega,rfl⟩⟩
 ·rintro r H ⟨g1,g2,rfl⟩ hp
  rw [hp,List.all_cons] at g1
  refine AeH rfl hc rfl rfl rfl ?_
  rcases AcQ r with ⟨hn,(h | ⟨c,l,h,(rfl | ⟨hc1,hc2⟩)⟩)⟩ | ⟨hn,c,l,h,hc1,hc2⟩
  ·rw [h]
   simp -dsimp (disch:=first | assumption | omega) only [↓Ai,Ad,Ag,Ah,eq_self,Nat.reduceEqDiff,↓reduceIte,↓AC,Yj,AbZ]
   exact .inl ⟨by rw [g1,hn,Bool.false_and],_,rfl⟩
  ·rw [h]
   simp -dsimp (disch:=first | assumption | omega) only [↓Ai,Ad,Ag,Ah,eq_self,Nat.reduceEqDiff,UInt8.reduceToNat,↓reduceIte,reduceCtorEq,↓AC,Yj,AbZ,AU]
   exact .inl ⟨by rw [g1,hn,Bool.false_and],_,rfl⟩
  ·have hd:¬ c.toNat=46:=fun e=>hc1 (UInt8.toNat_inj.1 e)
   have hne:¬ (c::l)=[]:=by simp
   rw [h] at hc2 ⊢
   have hle:(c::l).length≤9223372036854775807:=by rw [←h]; omega
   simp -dsimp (disch:=first | assumption | omega) only [↓Ai,Ad,Ag,Ah,eq_self,Nat.reduceEqDiff,↓reduceIte,reduceCtorEq,↓AC,Yj,AU,hd]
   refine (Qd (c::l) [46,108,111,99,107] hle).calls rfl ?_
   rintro _ rfl
   rw [hc2]
   simp -dsimp (disch:=first | assumption | omega) only [↓Ai,Ad,Ag,Ah,eq_self,Nat.reduceEqDiff,↓reduceIte,AbZ]
   exact .inl ⟨by rw [g1,hn,Bool.false_and],_,rfl⟩
  ·have hd:¬ c.toNat=46:=fun e=>hc1 (UInt8.toNat_inj.1 e)
   have hne:¬ (c::l)=[]:=by simp
   rw [h] at hc2 ⊢
   have hle:(c::l).length≤9223372036854775807:=by rw [←h]; omega
   simp -dsimp (disch:=first | assumption | omega) only [↓Ai,Ad,Ag,Ah,eq_self,Nat.reduceEqDiff,↓reduceIte,reduceCtorEq,↓AC,Yj,AU,hd]
   refine (Qd (c::l) [46,108,111,99,107] hle).calls rfl ?_
   rintro _ rfl
   rw [hc2]
   simp -dsimp (disch:=first | assumption | omega) only [↓Ai,Ad,Ag,Ah,eq_self,Nat.reduceEqDiff,↓reduceIte,Nat.reduceAdd,AbZ]
   refine ⟨5,⟨by omega,by omega,.inl (by omega)⟩,.inr ⟨by rw [g1,hn]; rfl,_,rfl⟩⟩
 ·exact ⟨rfl,Nat.le_refl _,rfl⟩
 ·rintro _ H' ((⟨g1,r,rfl⟩ | ⟨g1,r,rfl⟩) | ⟨g1,r,rfl⟩)
  ·simp -dsimp (disch:=first | assumption | omega) only [↓Ai,Ad,Ag,Ah,eq_self,↓reduceIte,Nat.reduceAdd,↓AC,ZQ]
   exact ⟨_,rfl,by rw [key,g1]⟩
  ·simp -dsimp (disch:=first | assumption | omega) only [↓Ai,Ad,Ag,Ah,eq_self,↓reduceIte,Nat.reduceAdd,↓AC,ZQ]
   exact ⟨_,rfl,by rw [key,g1]⟩
  ·simp -dsimp (disch:=first | assumption | omega) only [↓Ai,Ad,Ag,Ah,eq_self,↓reduceIte,Nat.reduceAdd,↓AC,ZQ]
   exact ⟨_,rfl,by rw [key,g1]⟩
end
section
variable [AP]
set_option maxRecDepth 100000
end
section
open Go.RowKit
section
variable [AP] {P:Program} {PP:Value→List Ob→Prop} {e:Env} {H:List Ob} {r:List VO} {Ss:SsT}
end
theorem Arr {H T:List Ob} {j:Nat} {o:Ob} (h:j<H.length):(H.set j o++T)[j]?=some o:=by rw [List.getElem?_append_left (by simpa using h),List.getElem?_set_self h]
theorem ga {H T:List Ob} {i:Nat} (h:i<H.length):(H++T)[i]?=H[i]?:=List.getElem?_append_left h
theorem Auh (y z:TV):List.take 1 ((List.replicate 1 z).set 0 y)=[y]:=by simp
end
section
open Go.RowKit
variable [AP] [Fa]
noncomputable def nmB (s:List UInt8):Bool:=@decide (Aor s) (Classical.propDecidable _)
theorem Y6 {s:List UInt8}:nmB s=true↔Aor s:=by unfold nmB; rw [@decide_eq_true_iff]
theorem Ard (s:List UInt8) (hs:s.length≤4000000):BC Tryz.prog 40 [ts s] (fun x=>x=tb (nmB s)):=by
 refine (AgJ s hs).mono ?_
 rintro x ⟨b,rfl,hb⟩
 rw [←Y6] at hb
 cases b<;>cases h:nmB s<;>simp_all
end
section
open Go.RowKit
variable [AP]
def AoM (H:List Ob) (l:List UInt8) (x:TV) (H':List Ob):Prop:=∃ j v,x = .os 1 j v [] 0 l.length l.length∧H'[j]?=some (.obj v (.arr l.length 1 (l.map by8)))∧H.length≤j∧H.length≤H'.length∧∀ i,i<H.length→H'[i]?=H[i]?
theorem Asm {x:List UInt8} (hx:x.length≤1000) {H:List Ob} {id ver:Nat} (h2:H[id]?=some (.obj ver (.arr x.length 1 (x.map by8)))) :
  Am Tryz.prog 58 [.os 1 id ver [] 0 x.length x.length] H (AoM H (BG x)):=by
 refine Adt (by simp) ?_
 have h4:(YU (x.length+4)).length=4:=rfl
 have hl2:id<H.length:=(List.getElem?_eq_some_iff.1 h2).1
 have hlt:(x.map by8).take x.length=x.map by8:=List.take_of_length_le (by simp)
 unfold BG
 by_cases h0:x.length=0
 ·rw [if_pos h0]
  simp -dsimp (disch:=first | assumption | omega | (simp only [Ae];try omega)) only [↓Ai,Ad,Ag,Ah,eq_self,↓reduceIte,reduceCtorEq,Nat.reduceLeDiff,↓Wl,↓Qg,↓VS]
  exact ⟨H.length,0,rfl,by simp [Rj,List.replicate],Nat.le_refl _,by simp,fun i hi=>List.getElem?_append_left hi⟩
 ·rw [if_neg h0]
  have h2a:∀ T:List Ob,(H++T)[id]?=some (.obj ver (.arr x.length 1 (x.map by8))):=fun T=>by rw [List.getElem?_append_left hl2]; exact h2
  simp -dsimp (disch:=first | assumption | omega | (simp only [Ae];try omega)) only [↓Ai,Ad,Ag,Ah,eq_self,↓reduceIte,reduceCtorEq,↓Wl,↓Qg]
  refine (Ad0 (x.length+4) (by omega)).calls rfl fun r hr => ?_
  subst hr
  simp -dsimp (disch:=first | assumption | omega | (simp only [Ae];try omega)) only [↓Ai,Ad,Ag,Ah,eq_self,Nat.reduceEqDiff,↓reduceIte,reduceCtorEq,Nat.reduceLeDiff,AU,h4,h2a,hlt,↓VS]
  have e:List.take 4 ((YU (x.length+4)).map by8)++x.map by8=(YU (x.length+4)++x).map by8:=by
   rw [List.take_of_length_le (by simp [Ahs]),List.map_append]
  refine ⟨H.length,1,by simp [h4],?_,Nat.le_refl _,by simp,fun i hi => ?_⟩
  ·simp [h4]
  ·rw [List.getElem?_append_left hi]
theorem AoY {s:List UInt8} (hs:s.length≤999) {H:List Ob}:Am Tryz.prog 34 [ts s] H (AoM H (BG (s++[10]))):=by
 refine Aeh (by simp) ?_
 have hl1:(s++[(10:UInt8)]).length≤1000:=by simp; omega
 have hcat:Fe 9 BinOp.add (.string (str s)) (.string (str [10]))=some (.string (str (s++[10]))):=AdG (by simp; omega)
 generalize s++[(10:UInt8)]=x at *
 have hx9:x.length≤9223372036854775807:=by omega
 simp -dsimp (disch:=first | assumption | omega | (simp only [Ae];try omega)) only [↓Ai,Ad,Ag,Ah,eq_self,↓reduceIte,reduceCtorEq,hcat,AU,↓Aci]
 refine Abg (Am.mono (Asm hl1 (by simp)) ?_)
 rintro y H2 ⟨j,v,rfl,k1,k2,k3,k4⟩
 simp -dsimp (disch:=first | assumption | omega | (simp only [Ae];try omega)) only [↓Ai,Ad,Ag,Ah,eq_self,↓reduceIte,↓Ab0]
 rw [List.length_append,List.length_singleton] at k2 k3
 exact ⟨j,v,rfl,k1,by omega,by omega,fun i hi=>by rw [k4 i (by simp; omega),List.getElem?_append_left hi]⟩
end
section
open Go.RowKit
variable [AP]
def XE (s:List UInt8) (f i:Nat):Prop:=f≤i∧i≤s.length+1∧(∀ j c,j<i→s[j]?=some c→VK c=true)∧(∀ j,j+1<i→¬ (s[j]?=some 46∧s[j+1]?=some 46)∧¬ (s[j]?=some 64∧s[j+1]?=some 123)) ∧
 ((f=s.length+1∧i=s.length+1∧(CU 47 s).all DI=true)∨(i≤s.length∧(CU 47 s).all DI=(CU 47 (s.drop f)).all DI∧47∉(s.drop f).take (i - f)))
theorem XE.sep {s:List UInt8} {f i:Nat} (h:XE s f i) (hi:i≤s.length) (hsep:i=s.length∨s[i]?=some 47):(CU 47 s).all DI=(DI ((s.drop f).take (i - f)) && (decide (i=s.length) || (CU 47 (s.drop (i+1))).all DI)):=by
 obtain ⟨h1,h2,h3,h4,h5⟩:=h
 rcases h5 with ⟨_,h5,_⟩ | ⟨_,h6,h7⟩
 ·omega
 rw [h6]
 by_cases he:i=s.length
 ·rw [List.take_of_length_le (by simp; omega)] at h7 ⊢
  rw [AfZ h7]; simp [he]
 ·have hc:s[i]?=some 47:=by rcases hsep with h | h; exact absurd h he; exact h
  have hc':(s.drop f)[i - f]?=some 47:=by rw [List.getElem?_drop]; rw [←hc]; congr 1; omega
  rw [AfO hc' h7,List.drop_drop]
  simp only [he,decide_false,Bool.false_or,List.all_cons]
  congr 4; omega
theorem XE.next {s:List UInt8} {f i:Nat} (h:XE s f i) (hi:i≤s.length) (hsep:i=s.length∨s[i]?=some 47) (hp:DI ((s.drop f).take (i - f))=true):XE s (i+1) (i+1):=by
 have hs:=h.sep hi hsep
 obtain ⟨h1,h2,h3,h4,h5⟩:=h
 rw [hp,Bool.true_and] at hs
 refine ⟨Nat.le_refl _,by omega,fun j c hj hc => ?_,fun j hj => ?_,?_⟩
 ·by_cases e:j=i
  ·subst e
   rcases hsep with h | h
   ·rw [List.getElem?_eq_none (by omega)] at hc; cases hc
   ·rw [h] at hc; cases hc; decide
  ·exact h3 j c (by omega) hc
 ·by_cases e:j+1=i
  ·rcases hsep with h | h
   ·rw [List.getElem?_eq_none (by omega:s.length≤j+1)]; simp
   ·rw [e,h]; simp
  ·exact h4 j (by omega)
 ·by_cases he:i=s.length
  ·left; exact ⟨by omega,by omega,by rw [hs]; simp [he]⟩
  ·right; exact ⟨by omega,by rw [hs]; simp [he],by simp⟩
theorem XE.step {s:List UInt8} {f i:Nat} {c:UInt8} (h:XE s f i) (hc:s[i]?=some c) (h47:c≠47) (hg:VK c=true) (hp:∀ j,j+1=i→¬ (s[j]?=some 46∧c=46)∧¬ (s[j]?=some 64∧c=123)):XE s f (i+1):=by
 have hi:i<s.length:=(List.getElem?_eq_some_iff.1 hc).1
 obtain ⟨h1,h2,h3,h4,h5⟩:=h
 refine ⟨by omega,by omega,fun j x hj hx => ?_,fun j hj => ?_,?_⟩
 ·by_cases e:j=i
  ·subst e; rw [hc] at hx; cases hx; exact hg
  ·exact h3 j x (by omega) hx
 ·by_cases e:j+1=i
  ·have:=hp j e
   rw [e,hc]
   simpa using this
  ·exact h4 j (by omega)
 ·rcases h5 with ⟨_,h5,_⟩ | ⟨_,h6,h7⟩
  ·omega
  ·right
   refine ⟨by omega,h6,?_⟩
   have hc':(s.drop f)[i - f]?=some c:=by rw [List.getElem?_drop]; rw [←hc]; congr 1; omega
   rw [show i+1 - f=(i - f)+1 by omega,List.take_add_one,hc']
   simp [h7,Ne.symm h47]
theorem Af7 (c:UInt8):VK c=true∧33≤c.toNat∧c.toNat≤126∧c.toNat≠126∧c.toNat≠94∧c.toNat≠58∧c.toNat≠63∧c.toNat≠42∧c.toNat≠91∧c.toNat≠92∨VK c=false∧(c.toNat<33∨126<c.toNat∨c=126∨c=94∨c=58∨c=63∨c=42∨c=91∨c=92):=by
 cases h:VK c with
 | true =>
  left
  unfold VK at h
  rw [decide_eq_true_eq] at h
  obtain ⟨h1,h2,h3⟩:=h
  simp only [List.mem_cons,List.not_mem_nil,or_false,not_or,←UInt8.toNat_inj] at h3
  exact ⟨rfl,h1,h2,h3.1,h3.2.1,h3.2.2.1,h3.2.2.2.1,h3.2.2.2.2.1,h3.2.2.2.2.2.1,h3.2.2.2.2.2.2⟩
 | false =>
  right
  unfold VK at h
  rw [decide_eq_false_iff_not] at h
  refine ⟨rfl,?_⟩
  by_cases h1:c.toNat<33
  ·exact .inl h1
  by_cases h2:126<c.toNat
  ·exact .inr (.inl h2)
  have h3:c∈[(126:UInt8),94,58,63,42,91,92]:=Decidable.not_not.1 fun h3=>h ⟨by omega,by omega,h3⟩
  simp only [List.mem_cons,List.not_mem_nil,or_false] at h3
  exact .inr (.inr h3)
theorem AcP {s:List UInt8} {v:TV} (h0:¬ s=[72,69,65,68]) (h:(CU 47 s).all DI=false) (hv:v=tb false:=by rfl):∃ b,v=tb b∧(b=true↔Aor s) :=
 ⟨false,hv,CQ (fun k=>k.elim h0 fun k=>by rw [k.2.2.2.2.2.2] at h; cases h) _ rfl⟩
set_option maxRecDepth 100000 in
set_option maxHeartbeats 2000000 in
theorem Amq (s:List UInt8) (hs:s.length≤4000000):BC Tryz.prog 41 [ts s] (fun x=>∃ b,x=tb b∧(b=true↔Aor s)):=by
 refine Am.toPureV (Acp (by simp) ?_)
 by_cases h0:s=[72,69,65,68]
 ·subst h0
  simp -dsimp (disch:=first | assumption | omega) only [↓Ai,Ad,Ag,Ah,eq_self,↓reduceIte,reduceCtorEq,↓Aw]
  exact ⟨_,rfl,AbK (.inl rfl) _ rfl⟩
 by_cases h1:60<s.length
 ·simp -dsimp (disch:=first | assumption | omega) only [↓Ai,Ad,Ag,Ah,eq_self,Nat.reduceEqDiff,↓reduceIte,reduceCtorEq,↓Aw,h0,AU]
  exact ⟨_,rfl,CQ (fun h=>h.elim h0 fun h=>by omega) _ rfl⟩
 by_cases h2:s.length<6
 ·simp -dsimp (disch:=first | assumption | omega) only [↓Ai,Ad,Ag,Ah,eq_self,Nat.reduceEqDiff,↓reduceIte,reduceCtorEq,↓Aw,h0,AU]
  exact ⟨_,rfl,CQ (fun h=>h.elim h0 fun h=>AlM h2 ⟨h.2.1,h.2.2.2.2.2.2⟩) _ rfl⟩
 by_cases h3:s.take 5=[114,101,102,115,47]
 case neg =>
  simp -dsimp (disch:=first | assumption | omega) only [↓Ai,Ad,Ag,Ah,eq_self,Nat.reduceEqDiff,↓reduceIte,reduceCtorEq,↓Aw,h0,AU,h3]
  exact ⟨_,rfl,CQ (fun h=>h.elim h0 fun h=>h3 h.2.1) _ rfl⟩
 obtain ⟨cl,hcl⟩:∃ c,s[s.length - 1]?=some c:=⟨_,List.getElem?_eq_getElem (by omega)⟩
 by_cases h4:cl=46
 ·subst h4
  simp -dsimp (disch:=first | assumption | omega) only [↓Ai,Ad,Ag,Ah,eq_self,Nat.reduceEqDiff,UInt8.reduceToNat,↓reduceIte,reduceCtorEq,↓Aw,h0,AU,h3,hcl]
  exact ⟨_,rfl,CQ (fun h=>h.elim h0 fun h=>h.2.2.1 hcl) _ rfl⟩
 have h4':¬ cl.toNat=46:=fun e=>h4 (UInt8.toNat_inj.1 e)
 simp -dsimp (disch:=first | assumption | omega) only [↓Ai,Ad,Ag,Ah,eq_self,Nat.reduceEqDiff,↓reduceIte,reduceCtorEq,↓Aw,h0,AU,h3,hcl,h4']
 refine Fp (fun q e H=>∃ f i:Nat,q=s.length+1 - i∧XE s f i∧e=[(0,ts s),(3,i64 (s.length:Int)),(4,i64 (f:Int)),(5,i64 (i:Int))]∧H=[]) (s.length+1) ?_ ?_
 ·exact ⟨0,0,rfl,⟨by omega,by omega,fun j c h=>by omega,fun j h=>by omega,.inr ⟨by omega,rfl,by simp⟩⟩,rfl,rfl⟩
 ·rintro q e H ⟨f,i,rfl,hI,rfl,rfl⟩
  have hf:=hI.1
  by_cases hi:i≤s.length
  ·by_cases hsep:i=s.length∨s[i]?=some 47
   ·by_cases he:i=s.length
    ·subst he
     have hall:=hI.sep hi hsep
     have hplen:((s.drop f).take (s.length - f)).length=s.length - f:=by simp
     have h55:s.length - (s.length - 5)=5:=by omega
     have tk5:List.take 5 [(46:UInt8),108,111,99,107]=[46,108,111,99,107]:=rfl
     by_cases hk:s.length=f
     ·have hb:DI ((s.drop f).take (s.length - f))=false:=by rw [←hk]; simp [DI]
      simp -dsimp (disch:=first | assumption | omega) only [↓Ai,Ad,Ag,Ah,eq_self,Nat.reduceEqDiff,↓reduceIte,reduceCtorEq,↓Aw]
      exact AcP h0 (by rw [hall,hb,Bool.false_and])
     obtain ⟨cf,hcf⟩:∃ c,s[f]?=some c:=⟨_,List.getElem?_eq_getElem (by omega)⟩
     have hp0:((s.drop f).take (s.length - f))[0]?=some cf:=by rw [List.getElem?_take,if_pos (by omega),List.getElem?_drop]; exact hcf
     by_cases h46:cf=46
     ·subst h46
      have hb:DI ((s.drop f).take (s.length - f))=false:=by unfold DI; rw [decide_eq_false_iff_not]; exact fun h=>h.2.1 hp0
      simp -dsimp (disch:=first | assumption | omega) only [↓Ai,Ad,Ag,Ah,eq_self,Nat.reduceEqDiff,UInt8.reduceToNat,↓reduceIte,reduceCtorEq,↓Aw,AU,hcf]
      exact AcP h0 (by rw [hall,hb,Bool.false_and])
     have d46:¬ cf.toNat=46:=fun e=>h46 (UInt8.toNat_inj.1 e)
     have hpne:(s.drop f).take (s.length - f)≠[]:=fun e=>by rw [e] at hp0; cases hp0
     by_cases h5:s.length - f<5
     ·have hb:DI ((s.drop f).take (s.length - f))=true:=by unfold DI; rw [decide_eq_true_eq,hp0]; exact ⟨hpne,by simpa using h46,fun h=>by omega⟩
      simp -dsimp (disch:=first | assumption | omega) only [↓Ai,Ad,Ag,Ah,eq_self,Nat.reduceEqDiff,↓reduceIte,reduceCtorEq,↓Aw,AU,hcf,d46]
      exact AB (s.length+1 - (s.length+1)) (by omega) (by simp) ⟨s.length+1,s.length+1,rfl,hI.next hi hsep hb,rfl,rfl⟩
     have hdr:((s.drop f).take (s.length - f)).drop (((s.drop f).take (s.length - f)).length - 5)=s.drop (s.length - 5):=by
      rw [hplen,List.drop_take,List.drop_drop,List.take_of_length_le (by simp; omega)]; congr 1; omega
     by_cases hl:s.drop (s.length - 5)=[46,108,111,99,107]
     ·have hb:DI ((s.drop f).take (s.length - f))=false:=by unfold DI; rw [decide_eq_false_iff_not]; exact fun h=>h.2.2 ⟨by omega,by rw [hdr]; exact hl⟩
      simp -dsimp (disch:=first | assumption | omega) only [↓Ai,Ad,Ag,Ah,eq_self,Nat.reduceEqDiff,↓reduceIte,reduceCtorEq,↓Aw,AU,hcf,d46,hl,h55,tk5]
      exact AcP h0 (by rw [hall,hb,Bool.false_and])
     ·have hl':¬ (s.drop (s.length - 5)).take (s.length - (s.length - 5))=[46,108,111,99,107]:=by rw [List.take_of_length_le (by simp)]; exact hl
      have hb:DI ((s.drop f).take (s.length - f))=true:=by unfold DI; rw [decide_eq_true_eq,hp0,hdr]; exact ⟨hpne,by simpa using h46,fun h=>hl h.2⟩
      simp -dsimp (disch:=first | assumption | omega) only [↓Ai,Ad,Ag,Ah,eq_self,Nat.reduceEqDiff,↓reduceIte,reduceCtorEq,↓Aw,AU,hcf,d46]
      exact AB (s.length+1 - (s.length+1)) (by omega) (by simp) ⟨s.length+1,s.length+1,rfl,hI.next hi hsep hb,rfl,rfl⟩
    ·have hc:s[i]?=some 47:=by rcases hsep with h | h; exact absurd h he; exact h
     have hall:=hI.sep hi hsep
     have hplen:((s.drop f).take (i - f)).length=i - f:=by simp; omega
     by_cases hk:i=f
     ·subst hk
      have hb:DI ((s.drop i).take (i - i))=false:=by simp [DI]
      simp -dsimp (disch:=first | assumption | omega) only [↓Ai,Ad,Ag,Ah,eq_self,Nat.reduceEqDiff,UInt8.reduceToNat,↓reduceIte,reduceCtorEq,↓Aw,AU,hc]
      exact AcP h0 (by rw [hall,hb,Bool.false_and])
     obtain ⟨cf,hcf⟩:∃ c,s[f]?=some c:=⟨_,List.getElem?_eq_getElem (by omega)⟩
     have hp0:((s.drop f).take (i - f))[0]?=some cf:=by rw [List.getElem?_take,if_pos (by omega),List.getElem?_drop]; exact hcf
     by_cases h46:cf=46
     ·subst h46
      have hb:DI ((s.drop f).take (i - f))=false:=by unfold DI; rw [decide_eq_false_iff_not]; exact fun h=>h.2.1 hp0
      simp -dsimp (disch:=first | assumption | omega) only [↓Ai,Ad,Ag,Ah,eq_self,Nat.reduceEqDiff,UInt8.reduceToNat,↓reduceIte,reduceCtorEq,↓Aw,AU,hc,hcf]
      exact AcP h0 (by rw [hall,hb,Bool.false_and])
     have d46:¬ cf.toNat=46:=fun e=>h46 (UInt8.toNat_inj.1 e)
     have hpne:(s.drop f).take (i - f)≠[]:=fun e=>by rw [e] at hp0; cases hp0
     by_cases h5:i - f<5
     ·have hb:DI ((s.drop f).take (i - f))=true:=by unfold DI; rw [decide_eq_true_eq,hp0]; exact ⟨hpne,by simpa using h46,fun h=>by omega⟩
      simp -dsimp (disch:=first | assumption | omega) only [↓Ai,Ad,Ag,Ah,eq_self,Nat.reduceEqDiff,UInt8.reduceToNat,↓reduceIte,reduceCtorEq,↓Aw,AU,hc,hcf,d46]
      exact AB (s.length+1 - (i+1)) (by omega) (by simp) ⟨i+1,i+1,rfl,hI.next hi hsep hb,rfl,rfl⟩
     have hdr:((s.drop f).take (i - f)).drop (((s.drop f).take (i - f)).length - 5)=(s.drop (i - 5)).take 5:=by
      rw [hplen,List.drop_take,List.drop_drop]; congr 1; omega; congr 1; omega
     have h55:i - (i - 5)=5:=by omega
     by_cases hl:(s.drop (i - 5)).take 5=[46,108,111,99,107]
     ·have hb:DI ((s.drop f).take (i - f))=false:=by unfold DI; rw [decide_eq_false_iff_not]; exact fun h=>h.2.2 ⟨by omega,by rw [hdr]; exact hl⟩
      simp -dsimp (disch:=first | assumption | omega) only [↓Ai,Ad,Ag,Ah,eq_self,Nat.reduceEqDiff,UInt8.reduceToNat,↓reduceIte,reduceCtorEq,↓Aw,AU,hc,hcf,d46,hl,h55]
      exact AcP h0 (by rw [hall,hb,Bool.false_and])
     ·have hb:DI ((s.drop f).take (i - f))=true:=by unfold DI; rw [decide_eq_true_eq,hp0,hdr]; exact ⟨hpne,by simpa using h46,fun h=>hl h.2⟩
      simp -dsimp (disch:=first | assumption | omega) only [↓Ai,Ad,Ag,Ah,eq_self,Nat.reduceEqDiff,UInt8.reduceToNat,↓reduceIte,reduceCtorEq,↓Aw,AU,hc,hcf,d46,hl,h55]
      exact AB (s.length+1 - (i+1)) (by omega) (by simp) ⟨i+1,i+1,rfl,hI.next hi hsep hb,rfl,rfl⟩
   ·have he:i<s.length:=by omega
    obtain ⟨c,hc⟩:∃ c,s[i]?=some c:=⟨_,List.getElem?_eq_getElem he⟩
    have h47:c≠47:=fun e=>hsep (.inr (by rw [hc,e]))
    have d47:¬ c.toNat=47:=fun e=>h47 (UInt8.toNat_inj.1 e)
    rcases Af7 c with ⟨hg,g1,g2,g3,g4,g5,g6,g7,g8,g9⟩ | ⟨hg,hbad⟩
    ·by_cases c46:c=46
     ·subst c46
      by_cases hi0:i=0
      ·subst hi0
       simp -dsimp (disch:=first | assumption | omega) only [↓Ai,Ad,Ag,Ah,eq_self,Nat.reduceLT,Nat.reduceEqDiff,UInt8.reduceToNat,↓reduceIte,reduceCtorEq,↓Aw,AU,hc]
       exact AB (s.length+1 - (0+1)) (by omega) (by simp) ⟨f,0+1,rfl,hI.step hc h47 hg (fun j h=>by omega),rfl,rfl⟩
      obtain ⟨cp,hcp⟩:∃ c,s[i - 1]?=some c:=⟨_,List.getElem?_eq_getElem (by omega)⟩
      by_cases cp46:cp=46
      ·subst cp46
       simp -dsimp (disch:=first | assumption | omega) only [↓Ai,Ad,Ag,Ah,eq_self,Nat.reduceLT,Nat.reduceEqDiff,UInt8.reduceToNat,↓reduceIte,reduceCtorEq,↓Aw,AU,hc,hcp]
       exact ⟨_,rfl,CQ (fun h=>h.elim h0 fun h=>h.2.2.2.1 ⟨i - 1,hcp,by rw [show i - 1+1=i by omega]; exact hc⟩) _ rfl⟩
      ·have dp:¬ cp.toNat=46:=fun e=>cp46 (UInt8.toNat_inj.1 e)
       simp -dsimp (disch:=first | assumption | omega) only [↓Ai,Ad,Ag,Ah,eq_self,Nat.reduceLT,Nat.reduceEqDiff,UInt8.reduceToNat,↓reduceIte,reduceCtorEq,↓Aw,AU,hc,hcp,dp]
       exact AB (s.length+1 - (i+1)) (by omega) (by simp) ⟨f,i+1,rfl,hI.step hc h47 hg (fun j h=>by rw [show j=i - 1 by omega,hcp]; simp [cp46]),rfl,rfl⟩
     have d46:¬ c.toNat=46:=fun e=>c46 (UInt8.toNat_inj.1 e)
     by_cases c123:c=123
     ·subst c123
      by_cases hi0:i=0
      ·subst hi0
       simp -dsimp (disch:=first | assumption | omega) only [↓Ai,Ad,Ag,Ah,eq_self,Nat.reduceLT,Nat.reduceEqDiff,UInt8.reduceToNat,↓reduceIte,reduceCtorEq,↓Aw,AU,hc]
       exact AB (s.length+1 - (0+1)) (by omega) (by simp) ⟨f,0+1,rfl,hI.step hc h47 hg (fun j h=>by omega),rfl,rfl⟩
      obtain ⟨cp,hcp⟩:∃ c,s[i - 1]?=some c:=⟨_,List.getElem?_eq_getElem (by omega)⟩
      by_cases cp64:cp=64
      ·subst cp64
       simp -dsimp (disch:=first | assumption | omega) only [↓Ai,Ad,Ag,Ah,eq_self,Nat.reduceLT,Nat.reduceEqDiff,UInt8.reduceToNat,↓reduceIte,reduceCtorEq,↓Aw,AU,hc,hcp]
       exact ⟨_,rfl,CQ (fun h=>h.elim h0 fun h=>h.2.2.2.2.1 ⟨i - 1,hcp,by rw [show i - 1+1=i by omega]; exact hc⟩) _ rfl⟩
      ·have dp:¬ cp.toNat=64:=fun e=>cp64 (UInt8.toNat_inj.1 e)
       simp -dsimp (disch:=first | assumption | omega) only [↓Ai,Ad,Ag,Ah,eq_self,Nat.reduceLT,Nat.reduceEqDiff,UInt8.reduceToNat,↓reduceIte,reduceCtorEq,↓Aw,AU,hc,hcp,dp]
       exact AB (s.length+1 - (i+1)) (by omega) (by simp) ⟨f,i+1,rfl,hI.step hc h47 hg (fun j h=>by rw [show j=i - 1 by omega,hcp]; simp [cp64]),rfl,rfl⟩
     have d123:¬ c.toNat=123:=fun e=>c123 (UInt8.toNat_inj.1 e)
     by_cases hi0:i=0
     ·subst hi0
      simp -dsimp (disch:=first | assumption | omega) only [↓Ai,Ad,Ag,Ah,eq_self,Nat.reduceLT,Nat.reduceEqDiff,↓reduceIte,reduceCtorEq,↓Aw,AU,hc,d47,g3,g4,g5,g6,g7,g8,g9]
      exact AB (s.length+1 - (0+1)) (by omega) (by simp) ⟨f,0+1,rfl,hI.step hc h47 hg (fun j h=>by omega),rfl,rfl⟩
     ·simp -dsimp (disch:=first | assumption | omega) only [↓Ai,Ad,Ag,Ah,eq_self,Nat.reduceEqDiff,↓reduceIte,reduceCtorEq,↓Aw,AU,hc,d46,d47,d123,g3,g4,g5,g6,g7,g8,g9]
      exact AB (s.length+1 - (i+1)) (by omega) (by simp) ⟨f,i+1,rfl,hI.step hc h47 hg (fun j h=>by simp [c46,c123]),rfl,rfl⟩
    ·have hno:¬ Aor s:=fun h=>h.elim h0 fun h=>by
      have:=h.2.2.2.2.2.1 c (List.mem_of_getElem? hc)
      rw [hg] at this; cases this
     rcases hbad with h | h | rfl | rfl | rfl | rfl | rfl | rfl | rfl
     all_goals
      simp -dsimp (disch:=first | assumption | omega) only [↓Ai,Ad,Ag,Ah,eq_self,Nat.reduceLT,Nat.reduceEqDiff,UInt8.reduceToNat,↓reduceIte,reduceCtorEq,↓Aw,AU,hc,d47]
      exact ⟨_,rfl,CQ hno _ rfl⟩
  ·obtain ⟨k1,k2,k3,k4,k5⟩:=hI
   have hp:(CU 47 s).all DI=true:=by
    rcases k5 with ⟨_,_,h⟩ | ⟨h,_⟩
    ·exact h
    ·omega
   simp -dsimp (disch:=first | assumption | omega) only [↓Ai,Ad,Ag,Ah,eq_self,Nat.reduceEqDiff,↓reduceIte,reduceCtorEq,↓Aw]
   refine ⟨_,rfl,AbK (.inr ⟨by omega,h3,by rw [hcl]; simpa using h4,fun ⟨j,j1,j2⟩ => ?_,fun ⟨j,j1,j2⟩ => ?_,fun c hc => ?_,hp⟩) _ rfl⟩
   ·have:=(List.getElem?_eq_some_iff.1 j2).1
    exact (k4 j (by omega)).1 ⟨j1,j2⟩
   ·have:=(List.getElem?_eq_some_iff.1 j2).1
    exact (k4 j (by omega)).2 ⟨j1,j2⟩
   ·obtain ⟨j,hj,rfl⟩:=List.mem_iff_getElem.1 hc
    exact k3 j _ (by omega) (List.getElem?_eq_getElem hj)
end
section
open Go.RowKit
variable [AP] [Fa]
theorem AmG (s:List UInt8) (hs:s.length≤4000000):BC Tryz.prog 41 [ts s] (fun x=>x=tb (nmB s)):=by
 refine (Amq s hs).mono ?_
 rintro x ⟨b,rfl,hb⟩
 rw [←Y6] at hb
 cases b<;>cases h:nmB s<;>simp_all
theorem Amj {wss:List (List (List UInt8))} (h:∀ ws∈wss,(Iu ws).length≤1000):(Ab1 wss).length≤1004*wss.length:=by
 induction wss with
 | nil=>simp [Ab1]
 | cons w wss ih =>
  have h1:=ih fun x hx=>h x (by simp [hx])
  have h2:=h w (by simp)
  have e:Ab1 (w::wss)=BG (Iu w)++Ab1 wss:=by simp [Ab1]
  rw [e,List.length_append,Ip,List.length_cons]; omega
end
section
open Go.RowKit
theorem Aqw {k l:List UInt8} {x:TV}:∀ {es:List (List UInt8×TV)},QH k (YT l x es)=if l=k then some x else QH k es
 | []=>by simp [YT,QH]
 | (q,y)::es=>by
  rw [YT]
  by_cases hq:q=l
  ·subst hq
   rw [if_pos rfl,QH,QH]
   by_cases h:q=k<;>simp [h]
  ·rw [if_neg hq,QH,QH,Aqw]
   by_cases h:q=k
   ·subst h; rw [if_pos rfl,if_neg (fun e=>hq e.symm),if_pos rfl]
   ·rw [if_neg h,if_neg h]
def Cnt (es:List (List UInt8×TV)) (m:List (List UInt8)):Prop:=∀ l,(QH l es).getD (i64 ((0:Nat):Int))=i64 ((m.count l:Nat):Int)
theorem Cnt.add {es:List (List UInt8×TV)} {m:List (List UInt8)} (h:Cnt es m) (l:List UInt8):Cnt (YT l (i64 ((m.count l+1:Nat):Int)) es) (m++[l]):=by
 intro k
 rw [Aqw]
 by_cases hk:l=k
 ·subst hk; simp
 ·rw [if_neg hk,h k]; simp [hk]
theorem AgZ {k:List UInt8} {x:TV}:∀ {es:List (List UInt8×TV)},(YT k x es).length=if QH k es=none then es.length+1 else es.length
 | []=>by simp [YT,QH]
 | (q,y)::es=>by
  rw [YT,QH]
  by_cases hq:q=k
  ·subst hq; simp
  ·rw [if_neg hq,if_neg hq,List.length_cons,AgZ,List.length_cons]
   split<;>rfl
structure ApB (es:List (List UInt8×TV)) (m:List (List UInt8)):Prop where
 cnt:Cnt es m
 has:∀ l,QH l es≠none↔l∈m
 le:es.length≤m.length
 nd:es.length=m.length↔m.Nodup
theorem ApB.nil:ApB [] []:=⟨fun l=>by simp [QH],fun l=>by simp [QH],by simp,by simp⟩
theorem ApB.add {es:List (List UInt8×TV)} {m:List (List UInt8)} (h:ApB es m) (l:List UInt8):ApB (YT l (i64 ((m.count l+1:Nat):Int)) es) (m++[l]):=by
 have hl:=AgZ (k:=l) (x:=i64 ((m.count l+1:Nat):Int)) (es:=es)
 refine ⟨h.cnt.add l,fun k => ?_,?_,?_⟩
 ·rw [Aqw]
  by_cases hk:l=k
  ·subst hk; simp
  ·rw [if_neg hk,h.has k]; simp [Ne.symm hk]
 ·rw [hl,List.length_append,List.length_singleton]
  have:=h.le
  split<;>omega
 ·rw [hl,List.length_append,List.length_singleton,List.nodup_append]
  by_cases hm:l∈m
  ·rw [if_neg ((h.has l).2 hm)]
   have:=h.le
   constructor
   ·intro e; omega
   ·rintro ⟨_,_,g⟩
    exact absurd rfl (g l hm l (by simp))
  ·have hn:QH l es=none:=Classical.byContradiction fun k=>hm ((h.has l).1 k)
   rw [if_pos hn]
   have:=h.nd
   constructor
   ·intro e
    refine ⟨this.1 (by omega),by simp,fun a ha b hb => ?_⟩
    rw [List.mem_singleton] at hb
    subst hb
    exact fun e=>hm (e▸ha)
   ·rintro ⟨g,_,_⟩
    have:=this.2 g
    omega
end
end Go.Proofs.YtnikbdnebdmmiaaGreatDoor
