/- What the proof of WireStatusesUptoCard stands on (texts merged; names shortened by a program): part 6. -/
import Derived.Test.YtnikbdnebdmmiaaGreatDoorQE
import Derived.Test.YtnikbdnebdmmiaaGreatDoorProg
import Derived.KernelRfl
import Derived.Laws.RangeAny
import Derived.Lib.TrimU
import Derived.Lib.Strings
set_option linter.defProp false
set_option linter.unusedSectionVars false
set_option linter.unusedSimpArgs false
set_option linter.unusedVariables false
namespace Go.Proofs.YtnikbdnebdmmiaaGreatDoor
section
variable [AQ]
set_option maxRecDepth 100000
def AcM:Af := .seq (.ops [po_ 2 (.mov (ci_ 0))] [0])
 (.seq (.ops [so_ 3 (.alloc (.val (.int .i64 ((0:Nat):Int))))] [0,3])
 (.seq (.block 0 (.seq (.ops [mv_ 5 0,po_ 6 (.eqN 1 (.t 5) (.c .nilIface) false),mv_ 4 6] [0,3,4])
 (.cond (.t 4)
 (.seq (.ops [po_ 2 (.mov (ci_ 0))] [2])
  (.ret))
 (.seq (.ops [mv_ 8 0,po_ 9 (.iface 78 (.t 3)),so_ 10 (.call 36 [.t 8,.t 9]),mv_ 7 10] [3,7])
  (.cond (.t 7)
  (.seq (.ops [po_ 11 (.load false 1 (.t 3)),mv_ 2 11] [2])
   (.ret))
  (.skip))))))
 (.seq (.ops [po_ 2 (.mov (.c (.int .i64 (-1))))] [2])
 (.ret))))
def Acz:List VR:=[.tmp 2]
theorem Aif:Tryz.f11.body.bind (trC Tryz.prog Tryz.f11.ntmps)=some (er AcM):=by kernel_rfl
theorem Ahz:trR Tryz.prog Tryz.f11.results.toList=some Acz:=by kernel_rfl
def AeU:=Ac AcM.eq_1
theorem Aey {K:TV→Prop} {e:Env} {H:List Ob}:res Acz e H K=res [.tmp 2] e H K:=Aa rfl
def Zz:=(aI_ @AeU @Aey)
def Abn:=Dj 12 Tryz.func11 Aif Ahz rfl
def UJ:Af := .seq (.ops [mv_ 13 4,mv_ 14 3,po_ 15 (.idxA 1 (.t 13) (.t 14)),⟨none,.s (.store 1 (.t 15) (.c (.int .u8 ((71:Nat):Int)))),none⟩] [3,4])
 (.seq (.ops [mv_ 16 4,mv_ 17 3,po_ 18 (.bin 3 .add (.t 17) (ci_ 1)),po_ 19 (.idxA 1 (.t 16) (.t 18)),⟨none,.s (.store 1 (.t 19) (.c (.int .u8 ((72:Nat):Int)))),none⟩] [3,4])
 (.seq (.ops [mv_ 20 4,mv_ 21 3,po_ 22 (.slV 1 (.t 20) none (some (.t 21))),mv_ 2 22] [2])
 (.ret)))
def TS:Af := .seq (.ops [mv_ 10 4,mv_ 11 0,so_ 12 (.copy 1 (.t 10) (.t 11))] [3,4])
 UJ
def TP:Af := .seq (.ops [mv_ 7 3,po_ 8 (.bin 3 .add (.t 7) (ci_ 2)),so_ 9 (.mks 1 1 (.val (.int .u8 ((0:Nat):Int))) (.t 8) (.t 8)),mv_ 4 9] [0,3,4])
 TS
def U6:Af := .seq (.ops [mv_ 5 0,po_ 6 (.lenV (.t 5)),mv_ 3 6] [0,3])
 TP
def Aaq:Af := .seq (.ops [po_ 2 (.mov (.c (.slice none 0 0)))] [0])
 U6
def Aad:List VR:=[.tmp 2]
theorem Afq:Tryz.f17.body.bind (trC Tryz.prog Tryz.f17.ntmps)=some (er Aaq):=by kernel_rfl
theorem Ae9:trR Tryz.prog Tryz.f17.results.toList=some Aad:=by kernel_rfl
def ZA:=Ac UJ.eq_1
def Zp:=Ac TS.eq_1
def Zd:=Ac TP.eq_1
def ZL:=Ac U6.eq_1
def Acr:=Ac Aaq.eq_1
theorem Acx {K:TV→Prop} {e:Env} {H:List Ob}:res Aad e H K=res [.tmp 2] e H K:=Aa rfl
def Afn:=(aI_ (aI_ (aI_ @ZA @Zp) (aI_ @Zd @ZL)) (aI_ @Acr @Acx))
def Aef:=Dj 23 Tryz.func17 Afq Ae9 rfl
def U1:Af := .seq (.seq (.ops [mv_ 36 8,mv_ 37 6,po_ 38 (.lenV (.t 37)),po_ 39 (.bin 3 .lss (.t 36) (.t 38))] [6,7,8,39])
 (.cond (.t 39)
 (.skip)
 (.exit 0)))
 (.seq (.block 1 (.ops [mv_ 42 6,mv_ 43 8,mv_ 44 6,mv_ 45 8,po_ 46 (.idxA 1 (.t 44) (.t 45)),po_ 47 (.load false 1 (.t 46)),po_ 48 (.bin 5 .xor (.t 47) (.c (.int .u8 ((85:Nat):Int)))),po_ 49 (.idxA 1 (.t 42) (.t 43)),⟨none,.s (.store 1 (.t 49) (.t 48)),none⟩] [6,7,8]))
 (.ops [mv_ 40 8,po_ 41 (.bin 3 .add (.t 40) (ci_ 1)),mv_ 8 41] [6,7,8]))
def UX:Af := .block 0 (.loop [6,7,8] U1)
def TY:Af := .seq (.ops [mv_ 50 7,mv_ 4 50] [4])
 (.ret)
def Ut:Af := .seq (.seq (.ops [po_ 8 (.mov (ci_ 0))] [6,7,8])
 UX)
 TY
def UO:Af := .seq (.ops [mv_ 20 7,mv_ 21 20,⟨some 22,.p (.mov (.t 6)),some ⟨21,true⟩⟩,⟨some 23,.p (.mov (.t 5)),some ⟨21,true⟩⟩,⟨some 24,.p (.idxA 1 (.t 22) (.t 23)),some ⟨21,true⟩⟩,⟨some 25,.p (.load false 1 (.t 24)),some ⟨21,true⟩⟩,⟨some 26,.p (.bin 5 .eql (.t 25) (.c (.int .u8 ((71:Nat):Int)))),some ⟨21,true⟩⟩,po_ 27 (.pick (.t 21) (.t 26) (.c (.bool false))),mv_ 28 27,⟨some 29,.p (.mov (.t 6)),some ⟨28,true⟩⟩,⟨some 30,.p (.mov (.t 5)),some ⟨28,true⟩⟩,⟨some 31,.p (.bin 3 .add (.t 30) (ci_ 1)),some ⟨28,true⟩⟩,⟨some 32,.p (.idxA 1 (.t 29) (.t 31)),some ⟨28,true⟩⟩,⟨some 33,.p (.load false 1 (.t 32)),some ⟨28,true⟩⟩,⟨some 34,.p (.bin 5 .eql (.t 33) (.c (.int .u8 ((72:Nat):Int)))),some ⟨28,true⟩⟩,po_ 35 (.pick (.t 28) (.t 34) (.c (.bool false))),mv_ 7 35] [6,7])
 Ut
def U5:Af := .seq (.ops [mv_ 15 6,mv_ 16 5,po_ 17 (.slV 1 (.t 15) none (some (.t 16))),mv_ 18 1,so_ 19 (.call 10 [.t 17,.t 18]),mv_ 7 19] [5,6,7])
 UO
def UC:Af := .seq (.ops [mv_ 11 0,mv_ 12 5,po_ 13 (.bin 3 .add (.t 12) (ci_ 2)),po_ 14 (.slV 1 (.t 11) none (some (.t 13))),mv_ 6 14] [1,5,6])
 U5
def TN:Af := .seq (.ops [mv_ 9 1,po_ 10 (.lenV (.t 9)),mv_ 5 10] [0,1,5])
 UC
def Aam:Af := .seq (.ops [po_ 4 (.mov (.c (.bool false)))] [0,1])
 TN
def Z4:List VR:=[.tmp 4]
theorem Ae4:Tryz.f19.body.bind (trC Tryz.prog Tryz.f19.ntmps)=some (er Aam):=by kernel_rfl
theorem Afb:trR Tryz.prog Tryz.f19.results.toList=some Z4:=by kernel_rfl
def YV:=Ac U1.eq_1
def Zq:=Ac UX.eq_1
def ZO:=Ac TY.eq_1
def Zt:=Ac Ut.eq_1
def Zv:=Ac UO.eq_1
def Zb:=Ac U5.eq_1
def Zg:=Ac UC.eq_1
def ZF:=Ac TN.eq_1
def Ab1:=Ac Aam.eq_1
theorem Ace {K:TV→Prop} {e:Env} {H:List Ob}:res Z4 e H K=res [.tmp 4] e H K:=Aa rfl
def Oy:=(aI_ (aI_ (aI_ (aI_ @YV @Zq) (aI_ @ZO @Zt)) (aI_ (aI_ @Zv @Zb) (aI_ @Zg @ZF))) (aI_ @Ab1 @Ace))
def AdK:=Dj 51 Tryz.func19 Ae4 Afb rfl
def Wi:Af := .seq (.block 1 (.seq (.draw 4 [mv_ 17 0,mv_ 18 5,po_ 19 (.idxA 1 (.t 17) (.t 18)),po_ 20 (.load false 1 (.t 19)),mv_ 21 1,mv_ 22 5,po_ 23 (.idxA 1 (.t 21) (.t 22)),po_ 24 (.load false 1 (.t 23)),po_ 25 (.bin 5 .neq (.t 20) (.t 24))] [0,1,5,25])
 (.cond (.t 25)
 (.seq (.ops [po_ 4 (.mov (.c (.bool false)))] [4])
  (.ret))
 (.skip))))
 (.ops [mv_ 15 5,po_ 16 (.bin 3 .add (.t 15) (ci_ 1)),mv_ 5 16] [0,1,5])
def We:Af := .seq (.seq (.ops [mv_ 11 5,mv_ 12 0,po_ 13 (.lenV (.t 12)),po_ 14 (.bin 3 .lss (.t 11) (.t 13))] [0,1,5,14])
 (.cond (.t 14)
 (.skip)
 (.exit 0)))
 Wi
def V9:Af := .block 0 (.loop [0,1,5] We)
def VT:Af := .seq (.ops [po_ 4 (.mov (.c (.bool true)))] [4])
 (.ret)
def VZ:Af := .seq (.seq (.ops [po_ 5 (.mov (ci_ 0))] [0,1,5])
 V9)
 VT
def VW:Af := .seq (.seq (.ops [mv_ 6 0,po_ 7 (.lenV (.t 6)),mv_ 8 1,po_ 9 (.lenV (.t 8)),po_ 10 (.bin 3 .neq (.t 7) (.t 9))] [0,1,10])
 (.cond (.t 10)
 (.seq (.ops [po_ 4 (.mov (.c (.bool false)))] [4])
  (.ret))
 (.skip)))
 VZ
def AbR:Af := .seq (.ops [po_ 4 (.mov (.c (.bool false)))] [0,1])
 VW
def AbI:List VR:=[.tmp 4]
theorem AfI:Tryz.f10.body.bind (trC Tryz.prog Tryz.f10.ntmps)=some (er AbR):=by kernel_rfl
theorem AfL:trR Tryz.prog Tryz.f10.results.toList=some AbI:=by kernel_rfl
def AaK:=Ac Wi.eq_1
def AaL:=Ac We.eq_1
def Aaw:=Ac V9.eq_1
def Aay:=Ac VT.eq_1
def AaH:=Ac VZ.eq_1
def AaC:=Ac VW.eq_1
def Adk:=Ac AbR.eq_1
theorem Adm {K:TV→Prop} {e:Env} {H:List Ob}:res AbI e H K=res [.tmp 4] e H K:=Aa rfl
def MX:=(aI_ (aI_ (aI_ @AaK @AaL) (aI_ @Aaw @Aay)) (aI_ (aI_ @AaH @AaC) (aI_ @Adk @Adm)))
def AeE:=Dj 26 Tryz.func10 AfI AfL rfl
end
section
open Go.RowKit
variable [AQ] [CO]
theorem Q4.refl {F:Nat→Prop} {w:World} (h:∀ b,F b→b<w.heap.size):Q4 F w F w:=⟨rfl,rfl,rfl,Nat.le_refl _,fun _ _=>rfl,fun _ h=>h,fun _ _ h=>h,h⟩
theorem Q4.alloc {F F':Nat→Prop} {w w':World} (h:Q4 F w F' w') (o:Obj):Q4 F w F' (w'.alloc o) :=
 ⟨h.os,h.tape,h.output,by have:=h.size; simp; omega,fun b hb=>(DD w' o (Nat.lt_of_lt_of_le hb h.size)).trans (h.same b hb),h.keepF,h.oldF,fun b hb=>by have:=h.ltF b hb; simp; omega⟩
abbrev eno (n:Int):TV := .ifc 33 (i64 n)
theorem AlX {n:Int} {id ver:Nat} {p:List (Nat×Nat)} {x x':TV} {H:List Ob} {K:TV→List Ob→Prop} (ho:H[id]?=some (.obj ver x)) (hs2:Xj p x (i64 n)=some x') (hk:K (tb true) (H.set id (.obj ver x'))) :
  Am Tryz.prog 36 [eno n,.ifc 78 (.op id ver p)] H K:=by
 intro β F w vs hs hv
 obtain ⟨u,us,rfl,h1,h2⟩:=BA.cons.1 hv
 obtain ⟨u2,us2,rfl,h3,h4⟩:=BA.cons.1 h2
 rw [BA.nil] at h4; subst h4
 -- the two arguments
 have e1:u = .iface 33 (.int .i64 n):=by
  rcases h1 with h | h | ⟨xs0,h,rfl⟩
  ·cases h
  ·cases h
  ·rw [Aj] at h
   obtain ⟨v,rfl,vs,h,rfl⟩:=h
   rw [Aj] at h
   obtain ⟨rfl,_⟩:=h
   rfl
 obtain ⟨b,o,hbo,rfl⟩:∃ b o,β id ver=some (b,o)∧u2 = .iface 78 (.pointer (some ⟨b,o+Fb p,none⟩)):=by
  rcases h3 with h | h | ⟨xs0,h,rfl⟩
  ·cases h
  ·cases h
  ·rw [Aj] at h
   obtain ⟨v,rfl,vs,h,rfl⟩:=h
   rw [Aj] at h
   obtain ⟨_,b,o,hb,rfl⟩:=h
   exact ⟨b,o,hb,rfl⟩
 subst e1
 have hgl:=hs.glob.at CO.k
 have hg:w.cell? ⟨0,0,none⟩=some (.iface 170 (.agg #[.pointer (some ⟨9,25,none⟩)])):=hgl 0 _ rfl
 have hrow:∀ c w,Aj c w (i64 n) [.int .i64 n]:=fun c w=>by rw [Aj]; exact ⟨rfl,rfl⟩
 obtain ⟨_,_,ht⟩:=hs.store ho hbo hs2 (hrow _ _)
 obtain ⟨t1,t2⟩:=ht 0 (by simp)
 obtain ⟨old,hold⟩:=Option.isSome_iff_exists.1 t1
 refine (Auc n ⟨b,o+Fb p,none⟩ old w hg hold t2).mono ?_
 rintro e w' ⟨rfl,rfl⟩
 have hst:=((((Q4.refl (F:=F) hs.lt).alloc (.cells #[.pointer (some ⟨b,o+Fb p,none⟩)] 78)).alloc (.cells #[.pointer (some ⟨9,78,none⟩),.pointer (some ⟨w.heap.size,0,none⟩),.int .u64 150] 124)).alloc (.cells #[.pointer (some ⟨9,78,none⟩),.pointer (some ⟨w.heap.size,0,none⟩),.int .u64 150] 124)).alloc (.cells #[.int .i64 n] 33)
 obtain ⟨k1,k2,_⟩:=(hst.sim hs).store ho hbo hs2 (hrow _ _)
 exact ⟨_,tb true,β,_,F,rfl,hk,k1,hst.later.trans k2,Rep.of_val⟩
theorem AxN {n:Int}:BC Tryz.prog 11 [eno n] (fun x=>x=i64 n):=by
 refine Am.toPureV (Abn (by simp) ?_)
 simp -dsimp (disch:=first | assumption | omega) only [↓Ai,Ad,Ag,Ah,eq_self,Nat.reduceEqDiff,↓reduceIte,reduceCtorEq,↓Zz]
 refine AlX (x:=i64 ((0:Nat):Int)) (x':=i64 n) rfl (by rw [Ahm]; rfl) ?_
 simp -dsimp (disch:=first | assumption | omega) only [↓Ai,Ad,Ag,Ah,eq_self,Nat.reduceEqDiff,↓reduceIte,reduceCtorEq,↓Zz]
theorem Ass:BC Tryz.prog 11 [.val .nilIface] (fun x=>x=i64 ((0:Nat):Int)):=by
 refine Am.toPureV (Abn (by simp) ?_)
 simp -dsimp (disch:=first | assumption | omega) only [↓Ai,Ad,Ag,Ah,eq_self,Nat.reduceEqDiff,↓reduceIte,reduceCtorEq,↓Zz]
end
section
open Go.RowKit
variable [AQ]
variable {P:Program}
def AfO (P:Program) (f:FuncId) (args:List TV) (R:TV→Prop) (RP:Value→Prop):Prop :=
 ∀ (β:Nat→Nat→Option (Nat×Nat)) (F:Nat→Prop) (w:World) (vs:List Value),((∀ b,F b→b<w.heap.size)∧Js F w)→BA ⟨β,[],F⟩ w args vs →
  Calls P f vs.toArray w fun e w'=>∃ F',Q4 F w F' w'∧((∃ v x,e = .returned v∧R x∧Rep ⟨β,[],fun b=>F' b∧w.heap.size≤b⟩ w' x v)∨∃ u,e = .panicked [{ v:=u,recovered:=false }]∧RP u)
theorem AfO.mono {f:FuncId} {args:List TV} {R R':TV→Prop} {RP RP':Value→Prop} (h:AfO P f args R RP) (hr:∀ x,R x→R' x) (hp:∀ u,RP u→RP' u):AfO P f args R' RP' :=
 fun β F w vs hF hv=>(h β F w vs hF hv).mono fun _ _ ⟨F',h1,h2⟩=>⟨F',h1,h2.imp (fun ⟨v,x,k1,k2,k3⟩=>⟨v,x,k1,hr _ k2,k3⟩) fun ⟨u,k1,k2⟩=>⟨u,k1,hp _ k2⟩⟩
def AsQ (x x':TV):Prop:=∀ (c:Ctx) (w:World) (v:Value),Aiy c w x v→Aiy c w x' v
inductive AeX:List TV→List TV→Prop
 | nil:AeX [] []
 | cons {x x':TV} {xs xs':List TV}:AsQ x x'→AeX xs xs'→AeX (x::xs) (x'::xs')
theorem AeX.rep {c:Ctx} {w:World} {xs xs':List TV} (h:AeX xs xs'):∀ {vs:List Value},BA c w xs vs→BA c w xs' vs:=by
 induction h with
 | nil=>exact fun h=>h
 | cons h1 h2 ih =>
  intro vs hv
  rw [BA.cons] at hv ⊢
  obtain ⟨u,us,rfl,k1,k2⟩:=hv
  exact ⟨u,us,rfl,h1 _ _ _ k1,ih k2⟩
theorem Ahd {k:Nat}:AsQ (.val (.slice none 0 0)) (.sl k []):=fun c w v h=>by
 have hv:v = .slice none 0 0:=by
  have h':Rep c w (.val (.slice none 0 0)) v := .inl h
  rw [Rep.val] at h'; exact h'
 subst hv
 refine .inr (.inr ⟨[.slice none 0 0],?_,rfl⟩)
 rw [Aj]
 exact ⟨by simp,.inl ⟨rfl,none,0,rfl,by omega⟩⟩
theorem BC.argL {f:FuncId} {args args':List TV} {R:TV→Prop} (h:BC P f args' R) (hc:AeX args args'):BC P f args R :=
 fun β F w vs hF hv=>h β F w vs hF (hc.rep hv)
theorem AeX.tup {xs xs':List TV} (h:AeX xs xs'):∀ (c:Ctx) (w:World) (v:Value),Rep c w (.tup xs) v→Rep c w (.tup xs') v:=by
 rintro c w v ((h1 | h1 | ⟨us,h1,_⟩) | ⟨ys,vs,h1,h2,h3⟩)
 ·cases h1
 ·cases h1
 ·rw [Aj] at h1; exact h1.elim
 ·cases h1
  exact .inr ⟨xs',vs,rfl,h2,h.rep h3⟩
end
section
variable [AQ]
set_option maxRecDepth 100000
def MC:Af := .seq (.seq (.ops [mv_ 5 1,po_ 6 (.lenV (.t 5)),po_ 7 (.bin 3 .eql (.t 6) (ci_ 0))] [0,1,7])
 (.cond (.t 7)
 (.seq (.ops [mv_ 8 0,so_ 9 (.appS 5 (.t 8) (.c (.string (str [48,48,48,48])))),mv_ 4 9] [4])
  (.ret))
 (.skip)))
 (.seq (.ops [mv_ 10 0,mv_ 11 1,po_ 12 (.lenV (.t 11)),po_ 13 (.bin 3 .add (.t 12) (ci_ 4)),so_ 14 (.call 86 [.t 13]),so_ 15 (.appS 5 (.t 10) (.t 14)),mv_ 16 1,so_ 17 (.app 1 1 5 (.t 15) (.t 16)),mv_ 4 17] [4])
 (.ret))
def Px:Af := .seq (.ops [po_ 4 (.mov (.c (.slice none 0 0)))] [0,1])
 MC
def Qg:List VR:=[.tmp 4]
theorem Zn:Tryz.f54.body.bind (trC Tryz.prog Tryz.f54.ntmps)=some (er Px):=by kernel_rfl
theorem Zi:trR Tryz.prog Tryz.f54.results.toList=some Qg:=by kernel_rfl
def Tt:=Ac MC.eq_1
def WX:=Ac Px.eq_1
theorem Xg {K:TV→Prop} {e:Env} {H:List Ob}:res Qg e H K=res [.tmp 4] e H K:=Aa rfl
def A7:=(aI_ (aI_ @Tt @WX) @Xg)
def Oz:=Dj 18 Tryz.func54 Zn Zi rfl
def Sj:Af := .seq (.draw 12 [mv_ 3 0,po_ 4 (.bin 3 .shr (.t 3) (.c (.int .u64 ((12:Nat):Int)))),po_ 5 (.bin 3 .and (.t 4) (ci_ 15)),po_ 6 (.idxS (.c (.string (str [48,49,50,51,52,53,54,55,56,57,97,98,99,100,101,102]))) (.t 5)),mv_ 7 0,po_ 8 (.bin 3 .shr (.t 7) (.c (.int .u64 ((8:Nat):Int)))),po_ 9 (.bin 3 .and (.t 8) (ci_ 15)),po_ 10 (.idxS (.c (.string (str [48,49,50,51,52,53,54,55,56,57,97,98,99,100,101,102]))) (.t 9)),mv_ 11 0,po_ 12 (.bin 3 .shr (.t 11) (.c (.int .u64 ((4:Nat):Int)))),po_ 13 (.bin 3 .and (.t 12) (ci_ 15)),po_ 14 (.idxS (.c (.string (str [48,49,50,51,52,53,54,55,56,57,97,98,99,100,101,102]))) (.t 13)),mv_ 15 0,po_ 16 (.bin 3 .and (.t 15) (ci_ 15)),po_ 17 (.idxS (.c (.string (str [48,49,50,51,52,53,54,55,56,57,97,98,99,100,101,102]))) (.t 16)),⟨some 18,.s (.bslice 1 4 (.val (.int .u8 ((0:Nat):Int))) [⟨0,.t 6⟩,⟨1,.t 10⟩,⟨2,.t 14⟩,⟨3,.t 17⟩]),none⟩,po_ 19 (.b2s (.t 18)),mv_ 2 19] [2])
 (.ret)
def Xr:Af := .seq (.ops [po_ 2 (.mov (.c (.string (str []))))] [0])
 Sj
def XD:List VR:=[.tmp 2]
theorem Ac5:Tryz.f86.body.bind (trC Tryz.prog Tryz.f86.ntmps)=some (er Xr):=by kernel_rfl
theorem Ad7:trR Tryz.prog Tryz.f86.results.toList=some XD:=by kernel_rfl
def Yu:=Ac Sj.eq_1
def AbJ:=Ac Xr.eq_1
theorem AbP {K:TV→Prop} {e:Env} {H:List Ob}:res XD e H K=res [.tmp 2] e H K:=Aa rfl
def Ad6:=(aI_ (aI_ @Yu @AbJ) @AbP)
def Ack:=Dj 20 Tryz.func86 Ac5 Ad7 rfl
def VQ:Af := .seq (.seq (.ops [mv_ 23 4,po_ 24 (.eqN 1 (.t 23) (.c .nilIface) true),mv_ 25 24,⟨some 26,.p (.mov (.t 6)),some ⟨25,false⟩⟩,⟨some 27,.p (.conv .i64 (.t 26)),some ⟨25,false⟩⟩,⟨some 28,.s (.call 86 [.t 27]),some ⟨25,false⟩⟩,⟨some 29,.p (.mov (.t 5)),some ⟨25,false⟩⟩,⟨some 30,.p (.bin 9 .neq (.t 28) (.t 29)),some ⟨25,false⟩⟩,po_ 31 (.pick (.t 25) (.c (.bool true)) (.t 30)),mv_ 32 31,⟨some 33,.p (.mov (.t 6)),some ⟨32,false⟩⟩,⟨some 34,.p (.bin 190 .leq (.t 33) (.c (.int .u64 ((4:Nat):Int)))),some ⟨32,false⟩⟩,po_ 35 (.pick (.t 32) (.c (.bool true)) (.t 34)),mv_ 36 35,⟨some 37,.p (.mov (.t 6)),some ⟨36,false⟩⟩,⟨some 38,.p (.bin 190 .gtr (.t 37) (.c (.int .u64 ((1004:Nat):Int)))),some ⟨36,false⟩⟩,po_ 39 (.pick (.t 36) (.c (.bool true)) (.t 38)),mv_ 40 39,⟨some 41,.p (.mov (.t 6)),some ⟨40,false⟩⟩,⟨some 42,.p (.mov (.t 0)),some ⟨40,false⟩⟩,⟨some 43,.p (.lenV (.t 42)),some ⟨40,false⟩⟩,⟨some 44,.p (.conv .u64 (.t 43)),some ⟨40,false⟩⟩,⟨some 45,.p (.bin 190 .gtr (.t 41) (.t 44)),some ⟨40,false⟩⟩,po_ 46 (.pick (.t 40) (.c (.bool true)) (.t 45))] [0,6,46])
 (.cond (.t 46)
 (.seq (.ops [po_ 47 (.iface 33 (ci_ 110)),po_ 2 (.mov (.c (.slice none 0 0))),po_ 3 (.mov (.c (.slice none 0 0))),mv_ 4 47] [2,3,4])
  (.ret))
 (.skip)))
 (.seq (.draw 3 [mv_ 48 0,mv_ 49 6,po_ 50 (.slV 1 (.t 48) (some (ci_ 4)) (some (.t 49))),mv_ 51 0,mv_ 52 6,po_ 53 (.slV 1 (.t 51) (some (.t 52)) none),mv_ 2 50,mv_ 3 53,po_ 4 (.mov (.c .nilIface))] [2,3,4])
 (.ret))
def Wh:Af := .seq (.ops [mv_ 19 5,so_ 20 (.call 103 [.t 19,.c (.int .i64 ((16:Nat):Int)),.c (.int .i64 ((16:Nat):Int))]),mv_ 18 20,po_ 21 (.ext 0 (.t 18)),po_ 22 (.ext 1 (.t 18)),mv_ 6 21,mv_ 4 22] [0,4,5,6])
 VQ
def Wn:Af := .seq (.seq (.ops [mv_ 14 5,po_ 15 (.bin 9 .eql (.t 14) (.c (.string (str [48,48,48,48]))))] [0,5,15])
 (.cond (.t 15)
 (.seq (.draw 2 [mv_ 16 0,po_ 17 (.slV 1 (.t 16) (some (ci_ 4)) none),po_ 2 (.mov (.c (.slice none 0 0))),mv_ 3 17,po_ 4 (.mov (.c .nilIface))] [2,3,4])
  (.ret))
 (.skip)))
 Wh
def V3:Af := .seq (.ops [mv_ 11 0,po_ 12 (.slV 1 (.t 11) none (some (ci_ 4))),po_ 13 (.b2s (.t 12)),mv_ 5 13] [0,5])
 Wn
def VP:Af := .seq (.seq (.ops [mv_ 7 0,po_ 8 (.lenV (.t 7)),po_ 9 (.bin 3 .lss (.t 8) (ci_ 4))] [0,9])
 (.cond (.t 9)
 (.seq (.ops [po_ 10 (.iface 33 (ci_ 110)),po_ 2 (.mov (.c (.slice none 0 0))),po_ 3 (.mov (.c (.slice none 0 0))),mv_ 4 10] [2,3,4])
  (.ret))
 (.skip)))
 V3
def Aa5:Af := .seq (.ops [po_ 2 (.mov (.c (.slice none 0 0))),po_ 3 (.mov (.c (.slice none 0 0))),po_ 4 (.mov (.c .nilIface))] [0])
 VP
def Abj:List VR:=[.tmp 2,.tmp 3,.tmp 4]
theorem Af1:Tryz.f77.body.bind (trC Tryz.prog Tryz.f77.ntmps)=some (er Aa5):=by kernel_rfl
theorem Af5:trR Tryz.prog Tryz.f77.results.toList=some Abj:=by kernel_rfl
def SN:=Ac VQ.eq_1
def Aaz:=Ac Wh.eq_1
def Si:=Ac Wn.eq_1
def RX:=Ac V3.eq_1
def LJ:=Ac VP.eq_1
def QH:=Ac Aa5.eq_1
theorem Dw {K:TV→Prop} {e:Env} {H:List Ob}:res Abj e H K=res [.tmp 2,.tmp 3,.tmp 4] e H K:=Aa rfl
def Afh:=Dj 54 Tryz.func77 Af1 Af5 rfl
def TQ:Af := .seq (.seq (.ops [mv_ 17 7,po_ 18 (.eqN 1 (.t 17) (.c .nilIface) true)] [4,5,6,7,18])
 (.cond (.t 18)
 (.seq (.ops [mv_ 19 7,po_ 2 (.mov (.c (.slice none 0 0))),mv_ 3 19] [2,3])
  (.ret))
 (.skip)))
 (.seq (.ops [mv_ 20 4,mv_ 21 5,so_ 22 (.call 81 [.t 21]),⟨some 23,.s (.bslice 1 1 (.val (.slice none 0 0)) [⟨0,.t 22⟩]),none⟩,so_ 24 (.app 1 24 23 (.t 20) (.t 23)),mv_ 4 24] [4,6])
 (.ops [mv_ 25 6,mv_ 0 25] [0,4]))
def TL:Af := .block 1 (.seq (.ops [mv_ 12 0,so_ 13 (.call 77 [.t 12]),mv_ 11 13,po_ 14 (.ext 0 (.t 11)),po_ 15 (.ext 1 (.t 11)),po_ 16 (.ext 2 (.t 11)),mv_ 5 14,mv_ 6 15,mv_ 7 16] [4,5,6,7])
 TQ)
def Uc:Af := .seq (.seq (.ops [mv_ 8 0,po_ 9 (.lenV (.t 8)),po_ 10 (.bin 3 .gtr (.t 9) (ci_ 0))] [0,4,10])
 (.cond (.t 10)
 (.skip)
 (.exit 0)))
 TL
def Uh:Af := .seq (.ops [mv_ 26 4,mv_ 2 26,po_ 3 (.mov (.c .nilIface))] [2,3])
 (.ret)
def TJ:Af := .seq (.block 0 (.own 4 1 (.loop [0,4] Uc)))
 Uh
def UD:Af := .seq (.ops [po_ 4 (.mov (.c (.slice none 0 0)))] [0,4])
 TJ
def Aaj:Af := .seq (.ops [po_ 2 (.mov (.c (.slice none 0 0))),po_ 3 (.mov (.c .nilIface))] [0])
 UD
def Aac:List VR:=[.tmp 2,.tmp 3]
theorem Afd:Tryz.f94.body.bind (trC Tryz.prog Tryz.f94.ntmps)=some (er Aaj):=by kernel_rfl
theorem AeW:trR Tryz.prog Tryz.f94.results.toList=some Aac:=by kernel_rfl
def Pn:=Ac TQ.eq_1
def Zf:=Ac TL.eq_1
def Qd:=Ac Uc.eq_1
def Zh:=Ac Uh.eq_1
def YX:=Ac TJ.eq_1
def Zu:=Ac UD.eq_1
def Ab3:=Ac Aaj.eq_1
theorem VU {K:TV→Prop} {e:Env} {H:List Ob}:res Aac e H K=res [.tmp 2,.tmp 3] e H K:=Aa rfl
def Ado:=Dj 27 Tryz.func94 Afd AeW rfl
def TZ:Af := .seq (.block 1 (.seq (.ops [po_ 21 (.idxA 1 (.t 17) (.t 19)),po_ 22 (.load false 1 (.t 21)),mv_ 8 22] [6,8,17,18,19])
 (.ops [mv_ 23 6,mv_ 24 8,po_ 25 (.b2s (.t 24)),so_ 26 (.call 79 [.t 25,.c (.string (str [10]))]),so_ 27 (.call 78 [.t 26,.c (.string (str [32]))]),⟨some 28,.s (.bslice 1 1 (.val (.slice none 0 0)) [⟨0,.t 27⟩]),none⟩,so_ 29 (.app 1 24 111 (.t 23) (.t 28)),mv_ 6 29] [6,17,18,19])))
 (.ops [po_ 30 (.bin 3 .add (.t 19) (ci_ 1)),mv_ 19 30] [6,17,18,19])
def UB:Af := .seq (.cond (.t 20)
 (.skip)
 (.exit 0))
 TZ
def U2:Af := .seq (.ops [po_ 20 (.bin 3 .lss (.t 19) (.t 18))] [6,17,18,19,20])
 UB
def TR:Af := .block 0 (.own 6 1 (.loop [6,17,18,19] U2))
def TT:Af := .seq (.ops [mv_ 31 6,mv_ 2 31,po_ 3 (.mov (.c .nilIface))] [2,3])
 (.ret)
def U4:Af := .seq (.seq (.ops [mv_ 17 4,po_ 18 (.lenV (.t 17)),po_ 19 (.mov (ci_ 0))] [6,17,18,19])
 TR)
 TT
def UA:Af := .seq (.ops [po_ 6 (.mov (.c (.slice none 0 0)))] [4,6])
 U4
def UM:Af := .seq (.seq (.ops [mv_ 14 5,po_ 15 (.eqN 1 (.t 14) (.c .nilIface) true)] [4,5,15])
 (.cond (.t 15)
 (.seq (.ops [mv_ 16 5,po_ 2 (.mov (.c (.slice none 0 0))),mv_ 3 16] [2,3])
  (.ret))
 (.skip)))
 UA
def Un:Af := .seq (.ops [mv_ 10 0,so_ 11 (.call 94 [.t 10]),mv_ 9 11,po_ 12 (.ext 0 (.t 9)),po_ 13 (.ext 1 (.t 9)),mv_ 4 12,mv_ 5 13] [4,5])
 UM
def ZU:Af := .seq (.ops [po_ 2 (.mov (.c (.slice none 0 0))),po_ 3 (.mov (.c .nilIface))] [0])
 Un
def Aap:List VR:=[.tmp 2,.tmp 3]
theorem Afl:Tryz.f64.body.bind (trC Tryz.prog Tryz.f64.ntmps)=some (er ZU):=by kernel_rfl
theorem AfB:trR Tryz.prog Tryz.f64.results.toList=some Aap:=by kernel_rfl
def Qe:=Ac TZ.eq_1
def Jt:=Ac UB.eq_1
def JL:=Ac U2.eq_1
def Ze:=Ac TR.eq_1
def Zw:=Ac TT.eq_1
def Zx:=Ac U4.eq_1
def Y1:=Ac UA.eq_1
def Qa:=Ac UM.eq_1
def ZI:=Ac Un.eq_1
def Aci:=Ac ZU.eq_1
theorem VV {K:TV→Prop} {e:Env} {H:List Ob}:res Aap e H K=res [.tmp 2,.tmp 3] e H K:=Aa rfl
def AdS:=Dj 32 Tryz.func64 Afl AfB rfl
def Aaa:Af := .seq (.ops [po_ 6 (.mov (.c .nilIface))] [0,1,2])
 (.seq (.seq (.ops [mv_ 7 2,po_ 8 (.eqN 1 (.t 7) (.c .nilIface) true),mv_ 9 8,⟨some 10,.p (.mov (.t 0)),some ⟨9,false⟩⟩,⟨some 11,.p (.mov (.t 1)),some ⟨9,false⟩⟩,⟨some 12,.s (.call 96 [.t 10,.t 11]),some ⟨9,false⟩⟩,⟨some 13,.p (.un .not (.t 12)),some ⟨9,false⟩⟩,po_ 14 (.pick (.t 9) (.c (.bool true)) (.t 13))] [14])
 (.cond (.t 14)
 (.seq (.ops [po_ 15 (.iface 33 (ci_ 111)),mv_ 6 15] [6])
  (.ret))
 (.skip)))
 (.seq (.ops [po_ 6 (.mov (.c .nilIface))] [6])
 (.ret)))
def Aal:List VR:=[.tmp 6]
theorem AfA:Tryz.f66.body.bind (trC Tryz.prog Tryz.f66.ntmps)=some (er Aaa):=by kernel_rfl
theorem AeY:trR Tryz.prog Tryz.f66.results.toList=some Aal:=by kernel_rfl
def Wj:=Ac Aaa.eq_1
theorem OU {K:TV→Prop} {e:Env} {H:List Ob}:res Aal e H K=res [.tmp 6] e H K:=Aa rfl
def X8:=Dj 16 Tryz.func66 AfA AeY rfl
def RY:Af := .ops [mv_ 4 0,mv_ 5 0,po_ 6 (.nilc (.t 5)),po_ 7 (.fieldA 1 1 (.t 6)),po_ 8 (.load false 1 (.t 7)),mv_ 9 8,⟨some 10,.p (.mov (.t 1)),some ⟨9,false⟩⟩,⟨some 11,.p (.un .not (.t 10)),some ⟨9,false⟩⟩,po_ 12 (.pick (.t 9) (.c (.bool true)) (.t 11)),po_ 13 (.nilc (.t 4)),po_ 14 (.fieldA 1 1 (.t 13)),⟨none,.s (.store 1 (.t 14) (.t 12)),none⟩] []
def RH:List VR:=[]
theorem AaV:Tryz.f27.body.bind (trC Tryz.prog Tryz.f27.ntmps)=some (er RY):=by kernel_rfl
theorem AaM:trR Tryz.prog Tryz.f27.results.toList=some RH:=by kernel_rfl
def YD:=Ac RY.eq_1
theorem YF {K:TV→Prop} {e:Env} {H:List Ob}:res RH e H K=res [] e H K:=Aa rfl
def Tn:=(aI_ @YD @YF)
def Zl:=Dj 15 Tryz.func27 AaV AaM rfl
def UV:Af := .sdraw 5 [mv_ 4 0,mv_ 5 0,po_ 6 (.nilc (.t 5)),po_ 7 (.fieldA 0 0 (.t 6)),po_ 8 (.load false 1 (.t 7)),mv_ 9 1,so_ 10 (.call 55 [.t 9,.c (.string (str [32]))]),po_ 11 (.bin 9 .add (.t 10) (.c (.string (str [10])))),so_ 12 (.s2b (.t 11)),so_ 13 (.call 54 [.t 8,.t 12]),po_ 14 (.nilc (.t 4)),po_ 15 (.fieldA 0 0 (.t 14)),⟨none,.s (.store 1 (.t 15) (.t 13)),none⟩] []
def Ul:List VR:=[]
theorem Abc:Tryz.f29.body.bind (trC Tryz.prog Tryz.f29.ntmps)=some (er UV):=by kernel_rfl
theorem AbD:trR Tryz.prog Tryz.f29.results.toList=some Ul:=by kernel_rfl
def Za:=Ac UV.eq_1
theorem Y6 {K:TV→Prop} {e:Env} {H:List Ob}:res Ul e H K=res [] e H K:=Aa rfl
def AbQ:=(aI_ @Za @Y6)
def AaE:=Dj 16 Tryz.func29 Abc AbD rfl
def PR:Af := .ops [mv_ 2 0,mv_ 3 0,po_ 4 (.nilc (.t 3)),po_ 5 (.fieldA 0 0 (.t 4)),po_ 6 (.load false 1 (.t 5)),so_ 7 (.appS 5 (.t 6) (.c (.string (str [48,48,48,48])))),po_ 8 (.nilc (.t 2)),po_ 9 (.fieldA 0 0 (.t 8)),⟨none,.s (.store 1 (.t 9) (.t 7)),none⟩] []
def PI:List VR:=[]
theorem Y9:Tryz.f31.body.bind (trC Tryz.prog Tryz.f31.ntmps)=some (er PR):=by kernel_rfl
theorem Y7:trR Tryz.prog Tryz.f31.results.toList=some PI:=by kernel_rfl
def WM:=Ac PR.eq_1
theorem Xf {K:TV→Prop} {e:Env} {H:List Ob}:res PI e H K=res [] e H K:=Aa rfl
def Qv:=(aI_ @WM @Xf)
def Yw:=Dj 10 Tryz.func31 Y9 Y7 rfl
def Nj:Af := .seq (.seq (.ops [mv_ 4 0,po_ 5 (.nilc (.t 4)),po_ 6 (.fieldA 1 1 (.t 5)),po_ 7 (.load false 1 (.t 6))] [0,7])
 (.cond (.t 7)
 (.seq (.ops [po_ 8 (.iface 33 (ci_ 111)),po_ 2 (.mov (.c (.slice none 0 0))),mv_ 3 8] [2,3])
  (.ret))
 (.skip)))
 (.seq (.ops [mv_ 9 0,po_ 10 (.nilc (.t 9)),po_ 11 (.fieldA 0 0 (.t 10)),po_ 12 (.load false 1 (.t 11)),mv_ 2 12,po_ 3 (.mov (.c .nilIface))] [2,3])
 (.ret))
def Tf:Af := .seq (.ops [po_ 2 (.mov (.c (.slice none 0 0))),po_ 3 (.mov (.c .nilIface))] [0])
 Nj
def Sl:List VR:=[.tmp 2,.tmp 3]
theorem AaU:Tryz.f32.body.bind (trC Tryz.prog Tryz.f32.ntmps)=some (er Tf):=by kernel_rfl
theorem AaP:trR Tryz.prog Tryz.f32.results.toList=some Sl:=by kernel_rfl
def UE:=Ac Nj.eq_1
def Xt:=Ac Tf.eq_1
theorem Yj {K:TV→Prop} {e:Env} {H:List Ob}:res Sl e H K=res [.tmp 2,.tmp 3] e H K:=Aa rfl
def SK:=(aI_ (aI_ @UE @Xt) @Yj)
def YZ:=Dj 13 Tryz.func32 AaU AaP rfl
def Qs:Af := .seq (.draw 12 [mv_ 3 0,po_ 4 (.bin 3 .quo (.t 3) (ci_ 4096)),po_ 5 (.bin 3 .rem (.t 4) (ci_ 16)),po_ 6 (.idxS (.c (.string (str [48,49,50,51,52,53,54,55,56,57,97,98,99,100,101,102]))) (.t 5)),mv_ 7 0,po_ 8 (.bin 3 .quo (.t 7) (ci_ 256)),po_ 9 (.bin 3 .rem (.t 8) (ci_ 16)),po_ 10 (.idxS (.c (.string (str [48,49,50,51,52,53,54,55,56,57,97,98,99,100,101,102]))) (.t 9)),mv_ 11 0,po_ 12 (.bin 3 .quo (.t 11) (ci_ 16)),po_ 13 (.bin 3 .rem (.t 12) (ci_ 16)),po_ 14 (.idxS (.c (.string (str [48,49,50,51,52,53,54,55,56,57,97,98,99,100,101,102]))) (.t 13)),mv_ 15 0,po_ 16 (.bin 3 .rem (.t 15) (ci_ 16)),po_ 17 (.idxS (.c (.string (str [48,49,50,51,52,53,54,55,56,57,97,98,99,100,101,102]))) (.t 16)),⟨some 18,.s (.bslice 1 4 (.val (.int .u8 ((0:Nat):Int))) [⟨0,.t 6⟩,⟨1,.t 10⟩,⟨2,.t 14⟩,⟨3,.t 17⟩]),none⟩,po_ 19 (.b2s (.t 18)),mv_ 2 19] [2])
 (.ret)
def V6:Af := .seq (.ops [po_ 2 (.mov (.c (.string (str []))))] [0])
 Qs
def VN:List VR:=[.tmp 2]
theorem Acb:Tryz.f90.body.bind (trC Tryz.prog Tryz.f90.ntmps)=some (er V6):=by kernel_rfl
theorem Acm:trR Tryz.prog Tryz.f90.results.toList=some VN:=by kernel_rfl
def Xo:=Ac Qs.eq_1
def Aat:=Ac V6.eq_1
theorem AaD {K:TV→Prop} {e:Env} {H:List Ob}:res VN e H K=res [.tmp 2] e H K:=Aa rfl
def Acl:=(aI_ (aI_ @Xo @Aat) @AaD)
def Abb:=Dj 20 Tryz.func90 Acb Acm rfl
def UT:Af := .seq (.seq (.ops [mv_ 3 0,po_ 4 (.lenV (.t 3)),po_ 5 (.bin 3 .eql (.t 4) (ci_ 0))] [0,5])
 (.cond (.t 5)
 (.seq (.ops [⟨some 6,.s (.bslice 1 4 (.val (.int .u8 ((0:Nat):Int))) [⟨0,.c (.int .u8 ((48:Nat):Int))⟩,⟨1,.c (.int .u8 ((48:Nat):Int))⟩,⟨2,.c (.int .u8 ((48:Nat):Int))⟩,⟨3,.c (.int .u8 ((48:Nat):Int))⟩]),none⟩,so_ 7 (.cvS (.t 6)),mv_ 2 7] [2])
  (.ret))
 (.skip)))
 (.seq (.ops [mv_ 8 0,po_ 9 (.lenV (.t 8)),po_ 10 (.bin 3 .add (.t 9) (ci_ 4)),so_ 11 (.call 90 [.t 10]),so_ 12 (.s2b (.t 11)),mv_ 13 0,so_ 14 (.app 1 1 5 (.t 12) (.t 13)),mv_ 2 14] [2])
 (.ret))
def Aas:Af := .seq (.ops [po_ 2 (.mov (.c (.slice none 0 0)))] [0])
 UT
def Aab:List VR:=[.tmp 2]
theorem Aeq:Tryz.f58.body.bind (trC Tryz.prog Tryz.f58.ntmps)=some (er Aas):=by kernel_rfl
theorem AeK:trR Tryz.prog Tryz.f58.results.toList=some Aab:=by kernel_rfl
def PW:=Ac UT.eq_1
def VX:=Ac Aas.eq_1
theorem VM {K:TV→Prop} {e:Env} {H:List Ob}:res Aab e H K=res [.tmp 2] e H K:=Aa rfl
def AdA:=Dj 15 Tryz.func58 Aeq AeK rfl
def UG:Af := .seq (.seq (.ops [mv_ 25 0,po_ 26 (.lenV (.t 25)),mv_ 27 5,po_ 28 (.bin 3 .add (ci_ 4) (.t 27)),po_ 29 (.bin 3 .lss (.t 26) (.t 28))] [0,5,29])
 (.cond (.t 29)
 (.seq (.ops [mv_ 30 0,po_ 2 (.mov (.c (.slice none 0 0))),mv_ 3 30,po_ 4 (.mov (.c (.bool false)))] [2,3,4])
  (.ret))
 (.skip)))
 (.seq (.draw 5 [mv_ 31 0,mv_ 32 5,po_ 33 (.bin 3 .add (ci_ 4) (.t 32)),po_ 34 (.slV 1 (.t 31) (some (ci_ 4)) (some (.t 33))),mv_ 35 0,mv_ 36 5,po_ 37 (.bin 3 .add (ci_ 4) (.t 36)),po_ 38 (.slV 1 (.t 35) (some (.t 37)) none),mv_ 2 34,mv_ 3 38,po_ 4 (.mov (.c (.bool true)))] [2,3,4])
 (.ret))
def UI:Af := .cond (.t 24)
 UG
 (.skip)
def Nc:Af := .seq (.ops [mv_ 20 0,po_ 21 (.slV 1 (.t 20) none (some (ci_ 4))),po_ 22 (.b2s (.t 21)),mv_ 23 6,po_ 24 (.bin 9 .eql (.t 22) (.t 23))] [0,5,24])
 UI
def U0:Af := .seq (.seq (.ops [mv_ 18 5,po_ 19 (.bin 3 .eql (.t 18) (ci_ 0))] [0,5,6,19])
 (.cond (.t 19)
 (.ops [po_ 6 (.mov (.c (.string (str [48,48,48,48]))))] [0,5,6])
 (.skip)))
 Nc
def Uu:Af := .seq (.block 1 (.seq (.ops [mv_ 15 5,po_ 16 (.bin 3 .add (.t 15) (ci_ 4)),so_ 17 (.call 90 [.t 16]),mv_ 6 17] [0,5,6])
 U0))
 (.ops [mv_ 13 5,po_ 14 (.bin 3 .add (.t 13) (ci_ 1)),mv_ 5 14] [0,5])
def UY:Af := .seq (.seq (.ops [mv_ 11 5,po_ 12 (.bin 3 .leq (.t 11) (ci_ 1000))] [0,5,12])
 (.cond (.t 12)
 (.skip)
 (.exit 0)))
 Uu
def Ua:Af := .block 0 (.loop [0,5] UY)
def UH:Af := .seq (.ops [mv_ 39 0,po_ 2 (.mov (.c (.slice none 0 0))),mv_ 3 39,po_ 4 (.mov (.c (.bool false)))] [2,3,4])
 (.ret)
def Ug:Af := .seq (.seq (.ops [po_ 5 (.mov (ci_ 0))] [0,5])
 Ua)
 UH
def SI:Af := .seq (.seq (.ops [mv_ 7 0,po_ 8 (.lenV (.t 7)),po_ 9 (.bin 3 .lss (.t 8) (ci_ 4))] [0,9])
 (.cond (.t 9)
 (.seq (.ops [mv_ 10 0,po_ 2 (.mov (.c (.slice none 0 0))),mv_ 3 10,po_ 4 (.mov (.c (.bool false)))] [2,3,4])
  (.ret))
 (.skip)))
 Ug
def Aao:Af := .seq (.ops [po_ 2 (.mov (.c (.slice none 0 0))),po_ 3 (.mov (.c (.slice none 0 0))),po_ 4 (.mov (.c (.bool false)))] [0])
 SI
def Aai:List VR:=[.tmp 2,.tmp 3,.tmp 4]
theorem Afz:Tryz.f82.body.bind (trC Tryz.prog Tryz.f82.ntmps)=some (er Aao):=by kernel_rfl
theorem Afm:trR Tryz.prog Tryz.f82.results.toList=some Aai:=by kernel_rfl
def P8:=Ac UG.eq_1
def JJ:=Ac UI.eq_1
def JB:=Ac Nc.eq_1
def PY:=Ac U0.eq_1
def O9:=Ac Uu.eq_1
def JG:=Ac UY.eq_1
def Zr:=Ac Ua.eq_1
def ZP:=Ac UH.eq_1
def Zm:=Ac Ug.eq_1
def NZ:=Ac SI.eq_1
def VS:=Ac Aao.eq_1
theorem EU {K:TV→Prop} {e:Env} {H:List Ob}:res Aai e H K=res [.tmp 2,.tmp 3,.tmp 4] e H K:=Aa rfl
def AdN:=Dj 40 Tryz.func82 Afz Afm rfl
def SE:Af := .block 1 (.seq (.ops [mv_ 12 0,so_ 13 (.call 82 [.t 12]),mv_ 11 13,po_ 14 (.ext 0 (.t 11)),po_ 15 (.ext 1 (.t 11)),po_ 16 (.ext 2 (.t 11)),mv_ 5 14,mv_ 6 15,mv_ 7 16] [4,5,6,7])
 (.seq (.seq (.ops [mv_ 17 7,po_ 18 (.un .not (.t 17))] [4,5,6,18])
 (.cond (.t 18)
 (.seq (.ops [po_ 2 (.mov (.c (.slice none 0 0))),po_ 3 (.mov (.c (.bool false)))] [2,3])
  (.ret))
 (.skip)))
 (.seq (.ops [mv_ 19 4,mv_ 20 5,⟨some 21,.s (.bslice 1 1 (.val (.slice none 0 0)) [⟨0,.t 20⟩]),none⟩,so_ 22 (.app 1 24 23 (.t 19) (.t 21)),mv_ 4 22] [4,6])
 (.ops [mv_ 23 6,mv_ 0 23] [0,4]))))
def Sm:Af := .seq (.seq (.ops [mv_ 8 0,po_ 9 (.lenV (.t 8)),po_ 10 (.bin 3 .gtr (.t 9) (ci_ 0))] [0,4,10])
 (.cond (.t 10)
 (.skip)
 (.exit 0)))
 SE
def RJ:Af := .seq (.ops [mv_ 24 4,mv_ 2 24,po_ 3 (.mov (.c (.bool true)))] [2,3])
 (.ret)
def SH:Af := .seq (.block 0 (.own 4 1 (.loop [0,4] Sm)))
 RJ
def RI:Af := .seq (.ops [po_ 4 (.mov (.c (.slice none 0 0)))] [0,4])
 SH
def YE:Af := .seq (.ops [po_ 2 (.mov (.c (.slice none 0 0))),po_ 3 (.mov (.c (.bool false)))] [0])
 RI
def YM:List VR:=[.tmp 2,.tmp 3]
theorem Ady:Tryz.f67.body.bind (trC Tryz.prog Tryz.f67.ntmps)=some (er YE):=by kernel_rfl
theorem AdJ:trR Tryz.prog Tryz.f67.results.toList=some YM:=by kernel_rfl
def Yc:=Ac SE.eq_1
def Oh:=Ac Sm.eq_1
def XK:=Ac RJ.eq_1
def X3:=Ac SH.eq_1
def XF:=Ac RI.eq_1
def AbV:=Ac YE.eq_1
theorem TW {K:TV→Prop} {e:Env} {H:List Ob}:res YM e H K=res [.tmp 2,.tmp 3] e H K:=Aa rfl
def Ab2:=Dj 25 Tryz.func67 Ady AdJ rfl
def ZX:Af := .seq (.ops [po_ 2 (.mov (.c (.slice none 0 0)))] [0])
 (.seq (.ops [mv_ 3 0,po_ 4 (.bin 9 .add (.t 3) (.c (.string (str [10])))),so_ 5 (.s2b (.t 4)),so_ 6 (.call 58 [.t 5]),mv_ 2 6] [2])
 (.ret))
def Aaf:List VR:=[.tmp 2]
theorem AeG:Tryz.f34.body.bind (trC Tryz.prog Tryz.f34.ntmps)=some (er ZX):=by kernel_rfl
theorem Aes:trR Tryz.prog Tryz.f34.results.toList=some Aaf:=by kernel_rfl
def Acv:=Ac ZX.eq_1
theorem Ab5 {K:TV→Prop} {e:Env} {H:List Ob}:res Aaf e H K=res [.tmp 2] e H K:=Aa rfl
def Adf:=Dj 7 Tryz.func34 AeG Aes rfl
def RS:Af := .seq (.seq (.ops [mv_ 24 0,mv_ 25 5,po_ 26 (.idxA 1 (.t 24) (.t 25)),po_ 27 (.load false 1 (.t 26)),po_ 28 (.bin 5 .eql (.t 27) (.c (.int .u8 ((32:Nat):Int))))] [0,3,4,5,28])
 (.cond (.t 28)
 (.seq (.ops [mv_ 29 3,mv_ 30 4,⟨some 31,.s (.bslice 1 1 (.val (.string (str []))) [⟨0,.t 30⟩]),none⟩,so_ 32 (.app 1 16 9 (.t 29) (.t 31)),mv_ 3 32] [0,3,5])
  (.seq (.ops [po_ 4 (.mov (.c (.string (str []))))] [0,3,4,5])
  (.exit 1)))
 (.skip)))
 (.ops [mv_ 33 4,mv_ 34 0,mv_ 35 5,po_ 36 (.idxA 1 (.t 34) (.t 35)),po_ 37 (.load false 1 (.t 36)),⟨some 38,.s (.bslice 1 1 (.val (.int .u8 ((0:Nat):Int))) [⟨0,.t 37⟩]),none⟩,po_ 39 (.b2s (.t 38)),po_ 40 (.bin 9 .add (.t 33) (.t 39)),mv_ 4 40] [0,3,4,5])
def RD:Af := .seq (.block 1 (.seq (.seq (.ops [mv_ 12 0,mv_ 13 5,po_ 14 (.idxA 1 (.t 12) (.t 13)),po_ 15 (.load false 1 (.t 14)),po_ 16 (.bin 5 .eql (.t 15) (.c (.int .u8 ((10:Nat):Int)))),mv_ 17 16,⟨some 18,.p (.mov (.t 5)),some ⟨17,true⟩⟩,⟨some 19,.p (.bin 3 .add (.t 18) (ci_ 1)),some ⟨17,true⟩⟩,⟨some 20,.p (.mov (.t 0)),some ⟨17,true⟩⟩,⟨some 21,.p (.lenV (.t 20)),some ⟨17,true⟩⟩,⟨some 22,.p (.bin 3 .eql (.t 19) (.t 21)),some ⟨17,true⟩⟩,po_ 23 (.pick (.t 17) (.t 22) (.c (.bool false)))] [0,3,4,5,23])
 (.cond (.t 23)
 (.exit 0)
 (.skip)))
 RS))
 (.ops [mv_ 10 5,po_ 11 (.bin 3 .add (.t 10) (ci_ 1)),mv_ 5 11] [0,3,4,5])
def SX:Af := .seq (.seq (.ops [mv_ 6 5,mv_ 7 0,po_ 8 (.lenV (.t 7)),po_ 9 (.bin 3 .lss (.t 6) (.t 8))] [0,3,4,5,9])
 (.cond (.t 9)
 (.skip)
 (.exit 0)))
 RD
def RV:Af := .block 0 (.own 3 1 (.loop [0,3,4,5] SX))
def SL:Af := .seq (.ops [mv_ 41 3,mv_ 42 4,⟨some 43,.s (.bslice 1 1 (.val (.string (str []))) [⟨0,.t 42⟩]),none⟩,so_ 44 (.app 1 16 9 (.t 41) (.t 43)),mv_ 2 44] [2])
 (.ret)
def Rz:Af := .seq (.seq (.ops [po_ 5 (.mov (ci_ 0))] [0,3,4,5])
 RV)
 SL
def RU:Af := .seq (.ops [po_ 4 (.mov (.c (.string (str []))))] [0,3,4])
 Rz
def SQ:Af := .seq (.ops [po_ 3 (.mov (.c (.slice none 0 0)))] [0,3])
 RU
def YJ:Af := .seq (.ops [po_ 2 (.mov (.c (.slice none 0 0)))] [0])
 SQ
def Ye:List VR:=[.tmp 2]
theorem Ad5:Tryz.f68.body.bind (trC Tryz.prog Tryz.f68.ntmps)=some (er YJ):=by kernel_rfl
theorem Aek:trR Tryz.prog Tryz.f68.results.toList=some Ye:=by kernel_rfl
def Hr:=Ac RS.eq_1
def E5:=Ac RD.eq_1
def Dv:=Ac SX.eq_1
def XB:=Ac RV.eq_1
def OC:=Ac SL.eq_1
def Yh:=Ac Rz.eq_1
def Yn:=Ac RU.eq_1
def YR:=Ac SQ.eq_1
def AbE:=Ac YJ.eq_1
theorem Uf {K:TV→Prop} {e:Env} {H:List Ob}:res Ye e H K=res [.tmp 2] e H K:=Aa rfl
def Acu:=Dj 45 Tryz.func68 Ad5 Aek rfl
end
section
open Go.RowKit
variable [AQ]
abbrev U8:TV := .val (.slice none 0 0)
theorem AxX {n:Nat}:List.take 4 ((((((List.replicate 4 (TV.val (.int .u8 ((0:Nat):Int)))).set 0 (by8 (dig (n / 4096 % 16)))).set 1 (by8 (dig (n / 256 % 16)))).set 2 (by8 (dig (n / 16 % 16)))).set 3 (by8 (dig (n % 16)))))=(YT n).map by8:=by simp [YT]
theorem Xq (n:Nat) (hn:n≤5000000):BC Tryz.prog 86 [i64 (n:Int)] (fun x=>x = .val (.string (str (YT n)))):=by
 refine Am.toPureV (Ack (by simp) ?_)
 have a1:=Kt (n / 4096 % 16) (by omega)
 have a2:=Kt (n / 256 % 16) (by omega)
 have a3:=Kt (n / 16 % 16) (by omega)
 have a4:=Kt (n % 16) (by omega)
 simp -dsimp (disch:=first | assumption | omega) only [↓Ai,Ad,Ag,Ah,eq_self,Nat.reduceEqDiff,Nat.reducePow,↓reduceIte,reduceCtorEq,Nat.reduceLeDiff,↓Ad6,AoQ,←Ake,Av7,a1,a2,a3,a4,AxX]
theorem AdB (n:Nat) (hn:n≤65535):BC Tryz.prog 90 [i64 (n:Int)] (fun x=>x = .val (.string (str (YT n)))):=by
 refine Am.toPureV (Abb (by simp) ?_)
 have a1:=Kt (n / 4096 % 16) (by omega)
 have a2:=Kt (n / 256 % 16) (by omega)
 have a3:=Kt (n / 16 % 16) (by omega)
 have a4:=Kt (n % 16) (by omega)
 simp -dsimp (disch:=first | assumption | omega) only [↓Ai,Ad,Ag,Ah,eq_self,Nat.reduceEqDiff,↓reduceIte,reduceCtorEq,Nat.reduceLeDiff,↓Acl,AoQ,←Ake,a1,a2,a3,a4,AxX]
def MH (x:List UInt8):TV:=if x=[] then U8 else slB x
def Ar5 (b:List UInt8) (r:TV):Prop:=(∀ x s,x.length≤1000→BG x++s=b→r = .tup [MH x,slB s,.val .nilIface])∧((∀ x s,x.length≤1000→BG x++s≠b)→r = .tup [U8,U8,eno 110])
variable [Au] [Az]
theorem AwD (b:List UInt8) (hb:b.length≤1000000):BC Tryz.prog 77 [slB b] (Ar5 b):=by
 refine Am.toPureV (Afh (by simp) ?_)
 have no:(∀ x s,x.length≤1000→BG x++s≠b)→Ar5 b (.tup [U8,U8,eno 110]):=fun h=>⟨fun x s hx e=>absurd e (h x s hx),fun _=>rfl⟩
 by_cases h4:4≤b.length
 case neg =>
  simp -dsimp (disch:=first | assumption | omega | (simp only [Ae];try omega)) only [↓Ai,Ad,Ag,Ah,eq_self,Nat.reduceEqDiff,↓reduceIte,reduceCtorEq,↓QH,↓LJ,↓Dw]
  exact no fun x s hx e=>by have:=(Dc e).2.2; omega
 have ht4:((b.map by8).take 4).length=4:=by simp; omega
 have htl:(b.take 4).length=4:=by simp; omega
 by_cases hz:b.take 4=Ro
 ·have hz':(b.take 4=[48,48,48,48])=True:=eq_true hz
  simp -dsimp (disch:=first | assumption | omega | (simp only [Ae];try omega)) only [↓Ai,Ad,Ag,Ah,eq_self,Nat.reduceEqDiff,↓reduceIte,reduceCtorEq,hz',↓QH,↓LJ,↓RX,↓Si,↓Dw]
  refine ⟨fun x s hx e => ?_,fun h=>absurd (AeO hz) (h [] _ (by simp))⟩
  obtain ⟨rfl,rfl⟩:=XM hx (by simp) (e.trans (AeO hz).symm)
  rfl
 have hz':¬ b.take 4=[48,48,48,48]:=hz
 have hne:∀ x s,x.length≤1000→BG x++s=b→b.take 4=YT (x.length+4):=fun x s hx e=>by
  have h:=(Dc e).1
  unfold AaI at h
  split at h
  ·exact absurd h hz
  ·exact h
 simp -dsimp (disch:=first | assumption | omega | (simp only [Ae];try omega)) only [↓Ai,Ad,Ag,Ah,eq_self,Nat.reduceEqDiff,↓reduceIte,reduceCtorEq,hz',↓QH,↓LJ,↓RX,↓Si,↓Aaz]
 refine (Agn (b.take 4) (by omega)).calls rfl fun r hr => ?_
 cases hp:pX (b.take 4) with
 | none =>
  obtain ⟨m,_,rfl⟩:=hr.2 hp
  clear hr
  simp -dsimp (disch:=first | assumption | omega | (simp only [Ae];try omega)) only [↓Ai,Ad,Ag,Ah,eq_self,Nat.reduceEqDiff,↓reduceIte,reduceCtorEq,↓SN,↓Dw]
  exact no fun x s hx e=>by rw [hne x s hx e,AiM (by omega)] at hp; cases hp
 | some n =>
  rw [hr.1 n hp]
  clear hr
  have hn:n<65536:=by
   unfold pX at hp
   split at hp
   ·rename_i h; rw [←Option.some.inj hp]; exact h.2.2
   ·cases hp
  have key:∀ x s,x.length≤1000→BG x++s=b→n=x.length+4:=fun x s hx e=>by
   rw [hne x s hx e,AiM (by omega)] at hp
   exact (Option.some.inj hp).symm
  have hx0:∀ x s,x.length≤1000→BG x++s=b→x≠[]:=fun x s hx e h0=>by
   subst h0
   exact hz (Dc e).1
  simp -dsimp (disch:=first | assumption | omega | (simp only [Ae];try omega)) only [↓Ai,Ad,Ag,Ah,eq_self,Nat.reduceEqDiff,↓reduceIte,reduceCtorEq,↓SN]
  refine (Xq n (by omega)).calls rfl fun r hr => ?_
  subst hr
  have hwb:IntKind.u64.wrap (b.length:Int)=(b.length:Int):=ZG (by omega)
  by_cases hcan:YT n=b.take 4
  case neg =>
   simp -dsimp (disch:=first | assumption | omega | (simp only [Ae];try omega)) only [↓Ai,Ad,Ag,Ah,eq_self,Nat.reduceEqDiff,↓reduceIte,reduceCtorEq,hcan,↓Dw]
   exact no fun x s hx e=>hcan (by rw [key x s hx e]; exact (hne x s hx e).symm)
  by_cases hn4:n≤4
  ·simp -dsimp (disch:=first | assumption | omega | (simp only [Ae];try omega)) only [↓Ai,Ad,Ag,Ah,eq_self,Nat.reduceEqDiff,↓reduceIte,reduceCtorEq,hcan,hn4,↓Dw]
   exact no fun x s hx e=>by have:=key x s hx e; have:=hx0 x s hx e; rw [ne_eq,←List.length_eq_zero_iff] at this; omega
  by_cases hnb:1004<n
  ·simp -dsimp (disch:=first | assumption | omega | (simp only [Ae];try omega)) only [↓Ai,Ad,Ag,Ah,eq_self,Nat.reduceEqDiff,↓reduceIte,reduceCtorEq,hcan,hn4,hnb,↓Dw]
   exact no fun x s hx e=>by have:=key x s hx e; omega
  by_cases hnl:b.length<n
  ·simp -dsimp (disch:=first | assumption | omega | (simp only [Ae];try omega)) only [↓Ai,Ad,Ag,Ah,eq_self,Nat.reduceEqDiff,↓reduceIte,reduceCtorEq,hcan,hn4,hnb,hwb,hnl,↓Dw]
   exact no fun x s hx e=>by have:=key x s hx e; have:=(Dc e).2.2; omega
  simp -dsimp (disch:=first | assumption | omega | (simp only [Ae];try omega)) only [↓Ai,Ad,Ag,Ah,eq_self,Nat.reduceEqDiff,↓reduceIte,reduceCtorEq,hcan,hn4,hnb,hwb,hnl,↓Dw]
  have hlo:=AqL h4 (by omega) (by omega) (by omega) hcan.symm
  rw [List.drop_take] at hlo
  have hl4:(List.take (n - 4) (List.drop 4 b)).length=n - 4:=by simp; omega
  refine ⟨fun x s hx e => ?_,fun h=>absurd hlo (h _ _ (by omega))⟩
  obtain ⟨rfl,rfl⟩:=XM hx (by omega) (e.trans hlo.symm)
  have hxn:List.take (n - 4) (List.drop 4 b)≠[]:=fun h=>by rw [h] at hl4; simp at hl4; omega
  unfold MH
  rw [if_neg hxn]
end
section
variable [AQ]
set_option maxRecDepth 100000
def YC:Af := .seq (.ops [po_ 2 (.mov (.c (.slice none 0 0)))] [0])
 (.seq (.seq (.ops [mv_ 3 0,so_ 4 (.eqS (.t 3) false)] [0,4])
 (.cond (.t 4)
 (.seq (.ops [po_ 2 (.mov (.c (.slice none 0 0)))] [2])
  (.ret))
 (.skip)))
 (.seq (.ops [so_ 5 (.bslice 1 0 (.val (.int .u8 ((0:Nat):Int))) []),mv_ 6 0,so_ 7 (.app 1 1 5 (.t 5) (.t 6)),mv_ 2 7] [2])
 (.ret)))
def YG:List VR:=[.tmp 2]
theorem AdT:Tryz.f81.body.bind (trC Tryz.prog Tryz.f81.ntmps)=some (er YC):=by kernel_rfl
theorem AdD:trR Tryz.prog Tryz.f81.results.toList=some YG:=by kernel_rfl
def Abd:=Ac YC.eq_1
theorem Aa8 {K:TV→Prop} {e:Env} {H:List Ob}:res YG e H K=res [.tmp 2] e H K:=Aa rfl
def Yz:=(aI_ @Abd @Aa8)
def Wq:=Dj 8 Tryz.func81 AdT AdD rfl
def YN:Af := .seq (.ops [po_ 4 (.mov (.c (.bool false)))] [0,1])
 (.seq (.ops [mv_ 5 0,po_ 6 (.b2s (.t 5)),mv_ 7 1,po_ 8 (.b2s (.t 7)),po_ 9 (.bin 9 .eql (.t 6) (.t 8)),mv_ 4 9] [4])
 (.ret))
def Yy:List VR:=[.tmp 4]
theorem AdR:Tryz.f96.body.bind (trC Tryz.prog Tryz.f96.ntmps)=some (er YN):=by kernel_rfl
theorem AdV:trR Tryz.prog Tryz.f96.results.toList=some Yy:=by kernel_rfl
def Abw:=Ac YN.eq_1
theorem AbH {K:TV→Prop} {e:Env} {H:List Ob}:res Yy e H K=res [.tmp 4] e H K:=Aa rfl
def AdZ:=(aI_ @Abw @AbH)
def Acj:=Dj 10 Tryz.func96 AdR AdV rfl
end
section
open Go.RowKit
variable [AQ]
theorem Atk (l:List UInt8) (hlen:l.length≤1000000) (hn:l≠[]):N8 Tryz.prog 81 [slB l] (fun r=>r=slB l):=by
 refine Am.toFreshV (Wq (by simp) ?_)
 have hn0:l.length≠0:=fun e=>hn (List.length_eq_zero_iff.1 e)
 have ht:(l.map by8).take l.length=l.map by8:=List.take_of_length_le (by simp)
 simp -dsimp (disch:=first | assumption | omega | (simp only [Ae];try omega)) only [↓Ai,Ad,Ag,Ah,eq_self,Nat.reduceEqDiff,↓reduceIte,reduceCtorEq,ht,↓Yz]
theorem Atv:BC Tryz.prog 81 [U8] (fun r=>r=U8):=by
 refine Am.toPureV (Wq (by simp) ?_)
 simp -dsimp (disch:=first | assumption | omega | (simp only [Ae];try omega)) only [↓Ai,Ad,Ag,Ah,eq_self,↓reduceIte,reduceCtorEq,↓Yz,Option.isNone_none]
theorem ArS (x:List UInt8) (hx:x.length≤1000):BC Tryz.prog 81 [MH x] (fun r=>r=MH x):=by
 unfold MH
 by_cases h:x=[]
 ·rw [if_pos h]; exact Atv
 ·rw [if_neg h]; exact (Atk x (by omega) h).pure
def Atw (b:List UInt8) (r:TV):Prop:=(∀ ls,AX ls b→r = .tup [.sl 1 (ls.map MH),.val .nilIface])∧((∀ ls,¬ AX ls b)→r = .tup [U8,eno 110])
variable [Au] [Az]
theorem Auy (b:List UInt8) (hb:b.length≤1000000):BC Tryz.prog 94 [slB b] (Atw b):=by
 refine Am.toPureV (Ado (by simp) ?_)
 have no:(∀ ls,¬ AX ls b)→Atw b (.tup [U8,eno 110]):=fun h=>⟨fun x hx=>absurd hx (h x),fun _=>rfl⟩
 simp -dsimp (disch:=first | assumption | omega | (simp only [Ae];try omega)) only [↓Ai,Ad,Ag,Ah,eq_self,↓reduceIte,reduceCtorEq,↓Ab3,↓Zu,↓YX]
 refine Fg (fun q e H=>∃ (ls:List (List UInt8)) (rest:List UInt8) (k v cp:Nat),q=rest.length∧ls.length+rest.length≤1000000∧LI b ls rest∧H[k]?=some (.obj v (.arr ls.length 1 (ls.map MH)))∧e=[(0,slB rest),(4,.os 1 k v [] 0 ls.length cp)]) b.length ?_ ?_
 ·exact ⟨[],b,0,0,0,rfl,by simpa using hb,⟨by simp,rfl⟩,rfl,rfl⟩
 rintro q e H ⟨ls,rest,k,v,cp,rfl,hrl,hI,hk,rfl⟩
 have hkl:=(List.getElem?_eq_some_iff.1 hk).1
 by_cases hr0:rest=[]
 ·subst hr0
  have hL:AX ls b:=⟨hI.ok,by have:=hI.eq; simpa using this⟩
  have hkt:(ls.map MH).take ls.length=ls.map MH:=List.take_of_length_le (by simp)
  simp -dsimp (disch:=first | assumption | omega | (simp only [Ae];try omega)) only [↓Ai,Ad,Ag,Ah,eq_self,Nat.reduceLT,Nat.reduceEqDiff,↓reduceIte,reduceCtorEq,hk,hkt,↓Qd,↓Zh,↓VU]
  exact ⟨fun ms hm=>by rw [Ui hm hL],fun h=>absurd hL (h ls)⟩
 have hr1:0<rest.length:=List.length_pos_iff.2 hr0
 simp -dsimp (disch:=first | assumption | omega | (simp only [Ae];try omega)) only [↓Ai,Ad,Ag,Ah,eq_self,Nat.reduceEqDiff,↓reduceIte,reduceCtorEq,↓Qd,↓Zf]
 refine (AwD rest (by omega)).calls rfl fun r hr => ?_
 by_cases hx:∃ x s,x.length≤1000∧BG x++s=rest
 case neg =>
  have hno:∀ x s,x.length≤1000→BG x++s≠rest:=fun x s h e=>hx ⟨x,s,h,e⟩
  rw [hr.2 hno]
  simp -dsimp (disch:=first | assumption | omega | (simp only [Ae];try omega)) only [↓Ai,Ad,Ag,Ah,eq_self,Nat.reduceEqDiff,↓reduceIte,reduceCtorEq,↓Pn,↓VU]
  exact no (hI.no hr0 hno)
 obtain ⟨x,s,hx1,hx2⟩:=hx
 rw [hr.1 x s hx1 hx2]
 clear hr
 have hlen:=(Dc hx2).2.2
 have hct:=ArS x hx1
 have hst:=hI.step hx1 hx2
 have hp:EY (MH x)=true∧AC (MH x)=1∧lays (MH x)=true∧Xm (MH x)=false∧CJ (MH x)=false:=by
  unfold MH
  by_cases h:x=[]
  ·rw [if_pos h]; exact ⟨rfl,rfl,rfl,rfl,rfl⟩
  ·rw [if_neg h]; exact ⟨rfl,rfl,rfl,rfl,rfl⟩
 obtain ⟨p1,p2,p3,p4,p5⟩:=hp
 simp -dsimp (disch:=first | assumption | omega | (simp only [Ae];try omega)) only [↓Ai,Ad,Ag,Ah,eq_self,Nat.reduceEqDiff,↓reduceIte,reduceCtorEq,p5,↓Pn]
 refine hct.calls (by unfold MH; split<;>rfl) fun r hr => ?_
 subst hr
 have hA:∀ T:List Ob,(H++T)[k]?=some (.obj v (.arr ls.length 1 (ls.map MH))):=fun T=>by rw [List.getElem?_append_left hkl]; exact hk
 have hl1:ls.length≤1000000:=by omega
 have hkt:(ls.map MH).take ls.length=ls.map MH:=List.take_of_length_le (by simp)
 have h11:∀ y z:TV,List.take 1 ((List.replicate 1 z).set 0 y)=[y]:=fun y z=>rfl
 simp -dsimp (disch:=first | assumption | omega | (simp only [Ae];try omega)) only [↓Ai,Ad,Ag,Ah,eq_self,Nat.reduceEqDiff,↓reduceIte,reduceCtorEq,Nat.reduceLeDiff,p1,p2,p3,hA,hkt,h11]
 have hL:(ls++[x]).length=ls.length+1:=by simp
 refine AB s.length (by omega) (by simp) ⟨ls++[x],s,k,v+1,ls.length+1,rfl,by omega,hst,?_,by rw [hL]; rfl⟩
 rw [List.getElem?_append_left (by simp; omega),List.getElem?_set_self hkl,hL,List.map_append]; rfl
end
section
open Go.RowKit
variable [AQ]
def Ard (b:List UInt8) (r:TV):Prop:=(∀ x s,x.length≤1000→BG x++s=b→r = .tup [slB x,slB s,tb true])∧((∀ x s,x.length≤1000→BG x++s≠b)→r = .tup [U8,slB b,tb false])
theorem At7 {b w:List UInt8} {n:Nat} {E:Env} {Q:VEx→Env→List Ob→Prop} (hb:b.length≤1000000) (h4:4≤b.length) (hn:n≤1000)
  (hyes:b.take 4=w→4+n≤b.length→Q .ret [(2,slB ((b.drop 4).take n)),(3,slB (b.drop (4+n))),(4,tb true)] [])
  (hbad:b.take 4=w→¬ 4+n≤b.length→Q .ret [(2,U8),(3,slB b),(4,tb false)] [])
  (hnext:b.take 4≠w→Q .nor [(0,slB b),(5,i64 (n:Int)),(24,tb false)] []) :
  vwp Tryz.prog Nc Q ((0,slB b)::(5,i64 (n:Int))::(6,ts w)::E) []:=by
 have hs:4+n - 4=n:=by omega
 by_cases hw:b.take 4=w
 ·subst hw
  by_cases hl:4+n≤b.length
  ·have hl':¬ b.length<4+n:=by omega
   simp -dsimp (disch:=first | assumption | omega | (simp only [Ae];try omega)) only [↓Ai,Ad,Ag,Ah,eq_self,Nat.reduceEqDiff,↓reduceIte,reduceCtorEq,hl',hs,↓JB,↓JJ,↓P8]
   exact hyes rfl hl
  ·have hl':b.length<4+n:=by omega
   simp -dsimp (disch:=first | assumption | omega | (simp only [Ae];try omega)) only [↓Ai,Ad,Ag,Ah,eq_self,Nat.reduceEqDiff,↓reduceIte,reduceCtorEq,hl',↓JB,↓JJ,↓P8]
   exact hbad rfl hl
 ·simp -dsimp (disch:=first | assumption | omega | (simp only [Ae];try omega)) only [↓Ai,Ad,Ag,Ah,eq_self,Nat.reduceEqDiff,↓reduceIte,reduceCtorEq,hw,↓JB,↓JJ]
  exact hnext hw
theorem Auo (b:List UInt8) (hb:b.length≤1000000):BC Tryz.prog 82 [slB b] (Ard b):=by
 refine Am.toPureV (AdN (by simp) ?_)
 have no:(∀ x s,x.length≤1000→BG x++s≠b)→Ard b (.tup [U8,slB b,tb false]):=fun h=>⟨fun x s hx e=>absurd e (h x s hx),fun _=>rfl⟩
 by_cases h4:4≤b.length
 case neg =>
  simp -dsimp (disch:=first | assumption | omega | (simp only [Ae];try omega)) only [↓Ai,Ad,Ag,Ah,eq_self,Nat.reduceEqDiff,↓reduceIte,reduceCtorEq,↓VS,↓NZ,↓EU]
  exact no fun x s hx e=>by have:=(Dc e).2.2; omega
 simp -dsimp (disch:=first | assumption | omega | (simp only [Ae];try omega)) only [↓Ai,Ad,Ag,Ah,eq_self,↓reduceIte,reduceCtorEq,↓VS,↓NZ,↓Zm,↓Zr]
 refine Fg (fun q e H=>∃ n:Nat,q=1001 - n∧n≤1001∧(∀ x s,x.length≤1000→BG x++s=b→n≤x.length)∧H=[]∧e=[(0,slB b),(5,i64 (n:Int))]) 1001 ?_ ?_
 ·exact ⟨0,rfl,by omega,fun _ _ _ _=>Nat.zero_le _,rfl,rfl⟩
 rintro q e H ⟨n,rfl,hn,hle,rfl,rfl⟩
 by_cases h1000:n≤1000
 case neg =>
  simp -dsimp (disch:=first | assumption | omega | (simp only [Ae];try omega)) only [↓Ai,Ad,Ag,Ah,eq_self,Nat.reduceEqDiff,↓reduceIte,reduceCtorEq,↓JG,↓ZP,↓EU]
  exact no fun x s hx e=>by have:=hle x s hx e; omega
 have step:(∀ x s,x.length≤1000→BG x++s=b→x.length≠n)→∀ x s,x.length≤1000→BG x++s=b→n+1≤x.length:=fun h x s hx e=>by
  have:=hle x s hx e; have:=h x s hx e; omega
 have yes:b.take 4=YT (if n=0 then 0 else n+4)→4+n≤b.length→Ard b (.tup [slB ((b.drop 4).take n),slB (b.drop (4+n)),tb true]):=fun hw hl=>by
  have hxl:((b.drop 4).take n).length=n:=by simp; omega
  have hE:BG ((b.drop 4).take n)++b.drop (4+n)=b:=by
   rw [AdY]
   unfold AaI
   rw [hxl,←hw,List.append_assoc,←List.drop_drop,List.take_append_drop,List.take_append_drop]
  refine ⟨fun x s hx e => ?_,fun h=>absurd hE (h _ _ (by omega))⟩
  obtain ⟨rfl,rfl⟩:=XM hx (by omega) (e.trans hE.symm)
  rfl
 by_cases h0:n=0
 ·subst h0
  simp -dsimp (disch:=first | assumption | omega | (simp only [Ae];try omega)) only [↓Ai,Ad,Ag,Ah,eq_self,Nat.reduceEqDiff,↓reduceIte,reduceCtorEq,↓JG,↓O9]
  refine (AdB 4 (by omega)).calls rfl fun r hr => ?_
  subst hr
  simp -dsimp (disch:=first | assumption | omega | (simp only [Ae];try omega)) only [↓Ai,Ad,Ag,Ah,eq_self,Nat.reduceEqDiff,↓reduceIte,reduceCtorEq,↓PY]
  refine At7 hb h4 h1000 (fun hw hl => ?_) (fun hw hl => ?_) (fun hw => ?_)
  ·simp -dsimp (disch:=first | assumption | omega | (simp only [Ae];try omega)) only [↓Ai,Ad,Ag,Ah,eq_self,Nat.reduceEqDiff,↓reduceIte,Nat.reduceAdd,↓EU]
   exact yes hw hl
  ·simp -dsimp (disch:=first | assumption | omega | (simp only [Ae];try omega)) only [↓Ai,Ad,Ag,Ah,eq_self,Nat.reduceEqDiff,↓reduceIte,↓EU]
   exact no fun x s hx e=>by
    have h1:=Aeg (Ad1 hx) (by omega) ((Dc e).1.symm.trans (show b.take 4=YT 0 from hw))
    have h2:=(Dc e).2.2
    unfold AaI at h1; split at h1<;>omega
  ·simp -dsimp (disch:=first | assumption | omega | (simp only [Ae];try omega)) only [↓Ai,Ad,Ag,Ah,eq_self,↓reduceIte,reduceCtorEq]
   refine AB (1001 - (0+1)) (by omega) (by simp) ⟨0+1,by omega,by omega,step fun x s hx e h=>hw ?_,rfl,rfl⟩
   rw [(Dc e).1]
   unfold AaI
   rw [if_pos h]; rfl
 ·rw [if_neg h0] at yes
  simp -dsimp (disch:=first | assumption | omega | (simp only [Ae];try omega)) only [↓Ai,Ad,Ag,Ah,eq_self,Nat.reduceEqDiff,↓reduceIte,reduceCtorEq,↓JG,↓O9]
  refine (AdB (n+4) (by omega)).calls rfl fun r hr => ?_
  subst hr
  simp -dsimp (disch:=first | assumption | omega | (simp only [Ae];try omega)) only [↓Ai,Ad,Ag,Ah,eq_self,Nat.reduceEqDiff,↓reduceIte,reduceCtorEq,h0,↓PY]
  refine At7 hb h4 h1000 (fun hw hl => ?_) (fun hw hl => ?_) (fun hw => ?_)
  ·simp -dsimp (disch:=first | assumption | omega | (simp only [Ae];try omega)) only [↓Ai,Ad,Ag,Ah,eq_self,Nat.reduceEqDiff,↓reduceIte,↓EU]
   exact yes hw hl
  ·simp -dsimp (disch:=first | assumption | omega | (simp only [Ae];try omega)) only [↓Ai,Ad,Ag,Ah,eq_self,Nat.reduceEqDiff,↓reduceIte,↓EU]
   exact no fun x s hx e=>by
    have h1:=Aeg (Ad1 hx) (by omega) ((Dc e).1.symm.trans hw)
    have h2:=(Dc e).2.2
    unfold AaI at h1; split at h1<;>omega
  ·simp -dsimp (disch:=first | assumption | omega | (simp only [Ae];try omega)) only [↓Ai,Ad,Ag,Ah,eq_self,↓reduceIte,reduceCtorEq]
   refine AB (1001 - (n+1)) (by omega) (by simp) ⟨n+1,by omega,by omega,step fun x s hx e h=>hw ?_,rfl,rfl⟩
   rw [(Dc e).1]
   unfold AaI
   rw [if_neg (by omega),h]
def AoV (b:List UInt8) (r:TV):Prop:=(∀ ls,AX ls b→r = .tup [.sl 1 (ls.map slB),tb true])∧((∀ ls,¬ AX ls b)→r = .tup [U8,tb false])
theorem ApW (b:List UInt8) (hb:b.length≤1000000):BC Tryz.prog 67 [slB b] (AoV b):=by
 refine Am.toPureV (Ab2 (by simp) ?_)
 have no:(∀ ls,¬ AX ls b)→AoV b (.tup [U8,tb false]):=fun h=>⟨fun x hx=>absurd hx (h x),fun _=>rfl⟩
 simp -dsimp (disch:=first | assumption | omega | (simp only [Ae];try omega)) only [↓Ai,Ad,Ag,Ah,eq_self,↓reduceIte,reduceCtorEq,↓AbV,↓XF,↓X3]
 refine Fg (fun q e H=>∃ (ls:List (List UInt8)) (rest:List UInt8) (k v cp:Nat),q=rest.length∧ls.length+rest.length≤1000000∧LI b ls rest∧H[k]?=some (.obj v (.arr ls.length 1 (ls.map slB)))∧e=[(0,slB rest),(4,.os 1 k v [] 0 ls.length cp)]) b.length ?_ ?_
 ·exact ⟨[],b,0,0,0,rfl,by simpa using hb,⟨by simp,rfl⟩,rfl,rfl⟩
 rintro q e H ⟨ls,rest,k,v,cp,rfl,hrl,hI,hk,rfl⟩
 have hkl:=(List.getElem?_eq_some_iff.1 hk).1
 have hkt:(ls.map slB).take ls.length=ls.map slB:=List.take_of_length_le (by simp)
 by_cases hr0:rest=[]
 ·subst hr0
  have hL:AX ls b:=⟨hI.ok,by have:=hI.eq; simpa using this⟩
  simp -dsimp (disch:=first | assumption | omega | (simp only [Ae];try omega)) only [↓Ai,Ad,Ag,Ah,eq_self,Nat.reduceLT,Nat.reduceEqDiff,↓reduceIte,reduceCtorEq,hk,hkt,↓Oh,↓XK,↓TW]
  exact ⟨fun ms hm=>by rw [Ui hm hL],fun h=>absurd hL (h ls)⟩
 have hr1:0<rest.length:=List.length_pos_iff.2 hr0
 simp -dsimp (disch:=first | assumption | omega | (simp only [Ae];try omega)) only [↓Ai,Ad,Ag,Ah,eq_self,Nat.reduceEqDiff,↓reduceIte,reduceCtorEq,↓Oh,↓Yc]
 refine (Auo rest (by omega)).calls rfl fun r hr => ?_
 by_cases hx:∃ x s,x.length≤1000∧BG x++s=rest
 case neg =>
  have hno:∀ x s,x.length≤1000→BG x++s≠rest:=fun x s h e=>hx ⟨x,s,h,e⟩
  rw [hr.2 hno]
  simp -dsimp (disch:=first | assumption | omega | (simp only [Ae];try omega)) only [↓Ai,Ad,Ag,Ah,eq_self,Nat.reduceEqDiff,↓reduceIte,reduceCtorEq,↓TW]
  exact no (hI.no hr0 hno)
 obtain ⟨x,s,hx1,hx2⟩:=hx
 rw [hr.1 x s hx1 hx2]
 clear hr
 have hlen:=(Dc hx2).2.2
 have hst:=hI.step hx1 hx2
 have hA:∀ T:List Ob,(H++T)[k]?=some (.obj v (.arr ls.length 1 (ls.map slB))):=fun T=>by rw [List.getElem?_append_left hkl]; exact hk
 have hl1:ls.length≤1000000:=by omega
 have h11:∀ y z:TV,List.take 1 ((List.replicate 1 z).set 0 y)=[y]:=fun y z=>rfl
 simp -dsimp (disch:=first | assumption | omega | (simp only [Ae];try omega)) only [↓Ai,Ad,Ag,Ah,eq_self,Nat.reduceEqDiff,↓reduceIte,reduceCtorEq,Nat.reduceLeDiff,hA,hkt,h11]
 have hL:(ls++[x]).length=ls.length+1:=by simp
 refine AB s.length (by omega) (by simp) ⟨ls++[x],s,k,v+1,ls.length+1,rfl,by omega,hst,?_,by rw [hL]; rfl⟩
 rw [List.getElem?_append_left (by simp; omega),List.getElem?_set_self hkl,hL,List.map_append]; rfl
end
section
open Go.RowKit
variable [AQ]
section
omit [AQ]
def spl:List UInt8→List UInt8→List (List UInt8)
 | w,[]=>[w]
 | w,b::l=>if b=32 then w::spl [] l else spl (w++[b]) l
def FP (b:List UInt8):List UInt8:=if b.getLast?=some 10 then b.dropLast else b
def KZ (b:List UInt8):List (List UInt8):=spl [] (FP b)
theorem Aja {b:List UInt8} {i:Nat} (h:i<b.length) (hno:¬ (b[i]?=some 10∧i+1=b.length)) (hi:i≤(FP b).length):i<(FP b).length∧(FP b)[i]?=b[i]?:=by
 unfold FP at hi ⊢
 split
 ·rename_i h1
  rw [if_pos h1,List.length_dropLast] at hi
  have hlt:i<b.length - 1:=by
   rcases Nat.lt_or_ge i (b.length - 1) with h2 | h2
   ·exact h2
   ·exfalso
    refine hno ⟨?_,by omega⟩
    rw [List.getLast?_eq_getElem?] at h1
    rw [show i=b.length - 1 by omega]; exact h1
  refine ⟨by rw [List.length_dropLast]; exact hlt,?_⟩
  rw [List.getElem?_dropLast,if_pos hlt]
 ·exact ⟨h,rfl⟩
theorem Aig {b:List UInt8} {i:Nat} (h:b[i]?=some 10) (h1:i+1=b.length):(FP b).length=i:=by
 unfold FP
 rw [if_pos (by rw [List.getLast?_eq_getElem?,show b.length - 1=i by omega]; exact h),List.length_dropLast]; omega
theorem AbB (b:List UInt8):(FP b).length≤b.length:=by
 unfold FP
 split
 ·rw [List.length_dropLast]; omega
 ·exact Nat.le_refl _
end
theorem Yb {b:UInt8}:(∀ y:TV,y∈[TV.val (Value.int IntKind.u8 (b.toNat:Int))]→AfS y)=True:=by
 refine eq_true ?_
 intro y hy
 obtain rfl:=List.mem_singleton.1 hy
 exact AdM b
theorem As2 (b:List UInt8) (hb:b.length≤1000000):BC Tryz.prog 68 [slB b] (fun r=>r = .sl 1 ((KZ b).map ts)):=by
 refine Am.toPureV (Acu (by simp) ?_)
 have h11:∀ y z:TV,(List.replicate 1 z).set 0 y=[y]:=fun y z=>rfl
 have h12:∀ y:TV,List.take 1 [y]=[y]:=fun y=>rfl
 simp -dsimp (disch:=first | assumption | omega | (simp only [Ae];try omega)) only [↓Ai,Ad,Ag,Ah,eq_self,Nat.reduceEqDiff,↓reduceIte,reduceCtorEq,↓AbE,↓YR,↓Yn,↓Yh,↓XB]
 refine Fg (fun q e H=>∃ (i:Nat) (ws:List (List UInt8)) (w:List UInt8) (k v cp:Nat),q=b.length - i∧i≤(FP b).length∧i≤b.length∧ws.length≤i∧w.length≤i∧KZ b=ws++spl w ((FP b).drop i)∧H[k]?=some (.obj v (.arr ws.length 1 (ws.map ts)))∧e=[(0,slB b),(3,.os 1 k v [] 0 ws.length cp),(4,ts w),(5,i64 (i:Int))]) b.length ?_ ?_
 ·exact ⟨0,[],[],0,0,0,rfl,Nat.zero_le _,Nat.zero_le _,Nat.le_refl _,Nat.le_refl _,rfl,rfl,rfl⟩
 rintro q e H ⟨i,ws,w,k,v,cp,rfl,hit,hib,hwi,hwl,hsp,hk,rfl⟩
 have hkl:=(List.getElem?_eq_some_iff.1 hk).1
 have hkt:(ws.map ts).take ws.length=ws.map ts:=List.take_of_length_le (by simp)
 have hA:∀ T:List Ob,(H++T)[k]?=some (.obj v (.arr ws.length 1 (ws.map ts))):=fun T=>by rw [List.getElem?_append_left hkl]; exact hk
 have hws1:ws.length≤1000000:=by omega
 by_cases hil:i<b.length
 case neg =>
  have hd:(FP b).drop i=[]:=List.drop_eq_nil_of_le (by have:=AbB b; omega)
  rw [hd] at hsp
  have hfin:KZ b=ws++[w]:=by rw [hsp]; rfl
  simp -dsimp (disch:=first | assumption | omega | (simp only [Ae];try omega)) only [↓Ai,Ad,Ag,Ah,eq_self,Nat.reduceEqDiff,↓reduceIte,reduceCtorEq,Nat.reduceLeDiff,hA,hkt,h11,↓Dv,↓OC,↓Uf]
  have hLe:List.take (ws.length+1) (ws.map ts++[ts w])=(ws++[w]).map ts:=by rw [List.map_append]; exact List.take_of_length_le (by simp)
  rw [hLe,hfin]
 obtain ⟨c,hc⟩:∃ c,b[i]?=some c:=⟨_,List.getElem?_eq_getElem hil⟩
 have hc8:(b.map by8)[i]?=some (by8 c):=by rw [List.getElem?_map,hc]; rfl
 by_cases hend:c.toNat=10∧i+1=b.length
 ·obtain ⟨h10,hlast⟩:=hend
  have hd:(FP b).drop i=[]:=List.drop_eq_nil_of_le (by rw [Aig (by rw [hc,show c=10 from UInt8.toNat_inj.1 h10]) hlast]; exact Nat.le_refl _)
  rw [hd] at hsp
  have hfin:KZ b=ws++[w]:=by rw [hsp]; rfl
  simp -dsimp (disch:=first | assumption | omega | (simp only [Ae];try omega)) only [↓Ai,Ad,Ag,Ah,eq_self,Nat.reduceEqDiff,↓reduceIte,reduceCtorEq,Nat.reduceLeDiff,hc8,h10,hlast,hA,hkt,h11,↓Dv,↓E5,↓OC,↓Uf]
  have hLe:List.take (ws.length+1) (ws.map ts++[ts w])=(ws++[w]).map ts:=by rw [List.map_append]; exact List.take_of_length_le (by simp)
  rw [hLe,hfin]
 obtain ⟨hti,htc⟩:=Aja hil (fun h=>hend ⟨by rw [hc] at h; rw [Option.some.inj h.1]; rfl,h.2⟩) hit
 rw [hc] at htc
 have hdr:(FP b).drop i=c::(FP b).drop (i+1):=by
  rw [List.drop_eq_getElem_cons hti]
  rw [List.getElem?_eq_getElem hti] at htc
  rw [Option.some.inj htc]
 rw [hdr,spl] at hsp
 by_cases h32:c.toNat=32
 ·have hc32:c=32:=UInt8.toNat_inj.1 h32
  rw [if_pos hc32] at hsp
  have h10:¬ c.toNat=10:=by omega
  simp -dsimp (disch:=first | assumption | omega | (simp only [Ae];try omega)) only [↓Ai,Ad,Ag,Ah,eq_self,Nat.reduceEqDiff,↓reduceIte,reduceCtorEq,Nat.reduceLeDiff,hc8,h32,hA,hkt,h11,↓Dv,↓E5,↓Hr]
  have hL:(ws++[w]).length=ws.length+1:=by simp
  refine AB (b.length - (i+1)) (by omega) (by simp) ⟨i+1,ws++[w],[],k,v+1,ws.length+1,rfl,by omega,by omega,by omega,Nat.zero_le _,by rw [hsp]; simp,?_,by rw [hL]; rfl⟩
  rw [List.getElem?_append_left (by simp; omega),List.getElem?_set_self hkl,hL,List.map_append]; rfl
 ·have hc32:¬ c=32:=fun e=>h32 (by rw [e]; rfl)
  rw [if_neg hc32] at hsp
  have hwl2:w.length+[c].length≤9223372036854775807:=by simp; omega
  by_cases h10:c.toNat=10
  ·have hlast:¬ i+1=b.length:=fun e=>hend ⟨h10,e⟩
   simp -dsimp (disch:=first | assumption | omega | (simp only [Ae];try omega)) only [↓Ai,Ad,Ag,Ah,eq_self,Nat.reduceEqDiff,↓reduceIte,reduceCtorEq,Nat.reduceLeDiff,hc8,h10,hlast,h11,Adb,Yb,AdF,↓Dv,↓E5,↓Hr]
   exact AB (b.length - (i+1)) (by omega) (by simp) ⟨i+1,ws,w++[c],k,v,cp,rfl,by omega,by omega,by omega,by simp; omega,hsp,by rw [List.getElem?_append_left hkl]; exact hk,rfl⟩
  ·simp -dsimp (disch:=first | assumption | omega | (simp only [Ae];try omega)) only [↓Ai,Ad,Ag,Ah,eq_self,Nat.reduceEqDiff,↓reduceIte,reduceCtorEq,Nat.reduceLeDiff,hc8,h10,h32,h11,Adb,Yb,AdF,↓Dv,↓E5,↓Hr]
   exact AB (b.length - (i+1)) (by omega) (by simp) ⟨i+1,ws,w++[c],k,v,cp,rfl,by omega,by omega,by omega,by simp; omega,hsp,by rw [List.getElem?_append_left hkl]; exact hk,rfl⟩
end
section
variable [AQ]
set_option maxRecDepth 100000
def Uj:Af := .seq (.ops [po_ 4 (.mov (.c (.slice none 0 0)))] [0,1])
 (.seq (.ops [mv_ 5 0,mv_ 6 1,so_ 7 (.call 104 [.t 5,.t 6,.c (.int .i64 ((0:Nat):Int)),.c (.int .i64 (-1))]),mv_ 4 7] [4])
 (.ret))
def Us:List VR:=[.tmp 4]
theorem Aa3:Tryz.f78.body.bind (trC Tryz.prog Tryz.f78.ntmps)=some (er Uj):=by kernel_rfl
theorem AbU:trR Tryz.prog Tryz.f78.results.toList=some Us:=by kernel_rfl
def Y8:=Ac Uj.eq_1
theorem ZN {K:TV→Prop} {e:Env} {H:List Ob}:res Us e H K=res [.tmp 4] e H K:=Aa rfl
def UN:=(aI_ @Y8 @ZN)
def Aax:=Dj 8 Tryz.func78 Aa3 AbU rfl
def Ls:Af := .seq (.ops [mv_ 42 9,mv_ 43 10,mv_ 44 0,mv_ 45 11,mv_ 46 2,po_ 47 (.bin 3 .add (.t 45) (.t 46)),po_ 48 (.slS (.t 44) none (some (.t 47))),po_ 49 (.idxA 1 (.t 42) (.t 43)),⟨none,.s (.store 1 (.t 49) (.t 48)),none⟩] [0,1,2,3,9,10,11])
 (.seq (.ops [mv_ 50 0,mv_ 51 11,mv_ 52 1,po_ 53 (.lenS (.t 52)),po_ 54 (.bin 3 .add (.t 51) (.t 53)),po_ 55 (.slS (.t 50) (some (.t 54)) none),mv_ 0 55] [0,1,2,3,9,10])
 (.ops [mv_ 56 10,po_ 57 (.bin 3 .add (.t 56) (ci_ 1)),mv_ 10 57] [0,1,2,3,9,10]))
def KE:Af := .seq (.seq (.ops [mv_ 40 11,po_ 41 (.bin 3 .lss (.t 40) (ci_ 0))] [0,1,2,3,9,10,11,41])
 (.cond (.t 41)
 (.exit 0)
 (.skip)))
 Ls
def Lm:Af := .block 1 (.seq (.ops [mv_ 37 0,mv_ 38 1,so_ 39 (.call 99 [.t 37,.t 38]),mv_ 11 39] [0,1,2,3,9,10,11])
 KE)
def J4:Af := .seq (.seq (.ops [mv_ 34 10,mv_ 35 3,po_ 36 (.bin 3 .lss (.t 34) (.t 35))] [0,1,2,3,9,10,36])
 (.cond (.t 36)
 (.skip)
 (.exit 0)))
 Lm
def Ku:Af := .seq (.ops [mv_ 58 9,mv_ 59 10,mv_ 60 0,po_ 61 (.idxA 1 (.t 58) (.t 59)),⟨none,.s (.store 1 (.t 61) (.t 60)),none⟩] [9,10])
 (.seq (.ops [mv_ 62 9,mv_ 63 10,po_ 64 (.bin 3 .add (.t 63) (ci_ 1)),po_ 65 (.slV 1 (.t 62) none (some (.t 64))),mv_ 8 65] [8])
 (.ret))
def Ld:Af := .seq (.block 0 (.loop [0,1,2,3,9,10] J4))
 Ku
def Kw:Af := .seq (.ops [po_ 10 (.mov (ci_ 0))] [0,1,2,3,9,10])
 Ld
def KF:Af := .seq (.ops [mv_ 32 3,po_ 33 (.bin 3 .sub (.t 32) (ci_ 1)),mv_ 3 33] [0,1,2,3,9])
 Kw
def Ko:Af := .seq (.ops [mv_ 30 3,so_ 31 (.mks 1 16 (.val (.string (str []))) (.t 30) (.t 30)),mv_ 9 31] [0,1,2,3,9])
 KF
def IJ:Af := .seq (.ops [mv_ 25 3,mv_ 26 0,po_ 27 (.lenS (.t 26)),po_ 28 (.bin 3 .add (.t 27) (ci_ 1)),po_ 29 (.min (.t 25) (.t 28)),mv_ 3 29] [0,1,2,3])
 Ko
def Jd:Af := .seq (.seq (.ops [mv_ 19 3,po_ 20 (.bin 3 .lss (.t 19) (ci_ 0))] [0,1,2,3,20])
 (.cond (.t 20)
 (.ops [mv_ 21 0,mv_ 22 1,so_ 23 (.call 121 [.t 21,.t 22]),po_ 24 (.bin 3 .add (.t 23) (ci_ 1)),mv_ 3 24] [0,1,2,3])
 (.skip)))
 IJ
def Jh:Af := .seq (.seq (.ops [mv_ 14 1,po_ 15 (.bin 9 .eql (.t 14) (.c (.string (str []))))] [0,1,2,3,15])
 (.cond (.t 15)
 (.seq (.ops [mv_ 16 0,mv_ 17 3,so_ 18 (.call 120 [.t 16,.t 17]),mv_ 8 18] [8])
  (.ret))
 (.skip)))
 Jd
def I4:Af := .seq (.seq (.ops [mv_ 12 3,po_ 13 (.bin 3 .eql (.t 12) (ci_ 0))] [0,1,2,3,13])
 (.cond (.t 13)
 (.seq (.ops [po_ 8 (.mov (.c (.slice none 0 0)))] [8])
  (.ret))
 (.skip)))
 Jh
def Ox:Af := .seq (.ops [po_ 8 (.mov (.c (.slice none 0 0)))] [0,1,2,3])
 I4
def Ov:List VR:=[.tmp 8]
theorem Ym:Tryz.f104.body.bind (trC Tryz.prog Tryz.f104.ntmps)=some (er Ox):=by kernel_rfl
theorem XJ:trR Tryz.prog Tryz.f104.results.toList=some Ov:=by kernel_rfl
def Rq:=Ac Ls.eq_1
def QM:=Ac KE.eq_1
def QX:=Ac Lm.eq_1
def H9:=Ac J4.eq_1
def Rk:=Ac Ku.eq_1
def Ry:=Ac Ld.eq_1
def Rh:=Ac Kw.eq_1
def QV:=Ac KF.eq_1
def QS:=Ac Ko.eq_1
def QD:=Ac IJ.eq_1
def Qm:=Ac Jd.eq_1
def Pi:=Ac Jh.eq_1
def PS:=Ac I4.eq_1
def Vy:=Ac Ox.eq_1
theorem Vo {K:TV→Prop} {e:Env} {H:List Ob}:res Ov e H K=res [.tmp 8] e H K:=Aa rfl
def Xc:=Dj 66 Tryz.func104 Ym XJ rfl
end
section
open Go.RowKit
variable [AQ]
section
omit [AQ]
def ixW (c:UInt8):List UInt8→Option Nat
 | []=>none
 | b::l=>if b=c then some 0 else (ixW c l).map (· + 1)
theorem Adh (c:UInt8):∀ l:List UInt8,Lib.indexByte l c=(match ixW c l with | some i=>(i:Int) | none => -1):=by
 intro l
 induction l with
 | nil=>rfl
 | cons b l ih =>
  rw [Lib.indexByte,ixW]
  by_cases e:b=c
  ·simp [e]
  ·rw [if_neg (by simpa using e),if_neg e,ih]
   cases hc:ixW c l with
   | none=>simp
   | some i =>
    have:¬ ((i:Int) == -1)=true:=by simp
    simp only [Option.map_some]
    rw [if_neg this]; rfl
theorem AoW:∀ (l w:List UInt8),(∀ i,ixW 32 l=some i→i<l.length∧spl w l=(w++l.take i)::spl [] (l.drop (i+1))∧l.count 32=(l.drop (i+1)).count 32+1)∧(ixW 32 l=none→spl w l=[w++l]∧l.count 32=0)
 | [],w=>⟨fun i h=>(by cases h),fun _=>⟨(by simp [spl]),rfl⟩⟩
 | b::l,w=>by
  by_cases e:b=32
  ·subst e
   refine ⟨fun i h => ?_,fun h => ?_⟩
   ·rw [ixW,if_pos rfl] at h
    cases h
    exact ⟨by simp,by simp [spl],by simp⟩
   ·rw [ixW,if_pos rfl] at h; cases h
  ·obtain ⟨h1,h2⟩:=AoW l (w++[b])
   refine ⟨fun i h => ?_,fun h => ?_⟩
   ·rw [ixW,if_neg e] at h
    obtain ⟨j,hj,rfl⟩:=Option.map_eq_some_iff.1 h
    obtain ⟨a1,a2,a3⟩:=h1 j hj
    refine ⟨by simp; omega,?_,?_⟩
    ·rw [spl,if_neg e,a2]; simp
    ·rw [List.count_cons_of_ne (by simpa using e),a3]; rfl
   ·rw [ixW,if_neg e] at h
    obtain ⟨a1,a2⟩:=h2 (Option.map_eq_none_iff.1 h)
    refine ⟨by rw [spl,if_neg e,a1]; simp,by rw [List.count_cons_of_ne (by simpa using e),a2]⟩
end
theorem BC.ofSameW {f:FuncId} {args:List Value} {r:Value} (h:∀ (F:Nat→Prop) w,Js F w→Calls Tryz.prog f args.toArray w fun e w'=>e = .returned r∧w'=w):BC Tryz.prog f (args.map .val) (fun x=>x = .val r):=by
 intro β F w vs hF hv
 have hvs:vs=args:=by
  clear h hF
  induction args generalizing vs with
  | nil=>rw [List.map_nil,BA.nil] at hv; exact hv
  | cons a args ih =>
   rw [List.map_cons] at hv
   obtain ⟨v,us,rfl,h1,h2⟩:=BA.cons.1 hv
   have:=Rep.val.1 (Or.inl h1:Rep _ _ _ _)
   rw [this,ih us h2]
 subst hvs
 refine (h F w hF.2).mono ?_
 rintro e w' ⟨rfl,rfl⟩
 exact ⟨_,_,F,rfl,rfl,Rep.of_val,⟨rfl,rfl,rfl,Nat.le_refl _,fun _ _=>rfl,fun _ h=>h,fun _ _ h=>h,hF.1⟩⟩
theorem AgC (l:List UInt8):(str l).data.toList=l:=by simp [str]
theorem Akp (s:List UInt8) (c:UInt8):BC Tryz.prog 99 [ts s,ts [c]] (fun x=>x=i64 (Lib.indexByte s c)):=by
 have:=BC.ofSameW (f:=99) (args:=[.string (str s),.string (str [c])]) (r := .int .i64 (Lib.indexByte s c)) fun F w _=>by
  have:=Tryz.strings_Index_one (str s) c w
  rw [AgC] at this; exact this
 exact this
theorem AiR (s:List UInt8) (c:UInt8):BC Tryz.prog 121 [ts s,ts [c]] (fun x=>x=i64 ((s.count c:Nat):Int)):=by
 have:=BC.ofSameW (f:=121) (args:=[.string (str s),.string (str [c])]) (r := .int .i64 ((s.count c:Nat):Int)) fun F w _=>by
  have:=Tryz.strings_Count_one (str s) c w
  rw [AgC] at this; exact this
 exact this
theorem Ai2 (s:List UInt8) (hs:s.length≤1000000):BC Tryz.prog 79 [ts s,ts [10]] (fun x=>x=ts (Lib.trimSuffix s [10])):=by
 have:=BC.ofSameW (f:=79) (args:=[.string (str s),.string (str [10])]) (r := .string (str (Lib.trimSuffix s [10]))) fun F w _=>by
  have:=Tryz.strings_TrimSuffix (str s) (str [10]) w (by show s.toArray.size≤_; simp; omega)
  rw [AgC,AgC] at this; exact this
 exact this
theorem Ak3:∀ l:List (List UInt8),NI (l.map ts)=true
 | []=>rfl
 | x::l=>by rw [List.map_cons,NI,Ak3 l]; rfl
theorem AjW (s:List UInt8) (hs:s.length≤1000000):N8 Tryz.prog 104 [ts s,ts [32],i64 ((0:Nat):Int),i64 (-1)] (fun r=>r = .sl 1 ((spl [] s).map ts)):=by
 refine Am.toFreshV (Xc (by simp) ?_)
 have hcl:s.count 32≤s.length:=List.count_le_length
 simp -dsimp (disch:=first | assumption | omega | (simp only [Ae];try omega)) only [↓Ai,Ad,Ag,Ah,eq_self,Nat.reduceEqDiff,↓reduceIte,Nat.reduceAdd,reduceCtorEq,↓Vy,↓PS,↓Pi,↓Qm]
 refine (AiR s 32).calls rfl fun r hr => ?_
 subst hr
 simp -dsimp (disch:=first | assumption | omega | (simp only [Ae];try omega)) only [↓Ai,Ad,Ag,Ah,eq_self,Nat.reduceEqDiff,↓reduceIte,reduceCtorEq,Nat.reduceLeDiff,AU,↓QD,↓QS,↓QV,↓Rh,↓Ry]
 refine Fg (fun q e H=>∃ (i:Nat) (ws:List (List UInt8)) (rest:List UInt8),q=s.count 32 - i∧i≤s.count 32∧ws.length=i∧rest.length≤s.length∧rest.count 32=s.count 32 - i∧spl [] s=ws++spl [] rest∧H=[.obj 0 (.arr (s.count 32+1) 1 (ws.map ts++List.replicate (s.count 32+1 - i) (ts [])))]∧e=[(0,ts rest),(1,ts [32]),(2,i64 ((0:Nat):Int)),(3,i64 ((s.count 32:Nat):Int)),(9,.os 1 0 0 [] 0 (s.count 32+1) (s.count 32+1)),(10,i64 (i:Int))]) (s.count 32) ?_ ?_
 ·refine ⟨0,[],s,rfl,Nat.zero_le _,rfl,Nat.le_refl _,rfl,rfl,rfl,by simp [forget,get]⟩
 rintro q e H ⟨i,ws,rest,rfl,hi,hwl,hrl,hrc,hsp,rfl,rfl⟩
 obtain ⟨x1,x2⟩:=AoW rest []
 have hix:=Adh 32 rest
 have hwl':(ws.map ts).length=i:=by rw [List.length_map]; exact hwl
 obtain ⟨n,hn⟩:∃ n,s.count 32+1 - i=n+1:=⟨s.count 32 - i,by omega⟩
 have hget:(ws.map ts++List.replicate (s.count 32+1 - i) (ts []))[i]?=some (ts []):=by
  rw [List.getElem?_append_right (by omega),hwl',Nat.sub_self,hn]; rfl
 have hset:∀ c,(ws.map ts++List.replicate (s.count 32+1 - i) (ts [])).set i c=ws.map ts++(c::List.replicate n (ts [])):=fun c=>by
  rw [List.set_append_right _ _ (by omega),hwl',Nat.sub_self,hn]; rfl
 have hwd:AC (ts [])=1:=rfl
 by_cases hil:i<s.count 32
 ·simp -dsimp (disch:=first | assumption | omega | (simp only [Ae];try omega)) only [↓Ai,Ad,Ag,Ah,eq_self,Nat.reduceEqDiff,↓reduceIte,reduceCtorEq,↓H9,↓QX]
  refine (Akp rest 32).calls rfl fun r hr => ?_
  subst hr
  rw [hix]
  cases hm:ixW 32 rest with
  | none=>have:=(x2 hm).2; omega
  | some m =>
   obtain ⟨a1,a2,a3⟩:=x1 m hm
   simp only
   simp -dsimp (disch:=first | assumption | omega | (simp only [Ae];try omega)) only [↓Ai,Ad,Ag,Ah,eq_self,Nat.reduceEqDiff,↓reduceIte,reduceCtorEq,AU,hget,hset,hwd,Nat.add_zero,↓QM,↓Rq]
   refine AB (s.count 32 - (i+1)) (by omega) (by simp) ⟨i+1,ws++[rest.take m],rest.drop (m+1),rfl,by omega,by simp; omega,by simp; omega,by omega,by rw [hsp,a2]; simp,?_,by simp [forget,get]⟩
   rw [show s.count 32+1 - (i+1)=n by omega,List.map_append,List.append_assoc]; rfl
 ·have hi2:i=s.count 32:=by omega
  simp -dsimp (disch:=first | assumption | omega | (simp only [Ae];try omega)) only [↓Ai,Ad,Ag,Ah,eq_self,Nat.reduceEqDiff,↓reduceIte,reduceCtorEq,Nat.reduceLeDiff,hget,hset,hwd,↓H9,↓Rk,↓Vo]
  have hnone:ixW 32 rest=none:=by
   cases hm:ixW 32 rest with
   | none=>rfl
   | some m=>have:=(x1 m hm).2.2; omega
  have hfin:spl [] s=ws++[rest]:=by rw [hsp,(x2 hnone).1]; rfl
  have htk:List.take (i+1) (ws.map ts++ts rest::List.replicate n (ts []))=(ws++[rest]).map ts:=by
   rw [List.map_append,show ws.map ts++ts rest::List.replicate n (ts [])=(ws.map ts++[ts rest])++List.replicate n (ts []) by simp,List.take_left' (by simp; omega)]; rfl
  rw [htk,hfin,if_pos (Ak3 _)]
  exact rfl
theorem AoL (s:List UInt8) (hs:s.length≤1000000):BC Tryz.prog 78 [ts s,ts [32]] (fun r=>r = .sl 1 ((spl [] s).map ts)):=by
 refine Am.toPureV (Aax (by simp) ?_)
 simp -dsimp (disch:=first | assumption | omega | (simp only [Ae];try omega)) only [↓Ai,Ad,Ag,Ah,eq_self,Nat.reduceEqDiff,↓reduceIte,Nat.reduceAdd,reduceCtorEq,↓UN]
 refine (AjW s hs).pure.calls rfl fun r hr => ?_
 subst hr
 simp -dsimp (disch:=first | assumption | omega | (simp only [Ae];try omega)) only [↓Ai,Ad,Ag,Ah,eq_self,↓reduceIte,↓UN]
end
section
open Go.RowKit
variable [AQ] [Au] [Az]
theorem AeS (s:List UInt8):Lib.trimSuffix s [10]=FP s:=by
 unfold Lib.trimSuffix FP
 by_cases h:s.getLast?=some 10
 ·obtain ⟨l,rfl⟩:∃ l,s=l++[10]:=by
   rcases List.eq_nil_or_concat s with rfl | ⟨l,x,hx⟩
   ·cases h
   ·rw [List.concat_eq_append] at hx
    subst hx
    simp at h
    subst h
    exact ⟨l,rfl⟩
  simp [Lib.hasSuffix]
 ·rw [if_neg h,if_neg]
  intro hs
  apply h
  unfold Lib.hasSuffix at hs
  have:=List.isSuffixOf_iff_suffix.1 hs
  obtain ⟨t,rfl⟩:=this
  simp
abbrev LW (x:List UInt8):TV := .sl 1 ((KZ x).map ts)
theorem AqA:(∀ y:TV,y∈([]:List TV)→AfS y)=True:=eq_true (fun y h=>by cases h)
theorem Aid:(if (none:Option Addr).isNone=true then some ([]:List TV) else none)=some []:=by simp
def AuG (b:List UInt8) (r:TV):Prop:=(∀ ls,AX ls b→r = .tup [.sl 1 (ls.map LW),.val .nilIface])∧((∀ ls,¬ AX ls b)→r = .tup [U8,eno 110])
theorem Asd (b:List UInt8) (hb:b.length≤1000000):BC Tryz.prog 64 [slB b] (AuG b):=by
 refine Am.toPureV (AdS (by simp) ?_)
 simp -dsimp (disch:=first | assumption | omega | (simp only [Ae];try omega)) only [↓Ai,Ad,Ag,Ah,eq_self,↓reduceIte,reduceCtorEq,↓Aci,↓ZI]
 refine (Auy b hb).calls rfl fun r hr => ?_
 by_cases h:∃ ls,AX ls b
 case neg =>
  have hno:∀ ls,¬ AX ls b:=fun ls k=>h ⟨ls,k⟩
  rw [hr.2 hno]
  simp -dsimp (disch:=first | assumption | omega | (simp only [Ae];try omega)) only [↓Ai,Ad,Ag,Ah,eq_self,Nat.reduceEqDiff,↓reduceIte,↓Qa,↓VV]
  exact ⟨fun ls k=>absurd k (hno ls),fun _=>rfl⟩
 obtain ⟨ls,hls⟩:=h
 rw [hr.1 ls hls]
 clear hr
 have hlen:ls.length≤1000000:=by
  have h1:∀ l:List (List UInt8),l.length≤(l.flatMap BG).length:=fun l=>by
   induction l with
   | nil=>simp
   | cons x l ih=>rw [List.flatMap_cons,List.length_append,Ib,List.length_cons]; omega
  have:=h1 ls
  rw [hls.2] at this
  omega
 have fin:AuG b (.tup [.sl 1 (ls.map LW),.val .nilIface]):=⟨fun ms hm=>by rw [Ui hm hls],fun k=>absurd hls (k ls)⟩
 simp -dsimp (disch:=first | assumption | omega | (simp only [Ae];try omega)) only [↓Ai,Ad,Ag,Ah,eq_self,Nat.reduceEqDiff,↓reduceIte,↓Qa,↓Y1,↓Zx,↓Ze]
 refine Fg (fun q e H=>∃ (i k v cp:Nat),q=ls.length - i∧i≤ls.length∧H[k]?=some (.obj v (.arr i 1 ((ls.take i).map LW)))∧e=[(6,.os 1 k v [] 0 i cp),(17,.sl 1 (ls.map MH)),(18,i64 (ls.length:Int)),(19,i64 (i:Int))]) ls.length ?_ ?_
 ·exact ⟨0,0,0,0,rfl,Nat.zero_le _,rfl,by simp [forget,get]⟩
 rintro q e H ⟨i,k,v,cp,rfl,hi,hk,rfl⟩
 have hkl:=(List.getElem?_eq_some_iff.1 hk).1
 have hwl:((ls.take i).map LW).length=i:=by rw [List.length_map,List.length_take,Nat.min_eq_left hi]
 have hwt:((ls.take i).map LW).take i=(ls.take i).map LW:=List.take_of_length_le (by omega)
 by_cases hil:i<ls.length
 case neg =>
  have hi2:i=ls.length:=by omega
  have htt:ls.take i=ls:=List.take_of_length_le (by omega)
  rw [htt] at hwl hwt hk
  simp -dsimp (disch:=first | assumption | omega | (simp only [Ae];try omega)) only [↓Ai,Ad,Ag,Ah,eq_self,Nat.reduceEqDiff,↓reduceIte,hk,hwl,↓JL,↓Jt,↓Zw,↓VV]
  exact fin
 have hg:ls[i]?=some ls[i]:=List.getElem?_eq_getElem hil
 have hgl:(ls.map MH)[i]?=some (MH ls[i]):=by rw [List.getElem?_map,hg]; rfl
 have hx1:=hls.1 _ (List.mem_of_getElem? hg)
 have hsn:(ls.take (i+1)).map LW=(ls.take i).map LW++[LW ls[i]]:=by rw [List.take_succ_eq_append_getElem hil,List.map_append]; rfl
 generalize ls[i]=x at *
 have hA:∀ T:List Ob,(H++T)[k]?=some (.obj v (.arr i 1 ((ls.take i).map LW))):=fun T=>by rw [List.getElem?_append_left hkl]; exact hk
 have h11:∀ y z:TV,List.take 1 ((List.replicate 1 z).set 0 y)=[y]:=fun y z=>rfl
 have htl:=AbB x
 by_cases hx:x=[]
 ·subst hx
  have hl0:MH []=U8:=rfl
  rw [hl0] at hgl
  simp -dsimp (disch:=first | assumption | omega | (simp only [Ae];try omega)) only [↓Ai,Ad,Ag,Ah,eq_self,Nat.reduceEqDiff,↓reduceIte,hgl,Aid,AqA,↓JL,↓Jt,↓Qe]
  refine (Ai2 [] (by omega)).calls rfl fun r hr => ?_
  subst hr
  rw [AeS]
  simp -dsimp (disch:=first | assumption | omega | (simp only [Ae];try omega)) only [↓Ai,Ad,Ag,Ah,eq_self,↓reduceIte]
  refine (AoL (FP []) (by omega)).calls rfl fun r hr => ?_
  subst hr
  simp -dsimp (disch:=first | assumption | omega | (simp only [Ae];try omega)) only [↓Ai,Ad,Ag,Ah,eq_self,Nat.reduceEqDiff,↓reduceIte,Nat.reduceLeDiff,hA,hwl,h11]
  refine AB (ls.length - (i+1)) (by omega) (by simp) ⟨i+1,k,v+1,i+1,rfl,by omega,?_,by simp [forget,get]⟩
  rw [List.getElem?_append_left (by simp; omega),List.getElem?_set_self hkl,hsn]; rfl
 ·have hl0:MH x=slB x:=if_neg hx
  rw [hl0] at hgl
  simp -dsimp (disch:=first | assumption | omega | (simp only [Ae];try omega)) only [↓Ai,Ad,Ag,Ah,eq_self,Nat.reduceEqDiff,↓reduceIte,hgl,↓JL,↓Jt,↓Qe]
  refine (Ai2 x (by omega)).calls rfl fun r hr => ?_
  subst hr
  rw [AeS]
  simp -dsimp (disch:=first | assumption | omega | (simp only [Ae];try omega)) only [↓Ai,Ad,Ag,Ah,eq_self,↓reduceIte]
  refine (AoL (FP x) (by omega)).calls rfl fun r hr => ?_
  subst hr
  simp -dsimp (disch:=first | assumption | omega | (simp only [Ae];try omega)) only [↓Ai,Ad,Ag,Ah,eq_self,Nat.reduceEqDiff,↓reduceIte,Nat.reduceLeDiff,hA,hwl,h11]
  refine AB (ls.length - (i+1)) (by omega) (by simp) ⟨i+1,k,v+1,i+1,rfl,by omega,?_,by simp [forget,get]⟩
  rw [List.getElem?_append_left (by simp; omega),List.getElem?_set_self hkl,hsn]; rfl
end
section
open Go.RowKit
variable [AQ]
theorem Ahj {c:Ctx} {w:World}:∀ {ws:List (List UInt8)} {vs:List Value},Ak c w (ws.map ts) vs→vs=ws.map fun x=>Value.string (str x)
 | [],vs,h=>by rw [List.map_nil,Ak] at h; exact h
 | x::ws,vs,h=>by
  rw [List.map_cons,Ak] at h
  obtain ⟨a,b,rfl,h1,h2⟩:=h
  rw [Aj] at h1
  rw [h1.1,Ahj h2]; rfl
theorem Avg (ws:List (List UInt8)) (hne:ws≠[]) (hlen:(Lib.join ws [32]).length≤4000000) (hn:ws.length≤1000000):BC Tryz.prog 55 [.sl 1 (ws.map ts),ts [32]] (fun r=>r=ts (Lib.join ws [32])):=by
 intro β F w vs hF hv
 obtain ⟨v1,us,rfl,h1,hv⟩:=BA.cons.1 hv
 obtain ⟨v2,us,rfl,h2,hv⟩:=BA.cons.1 hv
 rw [BA.nil] at hv; subst hv
 obtain rfl:=Rep.val.1 (Or.inl h2:Rep _ _ _ _)
 obtain ⟨_,h | ⟨b,off,cap,xs,rfl,hcap,hcap2,hFb,hx,hcell⟩⟩:=Rep.sl (Or.inl h1:Rep _ _ _ _)
 ·exact absurd (List.map_eq_nil_iff.1 h.1) hne
 have hxs:=Ahj hx
 subst hxs
 have hmap:(ws.map str).map (·.data.toList)=ws:=by
  rw [List.map_map]
  conv=>rhs; rw [←List.map_id ws]
  exact List.map_congr_left fun x _=>AgC x
 have hlen2:(ws.map ts).length=(ws.map str).length:=by simp
 have hj:Lib.join ((ws.map str).map (·.data.toList)) (str [32]).data.toList=Lib.join ws [32]:=by rw [hmap,AgC]
 rw [hlen2] at hcap ⊢
 have hc:=Tryz.strings_Join b off cap (ws.map str) (str [32]) w (fun j x hjx=>by
  rw [List.getElem?_map] at hjx
  obtain ⟨y,hy,rfl⟩:=Option.map_eq_some_iff.1 hjx
  exact hcell j _ (by rw [List.getElem?_map,hy]; rfl)) (hF.1 b hFb) (by simp; omega) hcap (by rw [hj]; omega)
 rw [hj] at hc
 refine hc.mono ?_
 rintro e w' ⟨rfl,hb⟩
 exact ⟨_,_,F,rfl,rfl,Rep.of_val,⟨hb.os,hb.tape,hb.output,hb.size,hb.block,fun _ h=>h,fun _ _ h=>h,fun b hb'=>Nat.lt_of_lt_of_le (hF.1 b hb') hb.size⟩⟩
end
section
open Go.RowKit
variable [AQ]
theorem Aff {α:Type} {l:List α} {n:Nat} (h:l.length≤n):l.take n=l:=List.take_of_length_le h
def Acn (H:List Ob) (r:TV) (l:List UInt8):Option Nat→Prop
 | none=>r=U8∧l=[]
 | some j=>∃ v,r = .os 1 j v [] 0 l.length l.length∧H[j]?=some (.obj v (.arr l.length 1 (l.map by8)))
theorem Acn.tup {H:List Ob} {r:TV} {l:List UInt8} {J:Option Nat} (h:Acn H r l J):CJ r=false:=by
 cases J with
 | none=>obtain ⟨rfl,_⟩:=h; rfl
 | some j=>obtain ⟨v,rfl,_⟩:=h; rfl
def Avb (J:Option Nat) (H H':List Ob):Prop:=H.length≤H'.length∧∀ i,i<H.length→J≠some i→H'[i]?=H[i]?
theorem bl4:bl (str [48,48,48,48])=Ro:=AU
theorem AgZ {m:List UInt8} {J:Option Nat} {H:List Ob} {j v n:Nat} {cs:List TV} (hJ:J=some j) (hj:j<H.length) (hn:n=m.length) (hcs:cs=m.map by8) :
  ∃ j',Acn (H.set j (.obj v (.arr n 1 cs))) (.os 1 j v [] 0 n n) m (some j')∧Avb J H (H.set j (.obj v (.arr n 1 cs)))∧(J=some j'∨H.length≤j'):=by
 subst hn hcs hJ
 exact ⟨j,⟨v,rfl,by simp [hj]⟩,⟨by simp,fun i hi hne=>List.getElem?_set_ne (fun e=>hne (by rw [e]))⟩,.inl rfl⟩
theorem Ahf {m:List UInt8} {H:List Ob} {v n:Nat} {cs:List TV} (hn:n=m.length) (hcs:cs=m.map by8) :
  ∃ j',Acn (H++[.obj v (.arr n 1 cs)]) (.os 1 H.length v [] 0 n n) m (some j')∧Avb none H (H++[.obj v (.arr n 1 cs)])∧(False∨H.length≤j'):=by
 subst hn hcs
 exact ⟨H.length,⟨v,rfl,by simp⟩,⟨by simp,fun i hi _=>List.getElem?_append_left hi⟩,.inr (Nat.le_refl _)⟩
set_option maxHeartbeats 1000000 in
theorem Au5 {o:TV} {l line:List UInt8} {J:Option Nat} {H:List Ob} (h:Acn H o l J) (hl:l.length≤100000000000) (hn:line.length≤4000000) :
  Am Tryz.prog 54 [o,slB line] H (fun x H'=>∃ j,Acn H' x (l++BG line) (some j)∧Avb J H H'∧(J=some j∨H.length≤j)):=by
 refine Oz (by simp) ?_
 have h4:(YT (line.length+4)).length=4:=rfl
 have z4:Ro.length=4:=rfl
 by_cases h0:line.length=0
 ·have hP:BG line=Ro:=by unfold BG; rw [if_pos h0]
  rw [hP]
  cases J with
  | none =>
   obtain ⟨rfl,rfl⟩:=h
   simp -dsimp (disch:=first | assumption | omega | (simp only [Ae];try omega)) only [↓Ai,Ad,Ag,Ah,eq_self,Nat.reduceEqDiff,↓reduceIte,Nat.reduceAdd,reduceCtorEq,Nat.reduceLeDiff,↓A7,bl4,z4]
   exact Ahf rfl rfl
  | some j =>
   obtain ⟨v,rfl,hj⟩:=h
   have hjl:j<H.length:=(List.getElem?_eq_some_iff.1 hj).1
   simp -dsimp (disch:=first | assumption | omega | (simp only [Ae];try omega)) only [↓Ai,Ad,Ag,Ah,eq_self,Nat.reduceEqDiff,↓reduceIte,Nat.reduceAdd,reduceCtorEq,Nat.reduceLeDiff,↓A7,bl4,z4,hj]
   exact AgZ rfl hjl (by rw [List.length_append,z4]) (by rw [List.map_append])
 ·have hP:BG line=YT (line.length+4)++line:=by unfold BG; rw [if_neg h0]
  rw [hP]
  cases J with
  | none =>
   obtain ⟨rfl,rfl⟩:=h
   simp -dsimp (disch:=first | assumption | omega | (simp only [Ae];try omega)) only [↓Ai,Ad,Ag,Ah,eq_self,Nat.reduceEqDiff,↓reduceIte,Nat.reduceAdd,reduceCtorEq,↓A7]
   refine (Xq (line.length+4) (by omega)).calls rfl ?_
   rintro _ rfl
   simp -dsimp (disch:=first | assumption | omega | (simp only [Ae];try omega)) only [↓Ai,Ad,Ag,Ah,eq_self,Nat.reduceEqDiff,↓reduceIte,Nat.reduceAdd,reduceCtorEq,Nat.reduceLeDiff,↓A7,AU,h4]
   exact Ahf (by rw [List.length_append,h4]) (by rw [List.map_append])
  | some j =>
   obtain ⟨v,rfl,hj⟩:=h
   have hjl:j<H.length:=(List.getElem?_eq_some_iff.1 hj).1
   simp -dsimp (disch:=first | assumption | omega | (simp only [Ae];try omega)) only [↓Ai,Ad,Ag,Ah,eq_self,Nat.reduceEqDiff,↓reduceIte,Nat.reduceAdd,reduceCtorEq,↓A7]
   refine (Xq (line.length+4) (by omega)).calls rfl ?_
   rintro _ rfl
   simp -dsimp (disch:=first | assumption | omega | (simp only [Ae];try omega)) only [↓Ai,Ad,Ag,Ah,eq_self,Nat.reduceEqDiff,↓reduceIte,reduceCtorEq,Nat.reduceLeDiff,↓A7,AU,h4,hj]
   refine AgZ rfl hjl (by rw [List.length_append,List.length_append,h4]; omega) ?_
   rw [Aff (by simp [h4]),List.map_append,List.map_append,List.append_assoc]
set_option maxHeartbeats 1000000 in
theorem Alo {o:TV} {l line:List UInt8} {J:Option Nat} {H:List Ob} {id2 ver2:Nat} (h:Acn H o l J) (h2:H[id2]?=some (.obj ver2 (.arr line.length 1 (line.map by8)))) (hne:J≠some id2) (hl:l.length≤100000000000) (hn:line.length≤4000000) :
  Am Tryz.prog 54 [o,.os 1 id2 ver2 [] 0 line.length line.length] H (fun x H'=>∃ j,Acn H' x (l++BG line) (some j)∧Avb J H H'∧(J=some j∨H.length≤j)):=by
 refine Oz (by simp) ?_
 have hl2:id2<H.length:=(List.getElem?_eq_some_iff.1 h2).1
 have hlt:(line.map by8).take line.length=line.map by8:=List.take_of_length_le (by simp)
 have h2a:∀ T:List Ob,(H++T)[id2]?=some (.obj ver2 (.arr line.length 1 (line.map by8))):=fun T=>by rw [List.getElem?_append_left hl2]; exact h2
 have h4:(YT (line.length+4)).length=4:=rfl
 have z4:Ro.length=4:=rfl
 by_cases h0:line.length=0
 ·have hP:BG line=Ro:=by unfold BG; rw [if_pos h0]
  rw [hP]
  cases J with
  | none =>
   obtain ⟨rfl,rfl⟩:=h
   simp -dsimp (disch:=first | assumption | omega | (simp only [Ae];try omega)) only [↓Ai,Ad,Ag,Ah,eq_self,Nat.reduceEqDiff,↓reduceIte,Nat.reduceAdd,reduceCtorEq,Nat.reduceLeDiff,↓A7,bl4,z4]
   exact Ahf rfl rfl
  | some j =>
   obtain ⟨v,rfl,hj⟩:=h
   have hjl:j<H.length:=(List.getElem?_eq_some_iff.1 hj).1
   have h2s:∀ o:Ob,(H.set j o)[id2]?=some (.obj ver2 (.arr line.length 1 (line.map by8))):=fun o=>by rw [List.getElem?_set_ne (fun e=>hne (by rw [e]))]; exact h2
   simp -dsimp (disch:=first | assumption | omega | (simp only [Ae];try omega)) only [↓Ai,Ad,Ag,Ah,eq_self,Nat.reduceEqDiff,↓reduceIte,Nat.reduceAdd,reduceCtorEq,Nat.reduceLeDiff,↓A7,bl4,z4,hj]
   exact AgZ rfl hjl (by rw [List.length_append,z4]) (by rw [List.map_append])
 ·have hP:BG line=YT (line.length+4)++line:=by unfold BG; rw [if_neg h0]
  rw [hP]
  cases J with
  | none =>
   obtain ⟨rfl,rfl⟩:=h
   simp -dsimp (disch:=first | assumption | omega | (simp only [Ae];try omega)) only [↓Ai,Ad,Ag,Ah,eq_self,Nat.reduceEqDiff,↓reduceIte,Nat.reduceAdd,reduceCtorEq,↓A7]
   refine (Xq (line.length+4) (by omega)).calls rfl ?_
   rintro _ rfl
   simp -dsimp (disch:=first | assumption | omega | (simp only [Ae];try omega)) only [↓Ai,Ad,Ag,Ah,eq_self,Nat.reduceEqDiff,↓reduceIte,Nat.reduceAdd,reduceCtorEq,Nat.reduceLeDiff,↓A7,AU,h4,h2a,hlt]
   exact Ahf (by rw [List.length_append,h4]) (by rw [List.map_append])
  | some j =>
   obtain ⟨v,rfl,hj⟩:=h
   have hjl:j<H.length:=(List.getElem?_eq_some_iff.1 hj).1
   have h2s:∀ o:Ob,(H.set j o)[id2]?=some (.obj ver2 (.arr line.length 1 (line.map by8))):=fun o=>by rw [List.getElem?_set_ne (fun e=>hne (by rw [e]))]; exact h2
   simp -dsimp (disch:=first | assumption | omega | (simp only [Ae];try omega)) only [↓Ai,Ad,Ag,Ah,eq_self,Nat.reduceEqDiff,↓reduceIte,Nat.reduceAdd,reduceCtorEq,↓A7]
   refine (Xq (line.length+4) (by omega)).calls rfl ?_
   rintro _ rfl
   simp -dsimp (disch:=first | assumption | omega | (simp only [Ae];try omega)) only [↓Ai,Ad,Ag,Ah,eq_self,Nat.reduceEqDiff,↓reduceIte,reduceCtorEq,Nat.reduceLeDiff,↓A7,AU,h4,hj,h2s,hlt]
   refine AgZ rfl hjl (by rw [List.length_append,List.length_append,h4]; omega) ?_
   rw [Aff (by simp [h4]),List.map_append,List.map_append,List.append_assoc]
theorem Auv {H:List Ob} {N:Nat} {o:TV} {bad ok:Bool} {K:TV→List Ob→Prop} (hT:H[N]?=some (.obj 0 (.agg [o,tb bad]))) (ho:AC o=1) (hk:K (.tup []) (H.set N (.obj 0 (.agg [o,tb (bad || !ok)])))) :
  Am Tryz.prog 27 [.op N 0 [],tb ok] H K:=by
 refine Zl (by simp) ?_
 cases bad with
 | true =>
  simp -dsimp (disch:=first | assumption | omega | (simp only [Ae];try omega)) only [↓Ai,Ad,Ag,Ah,eq_self,Nat.reduceEqDiff,↓reduceIte,Nat.reduceAdd,reduceCtorEq,hT,ho,↓Tn]
  exact hk
 | false =>
  simp -dsimp (disch:=first | assumption | omega | (simp only [Ae];try omega)) only [↓Ai,Ad,Ag,Ah,eq_self,Nat.reduceEqDiff,↓reduceIte,Nat.reduceAdd,reduceCtorEq,hT,ho,↓Tn]
  exact hk
theorem Aya {H:List Ob} {N:Nat} {o:TV} {l:List UInt8} {bad:Bool} {J:Option Nat} {id ver cp:Nat} {ws:List (List UInt8)} (hT:H[N]?=some (.obj 0 (.agg [o,tb bad]))) (hrow:Acn H o l J) (hws:H[id]?=some (.obj ver (.arr ws.length 1 (ws.map ts)))) (hne:ws≠[]) (hwn:ws.length≤1000000) (hj:(Lib.join ws [32]).length≤3000000) (hl:l.length≤100000000000) {K:TV→List Ob→Prop}
  (hk:∀ H' o' j,Acn H' o' (l++BG (Lib.join ws [32]++[10])) (some j)→H'[N]?=some (.obj 0 (.agg [o',tb bad]))→(∀ i,i<H.length→i≠N→J≠some i→H'[i]?=H[i]?)→H.length≤H'.length→(J=some j∨H.length≤j)→K (.tup []) H') :
  Am Tryz.prog 29 [.op N 0 [],.os 1 id ver [] 0 ws.length cp] H K:=by
 refine AaE (by simp) ?_
 have hwt:(ws.map ts).take ws.length=ws.map ts:=List.take_of_length_le (by simp)
 have htup:=hrow.tup
 have how:AC o=1∧Xm o=false:=by
  cases J with
  | none=>obtain ⟨rfl,_⟩:=hrow; exact ⟨rfl,rfl⟩
  | some j=>obtain ⟨v,rfl,_⟩:=hrow; exact ⟨rfl,rfl⟩
 obtain ⟨o1,o2⟩:=how
 have hjl:(Lib.join ws [32]++[(10:UInt8)]).length≤4000000:=by simp; omega
 have hcat:Fj 9 BinOp.add (.string (str (Lib.join ws [32]))) (.string (str [10]))=some (.string (str (Lib.join ws [32]++[10]))):=Adb (by simp; omega)
 simp -dsimp (disch:=first | assumption | omega | (simp only [Ae];try omega)) only [↓Ai,Ad,Ag,Ah,eq_self,Nat.reduceEqDiff,Nat.reduceMod,↓reduceIte,Nat.reduceAdd,reduceCtorEq,hT,o1,o2,↓AbQ]
 refine Am.callsP ((Avg ws hne (by omega) hwn).lends (args':=[.sl 1 (ws.map ts),ts [32]]) (by simp -dsimp (disch:=first | assumption | omega | (simp only [Ae];try omega)) only [Ag,Ah,eq_self,↓reduceIte,hws,hwt]) fun r hr=>⟨by rw [hr]; rfl,?_,?_⟩)
 case refine_2=>exact AjF (id:=N) (ver:=0) (p:=[(0,0)]) (by simp [get]) rfl AdH
 subst hr
 generalize Lib.join ws [32]++[(10:UInt8)]=x at *
 have hx9:x.length≤9223372036854775807:=by omega
 simp -dsimp (disch:=first | assumption | omega | (simp only [Ae];try omega)) only [↓Ai,Ad,Ag,Ah,eq_self,Nat.reduceEqDiff,↓reduceIte,reduceCtorEq,htup,hcat,AU]
 have hNl:N<H.length:=(List.getElem?_eq_some_iff.1 hT).1
 have hJN:J≠some N:=by
  rintro rfl
  obtain ⟨v,_,h⟩:=hrow
  rw [hT] at h
  cases h
 have hJl:∀ j,J=some j→j<H.length:=by
  rintro j rfl
  obtain ⟨v,_,h⟩:=hrow
  exact (List.getElem?_eq_some_iff.1 h).1
 have hrow':∀ T:List Ob,Acn (H++T) o l J:=fun T=>by
  cases J with
  | none=>exact hrow
  | some j =>
   obtain ⟨v,h1,h2⟩:=hrow
   exact ⟨v,h1,by rw [List.getElem?_append_left (hJl j rfl)]; exact h2⟩
 refine Am.callsP (Am.mono (Alo (J:=J) (line:=x) (hrow' _) (by simp) (fun e=>Nat.lt_irrefl _ (hJl _ e)) hl (by omega)) ?_)
 rintro y H2 ⟨j,k1,k2,k3⟩
 have hTn:H2[N]?=some (.obj 0 (.agg [o,tb bad])):=by
  rw [k2.2 N (by simp; omega) hJN,List.getElem?_append_left hNl]; exact hT
 have h2l:H.length+1≤H2.length:=by have:=k2.1; simpa using this
 have hjN:j≠N:=by
  rcases k3 with h | h
  ·rintro rfl; exact hJN h
  ·simp at h; omega
 have hyw:AC y=1∧Xm y=false∧CJ y=false∧lays y=true:=by
  obtain ⟨v,rfl,_⟩:=k1; exact ⟨rfl,rfl,rfl,rfl⟩
 obtain ⟨y1,y2,y3,y4⟩:=hyw
 refine ⟨?_,?_⟩
 ·simp -dsimp (disch:=first | assumption | omega | (simp only [Ae];try omega)) only [↓Ai,Ad,Ag,Ah,eq_self,Nat.reduceEqDiff,↓reduceIte,reduceCtorEq,hTn,y1,y4,o1]
  refine ⟨hk _ y j ?_ (List.getElem?_set_self (by omega)) (fun i hi hiN hJi => ?_) (by rw [List.length_set]; omega) ?_,AdH⟩
  ·obtain ⟨v,hy,hj2⟩:=k1
   exact ⟨v,hy,by rw [List.getElem?_set_ne (Ne.symm hjN)]; exact hj2⟩
  ·rw [List.getElem?_set_ne (Ne.symm hiN),k2.2 i (by simp; omega) hJi,List.getElem?_append_left hi]
  ·rcases k3 with h | h
   ·exact .inl h
   ·simp at h; exact .inr (by omega)
 ·refine AjF (id:=N) (ver:=0) (p:=[(0,0)]) (by simp [get]) ?_ AdH
  rw [hTn,List.getElem?_append_left hNl,hT]
end
section
open Go.RowKit
variable [AQ]
theorem ArO {H:List Ob} {N:Nat} {o:TV} {bad:Bool} {K:TV→List Ob→Prop} (hT:H[N]?=some (.obj 0 (.agg [o,tb bad]))) (ho:AC o=1) (hag:Xm o=false) (htu:CJ o=false)
  (hk:K (.tup (if bad then [U8,eno 111] else [o,.val .nilIface])) H) :
  Am Tryz.prog 32 [.op N 0 []] H K:=by
 refine YZ (by simp) ?_
 cases bad with
 | true =>
  simp -dsimp (disch:=first | assumption | omega | (simp only [Ae];try omega)) only [↓Ai,Ad,Ag,Ah,eq_self,Nat.reduceEqDiff,↓reduceIte,Nat.reduceAdd,reduceCtorEq,hT,ho,↓SK]
  exact hk
 | false =>
  simp -dsimp (disch:=first | assumption | omega | (simp only [Ae];try omega)) only [↓Ai,Ad,Ag,Ah,eq_self,Nat.reduceEqDiff,↓reduceIte,Nat.reduceAdd,reduceCtorEq,hT,ho,hag,htu,↓SK]
  exact hk
theorem Api {H:List Ob} {N:Nat} {o:TV} {l:List UInt8} {bad:Bool} {J:Option Nat} (hT:H[N]?=some (.obj 0 (.agg [o,tb bad]))) (hrow:Acn H o l J) (hl:l.length≤100000000000) {K:TV→List Ob→Prop}
  (hk:∀ H' o' j,Acn H' o' (l++Ro) (some j)→H'[N]?=some (.obj 0 (.agg [o',tb bad]))→(∀ i,i<H.length→i≠N→J≠some i→H'[i]?=H[i]?)→H.length≤H'.length→(J=some j∨H.length≤j)→K (.tup []) H') :
  Am Tryz.prog 31 [.op N 0 []] H K:=by
 refine Yw (by simp) ?_
 have hNl:N<H.length:=(List.getElem?_eq_some_iff.1 hT).1
 have z4:Ro.length=4:=rfl
 cases J with
 | none =>
  obtain ⟨rfl,rfl⟩:=hrow
  have hA:∀ T:List Ob,(H++T)[N]?=some (.obj 0 (.agg [U8,tb bad])):=fun T=>by rw [List.getElem?_append_left hNl]; exact hT
  simp -dsimp (disch:=first | assumption | omega | (simp only [Ae];try omega)) only [↓Ai,Ad,Ag,Ah,eq_self,Nat.reduceEqDiff,↓reduceIte,reduceCtorEq,Nat.reduceLeDiff,hT,hA,bl4,z4,↓Qv]
  refine hk _ _ H.length ⟨1,rfl,?_⟩ ?_ (fun i hi hiN _ => ?_) (by simp) (.inr (Nat.le_refl _))
  ·rw [List.getElem?_append_right (by simp)]; simp [z4]
  ·rw [List.getElem?_append_left (by simpa using hNl),List.getElem?_set_self hNl]; rfl
  ·rw [List.getElem?_append_left (by simpa using hi),List.getElem?_set_ne (Ne.symm hiN)]
 | some j =>
  obtain ⟨v,rfl,hj⟩:=hrow
  have hjN:j≠N:=by rintro rfl; rw [hT] at hj; cases hj
  have hjl:j<H.length:=(List.getElem?_eq_some_iff.1 hj).1
  have hS:∀ o:Ob,(H.set j o)[N]?=some (.obj 0 (.agg [.os 1 j v [] 0 l.length l.length,tb bad])):=fun o=>by rw [List.getElem?_set_ne hjN]; exact hT
  have hlt:(l.map by8).take l.length=l.map by8:=List.take_of_length_le (by simp)
  simp -dsimp (disch:=first | assumption | omega | (simp only [Ae];try omega)) only [↓Ai,Ad,Ag,Ah,eq_self,Nat.reduceEqDiff,↓reduceIte,reduceCtorEq,Nat.reduceLeDiff,hT,hj,hS,hlt,bl4,z4,↓Qv]
  have hL:(l++Ro).length=l.length+4:=by simp [z4]
  refine hk _ _ j ⟨v+1,rfl,?_⟩ ?_ (fun i hi hiN hji => ?_) (by simp) (.inl rfl)
  ·rw [List.getElem?_set_ne (Ne.symm hjN),List.getElem?_set_self hjl,hL,List.map_append]
  ·rw [List.getElem?_set_self (by simpa using hNl),hL]
  ·rw [List.getElem?_set_ne (Ne.symm hiN),List.getElem?_set_ne (fun e=>hji (by rw [e]))]
end
section
open Go.RowKit
variable [AQ]
end
section
open Go.RowKit
variable [AQ]
def hv (c:UInt8):Nat:=if 48≤c.toNat∧c.toNat≤57 then c.toNat - 48 else if 97≤c.toNat∧c.toNat≤102 then c.toNat - 87 else 16
end
section
open Go.RowKit
variable [AQ]
def AnH (s:List UInt8):Prop:=∀ c∈s,c≠32
theorem AgY:∀ {s w r:List UInt8},AnH s→spl w (s++32::r)=(w++s)::spl [] r
 | [],w,r,_=>by rw [List.nil_append,spl,if_pos rfl,List.append_nil]
 | c::s,w,r,h=>by
  rw [List.cons_append,spl,if_neg (h c (by simp)),AgY (fun x hx=>h x (by simp [hx])),List.append_assoc]; rfl
theorem Aht:∀ {s w:List UInt8},AnH s→spl w s=[w++s]
 | [],w,_=>by rw [spl,List.append_nil]
 | c::s,w,h=>by
  rw [spl,if_neg (h c (by simp)),Aht (fun x hx=>h x (by simp [hx])),List.append_assoc]; rfl
theorem Rw {a b:List UInt8} {l:List (List UInt8)}:Lib.join (a::b::l) [32]=a++32::Lib.join (b::l) [32]:=by
 simp [Lib.join,List.intercalate]
theorem Xw {a:List UInt8}:Lib.join [a] [32]=a:=by simp [Lib.join,List.intercalate]
theorem AgU:∀ {ws:List (List UInt8)},ws≠[]→(∀ w∈ws,AnH w)→spl [] (Lib.join ws [32])=ws
 | [],h,_=>absurd rfl h
 | [a],_,h=>by rw [Xw,Aht (h a (by simp)),List.nil_append]
 | a::b::l,_,h=>by
  rw [Rw,AgY (h a (by simp)),AgU (by simp) (fun w hw=>h w (by simp [hw])),List.nil_append]
theorem AfT (s:List UInt8):FP (s++[10])=s:=by simp [FP]
def Ip (ws:List (List UInt8)):List UInt8:=Lib.join ws [32]++[10]
theorem Ail {ws:List (List UInt8)} (hne:ws≠[]) (h:∀ w∈ws,AnH w):KZ (Ip ws)=ws:=by
 unfold KZ Ip
 rw [AfT,AgU hne h]
def Ab6 (wss:List (List (List UInt8))):List UInt8:=wss.flatMap fun ws=>BG (Ip ws)
theorem Ad2 {a b:List (List (List UInt8))}:Ab6 (a++b)=Ab6 a++Ab6 b:=by simp [Ab6]
theorem Adw {ws:List (List UInt8)}:Ab6 [ws]=BG (Ip ws):=by simp [Ab6]
theorem Aka {wss:List (List (List UInt8))} (h:∀ ws∈wss,(Ip ws).length≤1000):AX (wss.map Ip) (Ab6 wss) :=
 ⟨fun x hx=>by obtain ⟨ws,hw,rfl⟩:=List.mem_map.1 hx; exact h ws hw,by rw [Ab6,List.flatMap_map]⟩
theorem AX.app {l m:List (List UInt8)} {a b:List UInt8} (h:AX l a) (k:AX m b):AX (l++m) (a++b) :=
 ⟨fun x hx=>(List.mem_append.1 hx).elim (h.1 x) (k.1 x),by rw [List.flatMap_append,h.2,k.2]⟩
theorem Ah6:AX [[]] Ro:=⟨by simp,rfl⟩
theorem AgB {wss:List (List (List UInt8))} (h:∀ ws∈wss,ws≠[]∧∀ w∈ws,AnH w):(wss.map Ip).map KZ=wss:=by
 rw [List.map_map]
 conv=>rhs; rw [←List.map_id wss]
 exact List.map_congr_left fun ws hw=>Ail (h ws hw).1 (h ws hw).2
end
section
open Go.RowKit
variable [AQ]
def TSt (N z:Nat) (H:List Ob) (l:List UInt8) (ok:Prop) (n:Nat):Prop:=∃ (o:TV) (m:List UInt8) (bad:Bool) (J:Option Nat),H[N]?=some (.obj 0 (.agg [o,tb bad]))∧Acn H o m J∧J≠some z∧(bad=false↔ok)∧(ok→m=l)∧m.length≤n∧z≤N
theorem TSt.iff {N z:Nat} {H:List Ob} {l:List UInt8} {ok ok':Prop} {n:Nat} (h:TSt N z H l ok n) (e:ok↔ok'):TSt N z H l ok' n:=by
 obtain ⟨o,m,bad,J,h1,h2,h3,h4,h5,h6,h7⟩:=h
 exact ⟨o,m,bad,J,h1,h2,h3,h4.trans e,fun k=>h5 (e.2 k),h6,h7⟩
theorem TSt.le {N z:Nat} {H:List Ob} {l:List UInt8} {ok:Prop} {n n':Nat} (h:TSt N z H l ok n) (e:n≤n'):TSt N z H l ok n':=by
 obtain ⟨o,m,bad,J,h1,h2,h3,h4,h5,h6,h7⟩:=h
 exact ⟨o,m,bad,J,h1,h2,h3,h4,h5,by omega,h7⟩
theorem Acn.lt {H:List Ob} {o:TV} {l:List UInt8} {j:Nat} (h:Acn H o l (some j)):j<H.length:=by
 obtain ⟨v,_,h⟩:=h
 exact (List.getElem?_eq_some_iff.1 h).1
theorem Acn.same {H H':List Ob} {o:TV} {l:List UInt8} {J:Option Nat} (h:Acn H o l J) (k:∀ j,J=some j→H'[j]?=H[j]?):Acn H' o l J:=by
 cases J with
 | none=>exact h
 | some j =>
  obtain ⟨v,h1,h2⟩:=h
  exact ⟨v,h1,by rw [k j rfl]; exact h2⟩
theorem TSt.lt {N z:Nat} {H:List Ob} {l:List UInt8} {ok:Prop} {n:Nat} (h:TSt N z H l ok n):N<H.length:=by
 obtain ⟨o,m,bad,J,h1,_⟩:=h
 exact (List.getElem?_eq_some_iff.1 h1).1
theorem TSt.grow {N z:Nat} {H:List Ob} {l:List UInt8} {ok:Prop} {n:Nat} (h:TSt N z H l ok n) (T:List Ob):TSt N z (H++T) l ok n:=by
 have hl:=h.lt
 obtain ⟨o,m,bad,J,h1,h2,h3,h4,h5,h6,h7⟩:=h
 refine ⟨o,m,bad,J,by rw [List.getElem?_append_left hl]; exact h1,h2.same fun j e => ?_,h3,h4,h5,h6,h7⟩
 subst e
 exact List.getElem?_append_left h2.lt
theorem Acn.one {H:List Ob} {o:TV} {l:List UInt8} {J:Option Nat} (h:Acn H o l J):AC o=1∧Xm o=false∧CJ o=false:=by
 cases J with
 | none=>obtain ⟨rfl,_⟩:=h; exact ⟨rfl,rfl,rfl⟩
 | some j=>obtain ⟨v,rfl,_⟩:=h; exact ⟨rfl,rfl,rfl⟩
theorem TSt.new {N z:Nat} {H:List Ob} (h:H[N]?=some (.obj 0 (.agg [U8,tb false]))) (hz:z≤N):TSt N z H [] True 0:=⟨U8,[],false,none,h,⟨rfl,rfl⟩,by simp,by simp,fun _=>rfl,by simp,hz⟩
theorem ArK {N z:Nat} {H:List Ob} {l:List UInt8} {ok:Prop} {n:Nat} {b:Bool} {K:TV→List Ob→Prop} (h:TSt N z H l ok n) (hk:∀ H',TSt N z H' l (ok∧b=true) n→(∀ i,i≠N→H'[i]?=H[i]?)→H'.length=H.length→K (.tup []) H') :
  Am Tryz.prog 27 [.op N 0 [],tb b] H K:=by
 have hl:=h.lt
 obtain ⟨o,m,bad,J,h1,h2,h3,h4,h5,h6,h7⟩:=h
 have hJ1:J≠some N:=by rintro rfl; obtain ⟨v,_,h⟩:=h2; rw [h1] at h; cases h
 refine Auv h1 h2.one.1 (hk _ ⟨o,m,_,J,List.getElem?_set_self hl,h2.same fun j e=>List.getElem?_set_ne (fun k=>hJ1 (by rw [e,k])),h3,?_,fun k=>h5 k.1,h6,h7⟩ (fun i hi=>List.getElem?_set_ne (Ne.symm hi)) (by simp))
 cases bad<;>cases b<;>simp_all
theorem Axz {N z:Nat} {H:List Ob} {l:List UInt8} {ok:Prop} {n id ver cp:Nat} {ws:List (List UInt8)} {K:TV→List Ob→Prop} (h:TSt N z H l ok n) (hws:H[id]?=some (.obj ver (.arr ws.length 1 (ws.map ts)))) (hne:ws≠[]) (hwn:ws.length≤1000000) (hj:(Lib.join ws [32]).length≤3000000) (hn:n≤100000000000)
  (hk:∀ H',TSt N z H' (l++BG (Ip ws)) ok (n+3000015)→(z<N→H'[z]?=H[z]?)→H.length≤H'.length→K (.tup []) H') :
  Am Tryz.prog 29 [.op N 0 [],.os 1 id ver [] 0 ws.length cp] H K:=by
 have hl:=h.lt
 obtain ⟨o,m,bad,J,h1,h2,h3,h4,h5,h6,h7⟩:=h
 refine Aya h1 h2 hws hne hwn hj (by omega) fun H' o' j k1 k2 k3 k4 k5=>hk H' ⟨o',_,bad,some j,k2,k1,?_,h4,fun k=>by rw [h5 k]; rfl,?_,h7⟩ (fun hz=>k3 z (by omega) (by omega) h3) k4
 ·rintro e
  rw [Option.some.inj e] at k5
  rcases k5 with e | e
  ·exact h3 e
  ·omega
 ·rw [List.length_append,Ib,List.length_append,List.length_singleton]; omega
theorem AuK {N z:Nat} {H:List Ob} {l:List UInt8} {ok:Prop} {n:Nat} {K:TV→List Ob→Prop} (h:TSt N z H l ok n) (hn:n≤100000000000)
  (hk:∀ H',TSt N z H' (l++Ro) ok (n+4)→(z<N→H'[z]?=H[z]?)→H.length≤H'.length→K (.tup []) H') :
  Am Tryz.prog 31 [.op N 0 []] H K:=by
 have hl:=h.lt
 obtain ⟨o,m,bad,J,h1,h2,h3,h4,h5,h6,h7⟩:=h
 refine Api h1 h2 (by omega) fun H' o' j k1 k2 k3 k4 k5=>hk H' ⟨o',_,bad,some j,k2,k1,?_,h4,fun k=>by rw [h5 k],?_,h7⟩ (fun hz=>k3 z (by omega) (by omega) h3) k4
 ·rintro e
  rw [Option.some.inj e] at k5
  rcases k5 with e | e
  ·exact h3 e
  ·omega
 ·rw [List.length_append]; show m.length+4≤n+4; omega
def AsL (H:List Ob) (l:List UInt8) (ok:Prop) (x y:TV):Prop:=(ok∧(∃ j v,x = .os 1 j v [] 0 l.length l.length∧H[j]?=some (.obj v (.arr l.length 1 (l.map by8))))∧y = .val .nilIface)∨(¬ ok∧x=U8∧y=eno 111)
theorem Axa {N z:Nat} {H:List Ob} {l:List UInt8} {ok:Prop} {n:Nat} {K:TV→List Ob→Prop} (h:TSt N z H l ok n) (hl:l≠[])
  (hk:∀ x y,AsL H l ok x y→K (.tup [x,y]) H) :
  Am Tryz.prog 32 [.op N 0 []] H K:=by
 obtain ⟨o,m,bad,J,h1,h2,h3,h4,h5,h6,h7⟩:=h
 have:=h2.one
 refine ArO h1 this.1 this.2.1 this.2.2 ?_
 cases bad with
 | true=>exact hk _ _ (.inr ⟨(fun k=>Bool.noConfusion (h4.2 k)),rfl,rfl⟩)
 | false =>
  have hok:=h4.1 rfl
  obtain rfl:=h5 hok
  cases J with
  | none=>exact absurd h2.2 hl
  | some j =>
   obtain ⟨v,rfl,hj⟩:=h2
   exact hk _ _ (.inl ⟨hok,⟨j,v,rfl,hj⟩,rfl⟩)
end
section
variable [AQ]
set_option maxRecDepth 100000
def Oa:Af := .seq (.ops [po_ 4 (.mov (.c .nilFunc))] [0,1])
 (.seq (.ops [mv_ 5 0,mv_ 6 1,so_ 7 (.call 102 [.t 5,.t 6,.c (.int .i64 ((0:Nat):Int))]),mv_ 4 7] [4])
 (.ret))
def OB:List VR:=[.tmp 4]
theorem YB:Tryz.f76.body.bind (trC Tryz.prog Tryz.f76.ntmps)=some (er Oa):=by kernel_rfl
theorem YI:trR Tryz.prog Tryz.f76.results.toList=some OB:=by kernel_rfl
def VI:=Ac Oa.eq_1
theorem Vt {K:TV→Prop} {e:Env} {H:List Ob}:res OB e H K=res [.tmp 4] e H K:=Aa rfl
def Oq:=(aI_ @VI @Vt)
def Wx:=Dj 8 Tryz.func76 YB YI rfl
def Ou:Af := .seq (.ops [so_ 3 (.box (.t 0)),so_ 4 (.box (.t 1)),so_ 5 (.box (.t 2)),po_ 6 (.mov (.c .nilFunc))] [3,4,5])
 (.seq (.ops [po_ 7 (.mkf (.func 117) [] [.t 4,.t 3,.t 5]),mv_ 6 7] [6])
 (.ret))
def Oj:List VR:=[.tmp 6]
theorem XT:Tryz.f102.body.bind (trC Tryz.prog Tryz.f102.ntmps)=some (er Ou):=by kernel_rfl
theorem XQ:trR Tryz.prog Tryz.f102.results.toList=some Oj:=by kernel_rfl
def Vl:=Ac Ou.eq_1
theorem Vp {K:TV→Prop} {e:Env} {H:List Ob}:res Oj e H K=res [.tmp 6] e H K:=Aa rfl
def XW:=(aI_ @Vl @Vp)
def WP:=Dj 8 Tryz.func102 XT XQ rfl
def Ic:Af := .block 1 (.seq (.ops [po_ 16 (.load false 1 (.t 2)),so_ 17 (.call 118 [.t 16]),mv_ 15 17,po_ 18 (.ext 0 (.t 15)),po_ 19 (.ext 1 (.t 15)),mv_ 5 18,mv_ 6 19] [0,2,6])
 (.seq (.seq (.ops [mv_ 20 0,po_ 21 (.load false 1 (.t 2)),mv_ 22 6,po_ 23 (.slS (.t 21) none (some (.t 22))),so_ 24 (.callv (.t 20) [.t 23]),po_ 25 (.un .not (.t 24))] [0,2,6,25])
 (.cond (.t 25)
 (.ret)
 (.skip)))
 (.ops [po_ 26 (.load false 1 (.t 2)),mv_ 27 6,po_ 28 (.slS (.t 26) (some (.t 27)) none),⟨none,.s (.store 1 (.t 2) (.t 28)),none⟩] [0,2])))
def H6:Af := .seq (.seq (.ops [po_ 12 (.load false 1 (.t 2)),po_ 13 (.lenS (.t 12)),po_ 14 (.bin 3 .gtr (.t 13) (ci_ 0))] [0,2,14])
 (.cond (.t 14)
 (.skip)
 (.exit 0)))
 Ic
def Ig:Af := .ret
def Ir:Af := .seq (.block 0 (.loop [0,2] H6))
 Ig
def Hz:Af := .cond (.t 11)
 Ir
 (.skip)
def Hl:Af := .seq (.ops [po_ 34 (.load false 1 (.t 2)),mv_ 35 7,po_ 36 (.load false 1 (.t 3)),po_ 37 (.bin 3 .add (.t 35) (.t 36)),po_ 38 (.slS (.t 34) none (some (.t 37))),mv_ 8 38] [0,1,2,3,7,8])
 (.seq (.seq (.ops [mv_ 39 0,mv_ 40 8,so_ 41 (.callv (.t 39) [.t 40]),po_ 42 (.un .not (.t 41))] [0,1,2,3,7,42])
 (.cond (.t 42)
 (.ret)
 (.skip)))
 (.ops [po_ 43 (.load false 1 (.t 2)),mv_ 44 7,po_ 45 (.load false 1 (.t 1)),po_ 46 (.lenS (.t 45)),po_ 47 (.bin 3 .add (.t 44) (.t 46)),po_ 48 (.slS (.t 43) (some (.t 47)) none),⟨none,.s (.store 1 (.t 2) (.t 48)),none⟩] [0,1,2,3]))
def H5:Af := .seq (.seq (.ops [mv_ 32 7,po_ 33 (.bin 3 .lss (.t 32) (ci_ 0))] [0,1,2,3,7,33])
 (.cond (.t 33)
 (.exit 2)
 (.skip)))
 Hl
def Io:Af := .block 3 (.seq (.ops [po_ 29 (.load false 1 (.t 2)),po_ 30 (.load false 1 (.t 1)),so_ 31 (.call 99 [.t 29,.t 30]),mv_ 7 31] [0,1,2,3,7])
 H5)
def He:Af := .ops [mv_ 49 0,po_ 50 (.load false 1 (.t 2)),so_ 51 (.callv (.t 49) [.t 50])] []
def Gf:Af := .seq (.block 2 (.loop [0,1,2,3] Io))
 He
def Me:Af := .seq (.seq (.ops [po_ 9 (.load false 1 (.t 1)),po_ 10 (.lenS (.t 9)),po_ 11 (.bin 3 .eql (.t 10) (ci_ 0))] [0,1,2,3,11])
 Hz)
 Gf
def LQ:List VR:=[]
theorem Vu:Tryz.f117.body.bind (trC Tryz.prog Tryz.f117.ntmps)=some (er Me):=by kernel_rfl
theorem Vs:trR Tryz.prog Tryz.f117.results.toList=some LQ:=by kernel_rfl
def O6:=Ac Ic.eq_1
def OE:=Ac H6.eq_1
def OQ:=Ac Ig.eq_1
def O1:=Ac Ir.eq_1
def OY:=Ac Hz.eq_1
def OO:=Ac Hl.eq_1
def OX:=Ac H5.eq_1
def O3:=Ac Io.eq_1
def OJ:=Ac He.eq_1
def NR:=Ac Gf.eq_1
def TA:=Ac Me.eq_1
theorem TD {K:TV→Prop} {e:Env} {H:List Ob}:res LQ e H K=res [] e H K:=Aa rfl
def Ce:=(aI_ (aI_ (aI_ (aI_ @O6 @OE) (aI_ @OQ @O1)) (aI_ (aI_ @OY @OO) (aI_ @OX @O3))) (aI_ (aI_ @OJ @NR) (aI_ @TA @TD)))
def UF:=Dj 52 Tryz.func117 Vu Vs rfl
end
section
open Go.RowKit
variable [AQ]
theorem BC.ofBelow {f:FuncId} {args:List Value} {r:Value} (h:∀ (F:Nat→Prop) w,Js F w→Calls Tryz.prog f args.toArray w fun e w'=>e = .returned r∧Below w.heap.size w w'):BC Tryz.prog f (args.map .val) (fun x=>x = .val r):=by
 intro β F w vs hF hv
 have hvs:vs=args:=by
  clear h hF
  induction args generalizing vs with
  | nil=>rw [List.map_nil,BA.nil] at hv; exact hv
  | cons a args ih =>
   rw [List.map_cons] at hv
   obtain ⟨v,us,rfl,h1,h2⟩:=BA.cons.1 hv
   have:=Rep.val.1 (Or.inl h1:Rep _ _ _ _)
   rw [this,ih us h2]
 subst hvs
 refine (h F w hF.2).mono ?_
 rintro e w' ⟨rfl,hb⟩
 exact ⟨_,_,F,rfl,rfl,Rep.of_val,⟨hb.os,hb.tape,hb.output,hb.size,hb.block,fun _ h=>h,fun _ _ h=>h,fun b hb'=>Nat.lt_of_lt_of_le (hF.1 b hb') hb.size⟩⟩
theorem Pv {B:Nat} (w:World):Below B w w:=⟨rfl,rfl,rfl,Nat.le_refl _,fun _ _=>rfl⟩
theorem Aie (w:World) (k:Nat) (os:Array Obj):Below w.heap.size w (Sort.grow (w.drewN k) os):=⟨rfl,rfl,rfl,by simp [Sort.grow,World.drewN],fun i hi=>by simp [Sort.grow,World.drewN,Array.getElem?_append_left hi]⟩
theorem AoG (l:List UInt8):(str l).data.toList=l:=by simp [str]
theorem Pg (s p:List UInt8) (hs:s.length≤9223372036854775807):BC Tryz.prog 71 [ts s,ts p] (fun x=>x=tb (Lib.hasSuffix s p)):=by
 have h:=BC.ofBelow (f:=71) (args:=[.string (str s),.string (str p)]) (r := .bool (Lib.hasSuffix s p)) (fun F w _=>by
  have h1:=Tryz.strings_HasSuffix (str s) (str p) w (by simpa [str,ByteArray.size] using hs)
  rw [AoG,AoG] at h1
  refine h1.mono ?_
  rintro e w' ⟨rfl,rfl⟩
  exact ⟨rfl,Pv _⟩)
 exact h
section
variable [Ap]
theorem AjU {F:Nat→Prop} {w:World} (h:Js F w):Lib.TabIs Tryz.prog w "internal/strconv.uint64pow10" .u64 Lib.pow10Tab:=by
 obtain ⟨_,t,fr,h1⟩:=h 2 _ Ap.k
 have h2:Tryz.prog.globalNamed "internal/strconv.uint64pow10" = some 2:=by kernel_rfl
 have h3:AO.cells.toArray=(Lib.pow10Tab.map fun z=>Value.int .u64 z).toArray:=by kernel_rfl
 unfold Lib.TabIs World.var?
 rw [h2,Option.bind_some,h1,h3]
theorem AvG (n:Int) (h0 : -9223372036854775808≤n) (h1:n≤9223372036854775807):BC Tryz.prog 50 [i64 n] (fun x=>x=ts (Lib.itoa n)):=by
 have h:=BC.ofBelow (f:=50) (args:=[.int .i64 n]) (r := .string (str (Lib.itoa n))) (fun F w hg=>by
  refine (Tryz.strconv_Itoa n h0 h1 w (AjU hg)).mono ?_
  rintro e w' ⟨rfl,k,os,rfl⟩
  exact ⟨rfl,Aie _ _ _⟩)
 exact h
end
end
section
open Go.RowKit
variable [AQ]
def CU (c:UInt8):List UInt8→List (List UInt8)
 | []=>[[]]
 | b::l=>if b=c then []::CU c l else match CU c l with
  | []=>[[b]]
  | p::ps=>(b::p)::ps
theorem Abz (c:UInt8):∀ l:List UInt8,(Lib.indexByte l c = -1∧c∉l∧CU c l=[l])∨∃ k:Nat,Lib.indexByte l c=(k:Int)∧k<l.length∧l[k]?=some c∧c∉l.take k∧CU c l=l.take k::CU c (l.drop (k+1))
 | [] => .inl ⟨rfl,by simp,rfl⟩
 | b::l=>by
  by_cases h:b=c
  ·subst h
   refine .inr ⟨0,by simp [Lib.indexByte],by simp,rfl,by simp,by simp [CU]⟩
  ·rcases Abz c l with ⟨h1,h2,h3⟩ | ⟨k,h1,h2,h3,h4,h5⟩
   ·refine .inl ⟨by simp [Lib.indexByte,h,h1],by simp [h2,Ne.symm h],by rw [CU,if_neg h,h3]⟩
   ·refine .inr ⟨k+1,?_,by simp; omega,by simpa using h3,by simp [h4,Ne.symm h],by rw [CU,if_neg h,h5]; simp⟩
    have:¬ ((k:Int) = -1):=by omega
    simp [Lib.indexByte,h,h1,this]
theorem Aks (s:List UInt8) (c:UInt8):BC Tryz.prog 99 [ts s,ts [c]] (fun x=>x=i64 (Lib.indexByte s c)):=by
 have h:=BC.ofBelow (f:=99) (args:=[.string (str s),.string (str [c])]) (r := .int .i64 (Lib.indexByte s c)) (fun F w _=>by
  have h1:=Tryz.strings_Index_one (str s) c w
  rw [AoG] at h1
  refine h1.mono ?_
  rintro e w' ⟨rfl,rfl⟩
  exact ⟨rfl,Pv _⟩)
 exact h
theorem Aio {c:UInt8} {I:List UInt8→List Ob→Prop} {J E:List Ob→Prop} {id sp sid sv L:Nat} {r0:List UInt8} {H0:List Ob}
  (hI:∀ r H,I r H→L≤H.length∧r.length≤9223372036854775800∧H[sid]?=some (.obj 0 (ts r))∧H[sp]?=some (.obj 0 (ts [c]))∧H[sv]?=some (.obj 0 (i64 ((0:Nat):Int))))
  (hy:∀ r H k,I r H→k<r.length→CU c r=r.take k::CU c (r.drop (k+1))→S9 Tryz.prog id 0 [ts (r.take k)] H (fun y H'=>(y = .val (.bool true)∧H'[sid]?=some (.obj 0 (ts r))∧H'[sp]?=some (.obj 0 (ts [c]))∧I (r.drop (k+1)) (H'.set sid (.obj 0 (ts (r.drop (k+1))))))∨(y = .val (.bool false)∧J H')))
  (hend:∀ r H,I r H→CU c r=[r]→S9 Tryz.prog id 0 [ts r] H (fun y H'=>E H'))
  (h0:I r0 H0) (hL:H0.length=L):Am Tryz.prog 117 [.yl id 0,.op sp 0 [],.op sid 0 [],.op sv 0 []] H0 (fun _ H'=>E H'∨J H'):=by
 refine UF (by simp) ?_
 obtain ⟨_,_,_,q2,_⟩:=hI r0 H0 h0
 simp -dsimp (disch:=first | assumption | omega) only [↓Ai,Ad,Ag,Ah,eq_self,Nat.reduceEqDiff,↓reduceIte,Nat.reduceAdd,reduceCtorEq,↓Ce,q2,AU]
 refine Fg (fun m e H=>∃ r,m=r.length∧e=[(0,.yl id 0),(1,.op sp 0 []),(2,.op sid 0 []),(3,.op sv 0 [])]∧I r H) r0.length ?_ ?_
 ·exact ⟨r0,rfl,rfl,h0⟩
 ·rintro n e H ⟨r,rfl,rfl,hr⟩
  obtain ⟨h1,h2,h3,h4,h5⟩:=hI r H hr
  simp -dsimp (disch:=first | assumption | omega) only [↓Ai,Ad,Ag,Ah,eq_self,Nat.reduceEqDiff,↓reduceIte,reduceCtorEq,↓Ce,h3,h4]
  refine (Aks r c).calls rfl ?_
  rintro _ rfl
  rcases Abz c r with ⟨k1,k2,k3⟩ | ⟨k,k1,k2,k3,k4,k5⟩
  ·rw [k1]
   simp -dsimp (disch:=first | assumption | omega) only [↓Ai,Ad,Ag,Ah,eq_self,Nat.reduceEqDiff,↓reduceIte,reduceCtorEq,↓Ce,h3]
   refine S9.mono (hend r H hr k3) ?_
   rintro y H' hE
   simp -dsimp (disch:=first | assumption | omega) only [↓Ai,Ad,Ag,↓Ce]
   exact .inl hE
  ·rw [k1]
   simp -dsimp (disch:=first | assumption | omega) only [↓Ai,Ad,Ag,Ah,eq_self,Nat.reduceEqDiff,↓reduceIte,reduceCtorEq,↓Ce,h3,h5,AU]
   refine S9.mono (hy r H k hr k2 k5) ?_
   rintro y H' (⟨rfl,g1,g2,g3⟩ | ⟨rfl,hJ⟩)
   ·simp -dsimp (disch:=first | assumption | omega) only [↓Ai,Ad,Ag,Ah,eq_self,Nat.reduceEqDiff,↓reduceIte,reduceCtorEq,g1,g2,AU]
    exact AB (r.length - (k+1)) (by omega) (by rw [hL]; exact (hI _ _ g3).1) ⟨r.drop (k+1),by simp,rfl,g3⟩
   ·simp -dsimp (disch:=first | assumption | omega) only [↓Ai,Ad,Ag,Ah,eq_self,Nat.reduceEqDiff,↓reduceIte,reduceCtorEq,↓Ce]
    exact .inr hJ
end
section
open Go.RowKit
variable [AQ]
theorem AqO (l:List UInt8):(str l).size=l.length:=by show l.toArray.size=_; simp
theorem AqV (l:List UInt8) (k:Nat) (c:UInt8) (hk:l[k]?=some c) (hc:c.toNat<128):(Utf8.decode (str l) k).1=c.toNat∧(Utf8.decode (str l) k).2=1:=by
 obtain ⟨hl,rfl⟩:=List.getElem?_eq_some_iff.1 hk
 have h:k<(str l).size:=by rw [AqO]; exact hl
 have e:((str l)[k]'h)=l[k]:=rfl
 have:=decode_ascii (str l) k h (by rw [e]; exact hc)
 rw [this,e]; exact ⟨rfl,rfl⟩
end
section
open Go.RowKit
variable [AQ]
theorem AlR (l:List UInt8) (k:Nat) (c:UInt8) (hk:l[k]?=some c) (hc:128≤c.toNat):128≤(Utf8.decode (str l) k).1∧(Utf8.decode (str l) k).1≤1114111∧1≤(Utf8.decode (str l) k).2:=by
 obtain ⟨hl,rfl⟩:=List.getElem?_eq_some_iff.1 hk
 have h:k<(str l).size:=by rw [AqO]; exact hl
 have e:((str l)[k]'h)=l[k]:=rfl
 obtain ⟨h1,h2⟩:=decode_high (str l) k h (by rw [e]; exact hc)
 exact ⟨h1,Lib.rune_le _ _,h2⟩
end
section
open Go.RowKit
variable [AQ]
theorem Agv {c:UInt8} {l:List UInt8} (h:c∉l):CU c l=[l]:=by
 induction l with
 | nil=>rfl
 | cons b l ih=>rw [CU,if_neg (fun e=>h (by simp [e])),ih (fun e=>h (by simp [e]))]
theorem Agx {c:UInt8} {l:List UInt8} {k:Nat} (h:l[k]?=some c) (hn:c∉l.take k):CU c l=l.take k::CU c (l.drop (k+1)):=by
 induction l generalizing k with
 | nil=>simp at h
 | cons b l ih =>
  cases k with
  | zero=>simp at h; simp [CU,h]
  | succ k =>
   rw [List.getElem?_cons_succ] at h
   rw [List.take_succ_cons] at hn
   rw [CU,if_neg (fun e=>hn (by simp [e])),ih h (fun e=>hn (by simp [e]))]; rfl
theorem Ajf (s:List UInt8) (c:UInt8) (H:List Ob):Am Tryz.prog 76 [ts s,ts [c]] H (fun x H'=>x = .fn (.func 117) [] [.op (H.length+1) 0 [],.op H.length 0 [],.op (H.length+2) 0 []]∧H'=H++[.obj 0 (ts s),.obj 0 (ts [c]),.obj 0 (i64 ((0:Nat):Int))]):=by
 refine Wx (by simp) ?_
 simp -dsimp (disch:=first | assumption | omega) only [↓Ai,Ad,Ag,Ah,eq_self,Nat.reduceEqDiff,↓reduceIte,Nat.reduceAdd,reduceCtorEq,↓Oq]
 refine WP (by simp) ?_
 simp -dsimp (disch:=first | assumption | omega) only [↓Ai,Ad,Ag,Ah,eq_self,Nat.reduceEqDiff,↓reduceIte,Nat.reduceAdd,reduceCtorEq,↓XW,↓Oq,List.append_assoc]
end
section
open Go.RowKit
variable [AQ]
section
omit [AQ]
def AlJ (a b:UInt8) (s:List UInt8):Prop:=∃ j:Nat,s[j]?=some a∧s[j+1]?=some b
theorem Aju {a b c:UInt8} {s:List UInt8}:AlJ a b (c::s)↔(c=a∧s[0]?=some b)∨AlJ a b s:=by
 constructor
 ·rintro ⟨j,h1,h2⟩
  cases j with
  | zero=>simp at h1 h2; exact .inl ⟨h1,by simpa using h2⟩
  | succ j=>exact .inr ⟨j,by simpa using h1,by simpa using h2⟩
 ·rintro (⟨rfl,h⟩ | ⟨j,h1,h2⟩)
  ·exact ⟨0,rfl,by simpa using h⟩
  ·exact ⟨j+1,by simpa using h1,by simpa using h2⟩
theorem Afx (a b:UInt8):∀ s:List UInt8,0≤Lib.index s [a,b]↔AlJ a b s
 | []=>by simp [Lib.index,AlJ]
 | c::l=>by
  have ih:=Afx a b l
  have hg:=Lib.index_ge l [a,b]
  rw [Aju,←ih,Lib.index]
  have hp:([a,b].isPrefixOf (c::l))=true↔(c=a∧l[0]?=some b):=by
   cases l with
   | nil=>simp [List.isPrefixOf]
   | cons d l=>simp only [List.isPrefixOf,Bool.and_true,Bool.and_eq_true,beq_iff_eq,List.getElem?_cons_zero,Option.some.injEq]; exact ⟨fun h=>⟨h.1.symm,h.2.symm⟩,fun h=>⟨h.1.symm,h.2.symm⟩⟩
  by_cases h:([a,b].isPrefixOf (c::l))=true
  ·rw [if_pos h]; exact ⟨fun _ => .inl (hp.1 h),fun _=>Int.le_refl 0⟩
  ·rw [if_neg h]
   have h':¬ (c=a∧l[0]?=some b):=fun k=>h (hp.2 k)
   simp only [h',false_or]
   by_cases h2:(Lib.index l [a,b] == -1)=true
   ·rw [if_pos h2]
    have h3:Lib.index l [a,b] = -1:=by simpa using h2
    rw [h3]
   ·rw [if_neg h2]
    have h3:Lib.index l [a,b] ≠ -1:=fun e=>h2 (by rw [e]; rfl)
    omega
theorem N9 (a b:UInt8) (s:List UInt8):Lib.contains s [a,b]=true↔AlJ a b s:=by
 unfold Lib.contains; rw [decide_eq_true_eq]; exact Afx a b s
def VJ (c:UInt8):Bool:=decide (33≤c.toNat∧c.toNat≤126∧c∉[(126:UInt8),94,58,63,42,91,92])
def DJ (p:List UInt8):Bool:=decide (p≠[]∧p[0]?≠some 46∧¬ (5≤p.length∧p.drop (p.length - 5)=[46,108,111,99,107]))
def AmZ (s:List UInt8):Prop:=s=[72,69,65,68]∨(s.length≤60∧s.take 5=[114,101,102,115,47]∧s[s.length - 1]?≠some 46∧¬ AlJ 46 46 s∧¬ AlJ 64 123 s∧(∀ c∈s,VJ c=true)∧(CU 47 s).all DJ=true)
theorem AbG (p:List UInt8):Lib.hasSuffix p [46,108,111,99,107]=true↔(5≤p.length∧p.drop (p.length - 5)=[46,108,111,99,107]):=by
 unfold Lib.hasSuffix
 rw [List.isSuffixOf_iff_suffix]
 constructor
 ·rintro ⟨t,rfl⟩
  simp
 ·rintro ⟨h1,h2⟩
  exact ⟨p.take (p.length - 5),by rw [←h2]; exact List.take_append_drop _ _⟩
theorem AcT (p:List UInt8) (c:UInt8):Lib.hasSuffix p [c]=true↔p[p.length - 1]?=some c:=by
 unfold Lib.hasSuffix
 rw [List.isSuffixOf_iff_suffix]
 constructor
 ·rintro ⟨t,rfl⟩
  simp
 ·intro h
  obtain ⟨hl,rfl⟩:=List.getElem?_eq_some_iff.1 h
  refine ⟨p.take (p.length - 1),?_⟩
  have e:p≠[]:=by intro e; subst e; simp at hl
  have h2:p.drop (p.length - 1)=[p[p.length - 1]]:=by
   rw [List.drop_eq_getElem_cons hl,List.drop_eq_nil_of_le (by omega)]
  rw [←h2]; exact List.take_append_drop _ _
theorem Abh (p:List UInt8):Lib.hasPrefix p [114,101,102,115,47]=true↔p.take 5=[114,101,102,115,47]:=by
 unfold Lib.hasPrefix
 rw [List.isPrefixOf_iff_prefix,List.prefix_iff_eq_take]
 exact eq_comm
theorem Aoj {s:List UInt8} (h:s.length<6):¬ ((s.take 5=[114,101,102,115,47])∧(CU 47 s).all DJ=true):=by
 rintro ⟨h1,h2⟩
 rw [List.take_of_length_le (by omega)] at h1
 subst h1
 revert h2
 decide
end
end
section
open Go.RowKit
variable [AQ]
theorem AeQ {s:List UInt8} (h:AmZ s):s.length≤60∧AnH s:=by
 rcases h with rfl | h
 ·exact ⟨by decide,fun c hc=>by simp at hc; rcases hc with rfl | rfl | rfl | rfl<;>decide⟩
 ·refine ⟨h.1,fun c hc e => ?_⟩
  have:=h.2.2.2.2.2.1 c hc
  subst e
  revert this; decide
abbrev Ayh:=List UInt8×List UInt8
structure Ayw where
 head:List UInt8
 refs:List Ayh
theorem AbC {a b:List UInt8}:Ip [a,b]=a++32::b++[10]:=by
 unfold Ip
 rw [Rw,Xw]
end
section
variable [AQ]
set_option maxRecDepth 100000
def Tc:Af := .ops [mv_ 3 30] [2,3]
def SB:Af := .block 1 (.seq (.ops [mv_ 31 3,po_ 32 (.bin 9 .eql (.t 31) (.c (.string (str [])))),mv_ 33 32,⟨some 34,.p (.mov (.t 3)),some ⟨33,false⟩⟩,⟨some 35,.p (.idxS (.t 34) (ci_ 0)),some ⟨33,false⟩⟩,⟨some 36,.p (.bin 5 .eql (.t 35) (.c (.int .u8 ((46:Nat):Int)))),some ⟨33,false⟩⟩,po_ 37 (.pick (.t 33) (.c (.bool true)) (.t 36)),mv_ 38 37,⟨some 39,.p (.mov (.t 3)),some ⟨38,false⟩⟩,⟨some 40,.s (.call 71 [.t 39,.c (.string (str [46,108,111,99,107]))]),some ⟨38,false⟩⟩,po_ 41 (.pick (.t 38) (.c (.bool true)) (.t 40))] [2,41])
 (.cond (.t 41)
 (.seq (.ops [⟨none,.s (.store 1 (.t 2) (.c (.bool false))),none⟩] [])
  (.ret))
 (.skip)))
def Sv:Af := .block 0 (.rfunc (.t 29) [30] Tc SB)
def SV:Af := .seq (.ops [⟨none,.s (.store 1 (.t 2) (.c (.bool true))),none⟩] [2])
 (.ret)
def Tj:Af := .seq (.seq (.ops [mv_ 28 0,so_ 29 (.call 76 [.t 28,.c (.string (str [47]))])] [2,29])
 Sv)
 SV
def SC:Af := .seq (.seq (.ops [mv_ 26 0,so_ 27 (.call 73 [.t 26,.c (.func (.func 74) #[] #[])])] [0,2,27])
 (.cond (.t 27)
 (.seq (.ops [⟨none,.s (.store 1 (.t 2) (.c (.bool false))),none⟩] [2])
  (.ret))
 (.skip)))
 Tj
def SY:Af := .seq (.seq (.ops [mv_ 6 0,po_ 7 (.lenS (.t 6)),po_ 8 (.bin 3 .gtr (.t 7) (ci_ 60)),mv_ 9 8,⟨some 10,.p (.mov (.t 0)),some ⟨9,false⟩⟩,⟨some 11,.s (.call 70 [.t 10,.c (.string (str [114,101,102,115,47]))]),some ⟨9,false⟩⟩,⟨some 12,.p (.un .not (.t 11)),some ⟨9,false⟩⟩,po_ 13 (.pick (.t 9) (.c (.bool true)) (.t 12)),mv_ 14 13,⟨some 15,.p (.mov (.t 0)),some ⟨14,false⟩⟩,⟨some 16,.s (.call 71 [.t 15,.c (.string (str [46]))]),some ⟨14,false⟩⟩,po_ 17 (.pick (.t 14) (.c (.bool true)) (.t 16)),mv_ 18 17,⟨some 19,.p (.mov (.t 0)),some ⟨18,false⟩⟩,⟨some 20,.s (.call 72 [.t 19,.c (.string (str [46,46]))]),some ⟨18,false⟩⟩,po_ 21 (.pick (.t 18) (.c (.bool true)) (.t 20)),mv_ 22 21,⟨some 23,.p (.mov (.t 0)),some ⟨22,false⟩⟩,⟨some 24,.s (.call 72 [.t 23,.c (.string (str [64,123]))]),some ⟨22,false⟩⟩,po_ 25 (.pick (.t 22) (.c (.bool true)) (.t 24))] [0,2,25])
 (.cond (.t 25)
 (.seq (.ops [⟨none,.s (.store 1 (.t 2) (.c (.bool false))),none⟩] [2])
  (.ret))
 (.skip)))
 SC
def Tm:Af := .seq (.seq (.ops [mv_ 4 0,po_ 5 (.bin 9 .eql (.t 4) (.c (.string (str [72,69,65,68]))))] [0,2,5])
 (.cond (.t 5)
 (.seq (.ops [⟨none,.s (.store 1 (.t 2) (.c (.bool true))),none⟩] [2])
  (.ret))
 (.skip)))
 SY
def XY:Af := .seq (.ops [so_ 2 (.alloc (.val (.bool false)))] [0,2])
 Tm
def Yx:List VR:=[.cell 2 false 1]
theorem Adi:Tryz.f40.body.bind (trC Tryz.prog Tryz.f40.ntmps)=some (er XY):=by kernel_rfl
theorem Adt:trR Tryz.prog Tryz.f40.results.toList=some Yx:=by kernel_rfl
def Yq:=Ac Tc.eq_1
def XP:=Ac SB.eq_1
def Yt:=Ac Sv.eq_1
def Yv:=Ac SV.eq_1
def Yd:=Ac Tj.eq_1
def YP:=Ac SC.eq_1
def XN:=Ac SY.eq_1
def YS:=Ac Tm.eq_1
def Abt:=Ac XY.eq_1
theorem Abv {K:TV→Prop} {e:Env} {H:List Ob}:res Yx e H K=res [.cell 2 false 1] e H K:=Aa rfl
def AL:=(aI_ (aI_ (aI_ (aI_ @Yq @XP) (aI_ @Yt @Yv)) (aI_ (aI_ @Yd @YP) (aI_ @XN @YS))) (aI_ @Abt @Abv))
def Ach:=Dj 42 Tryz.func40 Adi Adt rfl
def Uw:Af := .seq (.ops [po_ 2 (.mov (.c (.bool false)))] [0])
 (.seq (.ops [mv_ 3 0,po_ 4 (.bin 21 .lss (.t 3) (.c (.int .i32 ((33:Nat):Int)))),mv_ 5 4,⟨some 6,.p (.mov (.t 0)),some ⟨5,false⟩⟩,⟨some 7,.p (.bin 21 .gtr (.t 6) (.c (.int .i32 ((126:Nat):Int)))),some ⟨5,false⟩⟩,po_ 8 (.pick (.t 5) (.c (.bool true)) (.t 7)),mv_ 9 8,⟨some 10,.p (.mov (.t 0)),some ⟨9,false⟩⟩,⟨some 11,.s (.call 75 [.c (.string (str [126,94,58,63,42,91,92])),.t 10]),some ⟨9,false⟩⟩,po_ 12 (.pick (.t 9) (.c (.bool true)) (.t 11)),mv_ 2 12] [2])
 (.ret))
def Um:List VR:=[.tmp 2]
theorem Aa7:Tryz.f74.body.bind (trC Tryz.prog Tryz.f74.ntmps)=some (er Uw):=by kernel_rfl
theorem Abi:trR Tryz.prog Tryz.f74.results.toList=some Um:=by kernel_rfl
def YY:=Ac Uw.eq_1
theorem ZC {K:TV→Prop} {e:Env} {H:List Ob}:res Um e H K=res [.tmp 2] e H K:=Aa rfl
def Ie:=(aI_ @YY @ZC)
def AaG:=Dj 13 Tryz.func74 Aa7 Abi rfl
def RQ:Af := .seq (.seq (.ops [mv_ 47 6,po_ 48 (.bin 3 .eql (.t 47) (ci_ 0)),mv_ 49 48,⟨some 50,.p (.mov (.t 0)),some ⟨49,false⟩⟩,⟨some 51,.p (.mov (.t 4)),some ⟨49,false⟩⟩,⟨some 52,.p (.idxS (.t 50) (.t 51)),some ⟨49,false⟩⟩,⟨some 53,.p (.bin 5 .eql (.t 52) (.c (.int .u8 ((46:Nat):Int)))),some ⟨49,false⟩⟩,po_ 54 (.pick (.t 49) (.c (.bool true)) (.t 53)),mv_ 55 54,⟨some 56,.p (.mov (.t 6)),some ⟨55,false⟩⟩,⟨some 57,.p (.bin 3 .geq (.t 56) (ci_ 5)),some ⟨55,false⟩⟩,⟨some 58,.p (.mov (.t 57)),some ⟨55,false⟩⟩,⟨some 59,.p (.mov (.t 0)),some ⟨58,true⟩⟩,⟨some 60,.p (.mov (.t 5)),some ⟨58,true⟩⟩,⟨some 61,.p (.bin 3 .sub (.t 60) (ci_ 5)),some ⟨58,true⟩⟩,⟨some 62,.p (.mov (.t 5)),some ⟨58,true⟩⟩,⟨some 63,.p (.slS (.t 59) (some (.t 61)) (some (.t 62))),some ⟨58,true⟩⟩,⟨some 64,.p (.bin 9 .eql (.t 63) (.c (.string (str [46,108,111,99,107])))),some ⟨58,true⟩⟩,⟨some 65,.p (.pick (.t 58) (.t 64) (.c (.bool false))),some ⟨55,false⟩⟩,po_ 66 (.pick (.t 55) (.c (.bool true)) (.t 65))] [0,3,5,66])
 (.cond (.t 66)
 (.seq (.ops [po_ 2 (.mov (.c (.bool false)))] [2])
  (.ret))
 (.skip)))
 (.seq (.ops [mv_ 67 5,po_ 68 (.bin 3 .add (.t 67) (ci_ 1)),mv_ 4 68] [0,3,4,5])
 (.exit 1))
def Sz:Af := .seq (.ops [mv_ 44 5,mv_ 45 4,po_ 46 (.bin 3 .sub (.t 44) (.t 45)),mv_ 6 46] [0,3,4,5,6])
 RQ
def RG:Af := .cond (.t 43)
 Sz
 (.skip)
def Sr:Af := .seq (.ops [mv_ 106 5,po_ 107 (.bin 3 .gtr (.t 106) (ci_ 0)),mv_ 108 107,⟨some 109,.p (.mov (.t 7)),some ⟨108,true⟩⟩,⟨some 110,.p (.bin 5 .eql (.t 109) (.c (.int .u8 ((46:Nat):Int)))),some ⟨108,true⟩⟩,⟨some 111,.p (.mov (.t 110)),some ⟨108,true⟩⟩,⟨some 112,.p (.mov (.t 0)),some ⟨111,true⟩⟩,⟨some 113,.p (.mov (.t 5)),some ⟨111,true⟩⟩,⟨some 114,.p (.bin 3 .sub (.t 113) (ci_ 1)),some ⟨111,true⟩⟩,⟨some 115,.p (.idxS (.t 112) (.t 114)),some ⟨111,true⟩⟩,⟨some 116,.p (.bin 5 .eql (.t 115) (.c (.int .u8 ((46:Nat):Int)))),some ⟨111,true⟩⟩,⟨some 117,.p (.pick (.t 111) (.t 116) (.c (.bool false))),some ⟨108,true⟩⟩,⟨some 118,.p (.mov (.t 117)),some ⟨108,true⟩⟩,⟨some 119,.p (.mov (.t 7)),some ⟨118,false⟩⟩,⟨some 120,.p (.bin 5 .eql (.t 119) (.c (.int .u8 ((123:Nat):Int)))),some ⟨118,false⟩⟩,⟨some 121,.p (.mov (.t 120)),some ⟨118,false⟩⟩,⟨some 122,.p (.mov (.t 0)),some ⟨121,true⟩⟩,⟨some 123,.p (.mov (.t 5)),some ⟨121,true⟩⟩,⟨some 124,.p (.bin 3 .sub (.t 123) (ci_ 1)),some ⟨121,true⟩⟩,⟨some 125,.p (.idxS (.t 122) (.t 124)),some ⟨121,true⟩⟩,⟨some 126,.p (.bin 5 .eql (.t 125) (.c (.int .u8 ((64:Nat):Int)))),some ⟨121,true⟩⟩,⟨some 127,.p (.pick (.t 121) (.t 126) (.c (.bool false))),some ⟨118,false⟩⟩,⟨some 128,.p (.pick (.t 118) (.c (.bool true)) (.t 127)),some ⟨108,true⟩⟩,po_ 129 (.pick (.t 108) (.t 128) (.c (.bool false)))] [0,3,4,5,129])
 (.cond (.t 129)
 (.seq (.ops [po_ 2 (.mov (.c (.bool false)))] [2])
  (.ret))
 (.skip))
def SG:Af := .seq (.seq (.ops [mv_ 72 7,po_ 73 (.bin 5 .lss (.t 72) (.c (.int .u8 ((33:Nat):Int)))),mv_ 74 73,⟨some 75,.p (.mov (.t 7)),some ⟨74,false⟩⟩,⟨some 76,.p (.bin 5 .gtr (.t 75) (.c (.int .u8 ((126:Nat):Int)))),some ⟨74,false⟩⟩,po_ 77 (.pick (.t 74) (.c (.bool true)) (.t 76)),mv_ 78 77,⟨some 79,.p (.mov (.t 7)),some ⟨78,false⟩⟩,⟨some 80,.p (.bin 5 .eql (.t 79) (.c (.int .u8 ((126:Nat):Int)))),some ⟨78,false⟩⟩,po_ 81 (.pick (.t 78) (.c (.bool true)) (.t 80)),mv_ 82 81,⟨some 83,.p (.mov (.t 7)),some ⟨82,false⟩⟩,⟨some 84,.p (.bin 5 .eql (.t 83) (.c (.int .u8 ((94:Nat):Int)))),some ⟨82,false⟩⟩,po_ 85 (.pick (.t 82) (.c (.bool true)) (.t 84)),mv_ 86 85,⟨some 87,.p (.mov (.t 7)),some ⟨86,false⟩⟩,⟨some 88,.p (.bin 5 .eql (.t 87) (.c (.int .u8 ((58:Nat):Int)))),some ⟨86,false⟩⟩,po_ 89 (.pick (.t 86) (.c (.bool true)) (.t 88)),mv_ 90 89,⟨some 91,.p (.mov (.t 7)),some ⟨90,false⟩⟩,⟨some 92,.p (.bin 5 .eql (.t 91) (.c (.int .u8 ((63:Nat):Int)))),some ⟨90,false⟩⟩,po_ 93 (.pick (.t 90) (.c (.bool true)) (.t 92)),mv_ 94 93,⟨some 95,.p (.mov (.t 7)),some ⟨94,false⟩⟩,⟨some 96,.p (.bin 5 .eql (.t 95) (.c (.int .u8 ((42:Nat):Int)))),some ⟨94,false⟩⟩,po_ 97 (.pick (.t 94) (.c (.bool true)) (.t 96)),mv_ 98 97,⟨some 99,.p (.mov (.t 7)),some ⟨98,false⟩⟩,⟨some 100,.p (.bin 5 .eql (.t 99) (.c (.int .u8 ((91:Nat):Int)))),some ⟨98,false⟩⟩,po_ 101 (.pick (.t 98) (.c (.bool true)) (.t 100)),mv_ 102 101,⟨some 103,.p (.mov (.t 7)),some ⟨102,false⟩⟩,⟨some 104,.p (.bin 5 .eql (.t 103) (.c (.int .u8 ((92:Nat):Int)))),some ⟨102,false⟩⟩,po_ 105 (.pick (.t 102) (.c (.bool true)) (.t 104))] [0,3,4,5,7,105])
 (.cond (.t 105)
 (.seq (.ops [po_ 2 (.mov (.c (.bool false)))] [2])
  (.ret))
 (.skip)))
 Sr
def SA:Af := .seq (.ops [mv_ 69 0,mv_ 70 5,po_ 71 (.idxS (.t 69) (.t 70)),mv_ 7 71] [0,3,4,5,7])
 SG
def Td:Af := .seq (.block 1 (.seq (.seq (.ops [mv_ 35 5,mv_ 36 3,po_ 37 (.bin 3 .eql (.t 35) (.t 36)),mv_ 38 37,⟨some 39,.p (.mov (.t 0)),some ⟨38,false⟩⟩,⟨some 40,.p (.mov (.t 5)),some ⟨38,false⟩⟩,⟨some 41,.p (.idxS (.t 39) (.t 40)),some ⟨38,false⟩⟩,⟨some 42,.p (.bin 5 .eql (.t 41) (.c (.int .u8 ((47:Nat):Int)))),some ⟨38,false⟩⟩,po_ 43 (.pick (.t 38) (.c (.bool true)) (.t 42))] [0,3,4,5,43])
 RG)
 SA))
 (.ops [mv_ 33 5,po_ 34 (.bin 3 .add (.t 33) (ci_ 1)),mv_ 5 34] [0,3,4,5])
def Su:Af := .seq (.seq (.ops [mv_ 30 5,mv_ 31 3,po_ 32 (.bin 3 .leq (.t 30) (.t 31))] [0,3,4,5,32])
 (.cond (.t 32)
 (.skip)
 (.exit 0)))
 Td
def Ti:Af := .block 0 (.loop [0,3,4,5] Su)
def Qr:Af := .seq (.ops [po_ 2 (.mov (.c (.bool true)))] [2])
 (.ret)
def Py:Af := .seq (.seq (.ops [po_ 5 (.mov (ci_ 0))] [0,3,4,5])
 Ti)
 Qr
def P9:Af := .seq (.ops [po_ 4 (.mov (ci_ 0))] [0,3,4])
 Py
def Pq:Af := .seq (.seq (.ops [mv_ 12 3,po_ 13 (.bin 3 .gtr (.t 12) (ci_ 60)),mv_ 14 13,⟨some 15,.p (.mov (.t 3)),some ⟨14,false⟩⟩,⟨some 16,.p (.bin 3 .lss (.t 15) (ci_ 6)),some ⟨14,false⟩⟩,po_ 17 (.pick (.t 14) (.c (.bool true)) (.t 16)),mv_ 18 17,⟨some 19,.p (.mov (.t 0)),some ⟨18,false⟩⟩,⟨some 20,.p (.slS (.t 19) none (some (ci_ 5))),some ⟨18,false⟩⟩,⟨some 21,.p (.bin 9 .neq (.t 20) (.c (.string (str [114,101,102,115,47])))),some ⟨18,false⟩⟩,po_ 22 (.pick (.t 18) (.c (.bool true)) (.t 21)),mv_ 23 22,⟨some 24,.p (.mov (.t 0)),some ⟨23,false⟩⟩,⟨some 25,.p (.mov (.t 3)),some ⟨23,false⟩⟩,⟨some 26,.p (.bin 3 .sub (.t 25) (ci_ 1)),some ⟨23,false⟩⟩,⟨some 27,.p (.idxS (.t 24) (.t 26)),some ⟨23,false⟩⟩,⟨some 28,.p (.bin 5 .eql (.t 27) (.c (.int .u8 ((46:Nat):Int)))),some ⟨23,false⟩⟩,po_ 29 (.pick (.t 23) (.c (.bool true)) (.t 28))] [0,3,29])
 (.cond (.t 29)
 (.seq (.ops [po_ 2 (.mov (.c (.bool false)))] [2])
  (.ret))
 (.skip)))
 P9
def QE:Af := .seq (.ops [mv_ 10 0,po_ 11 (.lenS (.t 10)),mv_ 3 11] [0,3])
 Pq
def Qq:Af := .seq (.seq (.ops [mv_ 8 0,po_ 9 (.bin 9 .eql (.t 8) (.c (.string (str [72,69,65,68]))))] [0,9])
 (.cond (.t 9)
 (.seq (.ops [po_ 2 (.mov (.c (.bool true)))] [2])
  (.ret))
 (.skip)))
 QE
def Ya:Af := .seq (.ops [po_ 2 (.mov (.c (.bool false)))] [0])
 Qq
def XX:List VR:=[.tmp 2]
theorem Adr:Tryz.f41.body.bind (trC Tryz.prog Tryz.f41.ntmps)=some (er Ya):=by kernel_rfl
theorem Ac9:trR Tryz.prog Tryz.f41.results.toList=some XX:=by kernel_rfl
def XG:=Ac RQ.eq_1
def YL:=Ac Sz.eq_1
def X5:=Ac RG.eq_1
def YK:=Ac Sr.eq_1
def YQ:=Ac SG.eq_1
def XE:=Ac SA.eq_1
def X9:=Ac Td.eq_1
def Yi:=Ac Su.eq_1
def X4:=Ac Ti.eq_1
def WE:=Ac Qr.eq_1
def Xd:=Ac Py.eq_1
def Xb:=Ac P9.eq_1
def Xi:=Ac Pq.eq_1
def Xh:=Ac QE.eq_1
def WG:=Ac Qq.eq_1
def AbN:=Ac Ya.eq_1
theorem Abs {K:TV→Prop} {e:Env} {H:List Ob}:res XX e H K=res [.tmp 2] e H K:=Aa rfl
def Aw:=(aI_ (aI_ (aI_ (aI_ (aI_ @XG @YL) (aI_ @X5 @YK)) (aI_ (aI_ @YQ @XE) (aI_ @X9 @Yi))) (aI_ (aI_ (aI_ @X4 @WE) (aI_ @Xd @Xb)) (aI_ (aI_ @Xi @Xh) (aI_ @WG @AbN)))) @Abs)
def Aca:=Dj 130 Tryz.func41 Adr Ac9 rfl
def I9:Af := .seq (.ops [po_ 4 (.mov (.c (.bool false)))] [0,1])
 (.seq (.ops [mv_ 5 0,mv_ 6 1,so_ 7 (.call 100 [.t 5,.t 6]),po_ 8 (.bin 3 .geq (.t 7) (ci_ 0)),mv_ 4 8] [4])
 (.ret))
def I5:List VR:=[.tmp 4]
theorem Tu:Tryz.f73.body.bind (trC Tryz.prog Tryz.f73.ntmps)=some (er I9):=by kernel_rfl
theorem TE:trR Tryz.prog Tryz.f73.results.toList=some I5:=by kernel_rfl
def Qu:=Ac I9.eq_1
theorem PT {K:TV→Prop} {e:Env} {H:List Ob}:res I5 e H K=res [.tmp 4] e H K:=Aa rfl
def Je:=(aI_ @Qu @PT)
def Q9:=Dj 9 Tryz.func73 Tu TE rfl
def MW:Af := .seq (.ops [po_ 4 (.mov (ci_ 0))] [0,1])
 (.seq (.ops [mv_ 5 0,mv_ 6 1,so_ 7 (.call 113 [.t 5,.t 6,.c (.bool true)]),mv_ 4 7] [4])
 (.ret))
def Nh:List VR:=[.tmp 4]
theorem WF:Tryz.f100.body.bind (trC Tryz.prog Tryz.f100.ntmps)=some (er MW):=by kernel_rfl
theorem WU:trR Tryz.prog Tryz.f100.results.toList=some Nh:=by kernel_rfl
def Ux:=Ac MW.eq_1
theorem TM {K:TV→Prop} {e:Env} {H:List Ob}:res Nh e H K=res [.tmp 4] e H K:=Aa rfl
def MS:=(aI_ @Ux @TM)
def VK:=Dj 8 Tryz.func100 WF WU rfl
def Jc:Af := .seq (.ops [so_ 11 (.nxtS (.t 10)),po_ 12 (.ext 0 (.t 11))] [1,2,10,11,12])
 (.seq (.cond (.t 12)
 (.skip)
 (.exit 0))
 (.block 1 (.seq (.ops [po_ 13 (.ext 1 (.t 11)),po_ 14 (.ext 2 (.t 11)),mv_ 7 13,mv_ 8 14] [1,2,7,8,10])
 (.seq (.ops [mv_ 15 1,mv_ 16 8,so_ 17 (.callv (.t 15) [.t 16]),mv_ 18 2,po_ 19 (.eqB (.t 17) (.t 18) false)] [1,2,7,10,19])
 (.cond (.t 19)
 (.seq (.ops [mv_ 20 7,mv_ 6 20] [6])
  (.ret))
 (.skip))))))
def Jo:Af := .block 0 (.loop [1,2,10] Jc)
def Jn:Af := .seq (.ops [po_ 6 (.mov (.c (.int .i64 (-1))))] [6])
 (.ret)
def IM:Af := .seq (.seq (.ops [mv_ 9 0,so_ 10 (.rngS (.t 9))] [1,2,10])
 Jo)
 Jn
def Nq:Af := .seq (.ops [po_ 6 (.mov (ci_ 0))] [0,1,2])
 IM
def NJ:List VR:=[.tmp 6]
theorem WN:Tryz.f113.body.bind (trC Tryz.prog Tryz.f113.ntmps)=some (er Nq):=by kernel_rfl
theorem WL:trR Tryz.prog Tryz.f113.results.toList=some NJ:=by kernel_rfl
def Po:=Ac Jc.eq_1
def Qx:=Ac Jo.eq_1
def QC:=Ac Jn.eq_1
def QB:=Ac IM.eq_1
def UU:=Ac Nq.eq_1
theorem UR {K:TV→Prop} {e:Env} {H:List Ob}:res NJ e H K=res [.tmp 6] e H K:=Aa rfl
def EK:=(aI_ (aI_ (aI_ @Po @Qx) (aI_ @QC @QB)) (aI_ @UU @UR))
def VA:=Dj 21 Tryz.func113 WN WL rfl
end
section
open Go.RowKit
class E8 [AQ]:Prop where
 k:∃ m,Jg 1=some (.one (.int .i64 m))
variable [AQ]
theorem Ah7 (s p:List UInt8):BC Tryz.prog 70 [ts s,ts p] (fun x=>x=tb (Lib.hasPrefix s p)):=by
 have h:=BC.ofBelow (f:=70) (args:=[.string (str s),.string (str p)]) (r := .bool (Lib.hasPrefix s p)) (fun F w _=>by
  have h1:=Tryz.strings_HasPrefix (str s) (str p) w
  rw [AoG,AoG] at h1
  refine h1.mono ?_
  rintro e w' ⟨rfl,rfl⟩
  exact ⟨rfl,Pv _⟩)
 exact h
theorem AdL (s:List UInt8) (c:UInt8) (hc:c.toNat<128):BC Tryz.prog 75 [ts s,.val (.int .i32 ((c.toNat:Nat):Int))] (fun x=>x=tb (decide (c∈s))):=by
 have h:=BC.ofBelow (f:=75) (args:=[.string (str s),.int .i32 c.toNat]) (r := .bool (decide (c∈s))) (fun F w _=>by
  have h1:=Tryz.strings_ContainsRune_ascii (str s) c.toNat w (by omega) (by omega)
  have e2:((c.toNat:Int)).toNat.toUInt8=c:=by rw [Int.toNat_natCast]; simp
  have e3:decide (0≤Lib.indexByte s c)=decide (c∈s):=by
   rcases Abz c s with ⟨h1,h2,_⟩ | ⟨k,h1,h2,h3,_⟩
   ·rw [h1]; simp [h2]
   ·rw [h1]; simp [List.mem_of_getElem? h3]
  rw [AoG,e2,e3] at h1
  refine h1.mono ?_
  rintro e w' ⟨rfl,rfl⟩
  exact ⟨rfl,Pv _⟩)
 exact h
theorem AeR [E8] (s p:List UInt8) (hs:s.length≤4000000):BC Tryz.prog 72 [ts s,ts p] (fun x=>x=tb (Lib.contains s p)):=by
 have h:=BC.ofBelow (f:=72) (args:=[.string (str s),.string (str p)]) (r := .bool (Lib.contains s p)) (fun F w hg=>by
  obtain ⟨m,hm⟩:=E8.k
  obtain ⟨_,t,fr,hh⟩:=hg _ _ hm
  have h1:=Tryz.strings_Contains (str s) (str p) m w (by rw [AqO]; omega) (by simp [World.cell?,hh,GV.cells])
  rw [AoG,AoG] at h1
  refine h1.mono ?_
  rintro e w' ⟨rfl,rfl⟩
  exact ⟨rfl,Pv _⟩)
 exact h
def AmB (r:Int):Bool:=decide (r<33∨126<r∨UInt8.ofNat r.toNat∈[(126:UInt8),94,58,63,42,91,92])
theorem ArR (r:Int) (h0:0≤r) (h1:r≤1114111):BC Tryz.prog 74 [.val (.int .i32 r)] (fun x=>x=tb (AmB r)):=by
 refine Am.toPureV (AaG (by simp) ?_)
 by_cases h2:r<33
 ·simp -dsimp (disch:=first | assumption | omega) only [↓Ai,Ad,Ag,Ah,eq_self,Nat.reduceEqDiff,↓reduceIte,reduceCtorEq,↓Ie]
  simp [AmB,h2]
 by_cases h3:126<r
 ·simp -dsimp (disch:=first | assumption | omega) only [↓Ai,Ad,Ag,Ah,eq_self,Nat.reduceEqDiff,↓reduceIte,reduceCtorEq,↓Ie]
  simp [AmB,h3]
 simp -dsimp (disch:=first | assumption | omega) only [↓Ai,Ad,Ag,Ah,eq_self,Nat.reduceEqDiff,↓reduceIte,reduceCtorEq,↓Ie]
 have e:(r:Int)=(((UInt8.ofNat r.toNat).toNat:Nat):Int):=by rw [UInt8.toNat_ofNat',Nat.mod_eq_of_lt (by omega)]; omega
 rw [e]
 refine (AdL [126,94,58,63,42,91,92] (UInt8.ofNat r.toNat) (by omega)).calls rfl ?_
 rintro _ rfl
 simp -dsimp (disch:=first | assumption | omega) only [↓Ai,Ad,Ag,Ah,eq_self,Nat.reduceEqDiff,↓reduceIte,↓Ie]
 have:AmB ((UInt8.ofNat r.toNat).toNat:Int)=decide (UInt8.ofNat r.toNat∈[(126:UInt8),94,58,63,42,91,92]):=by
  rw [←e]; unfold AmB; congr 1; simp only [h2,h3,false_or]
 rw [this]
theorem Akf (c:UInt8):AmB ((c.toNat:Nat):Int) = !VJ c:=by
 unfold AmB VJ
 rw [Int.toNat_natCast,UInt8.ofNat_toNat,←decide_not]
 congr 1
 simp only [Decidable.not_and_iff_not_or_not,Decidable.not_not]
 apply propext
 constructor
 ·rintro (h | h | h)
  ·left; omega
  ·right; left; omega
  ·right; right; exact h
 ·rintro (h | h | h)
  ·left; omega
  ·right; left; omega
  ·right; right; exact h
theorem Ati:(false == true)=false:=rfl
theorem Aii (s:List UInt8) (hs:s.length≤1000):BC Tryz.prog 113 [ts s,.val (.func (.func 74) #[] #[]),tb true] (fun x=>∃ i:Int,x=i64 i∧(0≤i↔¬ ∀ c∈s,VJ c=true)):=by
 refine Am.toPureV (VA (by simp) ?_)
 simp -dsimp (disch:=first | assumption | omega) only [↓Ai,Ad,Ag,Ah,eq_self,Nat.reduceEqDiff,↓reduceIte,Nat.reduceAdd,reduceCtorEq,↓EK,AU]
 refine Fg (fun q e H=>∃ pos:Nat,q=s.length - pos∧(∀ j x,j<pos→s[j]?=some x→VJ x=true)∧e=[(1,.val (.func (.func 74) #[] #[])),(2,tb true),(10,.op 0 0 [])]∧H=[.sit s pos]) s.length ?_ ?_
 ·exact ⟨0,rfl,fun j x h=>by omega,rfl,rfl⟩
 ·rintro q e H ⟨pos,rfl,hno,rfl,rfl⟩
  by_cases hp:pos<s.length
  ·obtain ⟨c,hc⟩:∃ c,s[pos]?=some c:=⟨_,List.getElem?_eq_getElem hp⟩
   by_cases h7:c.toNat<128
   ·obtain ⟨d1,d2⟩:=AqV s pos c hc h7
    simp -dsimp (disch:=first | assumption | omega) only [↓Ai,Ad,Ag,Ah,eq_self,Nat.reduceEqDiff,↓reduceIte,↓EK,d1,d2]
    refine ⟨by kernel_rfl,?_⟩
    refine (ArR ((c.toNat:Nat):Int) (by omega) (by omega)).calls rfl ?_
    rintro _ rfl
    rw [Akf]
    cases hgc:VJ c with
    | false =>
     simp -dsimp (disch:=first | assumption | omega) only [↓Ai,Ad,Ag,Ah,eq_self,Nat.reduceEqDiff,↓reduceIte]
     exact ⟨_,rfl,fun _ hall=>(by rw [hall c (List.mem_of_getElem? hc)] at hgc; cases hgc),fun _=>by omega⟩
    | true =>
     simp -dsimp (disch:=first | assumption | omega) only [↓Ai,Ad,Ag,Ah,eq_self,Nat.reduceEqDiff,↓reduceIte,Ati]
     refine AB (s.length - (pos+1)) (by omega) (by simp) ⟨pos+1,rfl,fun j x hj hx => ?_,rfl,rfl⟩
     by_cases e:j=pos
     ·subst e; rw [hc] at hx; cases hx; exact hgc
     ·exact hno j x (by omega) hx
   ·obtain ⟨d1,d2,d3⟩:=AlR s pos c hc (by omega)
    simp -dsimp (disch:=first | assumption | omega) only [↓Ai,Ad,Ag,Ah,eq_self,Nat.reduceEqDiff,↓reduceIte,↓EK]
    generalize (Utf8.decode (str s) pos).1=r at *
    generalize (Utf8.decode (str s) pos).2=k at *
    refine ⟨by kernel_rfl,?_⟩
    refine (ArR (r:Int) (by omega) (by omega)).calls rfl ?_
    rintro _ rfl
    have e:AmB (r:Int)=true:=by unfold AmB; rw [decide_eq_true_eq]; right; left; omega
    rw [e]
    simp -dsimp (disch:=first | assumption | omega) only [↓Ai,Ad,Ag,Ah,eq_self,Nat.reduceEqDiff,↓reduceIte]
    refine ⟨_,rfl,fun _ hall => ?_,fun _=>by omega⟩
    have:=hall c (List.mem_of_getElem? hc)
    unfold VJ at this
    rw [decide_eq_true_eq] at this
    omega
  ·simp -dsimp (disch:=first | assumption | omega) only [↓Ai,Ad,Ag,Ah,eq_self,Nat.reduceEqDiff,↓reduceIte,↓EK]
   refine ⟨-1,rfl,fun h=>by omega,fun h=>absurd (fun c hc => ?_) h⟩
   obtain ⟨j,hj,rfl⟩:=List.mem_iff_getElem.1 hc
   exact hno j _ (by omega) (List.getElem?_eq_getElem hj)
theorem Aee (s:List UInt8) (hs:s.length≤1000):BC Tryz.prog 73 [ts s,.val (.func (.func 74) #[] #[])] (fun x=>∃ b,x=tb b∧(b=true↔¬ ∀ c∈s,VJ c=true)):=by
 refine Am.toPureV (Q9 (by simp) ?_)
 simp -dsimp (disch:=first | assumption | omega) only [↓Ai,Ad,Ag,Ah,eq_self,Nat.reduceEqDiff,↓reduceIte,Nat.reduceAdd,reduceCtorEq,↓Je]
 refine VK (by simp) ?_
 simp -dsimp (disch:=first | assumption | omega) only [↓Ai,Ad,Ag,Ah,eq_self,Nat.reduceEqDiff,↓reduceIte,Nat.reduceAdd,reduceCtorEq,↓MS]
 refine (Aii s hs).calls rfl ?_
 rintro _ ⟨i,rfl,hi⟩
 simp -dsimp (disch:=first | assumption | omega) only [↓Ai,Ad,Ag,Ah,eq_self,↓reduceIte,↓MS,↓Je]
 exact ⟨_,rfl,by rw [decide_eq_true_eq]; exact hi⟩
end
section
open Go.RowKit
variable [AQ]
theorem CQ {q:Prop} (h:¬ q) (b:Bool) (hb:b=false):(b=true↔q):=by subst hb; simp [h]
theorem Abk {q:Prop} (h:q) (b:Bool) (hb:b=true):(b=true↔q):=by subst hb; simp [h]
theorem Acy (p:List UInt8):(DJ p=false∧(p=[]∨∃ c l,p=c::l∧(c=46∨(c≠46∧Lib.hasSuffix p [46,108,111,99,107]=true))))∨(DJ p=true∧∃ c l,p=c::l∧c≠46∧Lib.hasSuffix p [46,108,111,99,107]=false):=by
 cases p with
 | nil=>left; exact ⟨by unfold DJ; simp,.inl rfl⟩
 | cons c l =>
  by_cases h1:c=46
  ·left; subst h1; exact ⟨by unfold DJ; simp,.inr ⟨_,_,rfl,.inl rfl⟩⟩
  ·cases h2:Lib.hasSuffix (c::l) [46,108,111,99,107] with
   | true =>
    left
    have:=(AbG _).1 h2
    exact ⟨by unfold DJ; rw [decide_eq_false_iff_not]; exact fun h=>h.2.2 this,.inr ⟨_,_,rfl,.inr ⟨h1,rfl⟩⟩⟩
   | false =>
    right
    have:¬ (5≤(c::l).length∧(c::l).drop ((c::l).length - 5)=[46,108,111,99,107]):=fun h=>by rw [(AbG _).2 h] at h2; cases h2
    exact ⟨by unfold DJ; rw [decide_eq_true_eq]; exact ⟨by simp,by simpa using h1,this⟩,_,_,rfl,h1,rfl⟩
theorem Af8 [E8] (s:List UInt8) (hs:s.length≤4000000):BC Tryz.prog 40 [ts s] (fun x=>∃ b,x=tb b∧(b=true↔AmZ s)):=by
 refine Am.toPureV (Ach (by simp) ?_)
 by_cases h0:s=[72,69,65,68]
 ·subst h0
  simp -dsimp (disch:=first | assumption | omega) only [↓Ai,Ad,Ag,Ah,eq_self,Nat.reduceEqDiff,↓reduceIte,reduceCtorEq,↓AL]
  exact ⟨_,rfl,Abk (.inl rfl) _ rfl⟩
 by_cases h1:60<s.length
 ·simp -dsimp (disch:=first | assumption | omega) only [↓Ai,Ad,Ag,Ah,eq_self,Nat.reduceEqDiff,↓reduceIte,reduceCtorEq,↓AL,h0,AU]
  exact ⟨_,rfl,CQ (fun h=>h.elim h0 fun h=>by omega) _ rfl⟩
 simp -dsimp (disch:=first | assumption | omega) only [↓Ai,Ad,Ag,Ah,eq_self,Nat.reduceEqDiff,↓reduceIte,reduceCtorEq,↓AL,h0,AU]
 refine (Ah7 s _).calls rfl ?_
 rintro _ rfl
 cases h2:Lib.hasPrefix s [114,101,102,115,47] with
 | false =>
  simp -dsimp (disch:=first | assumption | omega) only [↓Ai,Ad,Ag,Ah,eq_self,Nat.reduceEqDiff,↓reduceIte,reduceCtorEq,↓AL]
  refine ⟨_,rfl,CQ (fun h=>h.elim h0 fun h => ?_) _ rfl⟩
  rw [(Abh s).2 h.2.1] at h2; cases h2
 | true =>
 have h2':=(Abh s).1 h2
 simp -dsimp (disch:=first | assumption | omega) only [↓Ai,Ad,Ag,Ah,eq_self,Nat.reduceEqDiff,↓reduceIte,reduceCtorEq]
 refine (Pg s [46] (by omega)).calls rfl ?_
 rintro _ rfl
 cases h3:Lib.hasSuffix s [46] with
 | true =>
  simp -dsimp (disch:=first | assumption | omega) only [↓Ai,Ad,Ag,Ah,eq_self,Nat.reduceEqDiff,↓reduceIte,reduceCtorEq,↓AL]
  exact ⟨_,rfl,CQ (fun h=>h.elim h0 fun h=>h.2.2.1 ((AcT s 46).1 h3)) _ rfl⟩
 | false =>
 have h3':s[s.length - 1]?≠some 46:=fun h=>by rw [(AcT s 46).2 h] at h3; cases h3
 simp -dsimp (disch:=first | assumption | omega) only [↓Ai,Ad,Ag,Ah,eq_self,Nat.reduceEqDiff,↓reduceIte,reduceCtorEq]
 refine (AeR s [46,46] hs).calls rfl ?_
 rintro _ rfl
 cases h4:Lib.contains s [46,46] with
 | true =>
  simp -dsimp (disch:=first | assumption | omega) only [↓Ai,Ad,Ag,Ah,eq_self,Nat.reduceEqDiff,↓reduceIte,reduceCtorEq,↓AL]
  exact ⟨_,rfl,CQ (fun h=>h.elim h0 fun h=>h.2.2.2.1 ((N9 46 46 s).1 h4)) _ rfl⟩
 | false =>
 have h4':¬ AlJ 46 46 s:=fun h=>by rw [(N9 46 46 s).2 h] at h4; cases h4
 simp -dsimp (disch:=first | assumption | omega) only [↓Ai,Ad,Ag,Ah,eq_self,Nat.reduceEqDiff,↓reduceIte,reduceCtorEq]
 refine (AeR s [64,123] hs).calls rfl ?_
 rintro _ rfl
 cases h5:Lib.contains s [64,123] with
 | true =>
  simp -dsimp (disch:=first | assumption | omega) only [↓Ai,Ad,Ag,Ah,eq_self,Nat.reduceEqDiff,↓reduceIte,reduceCtorEq,↓AL]
  exact ⟨_,rfl,CQ (fun h=>h.elim h0 fun h=>h.2.2.2.2.1 ((N9 64 123 s).1 h5)) _ rfl⟩
 | false =>
 have h5':¬ AlJ 64 123 s:=fun h=>by rw [(N9 64 123 s).2 h] at h5; cases h5
 simp -dsimp (disch:=first | assumption | omega) only [↓Ai,Ad,Ag,Ah,eq_self,Nat.reduceEqDiff,↓reduceIte,reduceCtorEq,↓AL]
 refine (Aee s (by omega)).calls rfl ?_
 rintro _ ⟨b,rfl,hb⟩
 cases b with
 | true =>
  simp -dsimp (disch:=first | assumption | omega) only [↓Ai,Ad,Ag,Ah,eq_self,Nat.reduceEqDiff,↓reduceIte,reduceCtorEq,↓AL]
  exact ⟨_,rfl,CQ (fun h=>h.elim h0 fun h=>hb.1 rfl h.2.2.2.2.2.1) _ rfl⟩
 | false =>
 have h6':∀ c∈s,VJ c=true:=Classical.not_not.1 fun h=>by have:=hb.2 h; cases this
 simp -dsimp (disch:=first | assumption | omega) only [↓Ai,Ad,Ag,Ah,eq_self,Nat.reduceEqDiff,↓reduceIte,reduceCtorEq,↓AL]
 refine Am.mono (Ajf s 47 _) ?_
 rintro x H' ⟨rfl,rfl⟩
 have key:AmZ s↔(CU 47 s).all DJ=true:=⟨fun h=>h.elim (fun h=>absurd h h0) fun h=>h.2.2.2.2.2.2,fun h => .inr ⟨by omega,h2',h3',h4',h5',h6',h⟩⟩
 simp -dsimp (disch:=first | assumption | omega) only [↓Ai,Ad,Ag,Ah,eq_self,Nat.reduceEqDiff,↓reduceIte,Nat.reduceAdd,reduceCtorEq,↓AL]
 refine Arn rfl (by kernel_rfl) rfl rfl ?_
 intro N fn ca cb hc
 refine Am.mono (Aio (c:=47) (id:=4) (sp:=2) (sid:=1) (sv:=3) (L:=5) (r0:=s)
  (I:=fun r H=>(CU 47 s).all DJ=(CU 47 r).all DJ∧r.length≤s.length∧H=[.obj 0 (tb false),.obj 0 (ts r),.obj 0 (ts [47]),.obj 0 (i64 ((0:Nat):Int)),.lp .ready none fn N [(2,.op 0 0 []),(29,.fn (.func 117) [] [.op 2 0 [],.op 1 0 [],.op 3 0 []])] [30] ca cb])
  (J:=fun H=>(CU 47 s).all DJ=false∧∃ r,H=[.obj 0 (tb false),.obj 0 (ts r),.obj 0 (ts [47]),.obj 0 (i64 ((0:Nat):Int)),.lp .done (some .ret) fn N [(2,.op 0 0 []),(29,.fn (.func 117) [] [.op 2 0 [],.op 1 0 [],.op 3 0 []])] [30] ca cb])
  (E:=fun H=>((CU 47 s).all DJ=false∧∃ r,H=[.obj 0 (tb false),.obj 0 (ts r),.obj 0 (ts [47]),.obj 0 (i64 ((0:Nat):Int)),.lp .done (some .ret) fn N [(2,.op 0 0 []),(29,.fn (.func 117) [] [.op 2 0 [],.op 1 0 [],.op 3 0 []])] [30] ca cb])
   ∨ ((CU 47 s).all DJ=true∧∃ r,H=[.obj 0 (tb false),.obj 0 (ts r),.obj 0 (ts [47]),.obj 0 (i64 ((0:Nat):Int)),.lp .ready none fn N [(2,.op 0 0 []),(29,.fn (.func 117) [] [.op 2 0 [],.op 1 0 [],.op 3 0 []])] [30] ca cb])) ?_ ?_ ?_ ?_ rfl) ?_
 ·rintro r H ⟨g1,g2,rfl⟩
  exact ⟨by simp,by omega,rfl,rfl,rfl⟩
 ·rintro r H k ⟨g1,g2,rfl⟩ hk hp
  rw [hp,List.all_cons] at g1
  have hlen:(r.take k).length≤1000:=by simp; omega
  refine Aeo rfl hc rfl rfl rfl ?_
  rcases Acy (r.take k) with ⟨hn,(h | ⟨c,l,h,(rfl | ⟨hc1,hc2⟩)⟩)⟩ | ⟨hn,c,l,h,hc1,hc2⟩
  ·rw [h]
   simp -dsimp (disch:=first | assumption | omega) only [↓Ai,Ad,Ag,Ah,eq_self,Nat.reduceEqDiff,↓reduceIte,↓AL,XZ,AbZ]
   exact .inr ⟨by rw [g1,hn,Bool.false_and],_,rfl⟩
  ·rw [h]
   simp -dsimp (disch:=first | assumption | omega) only [↓Ai,Ad,Ag,Ah,eq_self,Nat.reduceEqDiff,UInt8.reduceToNat,↓reduceIte,reduceCtorEq,↓AL,XZ,AbZ,AU]
   exact .inr ⟨by rw [g1,hn,Bool.false_and],_,rfl⟩
  ·have hd:¬ c.toNat=46:=fun e=>hc1 (UInt8.toNat_inj.1 e)
   have hne:¬ (c::l)=[]:=by simp
   rw [h] at hc2 ⊢
   have hle:(c::l).length≤9223372036854775807:=by rw [←h]; omega
   simp -dsimp (disch:=first | assumption | omega) only [↓Ai,Ad,Ag,Ah,eq_self,Nat.reduceEqDiff,↓reduceIte,reduceCtorEq,↓AL,XZ,AU,hd]
   refine (Pg (c::l) [46,108,111,99,107] hle).calls rfl ?_
   rintro _ rfl
   rw [hc2]
   simp -dsimp (disch:=first | assumption | omega) only [↓Ai,Ad,Ag,Ah,eq_self,Nat.reduceEqDiff,↓reduceIte,AbZ]
   exact .inr ⟨by rw [g1,hn,Bool.false_and],_,rfl⟩
  ·have hd:¬ c.toNat=46:=fun e=>hc1 (UInt8.toNat_inj.1 e)
   have hne:¬ (c::l)=[]:=by simp
   rw [h] at hc2 ⊢
   have hle:(c::l).length≤9223372036854775807:=by rw [←h]; omega
   simp -dsimp (disch:=first | assumption | omega) only [↓Ai,Ad,Ag,Ah,eq_self,Nat.reduceEqDiff,↓reduceIte,reduceCtorEq,↓AL,XZ,AU,hd]
   refine (Pg (c::l) [46,108,111,99,107] hle).calls rfl ?_
   rintro _ rfl
   rw [hc2]
   simp -dsimp (disch:=first | assumption | omega) only [↓Ai,Ad,Ag,Ah,eq_self,Nat.reduceEqDiff,↓reduceIte,Nat.reduceAdd,AbZ]
   refine ⟨5,⟨by omega,by omega,.inl (by omega)⟩,.inl ⟨rfl,rfl,by rw [g1,hn,Bool.true_and],by omega,rfl⟩⟩
 ·rintro r H ⟨g1,g2,rfl⟩ hp
  rw [hp,List.all_cons] at g1
  refine Aeo rfl hc rfl rfl rfl ?_
  rcases Acy r with ⟨hn,(h | ⟨c,l,h,(rfl | ⟨hc1,hc2⟩)⟩)⟩ | ⟨hn,c,l,h,hc1,hc2⟩
  ·rw [h]
   simp -dsimp (disch:=first | assumption | omega) only [↓Ai,Ad,Ag,Ah,eq_self,Nat.reduceEqDiff,↓reduceIte,↓AL,XZ,AbZ]
   exact .inl ⟨by rw [g1,hn,Bool.false_and],_,rfl⟩
  ·rw [h]
   simp -dsimp (disch:=first | assumption | omega) only [↓Ai,Ad,Ag,Ah,eq_self,Nat.reduceEqDiff,UInt8.reduceToNat,↓reduceIte,reduceCtorEq,↓AL,XZ,AbZ,AU]
   exact .inl ⟨by rw [g1,hn,Bool.false_and],_,rfl⟩
  ·have hd:¬ c.toNat=46:=fun e=>hc1 (UInt8.toNat_inj.1 e)
   have hne:¬ (c::l)=[]:=by simp
   rw [h] at hc2 ⊢
   have hle:(c::l).length≤9223372036854775807:=by rw [←h]; omega
   simp -dsimp (disch:=first | assumption | omega) only [↓Ai,Ad,Ag,Ah,eq_self,Nat.reduceEqDiff,↓reduceIte,reduceCtorEq,↓AL,XZ,AU,hd]
   refine (Pg (c::l) [46,108,111,99,107] hle).calls rfl ?_
   rintro _ rfl
   rw [hc2]
   simp -dsimp (disch:=first | assumption | omega) only [↓Ai,Ad,Ag,Ah,eq_self,Nat.reduceEqDiff,↓reduceIte,AbZ]
   exact .inl ⟨by rw [g1,hn,Bool.false_and],_,rfl⟩
  ·have hd:¬ c.toNat=46:=fun e=>hc1 (UInt8.toNat_inj.1 e)
   have hne:¬ (c::l)=[]:=by simp
   rw [h] at hc2 ⊢
   have hle:(c::l).length≤9223372036854775807:=by rw [←h]; omega
   simp -dsimp (disch:=first | assumption | omega) only [↓Ai,Ad,Ag,Ah,eq_self,Nat.reduceEqDiff,↓reduceIte,reduceCtorEq,↓AL,XZ,AU,hd]
   refine (Pg (c::l) [46,108,111,99,107] hle).calls rfl ?_
   rintro _ rfl
   rw [hc2]
   simp -dsimp (disch:=first | assumption | omega) only [↓Ai,Ad,Ag,Ah,eq_self,Nat.reduceEqDiff,↓reduceIte,Nat.reduceAdd,AbZ]
   refine ⟨5,⟨by omega,by omega,.inl (by omega)⟩,.inr ⟨by rw [g1,hn]; rfl,_,rfl⟩⟩
 ·exact ⟨rfl,Nat.le_refl _,rfl⟩
 ·rintro _ H' ((⟨g1,r,rfl⟩ | ⟨g1,r,rfl⟩) | ⟨g1,r,rfl⟩)
  ·simp -dsimp (disch:=first | assumption | omega) only [↓Ai,Ad,Ag,Ah,eq_self,↓reduceIte,Nat.reduceAdd,↓AL,ZV]
   exact ⟨_,rfl,by rw [key,g1]⟩
  ·simp -dsimp (disch:=first | assumption | omega) only [↓Ai,Ad,Ag,Ah,eq_self,↓reduceIte,Nat.reduceAdd,↓AL,ZV]
   exact ⟨_,rfl,by rw [key,g1]⟩
  ·simp -dsimp (disch:=first | assumption | omega) only [↓Ai,Ad,Ag,Ah,eq_self,↓reduceIte,Nat.reduceAdd,↓AL,ZV]
   exact ⟨_,rfl,by rw [key,g1]⟩
end
section
variable [AQ]
set_option maxRecDepth 100000
end
section
open Go.RowKit
section
variable [AQ] {P:Program} {PP:Value→List Ob→Prop} {e:Env} {H:List Ob} {r:List VO} {Ss:SsT}
end
theorem AqM {H T:List Ob} {j:Nat} {o:Ob} (h:j<H.length):(H.set j o++T)[j]?=some o:=by rw [List.getElem?_append_left (by simpa using h),List.getElem?_set_self h]
theorem ga {H T:List Ob} {i:Nat} (h:i<H.length):(H++T)[i]?=H[i]?:=List.getElem?_append_left h
theorem Atl (y z:TV):List.take 1 ((List.replicate 1 z).set 0 y)=[y]:=by simp
end
section
open Go.RowKit
variable [AQ] [E8]
noncomputable def nmB (s:List UInt8):Bool:=@decide (AmZ s) (Classical.propDecidable _)
theorem Zy {s:List UInt8}:nmB s=true↔AmZ s:=by unfold nmB; rw [@decide_eq_true_iff]
theorem Ap5 (s:List UInt8) (hs:s.length≤4000000):BC Tryz.prog 40 [ts s] (fun x=>x=tb (nmB s)):=by
 refine (Af8 s hs).mono ?_
 rintro x ⟨b,rfl,hb⟩
 rw [←Zy] at hb
 cases b<;>cases h:nmB s<;>simp_all
end
section
open Go.RowKit
variable [AQ]
def AoM (H:List Ob) (l:List UInt8) (x:TV) (H':List Ob):Prop:=∃ j v,x = .os 1 j v [] 0 l.length l.length∧H'[j]?=some (.obj v (.arr l.length 1 (l.map by8)))∧H.length≤j∧H.length≤H'.length∧∀ i,i<H.length→H'[i]?=H[i]?
theorem AsY {x:List UInt8} (hx:x.length≤1000) {H:List Ob} {id ver:Nat} (h2:H[id]?=some (.obj ver (.arr x.length 1 (x.map by8)))) :
  Am Tryz.prog 58 [.os 1 id ver [] 0 x.length x.length] H (AoM H (BG x)):=by
 refine AdA (by simp) ?_
 have h4:(YT (x.length+4)).length=4:=rfl
 have hl2:id<H.length:=(List.getElem?_eq_some_iff.1 h2).1
 have hlt:(x.map by8).take x.length=x.map by8:=List.take_of_length_le (by simp)
 unfold BG
 by_cases h0:x.length=0
 ·rw [if_pos h0]
  simp -dsimp (disch:=first | assumption | omega | (simp only [Ae];try omega)) only [↓Ai,Ad,Ag,Ah,eq_self,↓reduceIte,reduceCtorEq,Nat.reduceLeDiff,↓VX,↓PW,↓VM]
  exact ⟨H.length,0,rfl,by simp [Ro,List.replicate],Nat.le_refl _,by simp,fun i hi=>List.getElem?_append_left hi⟩
 ·rw [if_neg h0]
  have h2a:∀ T:List Ob,(H++T)[id]?=some (.obj ver (.arr x.length 1 (x.map by8))):=fun T=>by rw [List.getElem?_append_left hl2]; exact h2
  simp -dsimp (disch:=first | assumption | omega | (simp only [Ae];try omega)) only [↓Ai,Ad,Ag,Ah,eq_self,↓reduceIte,reduceCtorEq,↓VX,↓PW]
  refine (AdB (x.length+4) (by omega)).calls rfl fun r hr => ?_
  subst hr
  simp -dsimp (disch:=first | assumption | omega | (simp only [Ae];try omega)) only [↓Ai,Ad,Ag,Ah,eq_self,Nat.reduceEqDiff,↓reduceIte,reduceCtorEq,Nat.reduceLeDiff,AU,h4,h2a,hlt,↓VM]
  have e:List.take 4 ((YT (x.length+4)).map by8)++x.map by8=(YT (x.length+4)++x).map by8:=by
   rw [List.take_of_length_le (by simp [Ahe]),List.map_append]
  refine ⟨H.length,1,by simp [h4],?_,Nat.le_refl _,by simp,fun i hi => ?_⟩
  ·simp [h4]
  ·rw [List.getElem?_append_left hi]
theorem AoP {s:List UInt8} (hs:s.length≤999) {H:List Ob}:Am Tryz.prog 34 [ts s] H (AoM H (BG (s++[10]))):=by
 refine Adf (by simp) ?_
 have hl1:(s++[(10:UInt8)]).length≤1000:=by simp; omega
 have hcat:Fj 9 BinOp.add (.string (str s)) (.string (str [10]))=some (.string (str (s++[10]))):=Adb (by simp; omega)
 generalize s++[(10:UInt8)]=x at *
 have hx9:x.length≤9223372036854775807:=by omega
 simp -dsimp (disch:=first | assumption | omega | (simp only [Ae];try omega)) only [↓Ai,Ad,Ag,Ah,eq_self,↓reduceIte,reduceCtorEq,hcat,AU,↓Acv]
 refine AbK (Am.mono (AsY hl1 (by simp)) ?_)
 rintro y H2 ⟨j,v,rfl,k1,k2,k3,k4⟩
 simp -dsimp (disch:=first | assumption | omega | (simp only [Ae];try omega)) only [↓Ai,Ad,Ag,Ah,eq_self,↓reduceIte,↓Ab5]
 rw [List.length_append,List.length_singleton] at k2 k3
 exact ⟨j,v,rfl,k1,by omega,by omega,fun i hi=>by rw [k4 i (by simp; omega),List.getElem?_append_left hi]⟩
end
section
open Go.RowKit
variable [AQ]
def Yk (s:List UInt8) (f i:Nat):Prop:=f≤i∧i≤s.length+1∧(∀ j c,j<i→s[j]?=some c→VJ c=true)∧(∀ j,j+1<i→¬ (s[j]?=some 46∧s[j+1]?=some 46)∧¬ (s[j]?=some 64∧s[j+1]?=some 123)) ∧
 ((f=s.length+1∧i=s.length+1∧(CU 47 s).all DJ=true)∨(i≤s.length∧(CU 47 s).all DJ=(CU 47 (s.drop f)).all DJ∧47∉(s.drop f).take (i - f)))
theorem Yk.sep {s:List UInt8} {f i:Nat} (h:Yk s f i) (hi:i≤s.length) (hsep:i=s.length∨s[i]?=some 47):(CU 47 s).all DJ=(DJ ((s.drop f).take (i - f)) && (decide (i=s.length) || (CU 47 (s.drop (i+1))).all DJ)):=by
 obtain ⟨h1,h2,h3,h4,h5⟩:=h
 rcases h5 with ⟨_,h5,_⟩ | ⟨_,h6,h7⟩
 ·omega
 rw [h6]
 by_cases he:i=s.length
 ·rw [List.take_of_length_le (by simp; omega)] at h7 ⊢
  rw [Agv h7]; simp [he]
 ·have hc:s[i]?=some 47:=by rcases hsep with h | h; exact absurd h he; exact h
  have hc':(s.drop f)[i - f]?=some 47:=by rw [List.getElem?_drop]; rw [←hc]; congr 1; omega
  rw [Agx hc' h7,List.drop_drop]
  simp only [he,decide_false,Bool.false_or,List.all_cons]
  congr 4; omega
theorem Yk.next {s:List UInt8} {f i:Nat} (h:Yk s f i) (hi:i≤s.length) (hsep:i=s.length∨s[i]?=some 47) (hp:DJ ((s.drop f).take (i - f))=true):Yk s (i+1) (i+1):=by
 have hs:=h.sep hi hsep
 obtain ⟨h1,h2,h3,h4,h5⟩:=h
 rw [hp,Bool.true_and] at hs
 refine ⟨Nat.le_refl _,by omega,fun j c hj hc => ?_,fun j hj => ?_,?_⟩
 ·by_cases e:j=i
  ·subst e
   rcases hsep with h | h
   ·rw [List.getElem?_eq_none (by omega)] at hc; cases hc
   ·rw [h] at hc; cases hc; decide
  ·exact h3 j c (by omega) hc
 ·by_cases e:j+1=i
  ·rcases hsep with h | h
   ·rw [List.getElem?_eq_none (by omega:s.length≤j+1)]; simp
   ·rw [e,h]; simp
  ·exact h4 j (by omega)
 ·by_cases he:i=s.length
  ·left; exact ⟨by omega,by omega,by rw [hs]; simp [he]⟩
  ·right; exact ⟨by omega,by rw [hs]; simp [he],by simp⟩
theorem Yk.step {s:List UInt8} {f i:Nat} {c:UInt8} (h:Yk s f i) (hc:s[i]?=some c) (h47:c≠47) (hg:VJ c=true) (hp:∀ j,j+1=i→¬ (s[j]?=some 46∧c=46)∧¬ (s[j]?=some 64∧c=123)):Yk s f (i+1):=by
 have hi:i<s.length:=(List.getElem?_eq_some_iff.1 hc).1
 obtain ⟨h1,h2,h3,h4,h5⟩:=h
 refine ⟨by omega,by omega,fun j x hj hx => ?_,fun j hj => ?_,?_⟩
 ·by_cases e:j=i
  ·subst e; rw [hc] at hx; cases hx; exact hg
  ·exact h3 j x (by omega) hx
 ·by_cases e:j+1=i
  ·have:=hp j e
   rw [e,hc]
   simpa using this
  ·exact h4 j (by omega)
 ·rcases h5 with ⟨_,h5,_⟩ | ⟨_,h6,h7⟩
  ·omega
  ·right
   refine ⟨by omega,h6,?_⟩
   have hc':(s.drop f)[i - f]?=some c:=by rw [List.getElem?_drop]; rw [←hc]; congr 1; omega
   rw [show i+1 - f=(i - f)+1 by omega,List.take_add_one,hc']
   simp [h7,Ne.symm h47]
theorem Agu (c:UInt8):VJ c=true∧33≤c.toNat∧c.toNat≤126∧c.toNat≠126∧c.toNat≠94∧c.toNat≠58∧c.toNat≠63∧c.toNat≠42∧c.toNat≠91∧c.toNat≠92∨VJ c=false∧(c.toNat<33∨126<c.toNat∨c=126∨c=94∨c=58∨c=63∨c=42∨c=91∨c=92):=by
 cases h:VJ c with
 | true =>
  left
  unfold VJ at h
  rw [decide_eq_true_eq] at h
  obtain ⟨h1,h2,h3⟩:=h
  simp only [List.mem_cons,List.not_mem_nil,or_false,not_or,←UInt8.toNat_inj] at h3
  exact ⟨rfl,h1,h2,h3.1,h3.2.1,h3.2.2.1,h3.2.2.2.1,h3.2.2.2.2.1,h3.2.2.2.2.2.1,h3.2.2.2.2.2.2⟩
 | false =>
  right
  unfold VJ at h
  rw [decide_eq_false_iff_not] at h
  refine ⟨rfl,?_⟩
  by_cases h1:c.toNat<33
  ·exact .inl h1
  by_cases h2:126<c.toNat
  ·exact .inr (.inl h2)
  have h3:c∈[(126:UInt8),94,58,63,42,91,92]:=Decidable.not_not.1 fun h3=>h ⟨by omega,by omega,h3⟩
  simp only [List.mem_cons,List.not_mem_nil,or_false] at h3
  exact .inr (.inr h3)
theorem AcW {s:List UInt8} {v:TV} (h0:¬ s=[72,69,65,68]) (h:(CU 47 s).all DJ=false) (hv:v=tb false:=by rfl):∃ b,v=tb b∧(b=true↔AmZ s) :=
 ⟨false,hv,CQ (fun k=>k.elim h0 fun k=>by rw [k.2.2.2.2.2.2] at h; cases h) _ rfl⟩
set_option maxRecDepth 100000 in
set_option maxHeartbeats 2000000 in
theorem AlE (s:List UInt8) (hs:s.length≤4000000):BC Tryz.prog 41 [ts s] (fun x=>∃ b,x=tb b∧(b=true↔AmZ s)):=by
 refine Am.toPureV (Aca (by simp) ?_)
 by_cases h0:s=[72,69,65,68]
 ·subst h0
  simp -dsimp (disch:=first | assumption | omega) only [↓Ai,Ad,Ag,Ah,eq_self,↓reduceIte,reduceCtorEq,↓Aw]
  exact ⟨_,rfl,Abk (.inl rfl) _ rfl⟩
 by_cases h1:60<s.length
 ·simp -dsimp (disch:=first | assumption | omega) only [↓Ai,Ad,Ag,Ah,eq_self,Nat.reduceEqDiff,↓reduceIte,reduceCtorEq,↓Aw,h0,AU]
  exact ⟨_,rfl,CQ (fun h=>h.elim h0 fun h=>by omega) _ rfl⟩
 by_cases h2:s.length<6
 ·simp -dsimp (disch:=first | assumption | omega) only [↓Ai,Ad,Ag,Ah,eq_self,Nat.reduceEqDiff,↓reduceIte,reduceCtorEq,↓Aw,h0,AU]
  exact ⟨_,rfl,CQ (fun h=>h.elim h0 fun h=>Aoj h2 ⟨h.2.1,h.2.2.2.2.2.2⟩) _ rfl⟩
 by_cases h3:s.take 5=[114,101,102,115,47]
 case neg =>
  simp -dsimp (disch:=first | assumption | omega) only [↓Ai,Ad,Ag,Ah,eq_self,Nat.reduceEqDiff,↓reduceIte,reduceCtorEq,↓Aw,h0,AU,h3]
  exact ⟨_,rfl,CQ (fun h=>h.elim h0 fun h=>h3 h.2.1) _ rfl⟩
 obtain ⟨cl,hcl⟩:∃ c,s[s.length - 1]?=some c:=⟨_,List.getElem?_eq_getElem (by omega)⟩
 by_cases h4:cl=46
 ·subst h4
  simp -dsimp (disch:=first | assumption | omega) only [↓Ai,Ad,Ag,Ah,eq_self,Nat.reduceEqDiff,UInt8.reduceToNat,↓reduceIte,reduceCtorEq,↓Aw,h0,AU,h3,hcl]
  exact ⟨_,rfl,CQ (fun h=>h.elim h0 fun h=>h.2.2.1 hcl) _ rfl⟩
 have h4':¬ cl.toNat=46:=fun e=>h4 (UInt8.toNat_inj.1 e)
 simp -dsimp (disch:=first | assumption | omega) only [↓Ai,Ad,Ag,Ah,eq_self,Nat.reduceEqDiff,↓reduceIte,reduceCtorEq,↓Aw,h0,AU,h3,hcl,h4']
 refine Fg (fun q e H=>∃ f i:Nat,q=s.length+1 - i∧Yk s f i∧e=[(0,ts s),(3,i64 (s.length:Int)),(4,i64 (f:Int)),(5,i64 (i:Int))]∧H=[]) (s.length+1) ?_ ?_
 ·exact ⟨0,0,rfl,⟨by omega,by omega,fun j c h=>by omega,fun j h=>by omega,.inr ⟨by omega,rfl,by simp⟩⟩,rfl,rfl⟩
 ·rintro q e H ⟨f,i,rfl,hI,rfl,rfl⟩
  have hf:=hI.1
  by_cases hi:i≤s.length
  ·by_cases hsep:i=s.length∨s[i]?=some 47
   ·by_cases he:i=s.length
    ·subst he
     have hall:=hI.sep hi hsep
     have hplen:((s.drop f).take (s.length - f)).length=s.length - f:=by simp
     have h55:s.length - (s.length - 5)=5:=by omega
     have tk5:List.take 5 [(46:UInt8),108,111,99,107]=[46,108,111,99,107]:=rfl
     by_cases hk:s.length=f
     ·have hb:DJ ((s.drop f).take (s.length - f))=false:=by rw [←hk]; simp [DJ]
      simp -dsimp (disch:=first | assumption | omega) only [↓Ai,Ad,Ag,Ah,eq_self,Nat.reduceEqDiff,↓reduceIte,reduceCtorEq,↓Aw]
      exact AcW h0 (by rw [hall,hb,Bool.false_and])
     obtain ⟨cf,hcf⟩:∃ c,s[f]?=some c:=⟨_,List.getElem?_eq_getElem (by omega)⟩
     have hp0:((s.drop f).take (s.length - f))[0]?=some cf:=by rw [List.getElem?_take,if_pos (by omega),List.getElem?_drop]; exact hcf
     by_cases h46:cf=46
     ·subst h46
      have hb:DJ ((s.drop f).take (s.length - f))=false:=by unfold DJ; rw [decide_eq_false_iff_not]; exact fun h=>h.2.1 hp0
      simp -dsimp (disch:=first | assumption | omega) only [↓Ai,Ad,Ag,Ah,eq_self,Nat.reduceEqDiff,UInt8.reduceToNat,↓reduceIte,reduceCtorEq,↓Aw,AU,hcf]
      exact AcW h0 (by rw [hall,hb,Bool.false_and])
     have d46:¬ cf.toNat=46:=fun e=>h46 (UInt8.toNat_inj.1 e)
     have hpne:(s.drop f).take (s.length - f)≠[]:=fun e=>by rw [e] at hp0; cases hp0
     by_cases h5:s.length - f<5
     ·have hb:DJ ((s.drop f).take (s.length - f))=true:=by unfold DJ; rw [decide_eq_true_eq,hp0]; exact ⟨hpne,by simpa using h46,fun h=>by omega⟩
      simp -dsimp (disch:=first | assumption | omega) only [↓Ai,Ad,Ag,Ah,eq_self,Nat.reduceEqDiff,↓reduceIte,reduceCtorEq,↓Aw,AU,hcf,d46]
      exact AB (s.length+1 - (s.length+1)) (by omega) (by simp) ⟨s.length+1,s.length+1,rfl,hI.next hi hsep hb,rfl,rfl⟩
     have hdr:((s.drop f).take (s.length - f)).drop (((s.drop f).take (s.length - f)).length - 5)=s.drop (s.length - 5):=by
      rw [hplen,List.drop_take,List.drop_drop,List.take_of_length_le (by simp; omega)]; congr 1; omega
     by_cases hl:s.drop (s.length - 5)=[46,108,111,99,107]
     ·have hb:DJ ((s.drop f).take (s.length - f))=false:=by unfold DJ; rw [decide_eq_false_iff_not]; exact fun h=>h.2.2 ⟨by omega,by rw [hdr]; exact hl⟩
      simp -dsimp (disch:=first | assumption | omega) only [↓Ai,Ad,Ag,Ah,eq_self,Nat.reduceEqDiff,↓reduceIte,reduceCtorEq,↓Aw,AU,hcf,d46,hl,h55,tk5]
      exact AcW h0 (by rw [hall,hb,Bool.false_and])
     ·have hl':¬ (s.drop (s.length - 5)).take (s.length - (s.length - 5))=[46,108,111,99,107]:=by rw [List.take_of_length_le (by simp)]; exact hl
      have hb:DJ ((s.drop f).take (s.length - f))=true:=by unfold DJ; rw [decide_eq_true_eq,hp0,hdr]; exact ⟨hpne,by simpa using h46,fun h=>hl h.2⟩
      simp -dsimp (disch:=first | assumption | omega) only [↓Ai,Ad,Ag,Ah,eq_self,Nat.reduceEqDiff,↓reduceIte,reduceCtorEq,↓Aw,AU,hcf,d46]
      exact AB (s.length+1 - (s.length+1)) (by omega) (by simp) ⟨s.length+1,s.length+1,rfl,hI.next hi hsep hb,rfl,rfl⟩
    ·have hc:s[i]?=some 47:=by rcases hsep with h | h; exact absurd h he; exact h
     have hall:=hI.sep hi hsep
     have hplen:((s.drop f).take (i - f)).length=i - f:=by simp; omega
     by_cases hk:i=f
     ·subst hk
      have hb:DJ ((s.drop i).take (i - i))=false:=by simp [DJ]
      simp -dsimp (disch:=first | assumption | omega) only [↓Ai,Ad,Ag,Ah,eq_self,Nat.reduceEqDiff,UInt8.reduceToNat,↓reduceIte,reduceCtorEq,↓Aw,AU,hc]
      exact AcW h0 (by rw [hall,hb,Bool.false_and])
     obtain ⟨cf,hcf⟩:∃ c,s[f]?=some c:=⟨_,List.getElem?_eq_getElem (by omega)⟩
     have hp0:((s.drop f).take (i - f))[0]?=some cf:=by rw [List.getElem?_take,if_pos (by omega),List.getElem?_drop]; exact hcf
     by_cases h46:cf=46
     ·subst h46
      have hb:DJ ((s.drop f).take (i - f))=false:=by unfold DJ; rw [decide_eq_false_iff_not]; exact fun h=>h.2.1 hp0
      simp -dsimp (disch:=first | assumption | omega) only [↓Ai,Ad,Ag,Ah,eq_self,Nat.reduceEqDiff,UInt8.reduceToNat,↓reduceIte,reduceCtorEq,↓Aw,AU,hc,hcf]
      exact AcW h0 (by rw [hall,hb,Bool.false_and])
     have d46:¬ cf.toNat=46:=fun e=>h46 (UInt8.toNat_inj.1 e)
     have hpne:(s.drop f).take (i - f)≠[]:=fun e=>by rw [e] at hp0; cases hp0
     by_cases h5:i - f<5
     ·have hb:DJ ((s.drop f).take (i - f))=true:=by unfold DJ; rw [decide_eq_true_eq,hp0]; exact ⟨hpne,by simpa using h46,fun h=>by omega⟩
      simp -dsimp (disch:=first | assumption | omega) only [↓Ai,Ad,Ag,Ah,eq_self,Nat.reduceEqDiff,UInt8.reduceToNat,↓reduceIte,reduceCtorEq,↓Aw,AU,hc,hcf,d46]
      exact AB (s.length+1 - (i+1)) (by omega) (by simp) ⟨i+1,i+1,rfl,hI.next hi hsep hb,rfl,rfl⟩
     have hdr:((s.drop f).take (i - f)).drop (((s.drop f).take (i - f)).length - 5)=(s.drop (i - 5)).take 5:=by
      rw [hplen,List.drop_take,List.drop_drop]; congr 1; omega; congr 1; omega
     have h55:i - (i - 5)=5:=by omega
     by_cases hl:(s.drop (i - 5)).take 5=[46,108,111,99,107]
     ·have hb:DJ ((s.drop f).take (i - f))=false:=by unfold DJ; rw [decide_eq_false_iff_not]; exact fun h=>h.2.2 ⟨by omega,by rw [hdr]; exact hl⟩
      simp -dsimp (disch:=first | assumption | omega) only [↓Ai,Ad,Ag,Ah,eq_self,Nat.reduceEqDiff,UInt8.reduceToNat,↓reduceIte,reduceCtorEq,↓Aw,AU,hc,hcf,d46,hl,h55]
      exact AcW h0 (by rw [hall,hb,Bool.false_and])
     ·have hb:DJ ((s.drop f).take (i - f))=true:=by unfold DJ; rw [decide_eq_true_eq,hp0,hdr]; exact ⟨hpne,by simpa using h46,fun h=>hl h.2⟩
      simp -dsimp (disch:=first | assumption | omega) only [↓Ai,Ad,Ag,Ah,eq_self,Nat.reduceEqDiff,UInt8.reduceToNat,↓reduceIte,reduceCtorEq,↓Aw,AU,hc,hcf,d46,hl,h55]
      exact AB (s.length+1 - (i+1)) (by omega) (by simp) ⟨i+1,i+1,rfl,hI.next hi hsep hb,rfl,rfl⟩
   ·have he:i<s.length:=by omega
    obtain ⟨c,hc⟩:∃ c,s[i]?=some c:=⟨_,List.getElem?_eq_getElem he⟩
    have h47:c≠47:=fun e=>hsep (.inr (by rw [hc,e]))
    have d47:¬ c.toNat=47:=fun e=>h47 (UInt8.toNat_inj.1 e)
    rcases Agu c with ⟨hg,g1,g2,g3,g4,g5,g6,g7,g8,g9⟩ | ⟨hg,hbad⟩
    ·by_cases c46:c=46
     ·subst c46
      by_cases hi0:i=0
      ·subst hi0
       simp -dsimp (disch:=first | assumption | omega) only [↓Ai,Ad,Ag,Ah,eq_self,Nat.reduceLT,Nat.reduceEqDiff,UInt8.reduceToNat,↓reduceIte,reduceCtorEq,↓Aw,AU,hc]
       exact AB (s.length+1 - (0+1)) (by omega) (by simp) ⟨f,0+1,rfl,hI.step hc h47 hg (fun j h=>by omega),rfl,rfl⟩
      obtain ⟨cp,hcp⟩:∃ c,s[i - 1]?=some c:=⟨_,List.getElem?_eq_getElem (by omega)⟩
      by_cases cp46:cp=46
      ·subst cp46
       simp -dsimp (disch:=first | assumption | omega) only [↓Ai,Ad,Ag,Ah,eq_self,Nat.reduceLT,Nat.reduceEqDiff,UInt8.reduceToNat,↓reduceIte,reduceCtorEq,↓Aw,AU,hc,hcp]
       exact ⟨_,rfl,CQ (fun h=>h.elim h0 fun h=>h.2.2.2.1 ⟨i - 1,hcp,by rw [show i - 1+1=i by omega]; exact hc⟩) _ rfl⟩
      ·have dp:¬ cp.toNat=46:=fun e=>cp46 (UInt8.toNat_inj.1 e)
       simp -dsimp (disch:=first | assumption | omega) only [↓Ai,Ad,Ag,Ah,eq_self,Nat.reduceLT,Nat.reduceEqDiff,UInt8.reduceToNat,↓reduceIte,reduceCtorEq,↓Aw,AU,hc,hcp,dp]
       exact AB (s.length+1 - (i+1)) (by omega) (by simp) ⟨f,i+1,rfl,hI.step hc h47 hg (fun j h=>by rw [show j=i - 1 by omega,hcp]; simp [cp46]),rfl,rfl⟩
     have d46:¬ c.toNat=46:=fun e=>c46 (UInt8.toNat_inj.1 e)
     by_cases c123:c=123
     ·subst c123
      by_cases hi0:i=0
      ·subst hi0
       simp -dsimp (disch:=first | assumption | omega) only [↓Ai,Ad,Ag,Ah,eq_self,Nat.reduceLT,Nat.reduceEqDiff,UInt8.reduceToNat,↓reduceIte,reduceCtorEq,↓Aw,AU,hc]
       exact AB (s.length+1 - (0+1)) (by omega) (by simp) ⟨f,0+1,rfl,hI.step hc h47 hg (fun j h=>by omega),rfl,rfl⟩
      obtain ⟨cp,hcp⟩:∃ c,s[i - 1]?=some c:=⟨_,List.getElem?_eq_getElem (by omega)⟩
      by_cases cp64:cp=64
      ·subst cp64
       simp -dsimp (disch:=first | assumption | omega) only [↓Ai,Ad,Ag,Ah,eq_self,Nat.reduceLT,Nat.reduceEqDiff,UInt8.reduceToNat,↓reduceIte,reduceCtorEq,↓Aw,AU,hc,hcp]
       exact ⟨_,rfl,CQ (fun h=>h.elim h0 fun h=>h.2.2.2.2.1 ⟨i - 1,hcp,by rw [show i - 1+1=i by omega]; exact hc⟩) _ rfl⟩
      ·have dp:¬ cp.toNat=64:=fun e=>cp64 (UInt8.toNat_inj.1 e)
       simp -dsimp (disch:=first | assumption | omega) only [↓Ai,Ad,Ag,Ah,eq_self,Nat.reduceLT,Nat.reduceEqDiff,UInt8.reduceToNat,↓reduceIte,reduceCtorEq,↓Aw,AU,hc,hcp,dp]
       exact AB (s.length+1 - (i+1)) (by omega) (by simp) ⟨f,i+1,rfl,hI.step hc h47 hg (fun j h=>by rw [show j=i - 1 by omega,hcp]; simp [cp64]),rfl,rfl⟩
     have d123:¬ c.toNat=123:=fun e=>c123 (UInt8.toNat_inj.1 e)
     by_cases hi0:i=0
     ·subst hi0
      simp -dsimp (disch:=first | assumption | omega) only [↓Ai,Ad,Ag,Ah,eq_self,Nat.reduceLT,Nat.reduceEqDiff,↓reduceIte,reduceCtorEq,↓Aw,AU,hc,d47,g3,g4,g5,g6,g7,g8,g9]
      exact AB (s.length+1 - (0+1)) (by omega) (by simp) ⟨f,0+1,rfl,hI.step hc h47 hg (fun j h=>by omega),rfl,rfl⟩
     ·simp -dsimp (disch:=first | assumption | omega) only [↓Ai,Ad,Ag,Ah,eq_self,Nat.reduceEqDiff,↓reduceIte,reduceCtorEq,↓Aw,AU,hc,d46,d47,d123,g3,g4,g5,g6,g7,g8,g9]
      exact AB (s.length+1 - (i+1)) (by omega) (by simp) ⟨f,i+1,rfl,hI.step hc h47 hg (fun j h=>by simp [c46,c123]),rfl,rfl⟩
    ·have hno:¬ AmZ s:=fun h=>h.elim h0 fun h=>by
      have:=h.2.2.2.2.2.1 c (List.mem_of_getElem? hc)
      rw [hg] at this; cases this
     rcases hbad with h | h | rfl | rfl | rfl | rfl | rfl | rfl | rfl
     all_goals
      simp -dsimp (disch:=first | assumption | omega) only [↓Ai,Ad,Ag,Ah,eq_self,Nat.reduceLT,Nat.reduceEqDiff,UInt8.reduceToNat,↓reduceIte,reduceCtorEq,↓Aw,AU,hc,d47]
      exact ⟨_,rfl,CQ hno _ rfl⟩
  ·obtain ⟨k1,k2,k3,k4,k5⟩:=hI
   have hp:(CU 47 s).all DJ=true:=by
    rcases k5 with ⟨_,_,h⟩ | ⟨h,_⟩
    ·exact h
    ·omega
   simp -dsimp (disch:=first | assumption | omega) only [↓Ai,Ad,Ag,Ah,eq_self,Nat.reduceEqDiff,↓reduceIte,reduceCtorEq,↓Aw]
   refine ⟨_,rfl,Abk (.inr ⟨by omega,h3,by rw [hcl]; simpa using h4,fun ⟨j,j1,j2⟩ => ?_,fun ⟨j,j1,j2⟩ => ?_,fun c hc => ?_,hp⟩) _ rfl⟩
   ·have:=(List.getElem?_eq_some_iff.1 j2).1
    exact (k4 j (by omega)).1 ⟨j1,j2⟩
   ·have:=(List.getElem?_eq_some_iff.1 j2).1
    exact (k4 j (by omega)).2 ⟨j1,j2⟩
   ·obtain ⟨j,hj,rfl⟩:=List.mem_iff_getElem.1 hc
    exact k3 j _ (by omega) (List.getElem?_eq_getElem hj)
end
section
open Go.RowKit
variable [AQ] [E8]
theorem AmA (s:List UInt8) (hs:s.length≤4000000):BC Tryz.prog 41 [ts s] (fun x=>x=tb (nmB s)):=by
 refine (AlE s hs).mono ?_
 rintro x ⟨b,rfl,hb⟩
 rw [←Zy] at hb
 cases b<;>cases h:nmB s<;>simp_all
theorem AlP {wss:List (List (List UInt8))} (h:∀ ws∈wss,(Ip ws).length≤1000):(Ab6 wss).length≤1004*wss.length:=by
 induction wss with
 | nil=>simp [Ab6]
 | cons w wss ih =>
  have h1:=ih fun x hx=>h x (by simp [hx])
  have h2:=h w (by simp)
  have e:Ab6 (w::wss)=BG (Ip w)++Ab6 wss:=by simp [Ab6]
  rw [e,List.length_append,Ib,List.length_cons]; omega
end
section
open Go.RowKit
theorem Arb {k l:List UInt8} {x:TV}:∀ {es:List (List UInt8×TV)},QG k (YU l x es)=if l=k then some x else QG k es
 | []=>by simp [YU,QG]
 | (q,y)::es=>by
  rw [YU]
  by_cases hq:q=l
  ·subst hq
   rw [if_pos rfl,QG,QG]
   by_cases h:q=k<;>simp [h]
  ·rw [if_neg hq,QG,QG,Arb]
   by_cases h:q=k
   ·subst h; rw [if_pos rfl,if_neg (fun e=>hq e.symm),if_pos rfl]
   ·rw [if_neg h,if_neg h]
def Cnt (es:List (List UInt8×TV)) (m:List (List UInt8)):Prop:=∀ l,(QG l es).getD (i64 ((0:Nat):Int))=i64 ((m.count l:Nat):Int)
theorem Cnt.add {es:List (List UInt8×TV)} {m:List (List UInt8)} (h:Cnt es m) (l:List UInt8):Cnt (YU l (i64 ((m.count l+1:Nat):Int)) es) (m++[l]):=by
 intro k
 rw [Arb]
 by_cases hk:l=k
 ·subst hk; simp
 ·rw [if_neg hk,h k]; simp [hk]
theorem Ahp {k:List UInt8} {x:TV}:∀ {es:List (List UInt8×TV)},(YU k x es).length=if QG k es=none then es.length+1 else es.length
 | []=>by simp [YU,QG]
 | (q,y)::es=>by
  rw [YU,QG]
  by_cases hq:q=k
  ·subst hq; simp
  ·rw [if_neg hq,if_neg hq,List.length_cons,Ahp,List.length_cons]
   split<;>rfl
structure AqH (es:List (List UInt8×TV)) (m:List (List UInt8)):Prop where
 cnt:Cnt es m
 has:∀ l,QG l es≠none↔l∈m
 le:es.length≤m.length
 nd:es.length=m.length↔m.Nodup
theorem AqH.nil:AqH [] []:=⟨fun l=>by simp [QG],fun l=>by simp [QG],by simp,by simp⟩
theorem AqH.add {es:List (List UInt8×TV)} {m:List (List UInt8)} (h:AqH es m) (l:List UInt8):AqH (YU l (i64 ((m.count l+1:Nat):Int)) es) (m++[l]):=by
 have hl:=Ahp (k:=l) (x:=i64 ((m.count l+1:Nat):Int)) (es:=es)
 refine ⟨h.cnt.add l,fun k => ?_,?_,?_⟩
 ·rw [Arb]
  by_cases hk:l=k
  ·subst hk; simp
  ·rw [if_neg hk,h.has k]; simp [Ne.symm hk]
 ·rw [hl,List.length_append,List.length_singleton]
  have:=h.le
  split<;>omega
 ·rw [hl,List.length_append,List.length_singleton,List.nodup_append]
  by_cases hm:l∈m
  ·rw [if_neg ((h.has l).2 hm)]
   have:=h.le
   constructor
   ·intro e; omega
   ·rintro ⟨_,_,g⟩
    exact absurd rfl (g l hm l (by simp))
  ·have hn:QG l es=none:=Classical.byContradiction fun k=>hm ((h.has l).1 k)
   rw [if_pos hn]
   have:=h.nd
   constructor
   ·intro e
    refine ⟨this.1 (by omega),by simp,fun a ha b hb => ?_⟩
    rw [List.mem_singleton] at hb
    subst hb
    exact fun e=>hm (e▸ha)
   ·rintro ⟨g,_,_⟩
    have:=this.2 g
    omega
end
end Go.Proofs.YtnikbdnebdmmiaaGreatDoor
