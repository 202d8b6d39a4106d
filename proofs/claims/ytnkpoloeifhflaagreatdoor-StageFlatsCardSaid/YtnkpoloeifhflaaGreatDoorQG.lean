/- What the proof of StageFlatsCard stands on (texts merged; names shortened by a program): part 7. -/
import Derived.Test.YtnkpoloeifhflaaGreatDoorQF
import Derived.Laws.EntriesVeiled
import Derived.Deep.DeepCutAuto
import Derived.Deep.Light
import Derived.Deep.CutBlock
import Derived.StillTailTactics
import Derived.IntWalk
import Derived.Deep.AppendSrc
import Derived.Deep.Upon
import Derived.Lib.AppendZerosOnto
import Derived.Deep.MidRow
import Derived.Test.YtnkpoloeifhflaaGreatDoorProg
import Derived.Deep.LoopGhost
import Derived.Deep.DeepMust
import Derived.Deep.RegionHeld3
import Derived.Test.YtnkpoloeifhflaaGreatDoorQD
import Derived.Test.YtnkpoloeifhflaaGreatDoorQE
import Derived.Laws.Cover1
import Derived.Lib.Bytealg
import Derived.WalkKit
import Derived.Lib.BytesEntry
import Derived.Shelf.Bytes.SlIndexAt
set_option linter.unusedSectionVars false
set_option linter.unusedSimpArgs false
set_option linter.unusedVariables false
namespace Go.Proofs.YtnkpoloeifhflaaGreatDoor.Kit
open Go.RowKit
def Arr (w:World) (b:Nat) (t:TypeId) (cs:List Value):Prop:=w.heap[b]?=some (.cells cs.toArray t (0,0))
section
variable {w:World} {b:Nat} {t:TypeId} {cs:List Value}
theorem Arr.cell (h:Arr w b t cs) (i:Nat):w.cell? ⟨b,i,none⟩=cs[i]?:=by rw [cell_of_row w b i _ t _ h]; simp
theorem Arr.frozen (h:Arr w b t cs) (i:Nat):w.frozen? ⟨b,i,none⟩=false:=frozen_of_row _ _ _ _ _ h
theorem Arr.set (h:Arr w b t cs) (i:Nat) (v:Value):Arr (w.setCell ⟨b,i,none⟩ v) b t (cs.set i v):=by
 unfold Arr; rw [heap_setCell_same _ _ _ _ _ _ h]; simp
theorem Arr.other (h:Arr w b t cs) (a:Addr) (v:Value) (hne:b≠a.block):Arr (w.setCell a v) b t cs:=by
 unfold Arr; rw [heap_setCell_other _ _ _ _ hne]; exact h
theorem Arr.keep {w':World} (h:Arr w b t cs) (k:AA w w'):Arr w' b t cs:=by
 unfold Arr at *; rw [Below.block k b (Array.getElem?_eq_some_iff.1 h).1]; exact h
theorem Arr.alloc (h:Arr w b t cs) (o:Obj):Arr (w.alloc o) b t cs:=h.keep ((AA.refl w).alloc o)
theorem Arr.drewN (h:Arr w b t cs) (n:Nat):Arr (w.drewN n) b t cs:=h
theorem Arr.drew (h:Arr w b t cs):Arr w.drew b t cs:=h
theorem Arr.lt (h:Arr w b t cs):b<w.heap.size:=(Array.getElem?_eq_some_iff.1 h).1
theorem Arr.grown {w':World} {row:Option Nat} (h:Arr w b t cs) (hg:w.grownBy w' row) (hne:some b≠row):Arr w' b t cs:=by
 unfold Arr; rw [hg.block b h.lt hne]; exact h
end
theorem Arr.ne {w:World} {b c:Nat} {t u:TypeId} {xs ys:List Value} (h:Arr w b t xs) (k:Arr w c u ys) (hne:t≠u):b≠c:=by
 rintro rfl
 unfold Arr at h k; rw [h] at k
 simp only [Option.some.injEq,Obj.cells.injEq] at k
 exact hne k.2.1
theorem Arr.new (w:World) (cs:Array Value) (t:TypeId):Arr (w.alloc (.cells cs t)) w.heap.size t cs.toList:=by unfold Arr; rw [heap_alloc_new]
theorem Arr.newAt (w:World) (cs:Array Value) (t:TypeId) (b:Nat) (hb:b=w.heap.size):Arr (w.alloc (.cells cs t)) b t cs.toList:=by subst hb; exact Arr.new w cs t
theorem Arr.five {w:World} {b:Nat} {t:TypeId} {c0 c1 c2 c3 c4:Value} (h:Arr w b t [c0,c1,c2,c3,c4]) :
  w.cell? ⟨b,0,none⟩=some c0∧w.cell? ⟨b,1,none⟩=some c1∧w.cell? ⟨b,2,none⟩=some c2∧w.cell? ⟨b,3,none⟩=some c3∧w.cell? ⟨b,4,none⟩=some c4 :=
 ⟨h.cell 0,h.cell 1,h.cell 2,h.cell 3,h.cell 4⟩
end Go.Proofs.YtnkpoloeifhflaaGreatDoor.Kit
namespace Go.Proofs.YtnkpoloeifhflaaGreatDoor.Kit
open Go.RowKit
def Ads:List Value:=[.func (.func 141) #[] #[],.int .u32 1518500249,.func (.func 142) #[] #[],.int .u32 1859775393,.func (.func 143) #[] #[],.int .u32 2400959708,.func (.func 144) #[] #[],.int .u32 3395469782]
set_option maxRecDepth 100000 in
theorem Bp4 (w:World):Calls Tryz.prog 112 #[] w fun e w'=>e = .returned (.agg #[.func (.func 141) #[] #[],.int .u32 1518500249,.func (.func 142) #[] #[],.int .u32 1859775393,.func (.func 143) #[] #[],.int .u32 2400959708,.func (.func 144) #[] #[],.int .u32 3395469782])∧AA w w':=by
 go_enter Tryz.func112,Tryz.ntmps112
 go_wp2
 refine bodyPost_ret (v := .agg #[.func (.func 141) #[] #[],.int .u32 1518500249,.func (.func 142) #[] #[],.int .u32 1859775393,.func (.func 143) #[] #[],.int .u32 2400959708,.func (.func 144) #[] #[],.int .u32 3395469782]) (by simp [results,Tryz.results112,go_sem]) rfl ⟨rfl,?_⟩
 exact (AA.refl w).alloc _
theorem Ahq {P:Program} {f:FuncId} {args:Array Value} {w:World} {v:Value} (h:Calls P f args w fun e w'=>e = .returned v∧w=w'):Calls P f args w fun e w''=>e = .returned v∧w''=w :=
 h.mono fun _ _ ⟨he,hm⟩=>⟨he,hm.symm⟩
def Bqu:Array Value:=(AhF 80).toArray
theorem Tryz.zero80' (w:World):(zeroValue 144).run Tryz.prog w = .ok (.agg Bqu) w:=by kernel_rfl
theorem AkO (L:List Nat) (i:Nat) (hi:i<80) (hL:L.length=80) (w:World):(Instr.index 144 (.agg (MJ L).toArray) (.int .i64 (i:Int))).run Tryz.prog w = .ok (.int .u32 ((L.getD i 0:Nat):Int)) w:=by
 have h1:∀ w:World,(isAgg 99).run Tryz.prog w = .ok false w:=fun w=>by kernel_rfl
 have h2:∀ w:World,(sizeOf 99).run Tryz.prog w = .ok 1 w:=fun w=>by kernel_rfl
 have h3:(0:Int)≤i∧(i:Int)<80:=by omega
 simp [Instr.index,run_underlying Tryz.underlying144,asIntOf,h2,part,h1,go_sem]
 have h5:(MJ L)[i]?=some (.int .u32 ((L.getD i 0:Nat):Int)):=AoF L i (by omega)
 rw [if_pos hi,h5]; simp
set_option maxRecDepth 100000 in
set_option maxHeartbeats 8000000 in
theorem block (g:Nat) (h:V5) (vr vs:Value) (a:Option Addr) (cap:Nat) (p:List UInt8) (w:World) (hh:h.ok) (hb:Bs w a p) (hp:p.length=64) (hd:Arr w g 177 (MJ h.list++[vr,vs])) :
  Calls Tryz.prog 87 #[.pointer (some ⟨g,0,none⟩),.slice a 64 cap] w fun e w' =>
   e = .returned (.tuple #[])∧Arr w' g 177 (MJ (blk h p).list++[vr,vs])∧w.grownBy w' (some g):=by
 have HP:=Lib.hid hp
 have hz:=Tryz.zero80'
 clear hp
 go_enter Tryz.func87,Tryz.ntmps87
 go_upto_block 0 with (fail)
 have h2:Arr (w.alloc (.cells Bqu 144)) w.heap.size 144 (AhF 80):=Arr.newAt _ _ _ _ (by simp)
 have hk0:AA w (w.alloc (.cells Bqu 144)):=(AA.refl w).alloc _
 go_cut [] (fun wc=>Arr wc w.heap.size 144 (MJ (wl p 80)++AhF (80 - 80))∧AA w wc)
 case first =>
  go_wp2
  go_loopw [5,13] (fun _ i wr=>∃ k:Nat,k≤80∧i = .int .i64 k∧Arr wr w.heap.size 144 (MJ (wl p k)++AhF (80 - k))∧AA w wr) (fun _ i _=>80 - (intOf i).toNat)
  case atStart=>exact ⟨0,by omega,rfl,h2,hk0⟩
  case round =>
   clear h2 hk0
   obtain ⟨k,hk,rfl,h2,hk0⟩:=hrel
   by_cases hlt:k<80
   ·have hc:wr.cell? ⟨w.heap.size,k,none⟩=some (.int .u32 0):=by rw [h2.cell]; exact Ap1 p k (by omega)
    have hf:=h2.frozen k
    have hki:(k:Int)<80:=by omega
    by_cases h16:k<16
    ·have hp:=HP.out
     obtain ⟨b,off,x0,rfl,hc0,hx0,HX0⟩:=(hb.keep hk0).at (j:=4*k) (by omega)
     obtain ⟨x1,hc1,hx1,HX1⟩:=(hb.keep hk0).at' (j:=4*k+1) (by omega)
     obtain ⟨x2,hc2,hx2,HX2⟩:=(hb.keep hk0).at' (j:=4*k+2) (by omega)
     obtain ⟨x3,hc3,hx3,HX3⟩:=(hb.keep hk0).at' (j:=4*k+3) (by omega)
     clear hp
     have s0:IntKind.i64.wrap (4*(k:Int))=4*(k:Int):=IntWalk.i64_in _ (by omega)
     have s1:IntKind.i64.wrap (4*(k:Int)+1)=4*(k:Int)+1:=IntWalk.i64_in _ (by omega)
     have s2:IntKind.i64.wrap (4*(k:Int)+2)=4*(k:Int)+2:=IntWalk.i64_in _ (by omega)
     have s3:IntKind.i64.wrap (4*(k:Int)+3)=4*(k:Int)+3:=IntWalk.i64_in _ (by omega)
     have t0:(4*(k:Int)).toNat=4*k:=by omega
     have t1:(4*(k:Int)+1).toNat=4*k+1:=by omega
     have t2:(4*(k:Int)+2).toNat=4*k+2:=by omega
     have t3:(4*(k:Int)+3).toNat=4*k+3:=by omega
     have g0:(4*(k:Int))<64:=by omega
     have g1:(4*(k:Int)+1)<64:=by omega
     have g2:(4*(k:Int)+2)<64:=by omega
     have g3:(4*(k:Int)+3)<64:=by omega
     have p0:0≤(4*(k:Int)):=by omega
     have p1:0≤(4*(k:Int)+1):=by omega
     have p2:0≤(4*(k:Int)+2):=by omega
     have p3:0≤(4*(k:Int)+3):=by omega
     go_upto_region 5 with (fail)
     go_still_tail 35,(by kernel_rfl)
     go_wp2
     go_roundw
     case rel =>
      go_light
      refine ⟨k+1,by omega,by go_num,?_,Below.drew (Below.setCell hk0 (Nat.le_refl _) _)⟩
      have h5:=Arr.set h2 k (.int .u32 ((Bfi p (4*k):Nat):Int))
      rw [AqD p k _ hlt (by unfold Anf; rw [if_pos h16])] at h5
      have e:((Bfi p (4*k):Nat):Int)=bits .or .u32 (bits .or .u32 (bits .or .u32 ((x0.toNat:Int)*16777216) ((x1.toNat:Int)*65536)) ((x2.toNat:Int)*256)) (x3.toNat:Int):=by
       rw [Aqz]; unfold Bfi; rw [←HX0.out,←HX1.out,←HX2.out,←HX3.out]
      rw [e] at h5
      exact h5
     case measure=>simp [intOf]; omega
    ·have r3:wr.cell? ⟨w.heap.size,k - 3,none⟩=some (.int .u32 (((wl p k).getD (k - 3) 0:Nat):Int)):=by rw [h2.cell]; exact Aal p k _ (by omega)
     have r8:wr.cell? ⟨w.heap.size,k - 8,none⟩=some (.int .u32 (((wl p k).getD (k - 8) 0:Nat):Int)):=by rw [h2.cell]; exact Aal p k _ (by omega)
     have r14:wr.cell? ⟨w.heap.size,k - 14,none⟩=some (.int .u32 (((wl p k).getD (k - 14) 0:Nat):Int)):=by rw [h2.cell]; exact Aal p k _ (by omega)
     have r16:wr.cell? ⟨w.heap.size,k - 16,none⟩=some (.int .u32 (((wl p k).getD (k - 16) 0:Nat):Int)):=by rw [h2.cell]; exact Aal p k _ (by omega)
     have hn:Anf p (wl p k) k=rot ((((wl p k).getD (k - 3) 0 ^^^ (wl p k).getD (k - 8) 0) ^^^ (wl p k).getD (k - 14) 0) ^^^ (wl p k).getD (k - 16) 0) 1:=by unfold Anf; rw [if_neg (by omega)]
     have b3:=Ko p k (k - 3)
     have b8:=Ko p k (k - 8)
     have b14:=Ko p k (k - 14)
     have b16:=Ko p k (k - 16)
     generalize (wl p k).getD (k - 3) 0=x3 at *
     generalize (wl p k).getD (k - 8) 0=x8 at *
     generalize (wl p k).getD (k - 14) 0=x14 at *
     generalize (wl p k).getD (k - 16) 0=x16 at *
     have HN:=Lib.hid hn; clear hn
     have s3:IntKind.i64.wrap ((k:Int) - 3)=(k:Int) - 3:=IntWalk.i64_in _ (by omega)
     have t3:((k:Int) - 3).toNat=k - 3:=by omega
     have g3:((k:Int) - 3)<80:=by omega
     have p3:(3:Int)≤k:=by omega
     have s8:IntKind.i64.wrap ((k:Int) - 8)=(k:Int) - 8:=IntWalk.i64_in _ (by omega)
     have t8:((k:Int) - 8).toNat=k - 8:=by omega
     have g8:((k:Int) - 8)<80:=by omega
     have p8:(8:Int)≤k:=by omega
     have s14:IntKind.i64.wrap ((k:Int) - 14)=(k:Int) - 14:=IntWalk.i64_in _ (by omega)
     have t14:((k:Int) - 14).toNat=k - 14:=by omega
     have g14:((k:Int) - 14)<80:=by omega
     have p14:(14:Int)≤k:=by omega
     have s16:IntKind.i64.wrap ((k:Int) - 16)=(k:Int) - 16:=IntWalk.i64_in _ (by omega)
     have t16:((k:Int) - 16).toNat=k - 16:=by omega
     have g16:((k:Int) - 16)<80:=by omega
     have p16:(16:Int)≤k:=by omega
     go_upto_region 6 with (fail)
     go_still_tail 22,(by kernel_rfl)
     refine wpStill_step (fun K hK => ?_)
     go_simp
     rw [Ark _ _ _ _ b3 b8 b14 b16]
     refine ⟨_,Ahq (Agx _ _ _ (C9 (C9 (C9 b3 b8) b14) b16) (.inl rfl)),hK _ ?_⟩
     clear hK K
     repeat still_step
     refine wpStill_nil ?_
     go_wp2
     go_roundw
     case rel =>
      go_light
      refine ⟨k+1,by omega,by go_num,?_,Below.drew (Below.setCell hk0 (Nat.le_refl _) _)⟩
      have h5:=Arr.set h2 k (.int .u32 ((rot (((x3 ^^^ x8) ^^^ x14) ^^^ x16) 1:Nat):Int))
      rw [AqD p k _ hlt HN.out.symm] at h5
      exact h5
     case measure=>simp [intOf]; omega
   ·have HK:=Lib.hid (show k=80 by omega)
    rw [HK.out] at h2
    go_wp2
    go_meet
    case rel=>exact ⟨h2,hk0⟩
 case rest =>
  clear h2 hk0
  obtain ⟨h2,hk0⟩:=hcut
  obtain ⟨wb,rfl⟩:∃ wb:World,wb=wc:=⟨_,rfl⟩
  have hgw:g<w.heap.size:=hd.lt
  have hdc:Arr wb g 177 (MJ h.list++[vr,vs]):=hd.keep hk0
  have c0:wb.cell? ⟨g,0,none⟩=some (.int .u32 h.a):=hdc.cell 0
  have c1:wb.cell? ⟨g,1,none⟩=some (.int .u32 h.b):=hdc.cell 1
  have c2:wb.cell? ⟨g,2,none⟩=some (.int .u32 h.c):=hdc.cell 2
  have c3:wb.cell? ⟨g,3,none⟩=some (.int .u32 h.d):=hdc.cell 3
  have c4:wb.cell? ⟨g,4,none⟩=some (.int .u32 h.e):=hdc.cell 4
  go_wp2_with fail
  (with_reducible refine (Bp4 _).mono ?_)
  rintro e w2 ⟨rfl,hk2⟩
  have hv0:Arr w2 wb.heap.size 100 (MJ h.list):=Arr.keep (Arr.new wb #[.int .u32 h.a,.int .u32 h.b,.int .u32 h.c,.int .u32 h.d,.int .u32 h.e] 100) hk2
  have h22:Arr w2 w.heap.size 144 (MJ (wl p 80)++AhF (80 - 80)):=(h2.alloc _).keep hk2
  have hk3:AA w w2:=(hk0.alloc _).trans hk2
  have hsz:wb.heap.size<w2.heap.size:=hv0.lt
  have hle:w.heap.size≤wb.heap.size:=Below.size hk0
  have hwl:wb.heap.size≠w.heap.size:=fun e=>absurd h2.lt (by omega)
  clear h2 hk0 hk2 hdc c0 c1 c2 c3 c4
  have hwl2:AhF (80 - 80)=[]:=rfl
  have hmx0:Arr (w2.alloc (.cells #[.func (.func 141) #[] #[],.int .u32 1518500249,.func (.func 142) #[] #[],.int .u32 1859775393,.func (.func 143) #[] #[],.int .u32 2400959708,.func (.func 144) #[] #[],.int .u32 3395469782] 199)) w2.heap.size 199 Ads:=Arr.new _ _ _
  have hv1:=hv0.alloc (.cells #[.func (.func 141) #[] #[],.int .u32 1518500249,.func (.func 142) #[] #[],.int .u32 1859775393,.func (.func 143) #[] #[],.int .u32 2400959708,.func (.func 144) #[] #[],.int .u32 3395469782] 199)
  have h23:=h22.alloc (.cells #[.func (.func 141) #[] #[],.int .u32 1518500249,.func (.func 142) #[] #[],.int .u32 1859775393,.func (.func 143) #[] #[],.int .u32 2400959708,.func (.func 144) #[] #[],.int .u32 3395469782] 199)
  have hk4:=hk3.alloc (.cells #[.func (.func 141) #[] #[],.int .u32 1518500249,.func (.func 142) #[] #[],.int .u32 1859775393,.func (.func 143) #[] #[],.int .u32 2400959708,.func (.func 144) #[] #[],.int .u32 3395469782] 199)
  rw [hwl2,List.append_nil] at h23
  unfold Arr at h23
  go_upto_block 2 with (with_reducible refine wpList_load_row rfl 144 _ rfl w.heap.size rfl 144 (MJ (wl p 80)).toArray (0,0) _ h23 Tryz.underlying144 rfl (by rw [List.size_toArray,Va,Y4]; kernel_rfl) ?_)
  clear h22 h23 hwl2 hv0 hk3
  have hidx:=fun (i:Nat) (hi:i<80) (w:World)=>AkO (wl p 80) i hi (Y4 p 80) w
  have HI:=Lib.hid hidx; clear hidx
  go_cut [] (fun wr=>Arr wr wb.heap.size 100 (MJ (AoZ 0 h (wl p 80)).list)∧AA w wr)
  case first =>
   generalize hW:(MJ (wl p 80)).toArray=WA at *
   have HW:=Lib.hid hW; clear hW
   go_wp2
   go_loopw [8,9,10,11,82] (fun _ _ _ _ i wr=>∃ (i':Nat) (v:V5),i'≤80∧i = .int .i64 i'∧v.ok∧Arr wr wb.heap.size 100 (MJ v.list)∧AcR p h i' v∧Arr wr w2.heap.size 199 Ads∧AA w wr) (fun _ _ _ _ i _=>80 - (intOf i).toNat)
   case atStart=>exact ⟨0,h,by omega,rfl,hh,hv1,AcR.zero p h,hmx0,hk4⟩
   case round =>
    clear hv1 hmx0 hk4
    obtain ⟨i,v,hi,rfl,hv,hva,hr,hmx,hk⟩:=hrel
    by_cases hlt:i<80
    ·obtain ⟨c0,c1,c2,c3,c4⟩:=hva.five
     have f0:=hva.frozen 0
     have f1:=hva.frozen 1
     have f2:=hva.frozen 2
     have f3:=hva.frozen 3
     have f4:=hva.frozen 4
     have hx:=HI.out i hlt
     have bw:=Ko p 80 i
     have HR:=hr.succ hlt; clear hr
     generalize (wl p 80).getD i 0=x at *
     obtain ⟨va,vb,vc,vd,ve⟩:=v
     obtain ⟨ba,bb,bc,bd,be⟩:=hv
     simp only at ba bb bc bd be c0 c1 c2 c3 c4
     have hs1:wb.heap.size<wr.heap.size:=hva.lt
     have hs2:w2.heap.size<wr.heap.size:=hmx.lt
     rcases (show i<20∨(20≤i∧i<40)∨(40≤i∧i<60)∨60≤i from by omega) with hq | ⟨hq,hq2⟩ | ⟨hq,hq2⟩ | hq
     ·have hq20:(i:Int) / 20=0:=by omega
      have hm0:wr.cell? ⟨w2.heap.size,0,none⟩=some (.func (.func 141) #[] #[]):=hmx.cell 0
      have hm1:wr.cell? ⟨w2.heap.size,1,none⟩=some (.int .u32 1518500249):=hmx.cell 1
      have hrt:UV i ⟨va,vb,vc,vd,ve⟩ x=((((rot va 5+sf1 vb vc vd) % 4294967296+ve) % 4294967296+1518500249) % 4294967296+x) % 4294967296:=by unfold UV; rw [Br6 hq,Bsq hq]
      have HT:=Lib.hid hrt; clear hrt
      go_upto_region 14 with (fail)
      go_cut [11] (fun t wq=>t = .int .u32 (UV i ⟨va,vb,vc,vd,ve⟩ x:Nat)∧Arr wq wb.heap.size 100 (MJ (V5.list ⟨va,vb,vc,vd,ve⟩))∧Arr wq w2.heap.size 199 Ads∧AA w wq)
      case first =>
       go_quiet ((first | (go_at_call 111; exact Oa (Agx _ _ _ ba (.inr (.inl rfl)))) | (go_at_call 141; exact Oa (Bs1 _ _ _ _ bb bc bd))))
       go_wp2
       go_meet
       case rel =>
        go_light
        refine ⟨?_,(hva.alloc _).drewN _,(hmx.alloc _).drewN _,(hk.alloc _).drewN _⟩
        have e2:((UV i ⟨va,vb,vc,vd,ve⟩ x:Nat):Int)=(((rot va 5:Nat):Int)+(sf1 vb vc vd:Nat)+ve+1518500249+x) % 4294967296:=by rw [HT.out]; omega
        rw [e2]
        exact congrArg (Value.int .u32) (by omega)
      case rest =>
       clear c0 c1 c2 c3 c4 f0 f1 f2 f3 f4 hva hmx hk hm0 hm1
       obtain ⟨rfl,hva,hmx,hk⟩:=hcut
       obtain ⟨c0,c1,c2,c3,c4⟩:=hva.five
       have f0:=hva.frozen 0
       have f1:=hva.frozen 1
       have f2:=hva.frozen 2
       have f3:=hva.frozen 3
       have f4:=hva.frozen 4
       generalize hT:UV i ⟨va,vb,vc,vd,ve⟩ x=T at *
       have HT2:=Lib.hid hT; clear hT
       go_upto_region 15 with (fail)
       go_still_tail 11,(by kernel_rfl)
       still_call (Ahq (Agx _ _ _ bb (.inr (.inr rfl))))
       repeat still_step
       refine wpStill_nil ?_
       go_wp2
       go_roundw
       case rel =>
        go_light
        have n2:w2.heap.size≠wb.heap.size:=by omega
        refine ⟨i+1,rnd i ⟨va,vb,vc,vd,ve⟩ x,by omega,by go_num,Al7 i x ⟨ba,bb,bc,bd,be⟩,?_,HR,?_,?_⟩
        ·have h5:=(((((hva.set 0 (.int .u32 T)).set 1 (.int .u32 va)).set 2 (.int .u32 (rot vb 30:Nat))).set 3 (.int .u32 vc)).set 4 (.int .u32 vd)).drew
         have e3:MJ (rnd i ⟨va,vb,vc,vd,ve⟩ x).list=[.int .u32 T,.int .u32 va,.int .u32 (rot vb 30:Nat),.int .u32 vc,.int .u32 vd]:=by rw [←HT2.out]; rfl
         rw [e3]
         exact h5
        ·exact (((((hmx.other _ _ n2).other _ _ n2).other _ _ n2).other _ _ n2).other _ _ n2).drew
        ·exact Below.drew (Below.setCell (Below.setCell (Below.setCell (Below.setCell (Below.setCell hk (p:=⟨wb.heap.size,0,none⟩) hle _) (p:=⟨wb.heap.size,1,none⟩) hle _) (p:=⟨wb.heap.size,2,none⟩) hle _) (p:=⟨wb.heap.size,3,none⟩) hle _) (p:=⟨wb.heap.size,4,none⟩) hle _)
       case measure=>simp [intOf]; omega
     ·have hq20:(i:Int) / 20=1:=by omega
      have hm0:wr.cell? ⟨w2.heap.size,2,none⟩=some (.func (.func 142) #[] #[]):=hmx.cell 2
      have hm1:wr.cell? ⟨w2.heap.size,3,none⟩=some (.int .u32 1859775393):=hmx.cell 3
      have hrt:UV i ⟨va,vb,vc,vd,ve⟩ x=((((rot va 5+sf2 vb vc vd) % 4294967296+ve) % 4294967296+1859775393) % 4294967296+x) % 4294967296:=by unfold UV; rw [Bsk hq hq2,Bsg hq hq2]
      have HT:=Lib.hid hrt; clear hrt
      go_upto_region 14 with (fail)
      go_cut [11] (fun t wq=>t = .int .u32 (UV i ⟨va,vb,vc,vd,ve⟩ x:Nat)∧Arr wq wb.heap.size 100 (MJ (V5.list ⟨va,vb,vc,vd,ve⟩))∧Arr wq w2.heap.size 199 Ads∧AA w wq)
      case first =>
       go_quiet ((first | (go_at_call 111; exact Oa (Agx _ _ _ ba (.inr (.inl rfl)))) | (go_at_call 142; exact Oa (BsY _ _ _ _ bb bc bd))))
       go_wp2
       go_meet
       case rel =>
        go_light
        refine ⟨?_,(hva.alloc _).drewN _,(hmx.alloc _).drewN _,(hk.alloc _).drewN _⟩
        have e2:((UV i ⟨va,vb,vc,vd,ve⟩ x:Nat):Int)=(((rot va 5:Nat):Int)+(sf2 vb vc vd:Nat)+ve+1859775393+x) % 4294967296:=by rw [HT.out]; omega
        rw [e2]
        exact congrArg (Value.int .u32) (by omega)
      case rest =>
       clear c0 c1 c2 c3 c4 f0 f1 f2 f3 f4 hva hmx hk hm0 hm1
       obtain ⟨rfl,hva,hmx,hk⟩:=hcut
       obtain ⟨c0,c1,c2,c3,c4⟩:=hva.five
       have f0:=hva.frozen 0
       have f1:=hva.frozen 1
       have f2:=hva.frozen 2
       have f3:=hva.frozen 3
       have f4:=hva.frozen 4
       generalize hT:UV i ⟨va,vb,vc,vd,ve⟩ x=T at *
       have HT2:=Lib.hid hT; clear hT
       go_upto_region 15 with (fail)
       go_still_tail 11,(by kernel_rfl)
       still_call (Ahq (Agx _ _ _ bb (.inr (.inr rfl))))
       repeat still_step
       refine wpStill_nil ?_
       go_wp2
       go_roundw
       case rel =>
        go_light
        have n2:w2.heap.size≠wb.heap.size:=by omega
        refine ⟨i+1,rnd i ⟨va,vb,vc,vd,ve⟩ x,by omega,by go_num,Al7 i x ⟨ba,bb,bc,bd,be⟩,?_,HR,?_,?_⟩
        ·have h5:=(((((hva.set 0 (.int .u32 T)).set 1 (.int .u32 va)).set 2 (.int .u32 (rot vb 30:Nat))).set 3 (.int .u32 vc)).set 4 (.int .u32 vd)).drew
         have e3:MJ (rnd i ⟨va,vb,vc,vd,ve⟩ x).list=[.int .u32 T,.int .u32 va,.int .u32 (rot vb 30:Nat),.int .u32 vc,.int .u32 vd]:=by rw [←HT2.out]; rfl
         rw [e3]
         exact h5
        ·exact (((((hmx.other _ _ n2).other _ _ n2).other _ _ n2).other _ _ n2).other _ _ n2).drew
        ·exact Below.drew (Below.setCell (Below.setCell (Below.setCell (Below.setCell (Below.setCell hk (p:=⟨wb.heap.size,0,none⟩) hle _) (p:=⟨wb.heap.size,1,none⟩) hle _) (p:=⟨wb.heap.size,2,none⟩) hle _) (p:=⟨wb.heap.size,3,none⟩) hle _) (p:=⟨wb.heap.size,4,none⟩) hle _)
       case measure=>simp [intOf]; omega
     ·have hq20:(i:Int) / 20=2:=by omega
      have hm0:wr.cell? ⟨w2.heap.size,4,none⟩=some (.func (.func 143) #[] #[]):=hmx.cell 4
      have hm1:wr.cell? ⟨w2.heap.size,5,none⟩=some (.int .u32 2400959708):=hmx.cell 5
      have hrt:UV i ⟨va,vb,vc,vd,ve⟩ x=((((rot va 5+sf3 vb vc vd) % 4294967296+ve) % 4294967296+2400959708) % 4294967296+x) % 4294967296:=by unfold UV; rw [Br4 hq hq2,BsT hq hq2]
      have HT:=Lib.hid hrt; clear hrt
      go_upto_region 14 with (fail)
      go_cut [11] (fun t wq=>t = .int .u32 (UV i ⟨va,vb,vc,vd,ve⟩ x:Nat)∧Arr wq wb.heap.size 100 (MJ (V5.list ⟨va,vb,vc,vd,ve⟩))∧Arr wq w2.heap.size 199 Ads∧AA w wq)
      case first =>
       go_quiet ((first | (go_at_call 111; exact Oa (Agx _ _ _ ba (.inr (.inl rfl)))) | (go_at_call 143; exact Oa (Bto _ _ _ _ bb bc bd))))
       go_wp2
       go_meet
       case rel =>
        go_light
        refine ⟨?_,(hva.alloc _).drewN _,(hmx.alloc _).drewN _,(hk.alloc _).drewN _⟩
        have e2:((UV i ⟨va,vb,vc,vd,ve⟩ x:Nat):Int)=(((rot va 5:Nat):Int)+(sf3 vb vc vd:Nat)+ve+2400959708+x) % 4294967296:=by rw [HT.out]; omega
        rw [e2]
        exact congrArg (Value.int .u32) (by omega)
      case rest =>
       clear c0 c1 c2 c3 c4 f0 f1 f2 f3 f4 hva hmx hk hm0 hm1
       obtain ⟨rfl,hva,hmx,hk⟩:=hcut
       obtain ⟨c0,c1,c2,c3,c4⟩:=hva.five
       have f0:=hva.frozen 0
       have f1:=hva.frozen 1
       have f2:=hva.frozen 2
       have f3:=hva.frozen 3
       have f4:=hva.frozen 4
       generalize hT:UV i ⟨va,vb,vc,vd,ve⟩ x=T at *
       have HT2:=Lib.hid hT; clear hT
       go_upto_region 15 with (fail)
       go_still_tail 11,(by kernel_rfl)
       still_call (Ahq (Agx _ _ _ bb (.inr (.inr rfl))))
       repeat still_step
       refine wpStill_nil ?_
       go_wp2
       go_roundw
       case rel =>
        go_light
        have n2:w2.heap.size≠wb.heap.size:=by omega
        refine ⟨i+1,rnd i ⟨va,vb,vc,vd,ve⟩ x,by omega,by go_num,Al7 i x ⟨ba,bb,bc,bd,be⟩,?_,HR,?_,?_⟩
        ·have h5:=(((((hva.set 0 (.int .u32 T)).set 1 (.int .u32 va)).set 2 (.int .u32 (rot vb 30:Nat))).set 3 (.int .u32 vc)).set 4 (.int .u32 vd)).drew
         have e3:MJ (rnd i ⟨va,vb,vc,vd,ve⟩ x).list=[.int .u32 T,.int .u32 va,.int .u32 (rot vb 30:Nat),.int .u32 vc,.int .u32 vd]:=by rw [←HT2.out]; rfl
         rw [e3]
         exact h5
        ·exact (((((hmx.other _ _ n2).other _ _ n2).other _ _ n2).other _ _ n2).other _ _ n2).drew
        ·exact Below.drew (Below.setCell (Below.setCell (Below.setCell (Below.setCell (Below.setCell hk (p:=⟨wb.heap.size,0,none⟩) hle _) (p:=⟨wb.heap.size,1,none⟩) hle _) (p:=⟨wb.heap.size,2,none⟩) hle _) (p:=⟨wb.heap.size,3,none⟩) hle _) (p:=⟨wb.heap.size,4,none⟩) hle _)
       case measure=>simp [intOf]; omega
     ·have hq20:(i:Int) / 20=3:=by omega
      have hm0:wr.cell? ⟨w2.heap.size,6,none⟩=some (.func (.func 144) #[] #[]):=hmx.cell 6
      have hm1:wr.cell? ⟨w2.heap.size,7,none⟩=some (.int .u32 3395469782):=hmx.cell 7
      have hrt:UV i ⟨va,vb,vc,vd,ve⟩ x=((((rot va 5+sf2 vb vc vd) % 4294967296+ve) % 4294967296+3395469782) % 4294967296+x) % 4294967296:=by unfold UV; rw [Br9 hq,Bsw hq]
      have HT:=Lib.hid hrt; clear hrt
      go_upto_region 14 with (fail)
      go_cut [11] (fun t wq=>t = .int .u32 (UV i ⟨va,vb,vc,vd,ve⟩ x:Nat)∧Arr wq wb.heap.size 100 (MJ (V5.list ⟨va,vb,vc,vd,ve⟩))∧Arr wq w2.heap.size 199 Ads∧AA w wq)
      case first =>
       go_quiet ((first | (go_at_call 111; exact Oa (Agx _ _ _ ba (.inr (.inl rfl)))) | (go_at_call 144; exact Oa (Bte _ _ _ _ bb bc bd))))
       go_wp2
       go_meet
       case rel =>
        go_light
        refine ⟨?_,(hva.alloc _).drewN _,(hmx.alloc _).drewN _,(hk.alloc _).drewN _⟩
        have e2:((UV i ⟨va,vb,vc,vd,ve⟩ x:Nat):Int)=(((rot va 5:Nat):Int)+(sf2 vb vc vd:Nat)+ve+3395469782+x) % 4294967296:=by rw [HT.out]; omega
        rw [e2]
        exact congrArg (Value.int .u32) (by omega)
      case rest =>
       clear c0 c1 c2 c3 c4 f0 f1 f2 f3 f4 hva hmx hk hm0 hm1
       obtain ⟨rfl,hva,hmx,hk⟩:=hcut
       obtain ⟨c0,c1,c2,c3,c4⟩:=hva.five
       have f0:=hva.frozen 0
       have f1:=hva.frozen 1
       have f2:=hva.frozen 2
       have f3:=hva.frozen 3
       have f4:=hva.frozen 4
       generalize hT:UV i ⟨va,vb,vc,vd,ve⟩ x=T at *
       have HT2:=Lib.hid hT; clear hT
       go_upto_region 15 with (fail)
       go_still_tail 11,(by kernel_rfl)
       still_call (Ahq (Agx _ _ _ bb (.inr (.inr rfl))))
       repeat still_step
       refine wpStill_nil ?_
       go_wp2
       go_roundw
       case rel =>
        go_light
        have n2:w2.heap.size≠wb.heap.size:=by omega
        refine ⟨i+1,rnd i ⟨va,vb,vc,vd,ve⟩ x,by omega,by go_num,Al7 i x ⟨ba,bb,bc,bd,be⟩,?_,HR,?_,?_⟩
        ·have h5:=(((((hva.set 0 (.int .u32 T)).set 1 (.int .u32 va)).set 2 (.int .u32 (rot vb 30:Nat))).set 3 (.int .u32 vc)).set 4 (.int .u32 vd)).drew
         have e3:MJ (rnd i ⟨va,vb,vc,vd,ve⟩ x).list=[.int .u32 T,.int .u32 va,.int .u32 (rot vb 30:Nat),.int .u32 vc,.int .u32 vd]:=by rw [←HT2.out]; rfl
         rw [e3]
         exact h5
        ·exact (((((hmx.other _ _ n2).other _ _ n2).other _ _ n2).other _ _ n2).other _ _ n2).drew
        ·exact Below.drew (Below.setCell (Below.setCell (Below.setCell (Below.setCell (Below.setCell hk (p:=⟨wb.heap.size,0,none⟩) hle _) (p:=⟨wb.heap.size,1,none⟩) hle _) (p:=⟨wb.heap.size,2,none⟩) hle _) (p:=⟨wb.heap.size,3,none⟩) hle _) (p:=⟨wb.heap.size,4,none⟩) hle _)
       case measure=>simp [intOf]; omega
    ·have HK:=Lib.hid (show i=80 by omega)
     rw [HK.out] at hr
     have hva':=hva
     rw [hr.last] at hva'
     clear hva hr
     go_wp2
     go_meet
     case rel=>exact ⟨hva',hk⟩
  case rest =>
   clear hv1 hmx0 hk4 HI
   obtain ⟨hva,hk⟩:=hcut
   have hV:(AoZ 0 h (wl p 80)).ok:=BeR _ _ _ hh
   have hB:blk h p=Bli h (AoZ 0 h (wl p 80)):=rfl
   have HB:=Lib.hid hB; clear hB
   generalize AoZ 0 h (wl p 80)=V at *
   go_wp2
   go_loopw [12,123] (fun _ i wr=>∃ k:Nat,k≤5∧i = .int .i64 k∧Arr wr wb.heap.size 100 (MJ V.list)∧Arr wr g 177 (MJ (Bjh h V k)++[vr,vs])∧w.grownBy wr (some g)) (fun _ i _=>5 - (intOf i).toNat)
   case atStart=>exact ⟨0,by omega,rfl,hva,hd.keep hk,⟨hk.os,hk.tape,hk.output,hk.size,fun j hj _=>hk.block j hj⟩⟩
   case round =>
    clear hva hk
    obtain ⟨k,hk,rfl,hva,hdr,hgr⟩:=hrel
    by_cases hlt:k<5
    ·have cv:wr.cell? ⟨wb.heap.size,k,none⟩=some (.int .u32 ((V.list.getD k 0:Nat):Int)):=by rw [hva.cell]; exact AgT V k hlt
     have ch:wr.cell? ⟨g,k,none⟩=some (.int .u32 ((h.list.getD k 0:Nat):Int)):=by
      rw [hdr.cell,List.getElem?_append_left (by rw [Va,AkQ]; exact hlt)]; exact Aqj h V k hlt
     have fh:=hdr.frozen k
     have b1:=hV.get k
     have b2:=hh.get k
     have hs:=Arh h V k hlt
     have HS:=Lib.hid hs; clear hs
     generalize V.list.getD k 0=x at *
     generalize h.list.getD k 0=y at *
     have hki:(k:Int)<5:=by omega
     go_upto_region 20 with (fail)
     go_still_tail 13,(by kernel_rfl)
     go_wp2
     go_roundw
     case rel =>
      go_light
      have ne1:wb.heap.size≠g:=by omega
      refine ⟨k+1,by omega,by go_num,(hva.other _ _ ne1).drew,?_,?_⟩
      ·have h5:=(hdr.set k (.int .u32 (((y+x) % 4294967296:Nat):Int))).drew
       rw [List.set_append_left _ _ (by rw [Va,AkQ]; exact hlt),HS.out,show (((y+x) % 4294967296:Nat):Int)=((y:Int)+x) % 4294967296 from by omega] at h5
       exact h5
      ·exact A2H (Aor hgr (p:=⟨g,k,none⟩) (.inl rfl) _)
     case measure=>simp [intOf]; omega
    ·have HK:=Lib.hid (show k=5 by omega)
     rw [HK.out,AnR] at hdr
     go_wp2
     go_end0
     rw [HB.out]
     exact ⟨rfl,hdr,hgr⟩
end Go.Proofs.YtnkpoloeifhflaaGreatDoor.Kit
namespace Go.Proofs.YtnkpoloeifhflaaGreatDoor.Kit
open Go.RowKit
def Seg (w:World) (base:Nat) (e:TypeId) (size:Nat) (v:Value) (n:Nat) (xs:List Value):Prop :=
 xs.length=n*size ∧
 ((v = .slice none 0 0∧n=0) ∨
 ∃ g off cap cur,v = .slice (some ⟨g,off,none⟩) n cap∧base≤g∧w.heap[g]?=some (.cells cur e (0,0))∧n≤cap∧cap≤maxLen∧off+cap*size≤cur.size∧(cur.toList.drop off).take (n*size)=xs)
section
variable {w:World} {base:Nat} {e:TypeId} {size:Nat} {v:Value} {n:Nat} {xs:List Value}
theorem Seg.nil (w:World) (base:Nat) (e:TypeId) (size:Nat):Seg w base e size (.slice none 0 0) 0 []:=⟨by simp,.inl ⟨rfl,rfl⟩⟩
theorem Seg.lt (h:Seg w base e size v n xs):∀ k,v.ownBlock=some k→base≤k∧k<w.heap.size:=by
 intro k hk
 rcases h.2 with ⟨rfl,_⟩ | ⟨g,off,cap,cur,rfl,hb,hg,_⟩
 ·simp [Value.ownBlock] at hk
 ·simp [Value.ownBlock] at hk
  subst hk
  exact ⟨hb,(Array.getElem?_eq_some_iff.1 hg).1⟩
theorem Seg.kept {w':World} {row:Option Nat} (h:Seg w base e size v n xs) (hg:w.grownBy w' row) (hne:v.ownBlock=none∨v.ownBlock≠row):Seg w' base e size v n xs:=by
 refine ⟨h.1,?_⟩
 rcases h.2 with hn | ⟨g,off,cap,cur,rfl,hb,hgg,rest⟩
 ·exact .inl hn
 ·refine .inr ⟨g,off,cap,cur,rfl,hb,?_,rest⟩
  rw [hg.block g (Array.getElem?_eq_some_iff.1 hgg).1 (by simpa [Value.ownBlock] using hne)]
  exact hgg
theorem Seg.keep {w':World} (h:Seg w base e size v n xs) (k:AA w w'):Seg w' base e size v n xs:=by
 refine ⟨h.1,?_⟩
 rcases h.2 with hn | ⟨g,off,cap,cur,rfl,hb,hgg,rest⟩
 ·exact .inl hn
 ·refine .inr ⟨g,off,cap,cur,rfl,hb,?_,rest⟩
  rw [Below.block k g (Array.getElem?_eq_some_iff.1 hgg).1]
  exact hgg
theorem Seg.other {w':World} (h:Seg w base e size v n xs) {g:Nat} (hb:∀ k,k<w.heap.size→k≠g→w'.heap[k]?=w.heap[k]?) (hne:v.ownBlock≠some g):Seg w' base e size v n xs:=by
 refine ⟨h.1,?_⟩
 rcases h.2 with hn | ⟨k,off,cap,cur,rfl,hbk,hgg,rest⟩
 ·exact .inl hn
 ·refine .inr ⟨k,off,cap,cur,rfl,hbk,?_,rest⟩
  rw [hb k (Array.getElem?_eq_some_iff.1 hgg).1 (fun e=>hne (by rw [e]; rfl))]
  exact hgg
theorem Seg.alloc (h:Seg w base e size v n xs) (o:Obj):Seg (w.alloc o) base e size v n xs:=h.keep ((AA.refl w).alloc o)
theorem Seg.drewN (h:Seg w base e size v n xs) (k:Nat):Seg (w.drewN k) base e size v n xs:=h
theorem Seg.mono {base':Nat} (h:Seg w base e size v n xs) (hb:base'≤base):Seg w base' e size v n xs:=by
 refine ⟨h.1,?_⟩
 rcases h.2 with hn | ⟨k,off,cap,cur,rfl,hbk,rest⟩
 ·exact .inl hn
 ·exact .inr ⟨k,off,cap,cur,rfl,by omega,rest⟩
theorem Seg.made (w:World) (cur:Array Value) (n cap:Nat) (hb:base≤w.heap.size) (hn:n≤cap) (hm:cap≤maxLen) (hs:cap*size≤cur.size) :
  Seg (w.alloc (.cells cur e)) base e size (.slice (some ⟨w.heap.size,0,none⟩) n cap) n (cur.toList.take (n*size)):=by
 have h1:n*size≤cap*size:=Nat.mul_le_mul_right _ hn
 exact ⟨by simp; omega,.inr ⟨w.heap.size,0,cap,cur,rfl,hb,heap_alloc_new w _,hn,hm,by omega,by simp⟩⟩
theorem Seg.cells (h:Seg w base e size v n xs) {g off cap m:Nat} (hv:v = .slice (some ⟨g,off,none⟩) m cap):∀ j u,xs[j]?=some u→w.cell? ⟨g,off+j,none⟩=some u:=by
 intro j u hu
 rcases h.2 with ⟨rfl,_⟩ | ⟨g',off',cap',cur,rfl,_,hgg,_,_,hfit,htake⟩
 ·cases hv
 ·simp only [Value.slice.injEq,Option.some.injEq,Addr.mk.injEq,and_true] at hv
  obtain ⟨⟨rfl,rfl⟩,_,_⟩:=hv
  rw [cell_of_row w g' _ cur e (0,0) hgg]
  rw [←htake,List.getElem?_take] at hu
  split at hu
  ·rw [List.getElem?_drop] at hu; simpa using hu
  ·cases hu
theorem Seg.frozen (h:Seg w base e size v n xs) {g off cap m:Nat} (hv:v = .slice (some ⟨g,off,none⟩) m cap) (j:Nat):w.frozen? ⟨g,j,none⟩=false:=by
 rcases h.2 with ⟨rfl,_⟩ | ⟨g',off',cap',cur,rfl,_,hgg,_⟩
 ·cases hv
 ·simp only [Value.slice.injEq,Option.some.injEq,Addr.mk.injEq,and_true] at hv
  obtain ⟨⟨rfl,rfl⟩,_,_⟩:=hv
  exact frozen_of_row _ _ _ _ _ hgg
theorem Seg.shape (h:Seg w base e size v n xs):(v = .slice none 0 0∧n=0∧xs=[])∨∃ g off cap,v = .slice (some ⟨g,off,none⟩) n cap∧base≤g∧g<w.heap.size∧n≤cap∧cap≤9223372036854775807:=by
 rcases h.2 with ⟨rfl,rfl⟩ | ⟨g,off,cap,cur,rfl,hb,hgg,hn,hc,_⟩
 ·exact .inl ⟨rfl,rfl,List.eq_nil_of_length_eq_zero (by simpa using h.1)⟩
 ·unfold maxLen at hc
  exact .inr ⟨g,off,cap,rfl,hb,(Array.getElem?_eq_some_iff.1 hgg).1,hn,by omega⟩
theorem Seg.drop (h:Seg w base e size v n xs) {g off cap:Nat} (hv:v = .slice (some ⟨g,off,none⟩) n cap) (k:Nat) (hk:k≤n):Seg w base e size (.slice (some ⟨g,off+k*size,none⟩) (n - k) (cap - k)) (n - k) (xs.drop (k*size)):=by
 have hx:=h.1
 rcases h.2 with ⟨rfl,_⟩ | ⟨g',off',cap',cur,rfl,hb,hgg,hnc,hcm,hfit,htake⟩
 ·cases hv
 ·simp only [Value.slice.injEq,Option.some.injEq,Addr.mk.injEq,and_true] at hv
  obtain ⟨⟨rfl,rfl⟩,_,rfl⟩:=hv
  have e1:cap'*size=(cap' - k)*size+k*size:=by rw [←Nat.add_mul]; congr 1; omega
  have e2:n*size=(n - k)*size+k*size:=by rw [←Nat.add_mul]; congr 1; omega
  refine ⟨by rw [List.length_drop]; omega,.inr ⟨g',off'+k*size,cap' - k,cur,rfl,hb,hgg,by omega,by omega,by omega,?_⟩⟩
  rw [←htake,List.drop_take,List.drop_drop]
  congr 1
  omega
theorem Seg.take (h:Seg w base e size v n xs) {g off cap:Nat} (hv:v = .slice (some ⟨g,off,none⟩) n cap) (k:Nat) (hk:k≤n):Seg w base e size (.slice (some ⟨g,off,none⟩) k cap) k (xs.take (k*size)):=by
 have hx:=h.1
 rcases h.2 with ⟨rfl,_⟩ | ⟨g',off',cap',cur,rfl,hb,hgg,hnc,hcm,hfit,htake⟩
 ·cases hv
 ·simp only [Value.slice.injEq,Option.some.injEq,Addr.mk.injEq,and_true] at hv
  obtain ⟨⟨rfl,rfl⟩,_,rfl⟩:=hv
  have e2:k*size≤n*size:=Nat.mul_le_mul_right _ hk
  refine ⟨by rw [List.length_take]; omega,.inr ⟨g',off',cap',cur,rfl,hb,hgg,by omega,by omega,by omega,?_⟩⟩
  rw [←htake,List.take_take,Nat.min_eq_left e2]
end
theorem WQ (g:Nat) (t:TypeId):∀ (vs:List Value) (o:Nat) (cs:Array Value) (w:World),w.heap[g]?=some (.cells cs t (0,0))→o+vs.length≤cs.size →
  ∃ cs':Array Value,(w.setCells g o vs).heap[g]?=some (.cells cs' t (0,0))∧cs'.size=cs.size∧cs'.toList.take o=cs.toList.take o∧(cs'.toList.drop o).take vs.length=vs∧cs'.toList.drop (o+vs.length)=cs.toList.drop (o+vs.length):=by
 intro vs
 induction vs with
 | nil=>intro o cs w h _; exact ⟨cs,h,rfl,rfl,by simp,rfl⟩
 | cons v r ih =>
  intro o cs w h hfit
  simp only [List.length_cons] at hfit
  obtain ⟨cs',h1,h2,h3,h4,h5⟩:=ih (o+1) (cs.setIfInBounds o v) (w.setCell ⟨g,o,none⟩ v) (heap_setCell_same _ _ _ _ _ _ h) (by simp; omega)
  simp only [Array.size_setIfInBounds] at h2
  have hl:(cs.setIfInBounds o v).toList=cs.toList.set o v:=by simp
  rw [hl] at h3 h5
  have ho:o<cs'.toList.length:=by simp; omega
  have hget:cs'.toList[o]?=some v:=by
   have e1:(cs'.toList.take (o+1))[o]?=cs'.toList[o]?:=by rw [List.getElem?_take,if_pos (by omega)]
   rw [←e1,h3,List.getElem?_take,if_pos (by omega),List.getElem?_set]
   simp; omega
  refine ⟨cs',h1,h2,?_,?_,?_⟩
  ·have e2:(cs'.toList.take (o+1)).take o=cs'.toList.take o:=by rw [List.take_take]; congr 1; omega
   rw [←e2,h3,List.take_take,Nat.min_eq_left (by omega),List.take_set_of_le (by omega)]
  ·rw [List.drop_eq_getElem_cons ho]
   have e3:cs'.toList[o]=v:=by rw [List.getElem?_eq_getElem ho] at hget; exact Option.some.inj hget
   rw [e3,List.length_cons,List.take_succ_cons,h4]
  ·rw [List.length_cons,show o+(r.length+1)=o+1+r.length from by omega,h5,List.drop_set_of_lt (by omega)]
section
variable {P:Program} (w:World)
theorem Ad1 (base:Nat) (t tx ty e:TypeId) (z:Value) (size bytes:Nat) (ht:P.underlying t=some (.slice e))
  (hinfo:(P.info? e).map (fun i=>(i.zero,i.size,i.bytes))=some (some z,size,bytes)) (hzs:z.cells.size=size)
  (v:Value) (n:Nat) (xs:List Value) (hown:Seg w base e size v n xs) (x:Value) (m:Nat) (news:List Value) (hsrc:Src P size tx x m news w)
  (h63:n+m≤maxLen) (hbytes:(n+m)*bytes≤140737488355328) (hbase:base≤w.heap.size) :
  ∃ v' w',(Builtin.append_ #[t,tx] ty #[v,x]).run P w = .ok v' w'∧Seg w' base e size v' (n+m) (xs++news)∧w.grownBy w' v.ownBlock ∧
   (v'.ownBlock=v.ownBlock∨v'.ownBlock=some w.heap.size):=by
 obtain ⟨i,hi,hzz⟩:=Option.map_eq_some_iff.1 hinfo
 simp only [Prod.mk.injEq] at hzz
 obtain ⟨hz,rfl,rfl⟩:=hzz
 have hlen:(xs++news).length=(n+m)*i.size:=by rw [List.length_append,hown.1,hsrc.newsLen,Nat.add_mul]
 have hsmall:((n+m:Nat):Int)≤9223372036854775807:=by simp only [maxLen] at h63; omega
 have grow:∀ (b:Option Addr) (cap:Nat),cap<n+m→(Builtin.firstCells i.size n (.slice b n cap)).run P w.drew = .ok xs.toArray w.drew→v = .slice b n cap →
   ∃ v' w',(Builtin.append_ #[t,tx] ty #[v,x]).run P w = .ok v' w'∧Seg w' base e i.size v' (n+m) (xs++news)∧w.grownBy w' v.ownBlock∧(v'.ownBlock=v.ownBlock∨v'.ownBlock=some w.heap.size):=by
  rintro b cap hc hold rfl
  have hr:=run_append_grow_src (P:=P) w t tx ty e i z ht hi hz b n cap xs hold x m news hsrc hc hsmall (growslice_fits hc hbytes)
  refine ⟨_,_,hr,?_,⟨rfl,rfl,rfl,by simp,fun k hk _=>Below.heap_alloc w.drew _ k hk⟩,.inr rfl⟩
  ·have hge:=grownCap_ge w (n+m) cap e
   have hcm:=grownCap_le_maxLen w (n+m) cap e h63
   have hs:grownCap w (n+m) cap e*i.size≤((xs++news).toArray++Builtin.zeroCells z.cells (grownCap w (n+m) cap e - (n+m))).size:=by
    simp only [Array.size_append,List.size_toArray,size_zeroCells,hzs,hlen,←Nat.add_mul]
    rw [show n+m+(grownCap w (n+m) cap e - (n+m))=grownCap w (n+m) cap e from by omega]
    exact Nat.le_refl _
   have h1:=Seg.made (base:=base) (e:=e) (size:=i.size) w.drew _ (n+m) _ hbase hge hcm hs
   have h2:((xs++news).toArray++Builtin.zeroCells z.cells (grownCap w (n+m) cap e - (n+m))).toList.take ((n+m)*i.size)=xs++news:=by
    rw [Array.toList_append,←hlen]; exact List.take_left
   rw [h2] at h1
   exact h1
 rcases hown.2 with ⟨rfl,rfl⟩ | ⟨g,off,cap,cur,rfl,hbg,hg,hnc,hcm,hcs,htake⟩
 ·have hx:xs=[]:=List.eq_nil_of_length_eq_zero (by simpa using hown.1)
  subst hx
  by_cases hm:m=0
  ·subst hm
   have hn:news=[]:=List.eq_nil_of_length_eq_zero (by simpa using hsrc.newsLen)
   subst hn
   have hfc:=hsrc.cells
   refine ⟨.slice none 0 0,w,?_,Seg.nil w base e i.size,⟨rfl,rfl,rfl,Nat.le_refl _,fun _ _ _=>rfl⟩,.inl rfl⟩
   rcases hsrc.kind with ⟨e',hk⟩ | hk<;>simp [Builtin.append_,run_underlying ht,run_underlying hk,sizeOf,typeInfo,hi,hsrc.len,hfc]
  ·exact grow none 0 (by omega) (run_firstCells_none w.drew i.size 0 0 0) rfl
 ·by_cases hroom:n+m≤cap
  ·have hle:(n+m)*i.size≤cap*i.size:=Nat.mul_le_mul_right _ hroom
   have hnl:=hsrc.newsLen
   have hsplit:(n+m)*i.size=n*i.size+m*i.size:=Nat.add_mul ..
   have hc:∀ j,j<news.length→(w.cell? ⟨g,off+n*i.size+j,none⟩).isSome=true:=fun j hj=>by
    rw [cell_of_row w g _ cur e (0,0) hg,Array.getElem?_eq_getElem (by omega)]; rfl
   have hf:∀ j,j<news.length→w.frozen? ⟨g,off+n*i.size+j,none⟩=false:=fun j _=>frozen_of_row _ _ _ _ _ hg
   have hr:=run_append_room_src (P:=P) w t tx ty e i ht hi g off n cap x m news hsrc hroom hc hf
   obtain ⟨cs',h1,h2,h3,h4,h5⟩:=WQ g e news (off+n*i.size) cur w hg (by omega)
   refine ⟨_,_,hr,⟨hlen,.inr ⟨g,off,cap,cs',rfl,hbg,h1,hroom,hcm,by omega,?_⟩⟩,?_,.inl rfl⟩
   ·have e1:cs'.toList.drop off=(cs'.toList.take (off+n*i.size)).drop off++cs'.toList.drop (off+n*i.size):=by
     rw [List.drop_take,show off+n*i.size - off=n*i.size from by omega]
     have e2:cs'.toList.drop (off+n*i.size)=(cs'.toList.drop off).drop (n*i.size):=by rw [List.drop_drop]
     rw [e2,List.take_append_drop]
    have e3:(cur.toList.take (off+n*i.size)).drop off=xs:=by
     rw [List.drop_take,show off+n*i.size - off=n*i.size from by omega]; exact htake
    rw [e1,h3,e3,hsplit,List.take_append,hown.1,List.take_of_length_le (by rw [hown.1]; omega),show n*i.size+m*i.size - n*i.size=news.length from by omega,h4]
   ·have hgl:=(Array.getElem?_eq_some_iff.1 hg).1
    refine ⟨World.os_setCells ..,?_,World.output_setCells ..,?_,fun k hk hne=>World.heap_setCells_other w g _ _ hk (fun e=>hne (by rw [e]; rfl))⟩
    ·clear hr h1 hsrc hnl hc hf h4 h5 h3 hlen
     suffices h:∀ (vs:List Value) (o:Nat) (w:World),(w.setCells g o vs).tape=w.tape from h _ _ _
     intro vs
     induction vs with
     | nil=>intro o w; rfl
     | cons v r ih=>intro o w; exact (ih _ _).trans rfl
    ·clear hr h1 hsrc hnl hc hf h4 h5 h3 hlen
     suffices h:∀ (vs:List Value) (o:Nat) (w:World),w.heap.size≤(w.setCells g o vs).heap.size from h _ _ _
     intro vs
     induction vs with
     | nil=>intro o w; exact Nat.le_refl _
     | cons v r ih=>intro o w; exact Nat.le_trans (by simp [World.setCell]) (ih _ _)
  ·refine grow (some ⟨g,off,none⟩) cap (by omega) (run_firstCells_some w.drew i.size n ⟨g,off,none⟩ n cap xs hown.1 ?_) rfl
   intro j u hu
   rw [show (⟨g,off,none⟩:Addr).add j=⟨g,off+j,none⟩ from by simp [Addr.add]]
   exact hown.cells rfl j u hu
theorem F9 {ops:Array Oper} {rest:List Oper} {o:Oper} {a:Act} {Q:Exit→Act→World→Prop} (hgd:o.guard=none) (s x:Operand) (t tx:TypeId)
  (ho:o.op = .call { callee := .builtin .append,args := #[s,x],argTypes := #[t,tx] })
  (base:Nat) (e:TypeId) (z:Value) (size bytes:Nat) (ht:P.underlying t=some (.slice e))
  (hinfo:(P.info? e).map (fun i=>(i.zero,i.size,i.bytes))=some (some z,size,bytes)) (hzs:z.cells.size=size)
  (v:Value) (n:Nat) (xs:List Value) (hs:a.eval s=v) (hown:Seg w base e size v n xs)
  (vx:Value) (m:Nat) (news:List Value) (hx:a.eval x=vx) (hsrc:Src P size tx vx m news w)
  (h63:n+m≤maxLen) (hbytes:(n+m)*bytes≤140737488355328) (hbase:base≤w.heap.size)
  (h:∀ v' w',Seg w' base e size v' (n+m) (xs++news)→w.grownBy w' v.ownBlock→(v'.ownBlock=v.ownBlock∨v'.ownBlock=some w.heap.size)→wpList P ops Q rest (a.put o.dst v') w'):wpList P ops Q (o::rest) a w :=
 wpList_plain hgd fun K hK=>by
  obtain ⟨v',w',hr,h2,h3,h4⟩:=Ad1 (P:=P) w base t tx o.type e z size bytes ht hinfo hzs v n xs hown vx m news hsrc h63 hbytes hbase
  unfold Oper.wp execOp
  simp only [ho,resolve,invoke,builtin,Sem.run_bind,Sem.run_pure,Result.andThen_ok,List.map_toArray,List.map_cons,List.map_nil,hs,hx,hr]
  exact hK _ _ (h v' w' h2 h3 h4)
theorem Bs.srcOf {w:World} {a:Option Addr} {l:List UInt8} (h:Bs w a l) {tx e':TypeId} (hk:P.underlying tx=some (.slice e')) (c:Nat) (hn:a=none→c=c):Src P 1 tx (.slice a l.length c) l.length (bv l) w:=by
 cases a with
 | some ad =>
  refine Src.ofSlice w hk ad _ c (bv l) (by simp) (fun j u hu => ?_) (AjD l)
  by_cases hp:0<(bv l).length
  ·obtain ⟨ad',e1,h1⟩:=h.src hp
   cases e1; exact h1 j u hu
  ·rw [List.getElem?_eq_none (by omega)] at hu; cases hu
 | none =>
  have hl:l=[]:=by
   cases l with
   | nil=>rfl
   | cons x l=>obtain ⟨b,off,e,_⟩:=h 0 (by simp); cases e
  subst hl
  exact Src.ofNil w hk c
end
end Go.Proofs.YtnkpoloeifhflaaGreatDoor.Kit
namespace Go.Proofs.YtnkpoloeifhflaaGreatDoor.Kit
open Go.RowKit
structure Fr (S:Nat→Prop) (w w':World):Prop where
 os:w'.os=w.os
 tape:w'.tape=w.tape
 output:w'.output=w.output
 size:w.heap.size≤w'.heap.size
 block:∀ k,k<w.heap.size→¬ S k→w'.heap[k]?=w.heap[k]?
section
variable {S:Nat→Prop} {a b c w w':World}
theorem Fr.refl (S:Nat→Prop) (w:World):Fr S w w:=⟨rfl,rfl,rfl,Nat.le_refl _,fun _ _ _=>rfl⟩
theorem Fr.trans (h:Fr S a b) (k:Fr S b c):Fr S a c :=
 ⟨k.os.trans h.os,k.tape.trans h.tape,k.output.trans h.output,Nat.le_trans h.size k.size,fun i hi hn=>(k.block i (Nat.lt_of_lt_of_le hi h.size) hn).trans (h.block i hi hn)⟩
theorem Fr.then {T:Nat→Prop} (h:Fr S a b) (k:Fr T b c) (hT:∀ i,i<a.heap.size→T i→S i):Fr S a c :=
 ⟨k.os.trans h.os,k.tape.trans h.tape,k.output.trans h.output,Nat.le_trans h.size k.size,fun i hi hn=>(k.block i (Nat.lt_of_lt_of_le hi h.size) (fun t=>hn (hT i hi t))).trans (h.block i hi hn)⟩
theorem Fr.mono {T:Nat→Prop} (h:Fr S a b) (hT:∀ i,i<a.heap.size→S i→T i):Fr T a b:=⟨h.os,h.tape,h.output,h.size,fun i hi hn=>h.block i hi (fun s=>hn (hT i hi s))⟩
theorem Fr.of_keeps (h:AA a b) (S:Nat→Prop):Fr S a b:=⟨h.os,h.tape,h.output,h.size,fun i hi _=>h.block i hi⟩
theorem Fr.keeps (h:Fr S a b) (hS:∀ i,i<a.heap.size→¬ S i):AA a b:=⟨h.os,h.tape,h.output,h.size,fun i hi=>h.block i hi (hS i hi)⟩
theorem Fr.alloc (h:Fr S a b) (o:Obj):Fr S a (b.alloc o):=h.trans (Fr.of_keeps ((AA.refl b).alloc o) S)
theorem Fr.drewN (h:Fr S a b) (n:Nat):Fr S a (b.drewN n):=⟨h.os,h.tape,h.output,h.size,h.block⟩
theorem Fr.drew (h:Fr S a b):Fr S a b.drew:=⟨h.os,h.tape,h.output,h.size,h.block⟩
theorem Fr.setCell (h:Fr S a b) {p:Addr} (hp:S p.block∨a.heap.size≤p.block) (u:Value):Fr S a (b.setCell p u) :=
 ⟨h.os,h.tape,h.output,by simpa [World.setCell] using h.size,fun i hi hn=>(Below.heap_setCell b p u i (by
  rintro rfl
  rcases hp with hp | hp
  ·exact hn hp
  ·omega)).trans (h.block i hi hn)⟩
theorem Fr.grown (h:Fr S a b) {row:Option Nat} (k:b.grownBy c row) (hS:∀ i,row=some i→i<a.heap.size→S i):Fr S a c :=
 ⟨k.os.trans h.os,k.tape.trans h.tape,k.output.trans h.output,Nat.le_trans h.size k.size,fun i hi hn=>(k.block i (Nat.lt_of_lt_of_le hi h.size) (fun e=>hn (hS i e.symm hi))).trans (h.block i hi hn)⟩
theorem Fr.cell (h:Fr S w w') {p:Addr} (hn:¬ S p.block) {v:Value} (hv:w.cell? p=some v):w'.cell? p=some v:=by
 rw [World.cell?_of_block (w:=w) (h.block p.block (World.block_lt_of_cell? w p hv) hn)]; exact hv
theorem Arr.fr {g:Nat} {t:TypeId} {cs:List Value} (h:Arr w g t cs) (k:Fr S w w') (hn:¬ S g):Arr w' g t cs:=by
 unfold Arr; rw [k.block g h.lt hn]; exact h
theorem Seg.fr {base:Nat} {e:TypeId} {size:Nat} {v:Value} {n:Nat} {xs:List Value} (h:Seg w base e size v n xs) (k:Fr S w w') (hn:∀ i,v.ownBlock=some i→¬ S i):Seg w' base e size v n xs:=by
 refine ⟨h.1,?_⟩
 rcases h.2 with hx | ⟨g,off,cap,cur,rfl,hb,hgg,rest⟩
 ·exact .inl hx
 ·refine .inr ⟨g,off,cap,cur,rfl,hb,?_,rest⟩
  rw [k.block g (Array.getElem?_eq_some_iff.1 hgg).1 (hn g rfl)]
  exact hgg
theorem Bs.fr {x:Option Addr} {l:List UInt8} (h:Bs w x l) (k:Fr S w w') (hn:0<l.length→∀ p,x=some p→¬ S p.block):Bs w' x l:=fun j hj=>by
 obtain ⟨b,off,rfl,hc⟩:=h j hj
 exact ⟨b,off,rfl,k.cell (p:=⟨b,off+j,none⟩) (hn (by omega) ⟨b,off,none⟩ rfl) hc⟩
theorem Bs.lt {x:Option Addr} {l:List UInt8} (h:Bs w x l) (hl:0<l.length) (p:Addr) (hp:x=some p):p.block<w.heap.size:=by
 obtain ⟨b,off,e,hc⟩:=h 0 hl
 rw [hp] at e; cases e
 exact World.block_lt_of_cell? w _ hc
theorem Seg.form {base:Nat} {e:TypeId} {size:Nat} {v:Value} {n:Nat} {xs:List Value} (h:Seg w base e size v n xs) :
  ∃ x cap,v = .slice x n cap∧n≤cap∧cap≤9223372036854775807∧(0<cap→∃ b off,x=some ⟨b,off,none⟩∧base≤b∧b<w.heap.size):=by
 rcases h.shape with ⟨rfl,rfl,_⟩ | ⟨g,off,cap,rfl,hb,hlt,hn,hc⟩
 ·exact ⟨none,0,rfl,by omega,by omega,fun h=>absurd h (by omega)⟩
 ·exact ⟨_,cap,rfl,hn,hc,fun _=>⟨g,off,rfl,hb,hlt⟩⟩
theorem Seg.end0 {base:Nat} {e:TypeId} {size:Nat} {g off n cap:Nat} {xs:List Value} (h:Seg w base e size (.slice (some ⟨g,off,none⟩) n cap) n xs):Seg w base e size (.slice (some ⟨g,off,none⟩) 0 0) 0 []:=by
 rcases h.2 with ⟨h,_⟩ | ⟨g',off',cap',cur,hv,hb,hgg,hnc,hcm,hfit,htake⟩
 ·cases h
 ·simp only [Value.slice.injEq,Option.some.injEq,Addr.mk.injEq,and_true] at hv
  obtain ⟨⟨rfl,rfl⟩,_,rfl⟩:=hv
  exact ⟨by simp,.inr ⟨g,off,0,cur,rfl,hb,hgg,Nat.le_refl _,by omega,by omega,by simp⟩⟩
theorem Seg.bytes {base:Nat} {e:TypeId} {x:Option Addr} {n cap:Nat} {l:List UInt8} (h:Seg w base e 1 (.slice x n cap) n (bv l)):Bs w x l:=fun j hj=>by
 rcases h.shape with ⟨hv,_,hx⟩ | ⟨g,off,cap',hv,_⟩
 ·have:(bv l).length=0:=by rw [hx]; rfl
  rw [O0] at this; omega
 ·cases hv
  exact ⟨g,off,rfl,h.cells rfl j _ (A27 l j hj)⟩
theorem Seg.len {base:Nat} {e:TypeId} {v:Value} {n:Nat} {l:List UInt8} (h:Seg w base e 1 v n (bv l)):l.length=n:=by
 have:=h.1; rw [O0] at this; omega
theorem Seg.ne_arr {base:Nat} {e t:TypeId} {size:Nat} {v:Value} {n g:Nat} {xs cs:List Value} (h:Seg w base e size v n xs) (hg:Arr w g t cs) (hne:e≠t):v.ownBlock≠some g:=by
 intro hv
 rcases h.2 with ⟨rfl,_⟩ | ⟨g',off',cap',cur,rfl,_,hgg,_⟩
 ·cases hv
 ·cases hv
  unfold Arr at hg; rw [hgg] at hg
  simp only [Option.some.injEq,Obj.cells.injEq] at hg
  exact hne hg.2.1
end
theorem Arr.there {w:World} {b:Nat} {t:TypeId} {cs:List Value} (h:Arr w b t cs) (n:Nat) (hn:n≤cs.length):w.there b 0 n:=fun j hj=>by
 rw [Nat.zero_add,h.cell,List.getElem?_eq_getElem (by omega)]; exact ⟨rfl,h.frozen j⟩
theorem Arr.setAll {w:World} {b:Nat} {t:TypeId} {cs vs:List Value} (h:Arr w b t cs) (hl:vs.length=cs.length):Arr (w.setCells b 0 vs) b t vs:=by
 obtain ⟨cs',h1,h2,h3,h4,h5⟩:=WQ b t vs 0 cs.toArray w h (by simp; omega)
 have e:cs'=vs.toArray:=by
  apply Array.ext'
  simp only [List.size_toArray] at h2
  simp only [List.drop_zero] at h4
  rw [←h4,List.take_of_length_le (by simp; omega)]
 rw [e] at h1; exact h1
theorem AA.setCells {a:World} {g:Nat} (hg:a.heap.size≤g):∀ (vs:List Value) (o:Nat) (w:World),AA a w→AA a (w.setCells g o vs)
 | [],_,_,h=>h
 | v::r,o,w,h=>AA.setCells hg r (o+1) _ (Below.setCell h (p:=⟨g,o,none⟩) hg v)
theorem BhG {P:Program} {tx e':TypeId} (hk:P.underlying tx=some (.slice e')) (w:World) (size:Nat) (cs:Array Value) (t:TypeId) (hl:cs.size=size) (h1:∀ u∈cs.toList,u.oneCell'=true) :
  Src P size tx (.slice (some ⟨w.heap.size,0,none⟩) 1 1) 1 cs.toList (w.alloc (.cells cs t)):=by
 refine Src.ofSlice _ hk _ 1 1 cs.toList (by simp [hl]) (fun j u hu => ?_) h1
 rw [show (⟨w.heap.size,0,none⟩:Addr).add j=⟨w.heap.size,j,none⟩ from by (unfold Addr.add; split<;>simp_all)]
 rw [cell_of_row _ _ _ cs t (0,0) (heap_alloc_new w _)]
 simpa using hu
theorem AmR {P:Program} {tx e':TypeId} (hk:P.underlying tx=some (.slice e')) (w:World) (x:Value) (t:TypeId) (h1:x.oneCell'=true) :
  Src P 1 tx (.slice (some ⟨w.heap.size,0,none⟩) 1 1) 1 [x] (w.alloc (.cells #[x] t)) :=
 BhG hk w 1 #[x] t rfl (fun u hu=>by simp at hu; rw [hu]; exact h1)
theorem Aqh (m:List UInt8) (y:UInt8) {z:Int} (hz:z=(y.toNat:Int)):bv m++[.int .u8 z]=bv (m++[y]):=by subst hz; simp [bv]
theorem Adk (n:Nat):((UInt8.ofNat (n % 256)).toNat:Int)=(n:Int) % 256:=by
 rw [UInt8.toNat_ofNat']; omega
theorem Ij {a b:World} (h:a.grownBy b none):AA a b:=⟨h.os,h.tape,h.output,h.size,fun k hk=>h.block k hk (by simp)⟩
theorem BmD {W w1:World} (h:W.grownBy w1 none):(∀ b o,b<W.heap.size→w1.cell? ⟨b,o,none⟩=W.cell? ⟨b,o,none⟩)∧(∀ b o,b<W.heap.size→w1.frozen? ⟨b,o,none⟩=W.frozen? ⟨b,o,none⟩) :=
 ⟨fun b o hb=>World.cell?_of_block (h.block b hb (by simp)),fun b o hb=>World.frozen?_of_block (h.block b hb (by simp))⟩
theorem AdR {P:Program} (w:World) (base:Nat) (t tn ty e:TypeId) (z:Value) (bytes:Nat) (kq kn:IntKind) (ht:P.underlying t=some (.slice e)) (htn:P.underlying tn=some (.int kn))
  (hinfo:(P.info? e).map (fun i=>(i.zero,i.size,i.bytes))=some (some z,1,bytes)) (hzs:z.cells = #[z])
  (g off n:Nat) (xs:List Value) (hown:Seg w base e 1 (.slice (some ⟨g,off,none⟩) n n) n xs) (k:Nat) (h63:n+k≤maxLen) (hbytes:(n+k)*bytes≤140737488355328) :
  ∃ v' w',(Builtin.append_ #[t,tn] ty #[.slice (some ⟨g,off,none⟩) n n,.int kq k]).run P w = .ok v' w'∧Seg w' base e 1 v' (n+k) (xs++List.replicate k z)∧w.grownBy w' none:=by
 obtain ⟨i,hi,hzz⟩:=Option.map_eq_some_iff.1 hinfo
 simp only [Prod.mk.injEq] at hzz
 obtain ⟨hz,hs1,rfl⟩:=hzz
 have hsmall:((n+k:Nat):Int)≤9223372036854775807:=by simp only [maxLen] at h63; omega
 by_cases hk:k=0
 ·subst hk
  refine ⟨.slice (some ⟨g,off,none⟩) n n,w,?_,by simpa using hown,⟨rfl,rfl,rfl,Nat.le_refl _,fun _ _ _=>rfl⟩⟩
  have hw:IntKind.i64.wrap (0:Int)=0:=by rw [IntKind.wrap_i64]; omega
  simp [Builtin.append_,run_underlying ht,run_underlying htn,sizeOf,typeInfo,hi,asInt,asIntOf,hw,storeCells]
 ·have holds:∀ j u,xs[j]?=some u→w.drew.cell? ((⟨g,off,none⟩:Addr).add j)=some u:=fun j u hu=>by
   rw [show (⟨g,off,none⟩:Addr).add j=⟨g,off+j,none⟩ from by simp [Addr.add]]; exact hown.cells rfl j u hu
  have hxl:=hown.1
  have hold:=run_firstCells_some (P:=P) w.drew i.size n ⟨g,off,none⟩ n n xs (by rw [hs1]; exact hxl) holds
  have hkb:k*i.bytes≤(n+k)*i.bytes:=Nat.mul_le_mul_right _ (by omega)
  have hr:=Lib.run_append_grow_zeros (P:=P) w t tn ty e i z kq kn ht htn hi hz (some ⟨g,off,none⟩) n n xs hold k (by omega) (by omega) (by omega) hsmall (by omega) (growslice_fits (by omega) hbytes)
  refine ⟨_,_,hr,?_,⟨rfl,rfl,rfl,by simp,fun j hj _=>Below.heap_alloc w.drew _ j hj⟩⟩
  have hge:=grownCap_ge w (n+k) n e
  have hcm:=grownCap_le_maxLen w (n+k) n e h63
  have hbase:base≤w.drew.heap.size:=by
   rcases hown.2 with ⟨h,_⟩ | ⟨g',off',cap',cur,hv,hb,hgg,_⟩
   ·cases h
   ·exact Nat.le_trans hb (Nat.le_of_lt (Array.getElem?_eq_some_iff.1 hgg).1)
  have h1:=Seg.made (base:=base) (e:=e) (size:=1) w.drew (xs.toArray++Builtin.zeroCells z.cells k++Builtin.zeroCells z.cells (grownCap w (n+k) n e - (n+k))) (n+k) _ hbase hge hcm (by simp [size_zeroCells,hzs]; omega)
  have h2:(xs.toArray++Builtin.zeroCells z.cells k++Builtin.zeroCells z.cells (grownCap w (n+k) n e - (n+k))).toList.take ((n+k)*1)=xs++List.replicate k z:=by
   have hzl:(Builtin.zeroCells z.cells k).toList=List.replicate k z:=by
    apply List.ext_getElem?
    intro j
    rcases Nat.lt_or_ge j k with h | h<;>simp [Builtin.zeroCells,hzs,Nat.mod_one,h]<;>omega
   rw [Array.toList_append,Array.toList_append,hzl,Nat.mul_one]
   have hl:(xs++List.replicate k z).length=n+k:=by simp; omega
   simp only []
   rw [←hl]; exact List.take_left
  rw [h2] at h1
  exact h1
section
variable {P:Program} (w:World)
theorem Akk {ops:Array Oper} {o:Oper} {a:Act} {K:Act→World→Prop} {Q:Exit→Act→World→Prop} {E:Prop} (hgd:o.guard=none) (s x:Operand) (t tx:TypeId)
  (ho:o.op = .call { callee := .builtin .append,args := #[s,x],argTypes := #[t,tx] })
  (base:Nat) (e:TypeId) (z:Value) (size bytes:Nat) (ht:P.underlying t=some (.slice e))
  (hinfo:(P.info? e).map (fun i=>(i.zero,i.size,i.bytes))=some (some z,size,bytes)) (hzs:z.cells.size=size)
  (v:Value) (n:Nat) (xs:List Value) (hs:a.eval s=v) (hown:Seg w base e size v n xs)
  (vx:Value) (m:Nat) (news:List Value) (hx:a.eval x=vx) (hsrc:Src P size tx vx m news w)
  (h63:n+m≤maxLen) (hbytes:(n+m)*bytes≤140737488355328) (hbase:base≤w.heap.size)
  (h:∀ v' w',Seg w' base e size v' (n+m) (xs++news)→w.grownBy w' v.ownBlock→(v'.ownBlock=v.ownBlock∨v'.ownBlock=some w.heap.size)→K (a.put o.dst v') w') :
  if Region.wanted o (yielded ops a.tmps)=true then Oper.wp P o a w K Q else E:=by
 have hw:Region.wanted o (yielded ops a.tmps)=true:=by simp [Region.wanted,hgd]
 rw [if_pos hw]
 obtain ⟨v',w',hr,h2,h3,h4⟩:=Ad1 (P:=P) w base t tx o.type e z size bytes ht hinfo hzs v n xs hown vx m news hsrc h63 hbytes hbase
 unfold Oper.wp execOp
 simp only [ho,resolve,invoke,builtin,Sem.run_bind,Sem.run_pure,Result.andThen_ok,List.map_toArray,List.map_cons,List.map_nil,hs,hx,hr]
 exact h v' w' h2 h3 h4
end
end Go.Proofs.YtnkpoloeifhflaaGreatDoor.Kit
namespace Go.Proofs.YtnkpoloeifhflaaGreatDoor.Kit
open Go.RowKit
theorem Tryz.infoU8:(Tryz.prog.info? 5).map (fun i=>(i.zero,i.size,i.bytes))=some (some (.int .u8 0),1,1):=by kernel_rfl
end Go.Proofs.YtnkpoloeifhflaaGreatDoor.Kit
namespace Go.Proofs.YtnkpoloeifhflaaGreatDoor.Kit
open Go.RowKit
structure Dig (w:World) (base g:Nat) (vr:Value) (all:List UInt8):Prop where
 arr:Arr w g 177 (MJ (CY H0 all).1.list++[vr,.int .u64 ((all.length % 18446744073709551616:Nat):Int)])
 seg:Seg w base 5 1 vr (CY H0 all).2.length (bv (CY H0 all).2)
theorem Dig.fr {w w':World} {base g:Nat} {vr:Value} {all:List UInt8} {S:Nat→Prop} (h:Dig w base g vr all) (k:Fr S w w') (h1:¬ S g) (h2:∀ i,vr.ownBlock=some i→¬ S i):Dig w' base g vr all :=
 ⟨h.arr.fr k h1,h.seg.fr k h2⟩
structure A4i (all:List UInt8) (h:V5) (l:List UInt8):Prop where
 eq:CY h l=CY H0 all
 ok:h.ok
set_option maxRecDepth 100000 in
set_option maxHeartbeats 4000000 in
theorem Bnh (w:World):Calls Tryz.prog 59 #[] w fun e w'=>e = .returned (.pointer (some ⟨w.heap.size,0,none⟩))∧Dig w' 0 w.heap.size (.slice none 0 0) []∧AA w w':=by
 go_enter Tryz.func59,Tryz.ntmps59
 go_wp2
 go_ret
 refine ⟨rfl,⟨?_,Seg.nil _ _ _ _⟩,(AA.refl w).alloc _⟩
 exact Arr.new _ _ _
set_option maxRecDepth 100000 in
set_option maxHeartbeats 4000000 in
theorem Bja (g base:Nat) (vr:Value) (all:List UInt8) (a:Option Addr) (cap:Nat) (b:List UInt8) (w:World) (hD:Dig w base g vr all) (hb:Bs w a b) (hag:0<b.length→∀ p,a=some p→p.block≠g) (hbl:b.length≤1000000000) (hbase:base≤w.heap.size) :
  Calls Tryz.prog 60 #[.pointer (some ⟨g,0,none⟩),.slice a b.length cap] w fun e w' =>
   e = .returned (.tuple #[])∧∃ vr',Dig w' base g vr' (all++b)∧Fr (fun i=>i=g∨vr.ownBlock=some i) w w'∧(vr'.ownBlock=vr.ownBlock∨∃ i,w.heap.size≤i∧vr'.ownBlock=some i):=by
 obtain ⟨hA,hS⟩:=hD
 have hrl:=Aet H0 all
 have hok:=AjN H0 all Bip
 have hba:=Ang H0 all b
 generalize CY H0 all=B0 at *
 obtain ⟨h0,rest⟩:=B0
 simp only at hA hS hrl hok hba
 have hBA:A4i (all++b) h0 (rest++b):=⟨hba.symm,hok⟩
 clear hba hok
 have hne:vr.ownBlock≠some g:=hS.ne_arr hA (by decide)
 have c6:w.cell? ⟨g,6,none⟩=some (.int .u64 ((all.length % 18446744073709551616:Nat):Int)):=hA.cell 6
 have f6:=hA.frozen 6
 obtain ⟨sz,hsz⟩:∃ sz:Nat,sz=all.length % 18446744073709551616:=⟨_,rfl⟩
 rw [←hsz] at c6 hA
 have hszl:sz<18446744073709551616:=by omega
 have HSZ:=Lib.hid hsz; clear hsz
 go_enter Tryz.func60,Tryz.ntmps60
 have hgl:g<w.heap.size:=hA.lt
 go_upto_region 0 with (fail)
 go_cut [] (fun w1=>Arr w1 g 177 (MJ h0.list++[vr,.int .u64 (((sz+b.length) % 18446744073709551616:Nat):Int)])∧Fr (fun i=>i=g) w w1)
 case first =>
  go_wp2
  go_meet
  case rel =>
   refine ⟨?_,(Fr.refl (fun i=>i=g) w).setCell (p:=⟨g,6,none⟩) (.inl rfl) _⟩
   have h1:=hA.set 6 (.int .u64 (((sz+b.length) % 18446744073709551616:Nat):Int))
   rw [show IntKind.u64.wrap ((sz:Int)+(b.length:Int))=(((sz+b.length) % 18446744073709551616:Nat):Int) from by rw [IntKind.wrap_u64]; omega]
   exact h1
 case rest =>
  obtain ⟨hA1,hF1⟩:=hcut
  have hS1:Seg wc base 5 1 vr rest.length (bv rest):=hS.fr hF1 (fun i hi e=>hne (by rw [hi,e]))
  have hb1:Bs wc a b:=hb.fr hF1 (fun hl p hp e=>hag hl p hp e)
  have hsrc:Src Tryz.prog 1 26 (.slice a b.length cap) b.length (bv b) wc:=hb1.srcOf Tryz.underlying26 cap (fun _=>rfl)
  have c5:wc.cell? ⟨g,5,none⟩=some vr:=hA1.cell 5
  obtain ⟨szb,hszb⟩:∃ z:Nat,z=(sz+b.length) % 18446744073709551616:=⟨_,rfl⟩
  rw [←hszb] at hA1
  have HSB:=Lib.hid hszb; clear hszb
  clear c6 f6
  obtain ⟨wa,rfl⟩:∃ wa:World,wa=wc:=⟨_,rfl⟩
  have hsza:w.heap.size≤wa.heap.size:=hF1.size
  go_upto_region 1 with (fail)
  go_cut [] (fun w2=>∃ vr1,Arr w2 g 177 (MJ h0.list++[vr1,.int .u64 (szb:Int)])∧Seg w2 base 5 1 vr1 (rest++b).length (bv (rest++b))∧Fr (fun i=>i=g∨vr.ownBlock=some i) w w2∧(vr1.ownBlock=vr.ownBlock∨∃ i,w.heap.size≤i∧vr1.ownBlock=some i))
  case first =>
   go_wp2_with (at_builtin; go_must (refine F9 _ rfl (.tmp 18) (.tmp 19) 26 26 rfl base 5 (.int .u8 0) 1 1 Tryz.underlying26 Tryz.infoU8 rfl vr _ _ rfl hS1 _ _ _ rfl hsrc ?c1 ?c2 ?c3 ?_))
   case c1=>unfold maxLen; omega
   case c2=>omega
   case c3=>omega
   intro v' w2 hS2 hg2 ho2
   have hA2:Arr w2 g 177 (MJ h0.list++[vr,.int .u64 (szb:Int)]):=hA1.grown hg2 (fun e=>hne e.symm)
   have hne2:=hS2.ne_arr hA2 (by decide)
   have c5':w2.cell? ⟨g,5,none⟩=some vr:=hA2.cell 5
   have f5':=hA2.frozen 5
   obtain ⟨x1,cap1,rfl,hnc1,hcm1,hx1⟩:=hS2.form
   go_wp2
   go_meet
   case rel =>
    go_light
    refine ⟨_,hA2.set 5 (.slice x1 (rest.length+b.length) cap1),?_,?_,?_⟩
    ·have h3:=hS2.fr (S:=fun i=>i=g) ((Fr.refl (fun i=>i=g) w2).setCell (p:=⟨g,5,none⟩) (.inl rfl) (.slice x1 (rest.length+b.length) cap1)) (fun i hi e=>hne2 (by rw [hi,e]))
     rw [show bv (rest++b)=bv rest++bv b from by simp [bv],List.length_append]
     exact h3
    ·refine Fr.setCell (Fr.grown (hF1.mono (fun i _ e => .inl e)) hg2 (fun i hi _ => .inr hi)) (p:=⟨g,5,none⟩) (.inl (.inl rfl)) _
    ·rcases ho2 with h | h
     ·exact .inl h
     ·exact .inr ⟨_,hsza,h⟩
  case rest =>
   clear c5 hsrc hb1 hS1 hA1
   obtain ⟨vr1,hA2,hS2,hF2,ho2⟩:=hcut
   obtain ⟨wd,rfl⟩:∃ wd:World,wd=wc:=⟨_,rfl⟩
   go_wp2
   go_loopg [] ((rest++b).length) (fun n wr=>∃ h l v,l.length≤n∧Arr wr g 177 (MJ h.list++[v,.int .u64 (szb:Int)])∧Seg wr base 5 1 v l.length (bv l)∧A4i (all++b) h l∧Fr (fun i=>i=g∨vr.ownBlock=some i) w wr∧v.ownBlock=vr1.ownBlock)
   case atStart=>exact ⟨h0,rest++b,vr1,Nat.le_refl _,hA2,hS2,hBA,hF2,rfl⟩
   case round =>
    clear hA2 hS2 hBA hF2
    obtain ⟨h,l,v,hln,hA2,hS2,hB,hF2,ho⟩:=hrel
    obtain ⟨x,capx,rfl,hnc,hcm,hx⟩:=hS2.form
    have c5:wr.cell? ⟨g,5,none⟩=some (.slice x l.length capx):=hA2.cell 5
    have f5:=hA2.frozen 5
    have hne2:=hS2.ne_arr hA2 (by decide)
    by_cases hlong:64≤l.length
    ·obtain ⟨bb,off,rfl,hbb,hbw⟩:=hx (by omega)
     have hbt:Bs wr (some ⟨bb,off,none⟩) (l.take 64):=hS2.bytes.take 64
     go_wp2_with fail
     (with_reducible refine (block _ _ _ _ _ _ _ _ hB.ok hbt (by simp; omega) hA2).mono ?_)
     rintro e w3 ⟨rfl,hA3,hg3⟩
     have hS3:Seg w3 base 5 1 (.slice (some ⟨bb,off,none⟩) l.length capx) l.length (bv l):=hS2.kept hg3 (.inr hne2)
     have hszr:wr.heap.size≤w3.heap.size:=hg3.size
     have c5':w3.cell? ⟨g,5,none⟩=some (.slice (some ⟨bb,off,none⟩) l.length capx):=hA3.cell 5
     have f5':=hA3.frozen 5
     have hB2:A4i (all++b) (blk h (l.take 64)) (l.drop 64):=⟨by rw [←hB.eq,Sj _ _ hlong],Ap8 _ _⟩
     have hdl:(l.drop 64).length=l.length - 64:=by simp
     have HDL:=Lib.hid hdl; clear hdl
     generalize blk h (l.take 64)=h' at *
     clear c5 f5
     by_cases hcc:capx=64
     ·have hl64:l.length=64:=by omega
      have HL:=Lib.hid hl64; clear hl64
      go_wp2
      go_roundg 0
      case measure=>have:=HL.out; omega
      case rel =>
       go_light
       have hnil:l.drop 64=[]:=List.eq_nil_of_length_eq_zero (by rw [HDL.out,HL.out])
       have e0:l.length - 64=0:=by have:=HL.out; omega
       rw [e0]
       refine ⟨h',l.drop 64,.slice (some ⟨bb,off,none⟩) 0 0,by rw [hnil]; exact Nat.le_refl _,hA3.set 5 _,?_,hB2,?_,ho⟩
       ·rw [hnil]
        exact hS3.end0.fr ((Fr.refl (fun i=>i=g) w3).setCell (p:=⟨g,5,none⟩) (.inl rfl) _) (fun i hi e=>hne2 (by rw [←e]; exact hi))
       ·exact Fr.setCell (hF2.grown hg3 (fun i hi _=>by cases hi; exact .inl rfl)) (p:=⟨g,5,none⟩) (.inl (.inl rfl)) _
     ·have hcc2:64<capx:=by omega
      clear hcc
      go_wp2
      go_roundg (l.length - 64)
      case measure=>omega
      case rel =>
       go_light
       refine ⟨h',l.drop 64,.slice (some ⟨bb,off+64,none⟩) (l.length - 64) (capx - 64),by rw [HDL.out]; omega,hA3.set 5 _,?_,hB2,?_,ho⟩
       ·rw [HDL.out,show bv (l.drop 64)=(bv l).drop (64*1) from by simp [bv]]
        exact (hS3.drop rfl 64 hlong).fr ((Fr.refl (fun i=>i=g) w3).setCell (p:=⟨g,5,none⟩) (.inl rfl) _) (fun i hi e=>hne2 (by rw [←e]; exact hi))
       ·exact Fr.setCell (hF2.grown hg3 (fun i hi _=>by cases hi; exact .inl rfl)) (p:=⟨g,5,none⟩) (.inl (.inl rfl)) _
    ·go_wp2
     go_end0
     have he:=hB.eq
     rw [JO _ _ (by omega)] at he
     refine ⟨rfl,.slice x l.length capx,⟨?_,?_⟩,hF2,?_⟩
     ·rw [←he]
      have e:(all++b).length % 18446744073709551616=szb:=by rw [HSB.out,HSZ.out,List.length_append]; omega
      rw [e]; exact hA2
     ·rw [←he]; exact hS2
     ·rw [ho]; exact ho2
end Go.Proofs.YtnkpoloeifhflaaGreatDoor.Kit
namespace Go.Proofs.YtnkpoloeifhflaaGreatDoor.Kit
open Go.RowKit
set_option maxRecDepth 100000 in
set_option maxHeartbeats 4000000 in
theorem BmV (g base:Nat) (vr:Value) (all:List UInt8) (w:World) (hD:Dig w base g vr all) (hlen:all.length≤100000000000) :
  Calls Tryz.prog 61 #[.pointer (some ⟨g,0,none⟩)] w fun e w'=>e = .returned (.agg (bv (sha all)).toArray)∧AA w w':=by
 obtain ⟨hA,hS⟩:=hD
 obtain ⟨x0,cap0,rfl,hn0,hc0,hx0⟩:=hS.form
 have hrl:=Aet H0 all
 obtain ⟨sz,hsz⟩:∃ sz:Nat,sz=all.length % 18446744073709551616:=⟨_,rfl⟩
 have hszl:sz<18446744073709551616:=by omega
 rw [←hsz] at hA
 obtain ⟨hh,hhE⟩:∃ hh,hh=(CY H0 all).1:=⟨_,rfl⟩
 obtain ⟨rr,hrE⟩:∃ rr,rr=(CY H0 all).2:=⟨_,rfl⟩
 rw [←hhE] at hA
 rw [←hrE] at hS hrl hn0 hA
 have HE:=Lib.hid (And.intro hsz (And.intro hhE hrE))
 clear hsz hhE hrE
 have hgl:g<w.heap.size:=hA.lt
 have c0:w.cell? ⟨g,0,none⟩=some (.int .u32 hh.a):=hA.cell 0
 have c1:w.cell? ⟨g,1,none⟩=some (.int .u32 hh.b):=hA.cell 1
 have c2:w.cell? ⟨g,2,none⟩=some (.int .u32 hh.c):=hA.cell 2
 have c3:w.cell? ⟨g,3,none⟩=some (.int .u32 hh.d):=hA.cell 3
 have c4:w.cell? ⟨g,4,none⟩=some (.int .u32 hh.e):=hA.cell 4
 have c5:w.cell? ⟨g,5,none⟩=some (.slice x0 rr.length cap0):=hA.cell 5
 have c6:w.cell? ⟨g,6,none⟩=some (.int .u64 (sz:Int)):=hA.cell 6
 go_enter Tryz.func61,Tryz.ntmps61
 go_upto_region 1 with (fail)
 go_cut [3] (fun c wc=>∃ gc vr2,c = .pointer (some ⟨gc,0,none⟩)∧w.heap.size≤gc∧(∀ i,vr2.ownBlock=some i→w.heap.size≤i)∧Dig wc w.heap.size gc vr2 all∧AA w wc∧Arr wc w.heap.size 24 (z8 20))
 case first =>
  have mk:∀ (W:World) (gc:Nat) (v:Value),Arr W gc 177 (MJ hh.list++[v,.int .u64 (sz:Int)])→Seg W w.heap.size 5 1 v rr.length (bv rr)→Dig W w.heap.size gc v all:=by
   intro W gc v h1 h2
   obtain ⟨e1,e2,e3⟩:=HE.out
   exact ⟨by rw [←e2,←e1]; exact h1,by rw [←e3]; exact h2⟩
  have hgl2:g<w.heap.size+1:=by omega
  have hgn1:¬ g=w.heap.size+1:=by omega
  have hgn2:¬ w.heap.size+1=g:=by omega
  have hgl3:g<w.heap.size+1+1:=by omega
  go_region_held3 (fun w'=>w'.cell? ⟨g,0,none⟩=some (.int .u32 hh.a)∧w'.cell? ⟨g,1,none⟩=some (.int .u32 hh.b)∧w'.cell? ⟨g,2,none⟩=some (.int .u32 hh.c)∧w'.cell? ⟨g,3,none⟩=some (.int .u32 hh.d)∧w'.cell? ⟨g,4,none⟩=some (.int .u32 hh.e)∧w'.cell? ⟨g,5,none⟩=some (.slice x0 rr.length cap0)∧w'.cell? ⟨g,6,none⟩=some (.int .u64 (sz:Int)))
   (first
    | go_keep)
   ((refine Akk _ (by rfl) (.const (.slice none 0 0)) (.tmp 16) 26 26 (by rfl) w.heap.size 5 (.int .u8 0) 1 1 Tryz.underlying26 Tryz.infoU8 rfl (.slice none 0 0) 0 [] (by rfl) (Seg.nil _ _ _ _) (.slice x0 rr.length cap0) rr.length (bv rr) (by rfl) (by exact Bs.srcOf (Bs.keep hS.bytes (by first | exact AA.drew ((AA.refl w).alloc _) | exact AA.drew (((AA.refl w).alloc _).alloc _))) Tryz.underlying26 cap0 (fun _=>rfl)) (by unfold maxLen; omega) (by omega) (by simp<;>omega) ?_; intro v1 w1 hS1 hg1 ho1; obtain ⟨hcw,hfw⟩:=BmD hg1; obtain ⟨x1,cap1,rfl,hn1,hc1,hx1⟩:=hS1.form; have h9:=hg1.size; simp at h9; have hgl1:g<w1.heap.size:=by omega))
  ·go_wp2
   go_meet
   case rel =>
    go_light
    have hk1:AA w w1:=AA.trans (AA.drew ((AA.refl w).alloc _)) (Ij hg1)
    simp only [Nat.zero_add,List.nil_append] at hS1
    refine ⟨_,.slice x1 rr.length cap1,rfl,Below.size hk1,fun i hi=>(hS1.lt i hi).1,mk _ _ _ (Arr.new _ _ _) (hS1.alloc _),hk1.alloc _,Arr.alloc (Arr.keep (Arr.drew (Arr.new w _ _)) (Ij hg1)) _⟩
  ·go_wp2
   go_meet
   case rel =>
    go_light
    have hk0:AA w _:=AA.drew (((AA.refl w).alloc (.cells #[.int .u8 0,.int .u8 0,.int .u8 0,.int .u8 0,.int .u8 0,.int .u8 0,.int .u8 0,.int .u8 0,.int .u8 0,.int .u8 0,.int .u8 0,.int .u8 0,.int .u8 0,.int .u8 0,.int .u8 0,.int .u8 0,.int .u8 0,.int .u8 0,.int .u8 0,.int .u8 0] 24)).alloc (.cells #[.int .u32 0,.int .u32 0,.int .u32 0,.int .u32 0,.int .u32 0,.slice none 0 0,.int .u64 0] 177))
    have hk1:AA w w1:=AA.trans hk0 (Ij hg1)
    simp only [Nat.zero_add,List.nil_append] at hS1
    have hA0:Arr w1 (w.heap.size+1) 177 [.int .u32 0,.int .u32 0,.int .u32 0,.int .u32 0,.int .u32 0,.slice none 0 0,.int .u64 0]:=Arr.keep (Arr.drewN (Arr.newAt _ _ _ _ (by simp)) 1) (Ij hg1)
    have hne1:=hS1.ne_arr hA0 (by decide)
    have hI0:Arr w1 w.heap.size 24 (z8 20):=Arr.keep (Arr.drew (Arr.alloc (Arr.new w _ _) _)) (Ij hg1)
    have hin:w.heap.size≠w.heap.size+1:=by omega
    refine ⟨w.heap.size+1,.slice x1 rr.length cap1,rfl,by omega,fun i hi=>(hS1.lt i hi).1,mk _ _ _ (((((((hA0.set 0 _).set 1 _).set 2 _).set 3 _).set 4 _).set 5 _).set 6 _) (hS1.fr (S:=fun i=>i=w.heap.size+1) (Fr.setCell (Fr.setCell (Fr.setCell (Fr.setCell (Fr.setCell (Fr.setCell (Fr.setCell (Fr.refl (fun i=>i=w.heap.size+1) w1) (p:=⟨w.heap.size+1,0,none⟩) (.inl rfl) _) (p:=⟨w.heap.size+1,1,none⟩) (.inl rfl) _) (p:=⟨w.heap.size+1,2,none⟩) (.inl rfl) _) (p:=⟨w.heap.size+1,3,none⟩) (.inl rfl) _) (p:=⟨w.heap.size+1,4,none⟩) (.inl rfl) _) (p:=⟨w.heap.size+1,5,none⟩) (.inl rfl) _) (p:=⟨w.heap.size+1,6,none⟩) (.inl rfl) _) (fun i hi e=>hne1 (by rw [hi,e]))),?_,(((((((hI0.other _ _ hin).other _ _ hin).other _ _ hin).other _ _ hin).other _ _ hin).other _ _ hin).other _ _ hin)⟩
    have hle:w.heap.size≤w.heap.size+1:=by omega
    exact Below.setCell (Below.setCell (Below.setCell (Below.setCell (Below.setCell (Below.setCell (Below.setCell hk1 (p:=⟨w.heap.size+1,0,none⟩) hle _) (p:=⟨w.heap.size+1,1,none⟩) hle _) (p:=⟨w.heap.size+1,2,none⟩) hle _) (p:=⟨w.heap.size+1,3,none⟩) hle _) (p:=⟨w.heap.size+1,4,none⟩) hle _) (p:=⟨w.heap.size+1,5,none⟩) hle _) (p:=⟨w.heap.size+1,6,none⟩) hle _
 case rest =>
  clear hA hS hx0 hc0 hn0 hgl c0 c1 c2 c3 c4 c5 c6
  obtain ⟨gc,vr2,rfl,hgc,hvr2,hD2,hk2,hI2⟩:=hcut
  obtain ⟨wa,rfl⟩:∃ wa:World,wa=wc:=⟨_,rfl⟩
  have c6:wa.cell? ⟨gc,6,none⟩=some (.int .u64 (sz:Int)):=by rw [HE.out.1]; exact hD2.arr.cell 6
  have hgcl:=hD2.arr.lt
  have hszw:w.heap.size≤wa.heap.size:=Below.size hk2
  obtain ⟨k,hk⟩:∃ k:Nat,k=(119 - sz % 64) % 64:=⟨_,rfl⟩
  have hk64:k<64:=by omega
  have s1:((119:Int) - (sz:Int) % 64) % 64=(k:Int):=by omega
  have HK:=Lib.hid hk; clear hk
  have hseg0:Seg (wa.alloc (.cells #[.int .u8 128] 5)) wa.heap.size 5 1 (.slice (some ⟨wa.heap.size,0,none⟩) 1 1) 1 [.int .u8 128]:=Seg.made wa #[.int .u8 128] 1 1 (Nat.le_refl _) (Nat.le_refl _) (by unfold maxLen; omega) (Nat.le_refl _)
  have hmkz:=AdR (P:=Tryz.prog) _ wa.heap.size 26 3 26 5 (.int .u8 0) 1 .i64 .i64 Tryz.underlying26 Tryz.underlying3 Tryz.infoU8 rfl wa.heap.size 0 1 [.int .u8 128] hseg0 k (by unfold maxLen; omega) (by omega)
  obtain ⟨v',w1,hr,hS1,hg1⟩:=hmkz
  rw [←s1] at hr
  have HR:=Lib.hid hr; clear hr hseg0 s1
  go_upto_region 3 with (fail)
  go_cut [5] (fun v wr=>v=v'∧wr=w1)
  case first =>
   go_wp2_with (at_builtin; go_must (refine Lib.wpList_append_run _ rfl (.tmp 26) (.tmp 32) 26 3 rfl _ _ rfl rfl v' w1 HR.out ?_))
   go_wp2
   go_meet
   case rel=>exact ⟨rfl,rfl⟩
  case rest =>
   obtain ⟨rfl,rfl⟩:=hcut
   have hkw:AA wa wc:=AA.trans ((AA.refl wa).alloc _) (Ij hg1)
   have hsp:Seg wc wa.heap.size 5 1 u5 (1+k) (bv (128::List.replicate k 0)):=by
    have e:bv (128::List.replicate k 0)=[Value.int .u8 128]++List.replicate k (Value.int .u8 0):=by simp [bv]
    rw [e]; exact hS1
   clear hg1 hS1 HR c6
   obtain ⟨nn,hnn⟩:∃ nn:Nat,nn=sz*8 % 18446744073709551616:=⟨_,rfl⟩
   have hn4:IntKind.u64.wrap ((sz:Int)*8)=(nn:Int):=by rw [IntKind.wrap_u64]; omega
   have hnl:nn<18446744073709551616:=by omega
   have HN:=Lib.hid hnn; clear hnn
   rw [hn4]
   clear hn4
   obtain ⟨wb,rfl⟩:∃ wb:World,wb=wc:=⟨_,rfl⟩
   go_upto_block 0 with (fail)
   go_cut [5] (fun v wr=>∃ m:List UInt8,m=128::List.replicate k 0++be8 nn∧Seg wr wa.heap.size 5 1 v m.length (bv m)∧AA wa wr)
   case first =>
    go_wp2
    go_loopg [5,6,34] 8 (fun gn v _ iv wr=>∃ (i:Nat) (m:List UInt8),i≤8∧8≤i+gn∧iv = .int .i64 i∧Hid (m=128::List.replicate k 0++(be8 nn).take i)∧Seg wr wa.heap.size 5 1 v m.length (bv m)∧AA wa wr)
    case atStart=>exact ⟨0,128::List.replicate k 0,by omega,by omega,rfl,by simp [Hid],by simpa [Nat.add_comm] using hsp,hkw⟩
    case round =>
     clear hsp hkw
     obtain ⟨i,m,hi,hig,rfl,hm,hsp,hkw⟩:=hrel
     by_cases hlt:i<8
     ·have hmi:(i:Int)<8:=by omega
      have hml:m.length≤1000:=by rw [hm.out]; simp [NY]; omega
      go_wp2_with (at_builtin; go_must (refine F9 _ rfl (.tmp 37) (.tmp 44) 26 26 rfl wa.heap.size 5 (.int .u8 0) 1 1 Tryz.underlying26 Tryz.infoU8 rfl _ _ _ rfl (hsp.alloc _) _ 1 [_] rfl (AmR Tryz.underlying26 _ _ _ rfl) ?c1 ?c2 ?c3 ?_))
      case c1=>unfold maxLen; omega
      case c2=>omega
      case c3=>exact Nat.le_trans (Below.size hkw) (by simp)
      intro v2 w2 hS2 hg2 ho2
      have hkw2:AA wa w2:=by
       refine Below.grown (hkw.alloc _) hg2 (Nat.le_trans (Below.size hkw) (by simp)) (fun j hj=>(hsp.lt j hj).1)
      have e8:=Adk (nn / 2 ^ (56 - 8*i))
      have hb8:=Aqk nn i hlt
      generalize hy:UInt8.ofNat (nn / 2 ^ (56 - 8*i) % 256)=y at *
      have HY:=Lib.hid (And.intro e8 hb8)
      clear e8 hb8 hy
      go_wp2
      go_roundg (gk - 1)
      case measure=>omega
      case rel =>
       go_light
       refine ⟨i+1,m++[y],by omega,by omega,by go_num,?_,?_,hkw2⟩
       ·show m++[y]=_
        rw [HY.out.2,←List.append_assoc,←hm.out]
       ·rw [Aqh m y (by rw [HY.out.1]; rfl)] at hS2
        rw [List.length_append]; exact hS2
     ·go_wp2
      go_meet
      case rel =>
       go_light
       refine ⟨m,?_,hsp,hkw⟩
       rw [hm.out,List.take_of_length_le (by rw [NY]; omega)]
   case rest =>
    clear hsp hkw
    obtain ⟨m,hm,hsp,hkw⟩:=hcut
    have hpad:m=Ago all.length:=by
     rw [hm,Ago,HN.out,HK.out,HE.out.1]
     rw [show all.length % 18446744073709551616 % 64=all.length % 64 from by omega,show all.length % 18446744073709551616*8 % 18446744073709551616=all.length*8 % 18446744073709551616 from by omega]
    have HP:=Lib.hid hpad
    have hml:m.length≤1000:=by rw [hm]; simp [NY]; omega
    clear hm hpad
    obtain ⟨x5,cap5,rfl,hn5,hc5,hx5⟩:=hsp.form
    have hD3:=hD2.fr (S:=fun _=>False) (Fr.of_keeps hkw _) (fun h=>h) (fun _ _ h=>h)
    have hag:0<m.length→∀ p,x5=some p→p.block≠gc:=by
     intro _ p hp e
     have h1:=(hsp.lt p.block (by rw [hp]; rfl)).1
     omega
    obtain ⟨we,rfl⟩:∃ we:World,we=wc:=⟨_,rfl⟩
    have hszb:wa.heap.size≤we.heap.size:=Below.size hkw
    go_wp2_with fail
    (with_reducible refine (Bja _ _ _ _ _ _ _ _ hD3 hsp.bytes hag (by omega) (by omega)).mono ?_)
    rintro e w4 ⟨rfl,vr4,hD4,hF4,_⟩
    have hk4:AA w w4:=((Fr.of_keeps (AA.trans hk2 hkw) (fun _=>False)).then hF4 (fun i hi h=>by
     rcases h with h | h
     ·omega
     ·have:=hvr2 i h; omega)).keeps (fun _ _ h=>h)
    have hI4:Arr w4 w.heap.size 24 (z8 20):=(hI2.keep hkw).fr hF4 (fun h=>by
     rcases h with h | h
     ·exact hI2.ne hD2.arr (by decide) h
     ·exact hD2.seg.ne_arr hI2 (by decide) h)
    rw [HP.out] at hD4
    have hA4:=hD4.arr
    have hV:(CY H0 (all++Ago all.length)).1.ok:=AjN _ _ Bip
    have hsha:sha all=Hl (CY H0 (all++Ago all.length)).1:=rfl
    have HS:=Lib.hid hsha; clear hsha
    generalize (CY H0 (all++Ago all.length)).1=V at *
    clear hD4 hF4 hD3 hsp hD2 hkw hag hx5
    go_upto_block 2 with (fail)
    have hid0:Arr (w4.alloc (.cells #[.int .u8 0,.int .u8 0,.int .u8 0,.int .u8 0,.int .u8 0,.int .u8 0,.int .u8 0,.int .u8 0,.int .u8 0,.int .u8 0,.int .u8 0,.int .u8 0,.int .u8 0,.int .u8 0,.int .u8 0,.int .u8 0,.int .u8 0,.int .u8 0,.int .u8 0,.int .u8 0] 24)) w4.heap.size 24 (bv ((Hl V).take 0)++z8 (20 - 0)):=Arr.new _ _ _
    have hA5:=hA4.alloc (.cells #[.int .u8 0,.int .u8 0,.int .u8 0,.int .u8 0,.int .u8 0,.int .u8 0,.int .u8 0,.int .u8 0,.int .u8 0,.int .u8 0,.int .u8 0,.int .u8 0,.int .u8 0,.int .u8 0,.int .u8 0,.int .u8 0,.int .u8 0,.int .u8 0,.int .u8 0,.int .u8 0] 24)
    have hI5:=hI4.alloc (.cells #[.int .u8 0,.int .u8 0,.int .u8 0,.int .u8 0,.int .u8 0,.int .u8 0,.int .u8 0,.int .u8 0,.int .u8 0,.int .u8 0,.int .u8 0,.int .u8 0,.int .u8 0,.int .u8 0,.int .u8 0,.int .u8 0,.int .u8 0,.int .u8 0,.int .u8 0,.int .u8 0] 24)
    have hk5:=hk4.alloc (.cells #[.int .u8 0,.int .u8 0,.int .u8 0,.int .u8 0,.int .u8 0,.int .u8 0,.int .u8 0,.int .u8 0,.int .u8 0,.int .u8 0,.int .u8 0,.int .u8 0,.int .u8 0,.int .u8 0,.int .u8 0,.int .u8 0,.int .u8 0,.int .u8 0,.int .u8 0,.int .u8 0] 24)
    have l4:=hA4.lt
    have l5:=hI4.lt
    have hk4s:w.heap.size≤w4.heap.size:=Below.size hk4
    go_cut [] (fun wr=>Arr wr w4.heap.size 24 (bv (Hl V))∧Arr wr w.heap.size 24 (z8 20)∧AA w wr)
    case first =>
     go_wp2
     go_loopg [8,49] 20 (fun gn _ iv wr=>∃ i:Nat,i≤20∧20≤i+gn∧iv = .int .i64 i∧Arr wr w4.heap.size 24 (bv ((Hl V).take i)++z8 (20 - i))∧Arr wr gc 177 (MJ V.list++[vr4,.int .u64 (((all++Ago all.length).length % 18446744073709551616:Nat):Int)])∧Arr wr w.heap.size 24 (z8 20)∧AA w wr)
     case atStart=>exact ⟨0,by omega,by omega,rfl,hid0,hA5,hI5,hk5⟩
     case round =>
      clear hid0 hA5 hI5 hk5 hA4 hI4 hk4
      obtain ⟨i,hi,hig,rfl,hid,hA,hI,hk⟩:=hrel
      by_cases hlt:i<20
      ·have hmi:(i:Int)<20:=by omega
       have hq4:(i:Int) / 4<5:=by omega
       have ci:wr.cell? ⟨w4.heap.size,i,none⟩=some (.int .u8 0):=by rw [hid.cell]; exact AqU V i hlt
       have fi:=hid.frozen i
       have ch:wr.cell? ⟨gc,i / 4,none⟩=some (.int .u32 ((V.list.getD (i / 4) 0:Nat):Int)):=by
        rw [hA.cell,List.getElem?_append_left (by simp [V5.list]; omega)]; exact AgT V _ (by omega)
       have hbv:=hV.get (i / 4)
       have e8:=Adk (V.list.getD (i / 4) 0 / 2 ^ (24 - 8*(i % 4)))
       have hb8:=AlR V i hlt
       generalize hy:UInt8.ofNat (V.list.getD (i / 4) 0 / 2 ^ (24 - 8*(i % 4)) % 256)=y at *
       have HY:=Lib.hid (And.intro e8 hb8)
       clear e8 hb8 hy
       generalize V.list.getD (i / 4) 0=q at *
       go_wp2
       go_roundg (gk - 1)
       case measure=>omega
       case rel =>
        go_light
        have n1:gc≠w4.heap.size:=by omega
        have n2:w.heap.size≠w4.heap.size:=by omega
        refine ⟨i+1,by omega,by omega,by go_num,?_,hA.other _ _ n1,hI.other _ _ n2,Below.setCell hk (p:=⟨w4.heap.size,i,none⟩) (by show w.heap.size≤w4.heap.size; omega) _⟩
        have h5:=hid.set i (.int .u8 ((q:Int) / 2 ^ (24 - 8*(i % 4)) % 256))
        rw [Be0 V i hlt HY.out.2 (by rw [HY.out.1]; rfl)] at h5
        exact h5
      ·have HI:=Lib.hid (show i=20 by omega)
       rw [HI.out] at hid
       go_wp2
       go_meet
       case rel =>
        go_light
        refine ⟨?_,hI,hk⟩
        have e:bv ((Hl V).take 20)++z8 (20 - 20)=bv (Hl V):=by
         rw [List.take_of_length_le (by rw [DT]; omega)]; simp [z8]
        rw [←e]; exact hid
    case rest =>
     clear hid0 hA5 hI5 hk5 hA4 hI4 hk4 l4 l5 hk4s
     obtain ⟨hid,hI,hk⟩:=hcut
     have hl:(bv (Hl V)).length=(z8 20).length:=by rw [O0,DT]; rfl
     have hsa:=hI.setAll hl
     have hks:=AA.setCells (Nat.le_refl _) (bv (Hl V)) 0 _ hk
     have hth:=hI.there 20 (by simp [z8])
     unfold Arr at hid hsa
     have z1:(Tryz.prog.info? 24).map (·.size)=some (bv (Hl V)).toArray.size:=by rw [List.size_toArray,O0,DT]; kernel_rfl
     have z2:wc.there w.heap.size 0 (bv (Hl V)).toArray.size:=by rw [show (bv (Hl V)).toArray.size=20 from by simp [DT]]; exact hth
     have z3:=all_oneCell_toArray (AjD (Hl V))
     have Z1:=Lib.hid z1
     clear z1
     clear hth
     go_upto_region 16 with (fail)
     go_wp2_with (first | (with_reducible refine wpList_load_row rfl 24 (.tmp 7) rfl _ rfl 24 (bv (Hl V)).toArray (0,0) _ hid Tryz.underlying24 rfl Z1.out ?_) | (with_reducible refine wpList_store_mid rfl 24 (.tmp 2) (.tmp 66) rfl w.heap.size 0 (bv (Hl V)).toArray rfl rfl z2 Z1.out z3 ?_))
     rw [HS.out]
     refine bodyPost_ret (results_cell_row rfl _ _ w.heap.size 24 (bv (Hl V)).toArray (0,0) _ rfl hsa Tryz.underlying24 rfl Z1.out) rfl ⟨rfl,hks⟩
end Go.Proofs.YtnkpoloeifhflaaGreatDoor.Kit
namespace Go.Proofs.YtnkpoloeifhflaaGreatDoor.Kit
open Go.RowKit
theorem Btq (l:List UInt8) (hl:l.length=20):(bv l).length=(z8 20).length:=by rw [O0,hl]; rfl
set_option maxRecDepth 100000 in
set_option maxHeartbeats 1000000 in
theorem Bom (a:Option Addr) (cap:Nat) (b:List UInt8) (w:World) (hb:Bs w a b) (hbl:b.length≤1000000000) :
  Calls Tryz.prog 34 #[.slice a b.length cap] w fun e w'=>e = .returned (.agg (bv (sha b)).toArray)∧AA w w':=by
 go_enter Tryz.func34,Tryz.ntmps34
 go_wp2_with fail
 have hI0:Arr (w.alloc (.cells #[.int .u8 0,.int .u8 0,.int .u8 0,.int .u8 0,.int .u8 0,.int .u8 0,.int .u8 0,.int .u8 0,.int .u8 0,.int .u8 0,.int .u8 0,.int .u8 0,.int .u8 0,.int .u8 0,.int .u8 0,.int .u8 0,.int .u8 0,.int .u8 0,.int .u8 0,.int .u8 0] 24)) w.heap.size 24 (z8 20):=Arr.new _ _ _
 have hk0:=(AA.refl w).alloc (.cells #[.int .u8 0,.int .u8 0,.int .u8 0,.int .u8 0,.int .u8 0,.int .u8 0,.int .u8 0,.int .u8 0,.int .u8 0,.int .u8 0,.int .u8 0,.int .u8 0,.int .u8 0,.int .u8 0,.int .u8 0,.int .u8 0,.int .u8 0,.int .u8 0,.int .u8 0,.int .u8 0] 24)
 (with_reducible refine (Bnh _).mono ?_)
 rintro e w1 ⟨rfl,hD,hk1⟩
 have hI1:=hI0.keep hk1
 have hk2:=AA.trans hk0 hk1
 have hsz:w.heap.size≤w1.heap.size:=Below.size hk2
 rw [World.size_alloc] at hD
 have hag:0<b.length→∀ p,a=some p→p.block≠w.heap.size+1:=by
  intro hl p hp e
  have:=hb.lt hl p hp; omega
 clear hI0 hk0 hk1
 go_wp2_with fail
 (with_reducible refine (Bja _ _ _ _ _ _ _ _ hD (hb.keep hk2) hag hbl (by omega)).mono ?_)
 rintro e w2 ⟨rfl,vr,hD2,hF2,ho⟩
 simp only [List.nil_append] at hD2
 have hI2:Arr w2 w.heap.size 24 (z8 20):=hI1.fr hF2 (fun h=>by
  rcases h with h | h
  ·omega
  ·cases h)
 have hk3:AA w w2:=((Fr.of_keeps hk2 (fun _=>False)).then hF2 (fun i hi h=>by
  rcases h with h | h
  ·omega
  ·cases h)).keeps (fun _ _ h=>h)
 go_wp2_with fail
 (with_reducible refine (BmV _ _ _ _ _ hD2 (by omega)).mono ?_)
 rintro e w3 ⟨rfl,hk4⟩
 have hk:=AA.trans hk3 hk4
 have hI:=hI2.keep hk4
 clear hk3 hk4 hI2 hD2 hF2 ho hD hI1 hk2
 have hl:(sha b).length=20:=JC b
 generalize hX:sha b=X at *
 have HX:=Lib.hid hX; clear hX
 have hsa:=hI.setAll (Btq X hl)
 have hks:=AA.setCells (Nat.le_refl _) (bv X) 0 _ hk
 have z1:(Tryz.prog.info? 24).map (·.size)=some (bv X).toArray.size:=by rw [List.size_toArray,O0,hl]; kernel_rfl
 have z2:w3.there w.heap.size 0 (bv X).toArray.size:=by rw [show (bv X).toArray.size=20 from by simp [hl]]; exact hI.there 20 (by simp [z8])
 have z3:=all_oneCell_toArray (AjD X)
 have Z1:=Lib.hid z1
 clear z1
 unfold Arr at hsa
 go_wp2_with (with_reducible refine wpList_store_mid rfl 24 (.tmp 2) (.tmp 9) rfl w.heap.size 0 (bv X).toArray rfl rfl z2 Z1.out z3 ?_)
 refine bodyPost_ret (results_cell_row rfl _ _ w.heap.size 24 (bv X).toArray (0,0) _ rfl hsa Tryz.underlying24 rfl Z1.out) rfl ⟨by rw [HX.out],hks⟩
end Go.Proofs.YtnkpoloeifhflaaGreatDoor.Kit
namespace Go.Proofs.YtnkpoloeifhflaaGreatDoor.Kit
open Go.RowKit
def Z80:Array Value:=(AhF 80).toArray
theorem Tryz.zero80 (w:World):(zeroValue 144).run Tryz.prog w = .ok (.agg Z80) w:=by kernel_rfl
set_option maxRecDepth 100000 in
set_option maxHeartbeats 4000000 in
theorem Bgt (h:V5) (a:Option Addr) (cap:Nat) (p:List UInt8) (w:World) (hh:h.ok) (hb:Bs w a p) (hp:p.length=64) :
  Calls Tryz.prog 37 #[.agg #[.int .u32 h.a,.int .u32 h.b,.int .u32 h.c,.int .u32 h.d,.int .u32 h.e],.slice a 64 cap] w fun e w' =>
   e = .returned (.agg #[.int .u32 (blk h p).a,.int .u32 (blk h p).b,.int .u32 (blk h p).c,.int .u32 (blk h p).d,.int .u32 (blk h p).e])∧AA w w':=by
 have HP:=Lib.hid hp
 have hz:=Tryz.zero80
 clear hp
 go_enter Tryz.func37,Tryz.ntmps37
 go_upto_block 0 with (fail)
 have h0:Arr (((w.alloc (.cells #[.int .u32 h.a,.int .u32 h.b,.int .u32 h.c,.int .u32 h.d,.int .u32 h.e] 100)).alloc (.cells #[.int .u32 0,.int .u32 0,.int .u32 0,.int .u32 0,.int .u32 0] 100)).alloc (.cells Z80 144)) w.heap.size 100 (MJ h.list):=((Arr.new _ _ _).alloc _).alloc _
 have h1:Arr (((w.alloc (.cells #[.int .u32 h.a,.int .u32 h.b,.int .u32 h.c,.int .u32 h.d,.int .u32 h.e] 100)).alloc (.cells #[.int .u32 0,.int .u32 0,.int .u32 0,.int .u32 0,.int .u32 0] 100)).alloc (.cells Z80 144)) (w.heap.size+1) 100 (AhF 5):=(Arr.newAt _ _ _ _ (by simp)).alloc _
 have h2:Arr (((w.alloc (.cells #[.int .u32 h.a,.int .u32 h.b,.int .u32 h.c,.int .u32 h.d,.int .u32 h.e] 100)).alloc (.cells #[.int .u32 0,.int .u32 0,.int .u32 0,.int .u32 0,.int .u32 0] 100)).alloc (.cells Z80 144)) (w.heap.size+1+1) 144 (AhF 80):=Arr.newAt _ _ _ _ (by simp)
 have hk0:AA w (((w.alloc (.cells #[.int .u32 h.a,.int .u32 h.b,.int .u32 h.c,.int .u32 h.d,.int .u32 h.e] 100)).alloc (.cells #[.int .u32 0,.int .u32 0,.int .u32 0,.int .u32 0,.int .u32 0] 100)).alloc (.cells Z80 144)):=(((AA.refl w).alloc _).alloc _).alloc _
 go_cut [] (fun wc=>Arr wc (w.heap.size+1+1) 144 (MJ (wl p 16)++AhF (80 - 16))∧Arr wc w.heap.size 100 (MJ h.list)∧Arr wc (w.heap.size+1) 100 (AhF 5)∧AA w wc)
 case first =>
  go_wp2
  go_loopw [6] (fun i wr=>∃ k:Nat,k≤16∧i = .int .i64 k∧Arr wr (w.heap.size+1+1) 144 (MJ (wl p k)++AhF (80 - k))∧Arr wr w.heap.size 100 (MJ h.list)∧Arr wr (w.heap.size+1) 100 (AhF 5)∧AA w wr) (fun i _=>16 - (intOf i).toNat)
  case atStart=>exact ⟨0,by omega,rfl,h2,h0,h1,hk0⟩
  case round =>
   clear h0 h1 h2 hk0
   obtain ⟨k,hk,rfl,h2,h0,h1,hk0⟩:=hrel
   by_cases hlt:k<16
   ·have hc:wr.cell? ⟨w.heap.size+1+1,k,none⟩=some (.int .u32 0):=by rw [h2.cell]; exact Ap1 p k (by omega)
    have hf:=h2.frozen k
    go_wp2_with fail
    (with_reducible refine (Bha _ _ _ _ _ (hb.keep hk0) HP.out (by omega)).mono ?_)
    rintro e w' ⟨rfl,n,rfl⟩
    go_wp2
    go_roundw
    case rel =>
     go_light
     refine ⟨k+1,by omega,by go_num,?_,h0.other _ _ (by simp; omega),h1.other _ _ (by simp),Below.setCell (hk0.drewN n) (by simp; omega) _⟩
     have h3:=Arr.set (h2.drewN n) k (.int .u32 ((Bfi p (4*k):Nat):Int))
     rw [AqD p k _ (by omega) (by unfold Anf; rw [if_pos hlt])] at h3
     exact h3
    case measure=>simp [intOf]; omega
   ·have HK:=Lib.hid (show k=16 by omega)
    rw [HK.out] at h2
    go_wp2
    go_meet
    case rel=>exact ⟨h2,h0,h1,hk0⟩
 case rest =>
  clear h0 h1 h2 hk0
  obtain ⟨h2,h0,h1,hk0⟩:=hcut
  go_upto_block 2 with (fail)
  go_cut [] (fun wc=>Arr wc (w.heap.size+1+1) 144 (MJ (wl p 80)++AhF (80 - 80))∧Arr wc w.heap.size 100 (MJ h.list)∧Arr wc (w.heap.size+1) 100 (AhF 5)∧AA w wc)
  case first =>
   go_wp2
   go_loopw [7,8] (fun i _ wr=>∃ k:Nat,16≤k∧k≤80∧i = .int .i64 k∧Arr wr (w.heap.size+1+1) 144 (MJ (wl p k)++AhF (80 - k))∧Arr wr w.heap.size 100 (MJ h.list)∧Arr wr (w.heap.size+1) 100 (AhF 5)∧AA w wr) (fun i _ _=>80 - (intOf i).toNat)
   case atStart=>exact ⟨16,by omega,by omega,rfl,h2,h0,h1,hk0⟩
   case round =>
    clear h0 h1 h2 hk0
    obtain ⟨k,hk16,hk,rfl,h2,h0,h1,hk0⟩:=hrel
    by_cases hlt:k<80
    ·have hc:wr.cell? ⟨w.heap.size+1+1,k,none⟩=some (.int .u32 0):=by rw [h2.cell]; exact Ap1 p k (by omega)
     have hf:=h2.frozen k
     have r3:wr.cell? ⟨w.heap.size+1+1,k - 3,none⟩=some (.int .u32 (((wl p k).getD (k - 3) 0:Nat):Int)):=by rw [h2.cell]; exact Aal p k _ (by omega)
     have r8:wr.cell? ⟨w.heap.size+1+1,k - 8,none⟩=some (.int .u32 (((wl p k).getD (k - 8) 0:Nat):Int)):=by rw [h2.cell]; exact Aal p k _ (by omega)
     have r14:wr.cell? ⟨w.heap.size+1+1,k - 14,none⟩=some (.int .u32 (((wl p k).getD (k - 14) 0:Nat):Int)):=by rw [h2.cell]; exact Aal p k _ (by omega)
     have r16:wr.cell? ⟨w.heap.size+1+1,k - 16,none⟩=some (.int .u32 (((wl p k).getD (k - 16) 0:Nat):Int)):=by rw [h2.cell]; exact Aal p k _ (by omega)
     have hn:Anf p (wl p k) k=rot ((((wl p k).getD (k - 3) 0 ^^^ (wl p k).getD (k - 8) 0) ^^^ (wl p k).getD (k - 14) 0) ^^^ (wl p k).getD (k - 16) 0) 1:=by unfold Anf; rw [if_neg (by omega)]
     have b3:=Ko p k (k - 3)
     have b8:=Ko p k (k - 8)
     have b14:=Ko p k (k - 14)
     have b16:=Ko p k (k - 16)
     generalize (wl p k).getD (k - 3) 0=x3 at *
     generalize (wl p k).getD (k - 8) 0=x8 at *
     generalize (wl p k).getD (k - 14) 0=x14 at *
     generalize (wl p k).getD (k - 16) 0=x16 at *
     have HN:=Lib.hid hn; clear hn
     go_wp2
     go_quiet (fail)
     go_wp2_with fail
     rw [Ark _ _ _ _ b3 b8 b14 b16]
     (with_reducible refine (turn _ _ _ (C9 (C9 (C9 b3 b8) b14) b16) (.inl rfl)).mono ?_)
     rintro e w' ⟨rfl,n2,rfl⟩
     go_wp2
     go_roundw
     case rel =>
      go_light
      refine ⟨k+1,by omega,by omega,by go_num,?_,h0.other _ _ (by simp; omega),h1.other _ _ (by simp),Below.setCell (hk0.drewN _) (by simp; omega) _⟩
      have h3:=Arr.set (h2.drewN (nq+n2)) k (.int .u32 (((rot (((x3 ^^^ x8) ^^^ x14) ^^^ x16) 1:Nat):Int)))
      rw [AqD p k _ (by omega) HN.out.symm] at h3
      exact h3
     case measure=>simp [intOf]; omega
    ·have HK:=Lib.hid (show k=80 by omega)
     rw [HK.out] at h2
     go_wp2
     go_meet
     case rel=>exact ⟨h2,h0,h1,hk0⟩
  case rest =>
   clear h0 h1 h2 hk0
   obtain ⟨h2,h0,h1,hk0⟩:=hcut
   obtain ⟨c0,c1,c2,c3,c4⟩:=h0.five
   go_upto_block 4 with (fail)
   have hv0:Arr (wc.alloc (.cells #[.int .u32 h.a,.int .u32 h.b,.int .u32 h.c,.int .u32 h.d,.int .u32 h.e] 100)) wc.heap.size 100 (MJ h.list):=Arr.new _ _ _
   have l0:=h0.lt
   have l1:=h1.lt
   have l2:=h2.lt
   obtain ⟨wo,rfl⟩:∃ wo:World,wo=wc:=⟨_,rfl⟩
   clear c0 c1 c2 c3 c4
   go_cut [] (fun wc=>Arr wc wo.heap.size 100 (MJ (AoZ 0 h (wl p 80)).list)∧Arr wc w.heap.size 100 (MJ h.list)∧Arr wc (w.heap.size+1) 100 (AhF 5)∧AA w wc)
   case first =>
    go_wp2
    go_loopw [10,11,12,13] (fun i _ _ _ wr=>∃ (i':Nat) (v:V5),i'≤80∧i = .int .i64 i'∧v.ok∧Arr wr wo.heap.size 100 (MJ v.list)∧AcR p h i' v∧Arr wr (w.heap.size+1+1) 144 (MJ (wl p 80)++AhF (80 - 80))∧Arr wr w.heap.size 100 (MJ h.list)∧Arr wr (w.heap.size+1) 100 (AhF 5)∧AA w wr) (fun i _ _ _ _=>80 - (intOf i).toNat)
    case atStart=>exact ⟨0,h,by omega,rfl,hh,hv0,AcR.zero p h,h2.alloc _,h0.alloc _,h1.alloc _,hk0.alloc _⟩
    case round =>
     clear h0 h1 h2 hk0 hv0
     obtain ⟨i,v,hi,rfl,hv,hva,hr,h2,h0,h1,hk0⟩:=hrel
     by_cases hlt:i<80
     ·obtain ⟨c0,c1,c2,c3,c4⟩:=hva.five
      have f0:=hva.frozen 0
      have f1:=hva.frozen 1
      have f2:=hva.frozen 2
      have f3:=hva.frozen 3
      have f4:=hva.frozen 4
      have cw:wr.cell? ⟨w.heap.size+1+1,i,none⟩=some (.int .u32 (((wl p 80).getD i 0:Nat):Int)):=by rw [h2.cell]; exact BnI p i hlt
      have bw:=Ko p 80 i
      have HR:=hr.succ hlt; clear hr
      generalize (wl p 80).getD i 0=x at *
      obtain ⟨va,vb,vc,vd,ve⟩:=v
      obtain ⟨ba,bb,bc,bd,be⟩:=hv
      simp only at ba bb bc bd be c0 c1 c2 c3 c4
      have bf:sff i vb vc vd<4294967296:=Bng i bb bc bd
      go_upto_block 6 with (fail)
      go_cut [11,12] (fun f k wc=>f = .int .u32 (sff i vb vc vd:Nat)∧k = .int .u32 (skk i:Nat)∧wc=wr)
      case first =>
       rcases (show i<20∨(20≤i∧i<40)∨(40≤i∧i<60)∨60≤i from by omega) with hq | ⟨hq,hq2⟩ | ⟨hq,hq2⟩ | hq
       ·go_wp2
        go_meet
        case rel=>exact ⟨by rw [Br6 hq,A3i _ _ _ bb bc bd],by rw [Bsq hq]; rfl,rfl⟩
       ·go_wp2
        go_meet
        case rel=>exact ⟨by rw [Bsk hq hq2,Anp _ _ _ bb bc bd],by rw [Bsg hq hq2]; rfl,rfl⟩
       ·go_wp2
        go_meet
        case rel=>exact ⟨by rw [Br4 hq hq2,A3C _ _ _ bb bc bd],by rw [BsT hq hq2]; rfl,rfl⟩
       ·go_wp2
        go_meet
        case rel=>exact ⟨by rw [Br9 hq,Anp _ _ _ bb bc bd],by rw [Bsw hq]; rfl,rfl⟩
      case rest =>
       obtain ⟨rfl,rfl,rfl⟩:=hcut
       have hrt:UV i ⟨va,vb,vc,vd,ve⟩ x=((((rot va 5+sff i vb vc vd) % 4294967296+ve) % 4294967296+skk i) % 4294967296+x) % 4294967296:=rfl
       have HT:=Lib.hid hrt; clear hrt
       have br:=A3m 5 ba
       have bk:skk i<4294967296:=by unfold skk; split<;>(try split)<;>(try split)<;>omega
       generalize sff i vb vc vd=F at *
       generalize skk i=KK at *
       go_wp2
       go_quiet ((go_at_call 63; exact Calls.quiet_of (turn _ _ _ ba (.inr (.inl rfl)))))
       go_wp2_with fail
       (with_reducible refine (turn _ _ _ bb (.inr (.inr rfl))).mono ?_)
       rintro e w' ⟨rfl,n2,rfl⟩
       go_wp2
       go_roundw
       case rel =>
        go_light
        have n0:w.heap.size≠wo.heap.size:=by omega
        have n1:w.heap.size+1≠wo.heap.size:=by omega
        have n2':w.heap.size+1+1≠wo.heap.size:=by omega
        refine ⟨i+1,rnd i ⟨va,vb,vc,vd,ve⟩ x,by omega,by go_num,Al7 i x ⟨ba,bb,bc,bd,be⟩,?_,HR,?_,?_,?_,?_⟩
        ·have h5:=(((((hva.drewN nq).set 4 (.int .u32 vd)).set 3 (.int .u32 vc)).drewN n2).set 2 (.int .u32 (rot vb 30:Nat))).set 1 (.int .u32 va) |>.set 0 (.int .u32 (UV i ⟨va,vb,vc,vd,ve⟩ x:Nat))
         have e2:((UV i ⟨va,vb,vc,vd,ve⟩ x:Nat):Int)=(((rot va 5:Nat):Int)+F+ve+KK+x) % 4294967296:=by rw [HT.out]; omega
         rw [←e2]
         exact h5
        ·exact ((((((h2.drewN nq).other _ _ n2').other _ _ n2').drewN n2).other _ _ n2').other _ _ n2').other _ _ n2'
        ·exact ((((((h0.drewN nq).other _ _ n0).other _ _ n0).drewN n2).other _ _ n0).other _ _ n0).other _ _ n0
        ·exact ((((((h1.drewN nq).other _ _ n1).other _ _ n1).drewN n2).other _ _ n1).other _ _ n1).other _ _ n1
        ·have hle:w.heap.size≤wo.heap.size:=by omega
         exact Below.setCell (Below.setCell (Below.setCell (Below.drewN' n2 (Below.setCell (Below.setCell (hk0.drewN nq) (p:=⟨wo.heap.size,4,none⟩) hle _) (p:=⟨wo.heap.size,3,none⟩) hle _)) (p:=⟨wo.heap.size,2,none⟩) hle _) (p:=⟨wo.heap.size,1,none⟩) hle _) (p:=⟨wo.heap.size,0,none⟩) hle _
       case measure=>simp [intOf]; omega
     ·have HK:=Lib.hid (show i=80 by omega)
      rw [HK.out] at hr
      have hva':=hva
      rw [hr.last] at hva'
      clear hva hr
      go_wp2
      go_meet
      case rel=>exact ⟨hva',h0,h1,hk0⟩
   case rest =>
    clear h0 h1 h2 hk0 hv0
    obtain ⟨hva,h0,h1,hk0⟩:=hcut
    have hV:(AoZ 0 h (wl p 80)).ok:=BeR _ _ _ hh
    have hB:blk h p=Bli h (AoZ 0 h (wl p 80)):=rfl
    have HB:=Lib.hid hB; clear hB
    generalize AoZ 0 h (wl p 80)=V at *
    go_wp2
    go_loopw [14] (fun i wr=>∃ k:Nat,k≤5∧i = .int .i64 k∧Arr wr wo.heap.size 100 (MJ V.list)∧Arr wr w.heap.size 100 (MJ (Bjh h V k))∧Arr wr (w.heap.size+1) 100 (AhF 5)∧AA w wr) (fun i _=>5 - (intOf i).toNat)
    case atStart=>exact ⟨0,by omega,rfl,hva,h0,h1,hk0⟩
    case round =>
     clear hva h0 h1 hk0
     obtain ⟨k,hk,rfl,hva,h0,h1,hk0⟩:=hrel
     by_cases hlt:k<5
     ·have cv:wr.cell? ⟨wo.heap.size,k,none⟩=some (.int .u32 ((V.list.getD k 0:Nat):Int)):=by rw [hva.cell]; exact AgT V k hlt
      have ch:wr.cell? ⟨w.heap.size,k,none⟩=some (.int .u32 ((h.list.getD k 0:Nat):Int)):=by rw [h0.cell]; exact Aqj h V k hlt
      have fh:=h0.frozen k
      have b1:=hV.get k
      have b2:=hh.get k
      have hs:=Arh h V k hlt
      have HS:=Lib.hid hs; clear hs
      generalize V.list.getD k 0=x at *
      generalize h.list.getD k 0=y at *
      have hki:(k:Int)<5:=by omega
      go_wp2
      go_still_tail 9,(by kernel_rfl)
      go_wp2
      go_roundw
      case rel =>
       go_light
       refine ⟨k+1,by omega,by go_num,hva.other _ _ (by simp; omega),?_,h1.other _ _ (by simp),Below.drew (Below.setCell hk0 (Nat.le_refl _) _)⟩
       have h5:=h0.set k (.int .u32 (((y+x) % 4294967296:Nat):Int))
       rw [HS.out,show (((y+x) % 4294967296:Nat):Int)=((y:Int)+x) % 4294967296 from by omega] at h5
       exact h5
      case measure=>simp [intOf]; omega
     ·have HK:=Lib.hid (show k=5 by omega)
      rw [HK.out,AnR] at h0
      obtain ⟨c0,c1,c2,c3,c4⟩:=h0.five
      obtain ⟨d0,d1,d2,d3,d4⟩:=h1.five
      have f0:=h1.frozen 0
      have f1:=h1.frozen 1
      have f2:=h1.frozen 2
      have f3:=h1.frozen 3
      have f4:=h1.frozen 4
      generalize Bli h V=R at *
      go_wp2
      rw [HB.out]
      have hle:w.heap.size≤w.heap.size+1:=by omega
      refine bodyPost_ret (v := .agg #[.int .u32 R.a,.int .u32 R.b,.int .u32 R.c,.int .u32 R.d,.int .u32 R.e]) (by simp [results,Tryz.results37,go_sem,d0,d1,d2,d3,d4]) rfl ⟨rfl,?_⟩
      exact Below.setCell (Below.setCell (Below.setCell (Below.setCell (Below.setCell hk0 (p:=⟨w.heap.size+1,0,none⟩) hle _) (p:=⟨w.heap.size+1,1,none⟩) hle _) (p:=⟨w.heap.size+1,2,none⟩) hle _) (p:=⟨w.heap.size+1,3,none⟩) hle _) (p:=⟨w.heap.size+1,4,none⟩) hle _
end Go.Proofs.YtnkpoloeifhflaaGreatDoor.Kit
namespace Go.Proofs.YtnkpoloeifhflaaGreatDoor.Kit
open Go.RowKit
theorem Bgx (l:List UInt8) (n:Nat):(bv (l++[128]))=bv l++[.int .u8 128]:=by simp [bv]
set_option maxRecDepth 100000 in
set_option maxHeartbeats 4000000 in
theorem Bnc (a:Option Addr) (cap:Nat) (l:List UInt8) (w:World) (hb:Bs w a l) (hbl:l.length≤1000000000) :
  Calls Tryz.prog 20 #[.slice a l.length cap] w fun e w'=>e = .returned (.agg (bv (sha l)).toArray)∧AA w w':=by
 go_enter Tryz.func20,Tryz.ntmps20
 go_upto_region 2 with (fail)
 have hI0:Arr (w.alloc (.cells #[.int .u8 0,.int .u8 0,.int .u8 0,.int .u8 0,.int .u8 0,.int .u8 0,.int .u8 0,.int .u8 0,.int .u8 0,.int .u8 0,.int .u8 0,.int .u8 0,.int .u8 0,.int .u8 0,.int .u8 0,.int .u8 0,.int .u8 0,.int .u8 0,.int .u8 0,.int .u8 0] 23)) w.heap.size 23 (z8 20):=Arr.new _ _ _
 have hk0:=(AA.refl w).alloc (.cells #[.int .u8 0,.int .u8 0,.int .u8 0,.int .u8 0,.int .u8 0,.int .u8 0,.int .u8 0,.int .u8 0,.int .u8 0,.int .u8 0,.int .u8 0,.int .u8 0,.int .u8 0,.int .u8 0,.int .u8 0,.int .u8 0,.int .u8 0,.int .u8 0,.int .u8 0,.int .u8 0] 23)
 have hsrc:Src Tryz.prog 1 26 (.slice a l.length cap) l.length (bv l) _:=(hb.keep hk0).srcOf Tryz.underlying26 cap (fun _=>rfl)
 go_cut [3] (fun v wc=>Seg wc w.heap.size 5 1 v l.length (bv l)∧Arr wc w.heap.size 23 (z8 20)∧AA w wc)
 case first =>
  go_wp2_with (at_builtin; go_must (refine F9 _ rfl (.tmp 11) (.tmp 12) 26 26 rfl w.heap.size 5 (.int .u8 0) 1 1 Tryz.underlying26 Tryz.infoU8 rfl _ 0 [] rfl (Seg.nil _ _ _ _) _ _ _ rfl hsrc ?c1 ?c2 ?c3 ?_))
  case c1=>unfold maxLen; omega
  case c2=>omega
  case c3=>exact Below.size hk0
  intro v1 w1 hS1 hg1 ho1
  try simp only [Nat.zero_add,List.nil_append] at hS1
  have hI1:=hI0.keep (Ij hg1)
  have hk1:=AA.trans hk0 (Ij hg1)
  clear hI0 hk0 hsrc
  go_wp2
  go_meet
  case rel=>exact ⟨hS1,hI1,hk1⟩
 case rest =>
  clear hI0 hk0 hsrc
  obtain ⟨hS,hI,hk⟩:=hcut
  obtain ⟨wa,rfl⟩:∃ wa:World,wa=wc:=⟨_,rfl⟩
  go_upto_region 3 with (fail)
  go_cut [3] (fun v wc=>Seg wc w.heap.size 5 1 v (l++[128]).length (bv (l++[128]))∧Arr wc w.heap.size 23 (z8 20)∧AA w wc)
  case first =>
   have hne:=hS.ne_arr hI (by decide)
   go_wp2_with (at_builtin; go_must (refine F9 _ rfl (.tmp 14) (.tmp 15) 26 26 rfl w.heap.size 5 (.int .u8 0) 1 1 Tryz.underlying26 Tryz.infoU8 rfl _ _ _ rfl (hS.alloc _) _ 1 [_] rfl (AmR Tryz.underlying26 _ _ _ rfl) ?c1 ?c2 ?c3 ?_))
   case c1=>unfold maxLen; omega
   case c2=>omega
   case c3=>exact Nat.le_trans (Below.size hk) (by simp)
   intro v1 w1 hS1 hg1 ho1
   have hI1:=(hI.alloc (.cells #[.int .u8 128] 5)).grown hg1 (fun e=>hne e.symm)
   have hk1:AA w w1:=Below.grown (hk.alloc _) hg1 (Nat.le_trans (Below.size hk) (by simp)) (fun j hj=>(hS.lt j hj).1)
   go_wp2
   go_meet
   case rel=>exact ⟨by rw [Bgx l 0,List.length_append]; exact hS1,hI1,hk1⟩
  case rest =>
   clear hS hI hk
   obtain ⟨hS,hI,hk⟩:=hcut
   obtain ⟨wb,rfl⟩:∃ wb:World,wb=wc:=⟨_,rfl⟩
   obtain ⟨z,hz⟩:∃ z:Nat,z=(119 - l.length % 64) % 64:=⟨_,rfl⟩
   have HZ:=Lib.hid hz
   have hz64:z<64:=by omega
   go_upto_block 0 with (fail)
   go_cut [3] (fun v wc=>Seg wc w.heap.size 5 1 v (l++128::List.replicate z 0).length (bv (l++128::List.replicate z 0))∧Arr wc w.heap.size 23 (z8 20)∧AA w wc)
   case first =>
    go_wp2
    go_loopg [3] z (fun gn v wr=>∃ (j:Nat) (m:List UInt8),j+gn=z∧Hid (m=l++128::List.replicate j 0)∧Seg wr w.heap.size 5 1 v m.length (bv m)∧Arr wr w.heap.size 23 (z8 20)∧AA w wr)
    case atStart=>exact ⟨0,l++[128],by omega,rfl,hS,hI,hk⟩
    case round =>
     clear hS hI hk
     obtain ⟨j,m,hj,hm,hS,hI,hk⟩:=hrel
     have hml:m.length=l.length+1+j:=by rw [hm.out]; simp; omega
     obtain ⟨x,cap1,rfl,hn1,hc1,hx1⟩:=hS.form
     by_cases hlt:j<z
     ·have ht:=Bh0 hz hlt hml
      have hml2:m.length≤1000000100:=by omega
      have HM:=Lib.hid hml; clear hml
      have hne:=hS.ne_arr hI (by decide)
      clear hz
      go_wp2_with (at_builtin; go_must (refine F9 _ rfl (.tmp 21) (.tmp 22) 26 26 rfl w.heap.size 5 (.int .u8 0) 1 1 Tryz.underlying26 Tryz.infoU8 rfl _ _ _ rfl (hS.alloc _) _ 1 [_] rfl (AmR Tryz.underlying26 _ _ _ rfl) ?c1 ?c2 ?c3 ?_))
      case c1=>unfold maxLen; omega
      case c2=>omega
      case c3=>exact Nat.le_trans (Below.size hk) (by simp)
      intro v1 w1 hS1 hg1 ho1
      have hI1:=(hI.alloc (.cells #[.int .u8 0] 5)).grown hg1 (fun e=>hne e.symm)
      have hk1:AA w w1:=Below.grown (hk.alloc _) hg1 (Nat.le_trans (Below.size hk) (by simp)) (fun j hj=>(hS.lt j hj).1)
      go_wp2
      go_roundg (gk - 1)
      case measure=>omega
      case rel =>
       go_light
       refine ⟨j+1,m++[0],by omega,?_,?_,hI1,hk1⟩
       ·show m++[0]=_
        rw [hm.out]; simp [List.replicate_succ']
       ·rw [List.length_append,←Aqh m 0 (z:=0) rfl]; exact hS1
     ·have hjz:j=z:=by omega
      have ht:=BgE hz hjz hml
      have HM:=Lib.hid (And.intro hml hjz); clear hml hjz hz
      go_wp2
      go_meet
      case rel =>
       go_light
       have e:=hm.out
       rw [HM.out.2] at e
       rw [←e]; exact ⟨hS,hI,hk⟩
   case rest =>
    clear hS hI hk
    obtain ⟨hS,hI,hk⟩:=hcut
    obtain ⟨wb,rfl⟩:∃ wb:World,wb=wc:=⟨_,rfl⟩
    obtain ⟨nn,hnn⟩:∃ nn:Nat,nn=l.length*8 % 18446744073709551616:=⟨_,rfl⟩
    have hnl:nn<18446744073709551616:=by omega
    have hn8:nn=l.length*8:=by omega
    obtain ⟨P,hP⟩:∃ P,P=l++Ago l.length:=⟨_,rfl⟩
    have hPe:P=(l++128::List.replicate z 0)++be8 nn:=by rw [hP,Ago,←hz,←hnn]; simp
    generalize hQ:l++128::List.replicate z 0=Q0 at *
    have hQl:Q0.length≤1000000100:=by rw [←hQ]; simp; omega
    have HP:=Lib.hid (And.intro hP hPe)
    have hPl:P.length≤1000000200:=by rw [hP,List.length_append]; have:=Bh4 l.length; omega
    have hPq:∃ q,P.length=64*q:=by rw [hP]; exact Bi6 l
    have HN:=Lib.hid (And.intro hnn (And.intro hz hQ))
    clear hP hPe hnn hz hQ
    have hn4:IntKind.u64.wrap ((l.length:Int)*8)=(nn:Int):=by rw [IntKind.wrap_u64]; omega
    have hn4':(l.length:Int)*8=(nn:Int):=by omega
    go_upto_region 7 with (fail)
    have HN4:=Lib.hid (And.intro hn4 (And.intro hn4' hn8)); clear hn4 hn4' hn8
    go_upto_block 2 with (fail)
    rw [HN4.out.2.1]
    go_cut [3] (fun v wc=>Seg wc w.heap.size 5 1 v P.length (bv P)∧Arr wc w.heap.size 23 (z8 20)∧AA w wc)
    case first =>
     go_wp2
     go_loopg [3,5] 8 (fun gn v iv wr=>∃ (m:List UInt8) (j:Nat),j≤8∧j≤gn∧(iv = .int .i64 ((j:Int) - 1))∧Hid (m=Q0++(be8 nn).take (8 - j))∧Seg wr w.heap.size 5 1 v m.length (bv m)∧Arr wr w.heap.size 23 (z8 20)∧AA w wr)
     case atStart=>exact ⟨Q0,8,by omega,by omega,rfl,by simp [Hid],hS,hI,hk⟩
     case round =>
      clear hS hI hk
      obtain ⟨m,j,hj8,hjg,rfl,hm,hS,hI,hk⟩:=hrel
      have hml:m.length≤1000000150:=by rw [hm.out]; simp [NY]; omega
      cases j with
      | succ q =>
       rw [show ((q+1:Nat):Int) - 1=(q:Int) from by omega]
       have hne:=hS.ne_arr hI (by decide)
       have e8:=Adk (nn / 2 ^ (8*q))
       have hb8:=Bgw nn q (by omega)
       generalize hy:UInt8.ofNat (nn / 2 ^ (8*q) % 256)=y at *
       have HY:=Lib.hid (And.intro e8 hb8)
       clear e8 hb8 hy
       go_wp2_with (at_builtin; go_must (refine F9 _ rfl (.tmp 32) (.tmp 38) 26 26 rfl w.heap.size 5 (.int .u8 0) 1 1 Tryz.underlying26 Tryz.infoU8 rfl _ _ _ rfl (hS.alloc _) _ 1 [_] rfl (AmR Tryz.underlying26 _ _ _ rfl) ?c1 ?c2 ?c3 ?_))
       case c1=>unfold maxLen; omega
       case c2=>omega
       case c3=>exact Nat.le_trans (Below.size hk) (by simp)
       intro v1 w1 hS1 hg1 ho1
       have hI1:=(hI.alloc (.cells #[.int .u8 ((nn:Int) / 2 ^ (8*q) % 256)] 5)).grown hg1 (fun e=>hne e.symm)
       have hk1:AA w w1:=Below.grown (hk.alloc _) hg1 (Nat.le_trans (Below.size hk) (by simp)) (fun j hj=>(hS.lt j hj).1)
       go_wp2
       go_roundg (gk - 1)
       case measure=>omega
       case rel =>
        go_light
        refine ⟨m++[y],q,by omega,by omega,rfl,?_,?_,hI1,hk1⟩
        ·show m++[y]=_
         have e:=hm.out
         rw [show 8 - (q+1)=7 - q from by omega] at e
         rw [HY.out.2,←List.append_assoc,←e]
        ·rw [List.length_append]
         have h6:=hS1
         rw [Aqh m y (by rw [HY.out.1]; rfl)] at h6
         exact h6
      | zero =>
       rw [show ((0:Nat):Int) - 1 = -1 from rfl]
       go_wp2
       go_meet
       case rel =>
        go_light
        have e:=hm.out
        rw [show 8 - 0=8 from rfl,List.take_of_length_le (by rw [NY]; omega),←HP.out.2] at e
        rw [←e]; exact ⟨hS,hI,hk⟩
    case rest =>
     clear hS hI hk HN4
     obtain ⟨hS,hI,hk⟩:=hcut
     obtain ⟨x3,cap3,rfl,hn3,hc3,hx3⟩:=hS.form
     obtain ⟨wd,rfl⟩:∃ wd:World,wd=wc:=⟨_,rfl⟩
     go_upto_block 4 with (fail)
     have hh0:Arr (wd.alloc (.cells #[.int .u32 1732584193,.int .u32 4023233417,.int .u32 2562383102,.int .u32 271733878,.int .u32 3285377520] 100)) wd.heap.size 100 (MJ H0.list):=Arr.new _ _ _
     have hkd:AA wd (wd.alloc (.cells #[.int .u32 1732584193,.int .u32 4023233417,.int .u32 2562383102,.int .u32 271733878,.int .u32 3285377520] 100)):=(AA.refl wd).alloc _
     have hwd:w.heap.size≤wd.heap.size:=Below.size hk
     go_cut [] (fun wc=>Arr wc wd.heap.size 100 (MJ (CY H0 P).1.list)∧AA wd wc)
     case first =>
      go_wp2
      go_loopg [7] (P.length) (fun gn iv wr=>∃ (q:Nat) (h:V5),P.length≤64*q+gn∧64*q≤P.length∧iv = .int .i64 ((64*q:Nat):Int)∧Arr wr wd.heap.size 100 (MJ h.list)∧A4i P h (P.drop (64*q))∧AA wd wr)
      case atStart=>exact ⟨0,H0,by omega,by omega,rfl,hh0,⟨rfl,Bip⟩,hkd⟩
      case round =>
       clear hh0 hkd
       obtain ⟨q,h,hg,hq,rfl,hh,hB,hkd⟩:=hrel
       obtain ⟨atq,hat⟩:∃ n:Nat,n=64*q:=⟨_,rfl⟩
       rw [←hat]
       rw [←hat] at hq hg hB
       obtain ⟨QQ,hQQ⟩:=hPq
       have hlast:atq<P.length→atq+64≤P.length:=by intro h; omega
       have hfin:¬ atq<P.length→atq=P.length:=by intro h; omega
       have HA:=Lib.hid (And.intro hat hQQ)
       clear hat hQQ
       obtain ⟨c0,c1,c2,c3,c4⟩:=hh.five
       have f0:=hh.frozen 0
       have f1:=hh.frozen 1
       have f2:=hh.frozen 2
       have f3:=hh.frozen 3
       have f4:=hh.frozen 4
       by_cases hlt:atq<P.length
       ·have h64:=hlast hlt
        clear hlast hfin
        obtain ⟨bb,off,rfl,hbb,hbw⟩:=hx3 (by omega)
        have hbP:Bs wr (some ⟨bb,off,none⟩) P:=hS.bytes.keep hkd
        have hbt:=(hbP.drop atq).take 64
        have s1:IntKind.i64.wrap ((atq:Int)+64)=(atq:Int)+64:=IntWalk.i64_in _ (by omega)
        have t1:((atq:Int)+64).toNat=atq+64:=by omega
        have g1:(atq:Int)+64≤(P.length:Int):=by omega
        have g2:(0:Int)≤(atq:Int)+64:=by omega
        have g3:(atq:Int)+64≤(cap3:Int):=by omega
        have g4:¬ cap3=atq:=by omega
        go_upto_region 15 with (fail)
        go_still_tail 6,(by kernel_rfl)
        have hB2:A4i P (blk h ((P.drop atq).take 64)) (P.drop (atq+64)):=⟨by rw [←hB.eq,Sj _ (P.drop atq) (by rw [List.length_drop]; omega),List.drop_drop],Ap8 _ _⟩
        have hlt64:((P.drop atq).take 64).length=64:=by rw [List.length_take,List.length_drop]; omega
        have HL:=Lib.hid hlt64; clear hlt64
        generalize hHH:blk h ((P.drop atq).take 64)=H2 at *
        have HH:=Lib.hid hHH; clear hHH
        go_wp2_with fail
        (with_reducible refine (Bgt h _ _ ((P.drop atq).take 64) _ hB.ok (hbt.keep (AA.refl wr).drew) HL.out).mono ?_)
        rw [HH.out]
        rintro e w5 ⟨rfl,hk5⟩
        have hh5:Arr w5 wd.heap.size 100 (MJ h.list):=Arr.keep hh.drew hk5
        have hkd5:AA wd w5:=AA.trans hkd.drew hk5
        clear c0 c1 c2 c3 c4 f0 f1 f2 f3 f4
        obtain ⟨c0,c1,c2,c3,c4⟩:=hh5.five
        have f0:=hh5.frozen 0
        have f1:=hh5.frozen 1
        have f2:=hh5.frozen 2
        have f3:=hh5.frozen 3
        have f4:=hh5.frozen 4
        go_wp2
        go_roundg (P.length - (atq+64))
        case measure=>omega
        case rel =>
         go_light
         refine ⟨q+1,H2,?_,?_,?_,?_,?_,?_⟩
         ·have:=HA.out.1; omega
         ·have:=HA.out.1; omega
         ·have e:64*(q+1)=atq+64:=by have:=HA.out.1; omega
          rw [e]; go_num
         ·exact ((((hh5.set 0 _).set 1 _).set 2 _).set 3 _).set 4 _
         ·have e:64*(q+1)=atq+64:=by have:=HA.out.1; omega
          rw [e]; exact hB2
         ·exact Below.setCell (Below.setCell (Below.setCell (Below.setCell (Below.setCell hkd5 (p:=⟨wd.heap.size,0,none⟩) (Nat.le_refl _) _) (p:=⟨wd.heap.size,1,none⟩) (Nat.le_refl _) _) (p:=⟨wd.heap.size,2,none⟩) (Nat.le_refl _) _) (p:=⟨wd.heap.size,3,none⟩) (Nat.le_refl _) _) (p:=⟨wd.heap.size,4,none⟩) (Nat.le_refl _) _
       ·have he:=hfin hlt
        have hE:=hB.eq
        rw [List.drop_eq_nil_of_le (by omega),JO _ _ (by simp)] at hE
        have HE:=Lib.hid hE
        clear hlast hfin hE he
        go_wp2
        go_meet
        case rel =>
         go_light
         rw [←HE.out]; exact ⟨hh,hkd⟩
     case rest =>
      clear hh0 hkd
      obtain ⟨hh,hkd⟩:=hcut
      have hI2:=hI.keep hkd
      have hk2:=AA.trans hk hkd
      have hV:(CY H0 P).1.ok:=AjN _ _ Bip
      have hsha:sha l=Hl (CY H0 P).1:=by rw [HP.out.1]; rfl
      have HS:=Lib.hid hsha; clear hsha
      generalize (CY H0 P).1=V at *
      clear hI hk hS hkd hx3 hPq
      obtain ⟨we,rfl⟩:∃ we:World,we=wc:=⟨_,rfl⟩
      go_upto_block 6 with (fail)
      have ho0:Arr (we.alloc (.cells #[.int .u8 0,.int .u8 0,.int .u8 0,.int .u8 0,.int .u8 0,.int .u8 0,.int .u8 0,.int .u8 0,.int .u8 0,.int .u8 0,.int .u8 0,.int .u8 0,.int .u8 0,.int .u8 0,.int .u8 0,.int .u8 0,.int .u8 0,.int .u8 0,.int .u8 0,.int .u8 0] 23)) we.heap.size 23 (bv ((Hl V).take (4*0))++z8 (20 - 4*0)):=Arr.new _ _ _
      have hh1:=hh.alloc (.cells #[.int .u8 0,.int .u8 0,.int .u8 0,.int .u8 0,.int .u8 0,.int .u8 0,.int .u8 0,.int .u8 0,.int .u8 0,.int .u8 0,.int .u8 0,.int .u8 0,.int .u8 0,.int .u8 0,.int .u8 0,.int .u8 0,.int .u8 0,.int .u8 0,.int .u8 0,.int .u8 0] 23)
      have hI1:=hI2.alloc (.cells #[.int .u8 0,.int .u8 0,.int .u8 0,.int .u8 0,.int .u8 0,.int .u8 0,.int .u8 0,.int .u8 0,.int .u8 0,.int .u8 0,.int .u8 0,.int .u8 0,.int .u8 0,.int .u8 0,.int .u8 0,.int .u8 0,.int .u8 0,.int .u8 0,.int .u8 0,.int .u8 0] 23)
      have hk1:=hk2.alloc (.cells #[.int .u8 0,.int .u8 0,.int .u8 0,.int .u8 0,.int .u8 0,.int .u8 0,.int .u8 0,.int .u8 0,.int .u8 0,.int .u8 0,.int .u8 0,.int .u8 0,.int .u8 0,.int .u8 0,.int .u8 0,.int .u8 0,.int .u8 0,.int .u8 0,.int .u8 0,.int .u8 0] 23)
      have l4:=hh.lt
      have l5:=hI2.lt
      go_cut [] (fun wr=>Arr wr we.heap.size 23 (bv (Hl V))∧Arr wr w.heap.size 23 (z8 20)∧AA w wr)
      case first =>
       go_wp2
       go_loopg [9,10] 5 (fun gn iv _ wr=>∃ i:Nat,i≤5∧5≤i+gn∧iv = .int .i64 i∧Arr wr we.heap.size 23 (bv ((Hl V).take (4*i))++z8 (20 - 4*i))∧Arr wr wd.heap.size 100 (MJ V.list)∧Arr wr w.heap.size 23 (z8 20)∧AA w wr)
       case atStart=>exact ⟨0,by omega,by omega,rfl,ho0,hh1,hI1,hk1⟩
       case round =>
        clear ho0 hh1 hI1 hk1 hh hI2 hk2
        obtain ⟨i,hi,hig,rfl,ho,hh,hI,hk⟩:=hrel
        by_cases hlt:i<5
        ·have hmi:(i:Int)<5:=by omega
         obtain ⟨gi,rfl⟩:∃ gi:Nat,gi=gk:=⟨_,rfl⟩
         go_wp2
         go_loopg [10] 4 (fun gn kv wr=>∃ k:Nat,k≤4∧4≤k+gn∧kv = .int .i64 k∧Arr wr we.heap.size 23 (bv ((Hl V).take (4*i+k))++z8 (20 - (4*i+k)))∧Arr wr wd.heap.size 100 (MJ V.list)∧Arr wr w.heap.size 23 (z8 20)∧AA w wr)
         case atStart=>exact ⟨0,by omega,by omega,rfl,ho,hh,hI,hk⟩
         case round =>
          clear ho hh hI hk
          obtain ⟨k,hk4,hkg,rfl,ho,hh,hI,hk⟩:=hrel
          by_cases hlk:k<4
          ·have hmk:(k:Int)<4:=by omega
           have ci:wr.cell? ⟨we.heap.size,4*i+k,none⟩=some (.int .u8 0):=by rw [ho.cell]; exact AqU V _ (by omega)
           have fi:=ho.frozen (4*i+k)
           have ch:wr.cell? ⟨wd.heap.size,i,none⟩=some (.int .u32 ((V.list.getD i 0:Nat):Int)):=by rw [hh.cell]; exact AgT V _ hlt
           have hbv:=hV.get i
           have e8:=Adk (V.list.getD i 0 / 2 ^ (24 - 8*k))
           have hb8:=ArD V i k hlt hlk
           generalize hy:UInt8.ofNat (V.list.getD i 0 / 2 ^ (24 - 8*k) % 256)=y at *
           have HY:=Lib.hid (And.intro e8 hb8)
           clear e8 hb8 hy
           generalize V.list.getD i 0=q at *
           go_wp2
           go_roundg (gk - 1)
           case measure=>omega
           case rel =>
            go_light
            have n1:wd.heap.size≠we.heap.size:=by omega
            have n2:w.heap.size≠we.heap.size:=by omega
            refine ⟨k+1,by omega,by omega,by go_num,?_,hh.other _ _ n1,hI.other _ _ n2,Below.setCell hk (p:=⟨we.heap.size,4*i+k,none⟩) (by show w.heap.size≤we.heap.size; omega) _⟩
            have h5:=ho.set (4*i+k) (.int .u8 ((q:Int) / 2 ^ (24 - 8*k) % 256))
            rw [Be0 V (4*i+k) (by omega) HY.out.2 (by rw [HY.out.1]; rfl)] at h5
            exact h5
          ·have hk4e:k=4:=by omega
           have HK:=Lib.hid hk4e; clear hk4e
           go_wp2
           go_roundg (gi - 1)
           case measure=>omega
           case rel =>
            go_light
            refine ⟨i+1,by omega,by omega,by go_num,?_,hh,hI,hk⟩
            have h5:=ho
            rw [HK.out,show 4*i+4=4*(i+1) from by omega] at h5
            exact h5
        ·have HI:=Lib.hid (show i=5 by omega)
         rw [HI.out] at ho
         go_wp2
         go_meet
         case rel =>
          go_light
          refine ⟨?_,hI,hk⟩
          have e:bv ((Hl V).take (4*5))++z8 (20 - 4*5)=bv (Hl V):=by
           rw [List.take_of_length_le (by rw [DT]; omega)]; simp [z8]
          rw [←e]; exact ho
      case rest =>
       clear ho0 hh1 hI1 hk1 hh hI2 hk2 l4 l5
       obtain ⟨hid,hI,hk⟩:=hcut
       have hl:(bv (Hl V)).length=(z8 20).length:=by rw [O0,DT]; rfl
       have hsa:=hI.setAll hl
       have hks:=AA.setCells (Nat.le_refl _) (bv (Hl V)) 0 _ hk
       have hth:=hI.there 20 (by simp [z8])
       unfold Arr at hid hsa
       have z1:(Tryz.prog.info? 23).map (·.size)=some (bv (Hl V)).toArray.size:=by rw [List.size_toArray,O0,DT]; kernel_rfl
       have z2:wc.there w.heap.size 0 (bv (Hl V)).toArray.size:=by rw [show (bv (Hl V)).toArray.size=20 from by simp [DT]]; exact hth
       have z3:=all_oneCell_toArray (AjD (Hl V))
       have Z1:=Lib.hid z1
       clear z1
       clear hth
       go_upto_region 24 with (fail)
       go_wp2_with (first | (with_reducible refine wpList_load_row rfl 23 (.tmp 8) rfl _ rfl 23 (bv (Hl V)).toArray (0,0) _ hid Tryz.underlying23 rfl Z1.out ?_) | (with_reducible refine wpList_store_mid rfl 23 (.tmp 2) (.tmp 75) rfl w.heap.size 0 (bv (Hl V)).toArray rfl rfl z2 Z1.out z3 ?_))
       refine bodyPost_ret (results_cell_row rfl _ _ w.heap.size 23 (bv (Hl V)).toArray (0,0) _ rfl hsa Tryz.underlying23 rfl Z1.out) rfl ⟨by rw [HS.out],hks⟩
end Go.Proofs.YtnkpoloeifhflaaGreatDoor.Kit
namespace Go.Proofs.YtnkpoloeifhflaaGreatDoor
section
open Go.RowKit Kit
variable [AL]
theorem BD.of_bytes {P:Program} {f:FuncId} {l out:List UInt8} {n:Nat} (hn:out.length=n)
  (h:∀ (a:Option Addr) (cap:Nat) (w:World),Bs w a l→Calls P f #[.slice a l.length cap] w fun e w'=>e = .returned (.agg (bv out).toArray)∧AA w w') :
  BD P f [slB l] (fun x=>x = .arr n 1 (out.map by8)):=by
 intro β F w vs hF hv
 obtain ⟨v,us,rfl,h1,hv⟩:=BQ.cons.1 hv
 rw [BQ.nil] at hv; subst hv
 have fin:∀ e w',(e=Ending.returned (.agg (bv out).toArray)∧AA w w')→∃ v x F',e = .returned v∧x = .arr n 1 (out.map by8)∧Rep ⟨β,[],F'⟩ w' x v∧WW F w F' w':=by
  rintro e w' ⟨rfl,hk⟩
  refine ⟨_,_,F,rfl,rfl,Rep.of_cells (us:=bv out) ?_,⟨hk.os,hk.tape,hk.output,hk.size,fun b hb=>hk.block b hb,fun _ h=>h,fun _ _ h=>h,fun b hb=>Nat.lt_of_lt_of_le (hF.1 b hb) hk.size⟩⟩
  rw [Ak]
  exact ⟨by simpa using hn,fun y hy=>by obtain ⟨b,_,rfl⟩:=List.mem_map.1 hy; rfl,LK out⟩
 have hr0:Rep ⟨β,[],F⟩ w (slB l) v:=Or.inl h1
 have hr:=hr0.sl
 obtain ⟨hw,hr⟩:=hr
 rcases hr with ⟨he,ad,cap,rfl,_⟩ | ⟨b,off,cap,us,rfl,h3,h4,h5,h6,h7⟩
 ·have hl:l=[]:=by simpa using he
  subst hl
  exact (h ad cap w (Bs.nil w ad)).mono fun e w' h=>fin e w' h
 ·have hb:=NI (fun y hy=>by obtain ⟨b,_,rfl⟩:=List.mem_map.1 hy; exact AgS b) h6
  rw [WF] at hb
  have hbs:Bs w (some ⟨b,off,none⟩) l:=fun j hj=>⟨b,off,rfl,h7 j _ (by rw [hb,List.getElem?_map,List.getElem?_eq_getElem hj,List.getD_eq_getElem?_getD,List.getElem?_eq_getElem hj]; rfl)⟩
  have:=h (some ⟨b,off,none⟩) cap w hbs
  rw [show (l.map by8).length=l.length from by simp]
  exact this.mono fun e w' h=>fin e w' h
theorem Bs8 (b:List UInt8) (hb:b.length≤1000000000):BD Tryz.prog 34 [slB b] (fun x=>x = .arr 20 1 ((sha b).map by8)) :=
 BD.of_bytes (JC b) fun a cap w h=>Bom a cap b w h hb
theorem BqW (b:List UInt8) (hb:b.length≤1000000000):BD Tryz.prog 20 [slB b] (fun x=>x = .arr 20 1 ((sha b).map by8)) :=
 BD.of_bytes (JC b) fun a cap w h=>Bnc a cap b w h hb
end
section
open Go.RowKit Kit
variable [AL]
variable [Ar] [AB]
def Rf (no:Nat→TV) (yes:List UInt8→TV) (k:Int) (d:List UInt8) (r:TV):Prop:=(∀ b,Af0 k d = .ok b→r=yes b)∧(∀ c,Af0 k d = .error c→r=no c)
theorem Rf.ok {no:Nat→TV} {yes:List UInt8→TV} {k:Int} {d b:List UInt8} (h:Af0 k d = .ok b):Rf no yes k d (yes b):=⟨fun x hx=>(by rw [h] at hx; cases hx; rfl),fun c hc=>(by rw [h] at hc; cases hc)⟩
theorem Rf.err {no:Nat→TV} {yes:List UInt8→TV} {k:Int} {d:List UInt8} {c:Nat} (h:Af0 k d = .error c):Rf no yes k d (no c):=⟨fun x hx=>(by rw [h] at hx; cases hx),fun c hc=>(by rw [h] at hc; cases hc; rfl)⟩
theorem AqI {k:Int} {d b:List UInt8} (h:Af0 k d = .ok b):b.length≤d.length+100034:=by
 unfold Af0 at h
 split at h
 ·cases h
 ·rename_i n hn
  split at h
  ·cases h
   have h1:=(Aii hn).2.2
   have h2:(Lib.decDigits d.length).length≤d.length+1:=by
    have h3:=Anl d.length
    have h4:=Lib.nDigits_le20 d.length (by omega)
    rw [h3]
    rcases Nat.lt_or_ge d.length 20 with h5 | h5
    ·have h6:d.length<10 ^ 2:=by omega
     by_cases h7:d.length<10
     ·rw [Lib.nDigits_small h7]; omega
     ·rw [Lib.nDigits_big h7,Lib.nDigits_small (by omega)]; omega
    ·omega
   simp only [List.length_append,List.length_cons]
   omega
  ·cases h
theorem Bk3 (k:Int) (h1 : -9223372036854775808≤k) (h2:k≤9223372036854775807) (d:List UInt8) (hd:d.length≤1000000):P8 Tryz.prog 33 [.agg [i64 k,slB d]] (Rf (fun c => .tup [.val (.slice none 0 0),BlC (c:Int)]) (fun b => .tup [slB b,.val .nilIface]) k d):=by
 refine Au.toFreshV (Ajo (by simp) ?_)
 simp -dsimp (disch:=first | assumption | omega | (simp only [Ac];try omega)) only [↓Ag,Ae,Ai,Ah,eq_self,Nat.reduceEqDiff,↓reduceIte,↓Ah4,↓AdK]
 refine (A3F k h1 h2).calls rfl fun r hr => ?_
 cases hk:AcH k with
 | none =>
  rw [hr.2 hk]
  have he:Af0 k d = .error 20:=by unfold Af0; rw [hk]
  simp -dsimp (disch:=first | assumption | omega | (simp only [Ac];try omega)) only [↓Ag,Ae,Ai,Ah,eq_self,Nat.reduceEqDiff,↓reduceIte,↓MI,↓RY]
  exact Rf.err (no:=fun c => .tup [.val (.slice none 0 0),BlC (c:Int)]) he
 | some n =>
  rw [hr.1 n hk]
  have hn6:=(Aii hk).2.2
  by_cases hl:d.length≤100000
  case neg =>
   have he:Af0 k d = .error 11:=by unfold Af0; rw [hk]; simp only; rw [if_neg hl]
   simp -dsimp (disch:=first | assumption | omega | (simp only [Ac];try omega)) only [↓Ag,Ae,Ai,Ah,eq_self,Nat.reduceEqDiff,↓reduceIte,Nat.reduceAdd,↓MI,↓Uu,↓RY]
   exact Rf.err (no:=fun c => .tup [.val (.slice none 0 0),BlC (c:Int)]) he
  have he:Af0 k d = .ok (n++32::Lib.decDigits d.length++0::d):=by unfold Af0; rw [hk]; simp only; rw [if_pos hl]
  have htn:∀ x:List UInt8,(x.map by8).take x.length=x.map by8:=fun x=>List.take_of_length_le (by simp)
  have one_r:∀ z a:TV,(List.replicate 1 z).set 0 a=[a]:=fun z a=>by simp
  have ht1:∀ y:TV,List.take 1 [y]=[y]:=fun y=>rfl
  simp -dsimp (disch:=first | assumption | omega | (simp only [Ac];try omega)) only [↓Ag,Ae,Ai,Ah,eq_self,Nat.reduceEqDiff,↓reduceIte,Nat.reduceAdd,Nat.reduceLeDiff,↓MI,↓Uu,↓Adz,Dj,htn,one_r]
  have e1:n.map by8++[TV.val (.int .u8 ((32:Nat):Int))]=(n++[32]).map by8:=by simp [by8]
  have e2:n.length+1=(n++[32]).length:=by simp
  rw [e1,e2]
  have hn7:(n++[(32:UInt8)]).length≤7:=by simp; omega
  have hb':n++32::Lib.decDigits d.length++0::d=(n++[32])++Lib.decDigits d.length++[0]++d:=by simp
  rw [hb'] at he
  have hlX:∀ x:List UInt8,x=x:=fun _=>rfl
  have hdl:=Anl d.length
  have hd20:=Lib.nDigits_le20 d.length (by omega)
  generalize n++[(32:UInt8)]=L at *
  simp -dsimp (disch:=first | assumption | omega | (simp only [Ac];try omega)) only [↓Ag,Ae,Ai,Ah,eq_self,Nat.reduceEqDiff,↓reduceIte,Nat.reduceAdd,↓AdC]
  refine Js (Ary (L:=L) (by omega) (by omega) rfl fun H' v' h1 h2 h3 => ?_)
  have h0:H'[0]?=some (.obj 0 (.agg [i64 k,slB d])):=h2 0 (by simp) (by simp)
  generalize hM:L++Lib.decDigits d.length=M at *
  have hMl:M.length≤30:=by rw [←hM,List.length_append]; omega
  have hid:=(List.getElem?_eq_some_iff.1 h3).1
  have hat:∀ o:Ob,(H'.set 1 o)[1]?=some o:=fun o=>List.getElem?_set_self hid
  have hat0:∀ o:Ob,(H'.set 1 o)[0]?=H'[0]?:=fun o=>List.getElem?_set_ne (by omega)
  have hst:∀ o o':Ob,(H'.set 1 o).set 1 o'=H'.set 1 o':=fun o o'=>List.set_set ..
  have e3:M.map by8++[TV.val (.int .u8 ((0:Nat):Int))]=(M++[0]).map by8:=by simp [by8]
  simp -dsimp (disch:=first | assumption | omega | (simp only [Ac];try omega)) only [↓Ag,Ae,Ai,Ah,eq_self,Nat.reduceEqDiff,Nat.reduceMod,↓reduceIte,Nat.reduceAdd,Nat.reduceLeDiff,h3,htn,h0,one_r]
  refine ⟨⟨?_,?_⟩,?_⟩
  case refine_2 =>
   change Adx [35] _ _ _
   refine AsQ (id:=0) (ver:=0) (p:=[(1,1)]) (by simp [get]) ?_ Aq9
   rw [List.getElem?_append_left (by simp; omega),List.getElem?_append_left (by simp; omega),List.getElem?_set_ne (by omega),List.getElem?_set_ne (by omega)]
  case refine_3 =>
   change Adx [35] _ _ _
   refine AsQ (id:=0) (ver:=0) (p:=[(1,1)]) (by simp [get]) ?_ Aq9
   rw [List.getElem?_append_left (by simp; omega),List.getElem?_append_left (by omega),List.getElem?_set_ne (by omega)]
  rw [e3,List.take_of_length_le (by simp)]
  have e4:(M++[(0:UInt8)]).map by8++d.map by8=(M++[0]++d).map by8:=by simp
  have e5:M.length+1+d.length=(M++[(0:UInt8)]++d).length:=by simp; omega
  rw [e4,e5]
  have:=Rf.ok (no:=fun c => .tup [.val (.slice none 0 0),BlC (c:Int)]) (yes:=fun b => .tup [slB b,.val .nilIface]) he
  generalize M++[(0:UInt8)]++d=X at *
  have hat2:∀ o (T:List Ob),(H'.set 1 o++T)[1]?=some o:=fun o T=>by rw [List.getElem?_append_left (by simpa using hid),List.getElem?_set_self hid]
  simp -dsimp (disch:=first | assumption | omega | (simp only [Ac];try omega)) only [↓Ag,Ae,Ai,Ah,eq_self,Nat.reduceEqDiff,↓reduceIte,↓RY,hat2,htn]
  exact this
theorem idF (k:Int) (h1 : -9223372036854775808≤k) (h2:k≤9223372036854775807) (d:List UInt8) (hd:d.length≤1000000):P8 Tryz.prog 17 [.agg [i64 k,slB d]] (Rf (fun c => .tup [.arr 20 1 ((List.replicate 20 (0:UInt8)).map by8),BlC (c:Int)]) (fun b => .tup [.arr 20 1 ((sha b).map by8),.val .nilIface]) k d):=by
 refine Au.toFreshV (Aom (by simp) ?_)
 simp -dsimp (disch:=first | assumption | omega | (simp only [Ac];try omega)) only [↓Ag,Ae,Ai,Ah,eq_self,Nat.reduceEqDiff,↓reduceIte,Nat.reduceAdd,↓Ana,↓Ajj]
 refine (Bk3 k h1 h2 d hd).pure.calls rfl fun r hr => ?_
 cases he:Af0 k d with
 | error c =>
  rw [hr.2 c he]
  have:=Rf.err (no:=fun c => .tup [.arr 20 1 ((List.replicate 20 (0:UInt8)).map by8),BlC (c:Int)]) (yes:=fun b => .tup [.arr 20 1 ((sha b).map by8),.val .nilIface]) he
  simp -dsimp (disch:=first | assumption | omega | (simp only [Ac];try omega)) only [↓Ag,Ae,Ai,Ah,eq_self,Nat.reduceEqDiff,↓reduceIte,↓Agc]
  exact this
 | ok b =>
  rw [hr.1 b he]
  have hbl:b.length≤1000000000:=by have:=AqI he; omega
  have:=Rf.ok (no:=fun c => .tup [.arr 20 1 ((List.replicate 20 (0:UInt8)).map by8),BlC (c:Int)]) (yes:=fun b => .tup [.arr 20 1 ((sha b).map by8),.val .nilIface]) he
  simp -dsimp (disch:=first | assumption | omega | (simp only [Ac];try omega)) only [↓Ag,Ae,Ai,Ah,eq_self,Nat.reduceEqDiff,↓reduceIte]
  refine (Bs8 b hbl).calls rfl fun r hr => ?_
  subst hr
  have hsl:=JC b
  generalize sha b=q at *
  simp -dsimp (disch:=first | assumption | omega | (simp only [Ac];try omega)) only [↓Ag,Ae,Ai,Ah,eq_self,Nat.reduceEqDiff,↓reduceIte,↓Agc]
  exact this
end
section
open Go.RowKit Kit
variable [AL]
theorem BqT (k:Int):BD Tryz.prog 35 [i64 k] (fun r=>r=ts ((AcH k).getD [])):=by
 refine Au.toPureV (An5 (by simp) ?_)
 by_cases c1:k=1
 ·subst c1
  simp -dsimp (disch:=first | assumption | omega | (simp only [Ac];try omega)) only [↓Ag,Ae,Ai,Ah,eq_self,Nat.reduceEqDiff,↓reduceIte,reduceCtorEq,↓Vd]
  rfl
 by_cases c2:k=2
 ·subst c2
  simp -dsimp (disch:=first | assumption | omega | (simp only [Ac];try omega)) only [↓Ag,Ae,Ai,Ah,eq_self,Nat.reduceEqDiff,↓reduceIte,reduceCtorEq,↓Vd]
  rfl
 by_cases c3:k=3
 ·subst c3
  simp -dsimp (disch:=first | assumption | omega | (simp only [Ac];try omega)) only [↓Ag,Ae,Ai,Ah,eq_self,Nat.reduceEqDiff,↓reduceIte,reduceCtorEq,↓Vd]
  rfl
 by_cases c4:k=4
 ·subst c4
  simp -dsimp (disch:=first | assumption | omega | (simp only [Ac];try omega)) only [↓Ag,Ae,Ai,Ah,eq_self,Nat.reduceEqDiff,↓reduceIte,reduceCtorEq,↓Vd]
  rfl
 have hn:AcH k=none:=by unfold AcH; rw [if_neg c1,if_neg c2,if_neg c3,if_neg c4]
 simp -dsimp (disch:=first | assumption | omega | (simp only [Ac];try omega)) only [↓Ag,Ae,Ai,Ah,eq_self,Nat.reduceEqDiff,↓reduceIte,reduceCtorEq,↓Vd]
 rw [hn]; rfl
theorem Bij {b:UInt8}:(∀ y:TV,y∈[TV.val (Value.int IntKind.u8 (b.toNat:Int))]→Ase y)=True:=by
 refine eq_true ?_
 intro y hy
 obtain rfl:=List.mem_singleton.1 hy
 exact AgS b
theorem Ap5 {a b:TV}:(List.replicate 1 a).set 0 b=[b]:=by simp
theorem AqM (n:Nat):(Lib.decDigits n).length≤n+1:=by
 induction n using Nat.strongRecOn with
 | _ n ih =>
  by_cases h:n<10
  ·rw [Lib.decDigits_one h]; simp
  ·rw [Lib.decDigits.eq_1 n,dif_neg h,List.length_append]
   have:=ih (n / 10) (by omega)
   simp only [List.length_cons,List.length_nil]; omega
theorem A3o (n:Nat) (hn:n≤1000000000):BD Tryz.prog 36 [i64 (n:Int)] (fun r=>r=ts (Lib.decDigits n)):=by
 refine Au.toPureV (Ake (by simp) ?_)
 by_cases h0:n=0
 ·subst h0
  simp -dsimp (disch:=first | assumption | omega) only [↓Ag,Ae,Ai,Ah,eq_self,↓reduceIte,reduceCtorEq,↓Sv]
  rw [Lib.decDigits_one (by omega)]
  rfl
 simp -dsimp (disch:=first | assumption | omega) only [↓Ag,Ae,Ai,Ah,eq_self,↓reduceIte,reduceCtorEq,↓Sv]
 have dl:=AqM n
 refine Cj (fun q e H=>∃ (m:Nat) (s:List UInt8),q=m∧m≤n∧((m=0∧s=Lib.decDigits n)∨(0<m∧Lib.decDigits n=Lib.decDigits m++s))∧e=[(0,i64 (m:Int)),(3,ts s)]∧H=[]) n ?_ ?_
 ·exact ⟨n,[],rfl,Nat.le_refl _,.inr ⟨by omega,by simp⟩,rfl,rfl⟩
 ·rintro q e H ⟨m,s,rfl,hmn,hm,rfl,rfl⟩
  have hsl:s.length≤n+1:=by
   rcases hm with ⟨_,rfl⟩ | ⟨_,h⟩
   ·exact dl
   ·rw [h,List.length_append] at dl; omega
  by_cases hpos:0<q
  ·have h48:(48+q % 10)<256:=by omega
   have hsl2:([UInt8.ofNat (48+q % 10)]:List UInt8).length+s.length≤9223372036854775807:=by simp only [List.length_cons,List.length_nil]; omega
   simp -dsimp (disch:=first | assumption | omega) only [↓Ag,Ae,Ai,Ah,eq_self,Nat.reduceEqDiff,↓reduceIte,reduceCtorEq,Nat.reduceLeDiff,↓Sv,Ap5,Arv,Bij,Bhj]
   refine Blq (q / 10) 0 (by omega) (by omega) rfl rfl ⟨q / 10,[UInt8.ofNat (48+q % 10)]++s,rfl,by omega,?_,rfl,rfl⟩
   have hd:Lib.decDigits n=Lib.decDigits q++s:=by
    rcases hm with ⟨h,_⟩ | ⟨_,h⟩
    ·omega
    ·exact h
   by_cases h10:q<10
   ·refine .inl ⟨by omega,?_⟩
    rw [hd,Lib.decDigits_one h10,Nat.mod_eq_of_lt h10]
   ·refine .inr ⟨by omega,?_⟩
    rw [hd,Lib.decDigits,dif_neg h10,List.append_assoc]
  ·simp -dsimp (disch:=first | assumption | omega) only [↓Ag,Ae,Ai,Ah,eq_self,Nat.reduceEqDiff,↓reduceIte,reduceCtorEq,↓Sv]
   rcases hm with ⟨_,rfl⟩ | ⟨h,_⟩
   ·rfl
   ·omega
variable [Ar] [AB]
theorem Bhs (k:Int) (d:List UInt8) (hd:d.length≤1000000):P8 Tryz.prog 19 [.agg [i64 k,slB d]] (Rf (fun c => .tup [.val (.slice none 0 0),i64 (c:Int)]) (fun b => .tup [slB b,i64 ((0:Nat):Int)]) k d):=by
 refine Au.toFreshV (Ala (by simp) ?_)
 simp -dsimp (disch:=first | assumption | omega | (simp only [Ac];try omega)) only [↓Ag,Ae,Ai,Ah,eq_self,Nat.reduceEqDiff,↓reduceIte,↓AkG,↓Aho]
 refine (BqT k).calls rfl fun r hr => ?_
 subst hr
 cases hk:AcH k with
 | none =>
  have he:Af0 k d = .error 20:=by unfold Af0; rw [hk]
  have:=Rf.err (no:=fun c => .tup [.val (.slice none 0 0),i64 (c:Int)]) (yes:=fun b => .tup [slB b,i64 ((0:Nat):Int)]) he
  simp -dsimp (disch:=first | assumption | omega | (simp only [Ac];try omega)) only [↓Ag,Ae,Ai,Ah,eq_self,Nat.reduceEqDiff,↓reduceIte,↓PK,↓Vh]
  exact this
 | some n =>
  have hn6:=(Aii hk).2.2
  have hne:n≠[]:=by
   rcases A2Z.1 hk with ⟨_,rfl⟩ | ⟨_,rfl⟩ | ⟨_,rfl⟩ | ⟨_,rfl⟩<;>simp
  by_cases hl:d.length≤100000
  case neg =>
   have he:Af0 k d = .error 11:=by unfold Af0; rw [hk]; simp only; rw [if_neg hl]
   have:=Rf.err (no:=fun c => .tup [.val (.slice none 0 0),i64 (c:Int)]) (yes:=fun b => .tup [slB b,i64 ((0:Nat):Int)]) he
   simp -dsimp (disch:=first | assumption | omega | (simp only [Ac];try omega)) only [↓Ag,Ae,Ai,Ah,eq_self,Nat.reduceEqDiff,↓reduceIte,Nat.reduceAdd,↓PK,↓Wu,↓Vh,hne]
   exact this
  have he:Af0 k d = .ok (n++32::Lib.decDigits d.length++0::d):=by unfold Af0; rw [hk]; simp only; rw [if_pos hl]
  have htn:∀ x:List UInt8,(x.map by8).take x.length=x.map by8:=fun x=>List.take_of_length_le (by simp)
  have ht1:∀ y:TV,List.take 1 [y]=[y]:=fun y=>rfl
  have hd20:=AqM d.length
  simp -dsimp (disch:=first | assumption | omega | (simp only [Ac];try omega)) only [↓Ag,Ae,Ai,Ah,eq_self,Nat.reduceEqDiff,↓reduceIte,Nat.reduceAdd,Nat.reduceLeDiff,↓PK,↓Wu,↓Af2,↓Ahc,hne,Dj,htn,↓AgO,Ap5]
  have e1:n.map by8++[TV.val (.int .u8 ((32:Nat):Int))]=(n++[32]).map by8:=by simp [by8]
  have e2:n.length+1=(n++[32]).length:=by simp
  rw [e1,e2]
  have hn7:(n++[(32:UInt8)]).length≤7:=by simp; omega
  have hb':n++32::Lib.decDigits d.length++0::d=(n++[32])++Lib.decDigits d.length++[0]++d:=by simp
  rw [hb'] at he
  generalize n++[(32:UInt8)]=L at *
  simp -dsimp (disch:=first | assumption | omega | (simp only [Ac];try omega)) only [↓Ag,Ae,Ai,Ah,eq_self,Nat.reduceEqDiff,↓reduceIte,Nat.reduceAdd,↓Ags]
  refine (A3o d.length (by omega)).calls rfl fun r hr => ?_
  subst hr
  have e3:L.map by8++(Lib.decDigits d.length).map by8=(L++Lib.decDigits d.length).map by8:=by simp
  have e4:L.length+(Lib.decDigits d.length).length=(L++Lib.decDigits d.length).length:=by simp
  have hMl:(L++Lib.decDigits d.length).length≤200000:=by rw [List.length_append]; omega
  simp -dsimp (disch:=first | assumption | omega | (simp only [Ac];try omega)) only [↓Ag,Ae,Ai,Ah,eq_self,Nat.reduceEqDiff,↓reduceIte,Nat.reduceAdd,Nat.reduceLeDiff,Dj,htn]
  rw [e3,e4]
  generalize L++Lib.decDigits d.length=M at *
  have e5:M.map by8++[TV.val (.int .u8 ((0:Nat):Int))]=(M++[0]).map by8:=by simp [by8]
  have e6:M.length+1=(M++[(0:UInt8)]).length:=by simp
  have hN:(M++[(0:UInt8)]).length≤200001:=by rw [←e6]; omega
  simp -dsimp (disch:=first | assumption | omega | (simp only [Ac];try omega)) only [↓Ag,Ae,Ai,Ah,eq_self,Nat.reduceEqDiff,↓reduceIte,Nat.reduceAdd,Nat.reduceLeDiff,htn,Ap5]
  rw [e5,e6]
  generalize M++[(0:UInt8)]=M2 at *
  have:=Rf.ok (no:=fun c => .tup [.val (.slice none 0 0),i64 (c:Int)]) (yes:=fun b => .tup [slB b,i64 ((0:Nat):Int)]) he
  have e7:M2.map by8++d.map by8=(M2++d).map by8:=by simp
  have e8:M2.length+d.length=(M2++d).length:=by simp
  simp -dsimp (disch:=first | assumption | omega | (simp only [Ac];try omega)) only [htn]
  rw [e7,e8]
  generalize M2++d=X at *
  simp -dsimp (disch:=first | assumption | omega | (simp only [Ac];try omega)) only [↓Ag,Ae,Ai,Ah,eq_self,Nat.reduceEqDiff,↓reduceIte,↓Vh,htn]
  exact this
theorem Bo6 (k:Int) (d:List UInt8) (hd:d.length≤1000000):P8 Tryz.prog 7 [.agg [i64 k,slB d]] (Rf (fun c => .tup [.arr 20 1 ((List.replicate 20 (0:UInt8)).map by8),i64 (c:Int)]) (fun b => .tup [.arr 20 1 ((sha b).map by8),i64 ((0:Nat):Int)]) k d):=by
 refine Au.toFreshV (Asd (by simp) ?_)
 simp -dsimp (disch:=first | assumption | omega | (simp only [Ac];try omega)) only [↓Ag,Ae,Ai,Ah,eq_self,Nat.reduceEqDiff,↓reduceIte,Nat.reduceAdd,↓Aqf,↓Aln]
 refine (Bhs k d hd).pure.calls rfl fun r hr => ?_
 cases he:Af0 k d with
 | error c =>
  rw [hr.2 c he]
  have hc:¬ c=0:=by
   unfold Af0 at he
   split at he
   ·cases he; decide
   ·split at he<;>cases he; decide
  have:=Rf.err (no:=fun c => .tup [.arr 20 1 ((List.replicate 20 (0:UInt8)).map by8),i64 (c:Int)]) (yes:=fun b => .tup [.arr 20 1 ((sha b).map by8),i64 ((0:Nat):Int)]) he
  simp -dsimp (disch:=first | assumption | omega | (simp only [Ac];try omega)) only [↓Ag,Ae,Ai,Ah,eq_self,Nat.reduceEqDiff,↓reduceIte,↓AkI,hc]
  exact this
 | ok b =>
  rw [hr.1 b he]
  have hbl:b.length≤1000000000:=by have:=AqI he; omega
  have:=Rf.ok (no:=fun c => .tup [.arr 20 1 ((List.replicate 20 (0:UInt8)).map by8),i64 (c:Int)]) (yes:=fun b => .tup [.arr 20 1 ((sha b).map by8),i64 ((0:Nat):Int)]) he
  simp -dsimp (disch:=first | assumption | omega | (simp only [Ac];try omega)) only [↓Ag,Ae,Ai,Ah,eq_self,Nat.reduceEqDiff,↓reduceIte]
  refine (BqW b hbl).calls rfl fun r hr => ?_
  subst hr
  have hsl:=JC b
  generalize sha b=q at *
  simp -dsimp (disch:=first | assumption | omega | (simp only [Ac];try omega)) only [↓Ag,Ae,Ai,Ah,eq_self,Nat.reduceEqDiff,↓reduceIte,↓AkI]
  exact this
end
section
open Go.RowKit
variable [AL]
structure PR (b:List UInt8) (es:List En) (a:Nat):Prop where
 le:a≤b.length
 pre:∀ l,(∀ e∈l,Al8 e)→l.flatMap enB=b→∃ l',l=es++l'∧l'.flatMap enB=b.drop a
 ids:∀ e∈es,e.id.length=20
 nms:∀ e∈es,e.name.length≤b.length
 few:es.length≤a
theorem PR.start (b:List UInt8):PR b [] 0:=⟨Nat.zero_le _,fun l _ h=>⟨l,rfl,h⟩,fun _ h=>(by cases h),fun _ h=>(by cases h),Nat.le_refl _⟩
theorem PR.no {b:List UInt8} {es:List En} {a:Nat} (h:PR b es a) (hlt:a<b.length) (hno:∀ x r,Al8 x→enB x++r=b.drop a→False):∀ l,¬ QB l b:=by
 rintro l ⟨⟨_,hl,_⟩,_,hb⟩
 obtain ⟨l',rfl,hl'⟩:=h.pre l hl hb
 cases l' with
 | nil =>
  have:=congrArg List.length hl'
  simp at this
  omega
 | cons x l'' =>
  rw [List.flatMap_cons] at hl'
  exact hno x _ (hl x (by simp)) hl'
theorem PR.step {b:List UInt8} {es:List En} {a a':Nat} {e:En} (h:PR b es a) (hlt:a<a') (hle:a'≤b.length) (hid:e.id.length=20) (hn:e.name.length≤b.length) (he:∀ x r,Al8 x→enB x++r=b.drop a→x=e∧r=b.drop a'):PR b (es++[e]) a':=by
 obtain ⟨h1,h2,h3,h4,h5⟩:=h
 refine ⟨hle,fun l hl hb => ?_,fun y hy => ?_,fun y hy => ?_,by simp; omega⟩
 ·obtain ⟨l',rfl,hl'⟩:=h2 l hl hb
  cases l' with
  | nil =>
   have:=congrArg List.length hl'
   simp at this
   omega
  | cons x l'' =>
   rw [List.flatMap_cons] at hl'
   obtain ⟨rfl,k⟩:=he x _ (hl x (by simp)) hl'
   exact ⟨l'',by simp,k⟩
 ·rcases List.mem_append.1 hy with hy | hy
  ·exact h3 y hy
  ·rw [List.mem_singleton] at hy; subst hy; exact hid
 ·rcases List.mem_append.1 hy with hy | hy
  ·exact h4 y hy
  ·rw [List.mem_singleton] at hy; subst hy; exact hn
theorem PR.fin {b:List UInt8} {es l:List En} (h:PR b es b.length) (hl:QB l b):l=es:=by
 obtain ⟨⟨_,ht,_⟩,_,hb⟩:=hl
 obtain ⟨l',rfl,hl'⟩:=h.pre l ht hb
 cases l' with
 | nil=>rw [List.append_nil]
 | cons x l'' =>
  exfalso
  rw [List.flatMap_cons] at hl'
  have:=congrArg List.length hl'
  simp [enB] at this
theorem Anm {c:UInt8} {n t F:List UInt8} {j:Nat} (h:n++c::t=F) (hn:c∉n) (hj:c∉F.take j) (hl:j≤F.length):j≤n.length∧(F[j]?=some c∨j=F.length→j=n.length):=by
 subst h
 have h1:j≤n.length:=by
  refine Nat.le_of_not_lt fun h=>hj ?_
  obtain ⟨k,hk⟩:∃ k,j - n.length=k+1:=⟨j - n.length - 1,by omega⟩
  rw [List.take_append,hk,List.take_succ_cons]
  simp
 refine ⟨h1,fun h => ?_⟩
 rcases h with h | h
 ·rcases Nat.lt_or_ge j n.length with h2 | h2
  ·rw [List.getElem?_append_left h2] at h
   exact absurd (List.mem_of_getElem? h) hn
  ·omega
 ·simp only [List.length_append,List.length_cons] at h; omega
theorem AqK (x:En) (r:List UInt8):enB x++r=ZB x.mode++32::(x.name++0::(x.id++r)):=by simp [enB]
theorem Br3 {m:Int} (h:V4 m=true):32∉ZB m:=by rcases LW h with h | h | h | h<;>rw [h]<;>decide
theorem Bll {m:Int} (h:V4 m=true):((AdQ 0 (ZB m):Nat):Int)=m:=by rcases LW h with h | h | h | h<;>rw [h]<;>rfl
theorem BjO {m:Int} {i:Nat} (h:V4 m=true) (hi:i<(ZB m).length):AdQ 0 ((ZB m).take i)≤1048576∧∀ c,(ZB m)[i]?=some c→Abt c=true:=by
 rcases LW h with h | h | h | h<;>subst h
 all_goals
  have h6:i<6:=Nat.lt_of_lt_of_le hi (by decide)
  have:i=0∨i=1∨i=2∨i=3∨i=4∨i=5:=by omega
  rcases this with rfl | rfl | rfl | rfl | rfl | rfl<;>first | exact ⟨by decide,fun c hc=>by cases hc; rfl⟩ | (exfalso; revert hi; decide)
theorem BkU {x:En} {r D:List UInt8} {i:Nat} {c:UInt8} (hx:Al8 x) (h:enB x++r=D) (hi:i≤D.length) (hn:32∉D.take i) (hc:D[i]?=some c) (h32:c≠32):Abt c=true∧AdQ 0 (D.take i)≤1048576:=by
 rw [AqK] at h
 obtain ⟨h1,h2⟩:=Anm h (Br3 hx.1) hn hi
 have hlt:i<(ZB x.mode).length:=by
  rcases Nat.lt_or_ge i (ZB x.mode).length with h3 | h3
  ·exact h3
  ·have:i=(ZB x.mode).length:=by omega
   rw [←h,this,List.getElem?_append_right (Nat.le_refl _),Nat.sub_self] at hc
   exact absurd (Option.some.inj hc).symm h32
 obtain ⟨k1,k2⟩:=BjO hx.1 hlt
 rw [←h,List.getElem?_append_left hlt] at hc
 exact ⟨k2 c hc,by rw [←h,List.take_append_of_le_length h1]; exact k1⟩
theorem AsW {x:En} {r b:List UInt8} {a i j:Nat} (hx:Al8 x) (h:enB x++r=b.drop a) (hi:i≤(b.drop a).length) (hn:32∉(b.drop a).take i) (he:(b.drop a)[i]?=some 32∨i=(b.drop a).length)
  (hj:j≤(b.drop (a+i+1)).length) (hm:0∉(b.drop (a+i+1)).take j) (hf:(b.drop (a+i+1))[j]?=some 0∨j=(b.drop (a+i+1)).length) :
  a+i+1+j+21≤b.length∧x=⟨((AdQ 0 ((b.drop a).take i):Nat):Int),(b.drop (a+i+1)).take j,(b.drop (a+i+1+j+1)).take 20⟩∧r=b.drop (a+i+1+j+21):=by
 rw [AqK] at h
 obtain ⟨h1,h2⟩:=Anm h (Br3 hx.1) hn hi
 have hi2:=h2 he
 have hF:b.drop (a+i+1)=x.name++0::(x.id++r):=by
  rw [Nat.add_assoc,←List.drop_drop,←h,hi2,←List.drop_drop,List.drop_left]; rfl
 have n0:=(Aar hx.2.1).2.2.2
 obtain ⟨h3,h4⟩:=Anm hF.symm n0 hm hj
 have hj2:=h4 hf
 have hG:b.drop (a+i+1+j+1)=x.id++r:=by
  rw [Nat.add_assoc (a+i+1),←List.drop_drop,hF,hj2,←List.drop_drop,List.drop_left]; rfl
 have hL:=congrArg List.length hG
 simp only [List.length_drop,List.length_append,hx.2.2] at hL
 refine ⟨by omega,?_,?_⟩
 ·obtain ⟨m,n,d⟩:=x
  simp only at *
  have e1:(b.drop a).take i=ZB m:=by rw [←h,hi2,List.take_left]
  have e2:(b.drop (a+i+1)).take j=n:=by rw [hF,hj2,List.take_left]
  have e3:(b.drop (a+i+1+j+1)).take 20=d:=by rw [hG,List.take_left' hx.2.2]
  rw [e1,e2,e3,Bll hx.1]
 ·rw [show a+i+1+j+21=a+i+1+j+1+20 by omega,←List.drop_drop,hG,List.drop_left' hx.2.2]
def A3J (b:List UInt8) (r:TV):Prop:=(∀ l,QB l b→r = .tup [.sl 22 (l.map fun e:En => .agg [.val (.int .i64 e.mode),.val (.string (str e.name)),.arr 20 1 (e.id.map by8)]),tb true])∧((∀ l,¬ QB l b)→r = .tup [.val (.slice none 0 0),tb false])
end
section
open Go.RowKit
variable [AL]
theorem BiX (m:Int):BD Tryz.prog 79 [i64 m] (fun r=>r=ts (ZB m)):=by
 refine Au.toPureV (AmD (by simp) ?_)
 unfold ZB
 by_cases h1:m=16384
 ·subst h1
  simp -dsimp (disch:=first | assumption | omega | (simp only [Ac];try omega)) only [↓Ag,Ae,Ai,Ah,eq_self,Nat.reduceEqDiff,↓reduceIte,reduceCtorEq,↓NE,↓JD,↓Na]
 by_cases h2:m=33188
 ·subst h2
  simp -dsimp (disch:=first | assumption | omega | (simp only [Ac];try omega)) only [↓Ag,Ae,Ai,Ah,eq_self,Nat.reduceEqDiff,Int.reduceEq,↓reduceIte,reduceCtorEq,↓NE,↓JD,↓LY,↓Na]
 by_cases h3:m=33261
 ·subst h3
  simp -dsimp (disch:=first | assumption | omega | (simp only [Ac];try omega)) only [↓Ag,Ae,Ai,Ah,eq_self,Nat.reduceEqDiff,Int.reduceEq,↓reduceIte,reduceCtorEq,↓NE,↓JD,↓LY,↓Na]
 by_cases h4:m=40960
 ·subst h4
  simp -dsimp (disch:=first | assumption | omega | (simp only [Ac];try omega)) only [↓Ag,Ae,Ai,Ah,eq_self,Nat.reduceEqDiff,Int.reduceEq,↓reduceIte,reduceCtorEq,↓NE,↓JD,↓LY,↓Na]
 ·have e1:¬ m=((16384:Nat):Int):=h1
  have e2:¬ m=((33188:Nat):Int):=h2
  have e3:¬ m=((33261:Nat):Int):=h3
  have e4:¬ m=((40960:Nat):Int):=h4
  simp -dsimp (disch:=first | assumption | omega | (simp only [Ac];try omega)) only [↓Ag,Ae,Ai,Ah,eq_self,Nat.reduceEqDiff,↓reduceIte,reduceCtorEq,↓NE,↓JD,↓LY,↓Na,e1,e2,e3,e4]
theorem BnH (e:En) (h20:e.id.length=20) (hn:e.name.length≤1000000000):BD Tryz.prog 105 [enT e] (fun r=>r=ts (UT e)):=by
 refine Au.toPureV (Ap9 (by simp) ?_)
 have hx:(e.id.map by8).length=20:=by rw [List.length_map]; exact h20
 unfold UT
 by_cases h1:e.mode=16384
 ·have e1:e.mode=((16384:Nat):Int):=h1
  rw [if_pos h1]
  simp -dsimp (disch:=first | assumption | omega | (simp only [Ac];try omega)) only [↓Ag,Ae,Ai,Ah,eq_self,Nat.reduceEqDiff,↓reduceIte,Nat.reduceAdd,e1,Arv,↓AlP]
 ·have e1:¬ e.mode=((16384:Nat):Int):=h1
  rw [if_neg h1]
  simp -dsimp (disch:=first | assumption | omega | (simp only [Ac];try omega)) only [↓Ag,Ae,Ai,Ah,eq_self,Nat.reduceEqDiff,↓reduceIte,Nat.reduceAdd,e1,↓AlP]
theorem Bkc {t:TypeId} {a b:List UInt8}:I9 t .leq (.string (str a)) (.string (str b))=some (.bool (decide (¬ ltB b a))):=by
 unfold I9
 rw [binOp_string_leq]
 simp only [Lib.toList_data,str,Apm]
 show some (Value.bool (decide (ltB a b) || a == b))=some (.bool (decide (¬ ltB b a)))
 congr 2
 by_cases h1:ltB b a
 ·have h2:¬ ltB a b:=fun h=>Gf _ (Qj h h1)
  have h3:(a == b)=false:=by simp only [beq_eq_false_iff_ne]; intro e; subst e; exact Gf _ h1
  simp [h1,h2,h3]
 ·by_cases h2:ltB a b
  ·simp [h1,h2]
  ·have:=Afp h2 h1
   subst this; simp [h1]
theorem BkG {a z:TV}:List.take 1 ((List.replicate 1 z).set 0 a)=[a]:=by simp [List.replicate]
theorem BgD {α:Type} {z a:α}:(List.replicate 1 z).set 0 a=[a]:=by simp [List.replicate]
theorem Aj9 {α:Type} {l:List α} {i:Nat} {x:α} (h:l[i]?=some x):i<l.length:=(List.getElem?_eq_some_iff.1 h).1
theorem AiK {l out:List En} {i at' k v cp:Nat} {x:En} {H:List Ob} {Q:VEx→Env→List Ob→Prop} (hx20:(x.id.map by8).length=20) (hg:l[i]?=some x) (hol:out.length≤10000) (hil:i≤10000) (hat:at'≤out.length) (hk:H[k]?=some (.obj v (.arr out.length 22 (out.map enT)))) (hcp:out.length≤cp)
  (hQ:∀ k' v' H',H'[k']?=some (.obj v' (.arr (out.take at'++[x]++out.drop at').length 22 ((out.take at'++[x]++out.drop at').map enT)))→H.length≤H'.length→Q .nor [(0,.sl 22 (l.map enT)),(3,.os 22 k' v' [] 0 (out.take at'++[x]++out.drop at').length (out.take at'++[x]++out.drop at').length),(4,i64 (i:Int))] H') :
  vwp Tryz.prog TG Q [(0,.sl 22 (l.map enT)),(3,.os 22 k v [] 0 out.length cp),(4,i64 (i:Int)),(5,i64 (at':Int))] H:=by
 have hkl:=Aj9 hk
 have htl:((out.map enT).take at').length=at':=by simp [hat]
 have hdl:((out.map enT).drop at').length=out.length - at':=by simp
 have hq1:List.take at' (List.take at' out)=List.take at' out:=by rw [List.take_take,Nat.min_self]
 have hq2:(List.take at' out).length=at':=by simp [hat]
 have hq3:∀ y:TV,List.take (at'+1) ((List.take at' out).map enT++[y])=(List.take at' out).map enT++[y]:=fun y=>List.take_of_length_le (by simp [hat])
 have hq4:(out.drop at').length=out.length - at':=by simp
 simp -dsimp (disch:=first | assumption | omega | (simp only [Ac];try omega)) only [↓Ag,Ae,Ai,Ah,eq_self,Nat.reduceEqDiff,↓reduceIte,Nat.reduceAdd,reduceCtorEq,Nat.reduceLeDiff,↓AgR,↓Ahn,↓AgL,hg,hk,BgD,hq2,hq3,hq4]
 have hlen':(out.take at'++[x]++out.drop at').length=at'+1+(out.length - at'):=by
  rw [List.length_append,List.length_append,hq2,hq4,List.length_singleton]
 have:=hQ H.length 3 (H++[Ob.obj 3 (.arr (at'+1+(out.length - at')) 22 (List.map enT (List.take at' out)++[enT x]++List.map enT (List.drop at' out)))]++[Ob.obj 0 (TV.arr 1 22 [enT x])])
  (by rw [List.append_assoc,List.getElem?_append_right (Nat.le_refl _),Nat.sub_self,hlen']; simp) (by simp)
 rw [hlen'] at this
 exact this
theorem A3w (l:List En) (hlen:l.length≤5000) (h20:∀ x∈l,x.id.length=20) (hnm:∀ x∈l,x.name.length≤1000000000) (hn:(l.map UT).Nodup):BD Tryz.prog 80 [.sl 22 (l.map enT)] (fun r=>∃ s,r = .sl 22 (s.map enT)∧SE s∧s.Perm l):=by
 refine Au.toPureV (Ak3 (by simp) ?_)
 simp -dsimp (disch:=first | assumption | omega | (simp only [Ac];try omega)) only [↓Ag,Ae,Ai,Ah,eq_self,Nat.reduceEqDiff,↓reduceIte,reduceCtorEq,↓Aj1,↓Afu,↓Afd,↓AgE]
 refine Cj (fun q e H=>∃ (i k v cp:Nat) (out:List En),q=l.length - i∧i≤l.length∧SE out∧out.Perm (l.take i)∧e=[(0,.sl 22 (l.map enT)),(3,.os 22 k v [] 0 out.length cp),(4,i64 (i:Int))]∧(H[k]?=some (.obj v (.arr out.length 22 (out.map enT)))∧out.length≤cp)) l.length ?_ ?_
 ·exact ⟨0,0,0,0,[],by simp,by simp,List.Pairwise.nil,by simp,by simp [forget,get],rfl,by simp⟩
 ·rintro q e H ⟨i,k,v,cp,out,rfl,hi,hsd,hmem,rfl,hk,hcp⟩
  have hkl:=Aj9 hk
  have hol:out.length=i:=by rw [hmem.length_eq]; simp [hi]
  by_cases h:i<l.length
  ·have hg:l[i]?=some l[i]:=List.getElem?_eq_getElem h
   have hsucc:=List.take_succ_eq_append_getElem h
   have hnot:UT l[i]∉out.map UT:=fun hm=>by
    rw [(hmem.map _).mem_iff] at hm
    have h2:((l.take (i+1)).map UT).Nodup:=hn.sublist ((List.take_sublist _ _).map _)
    rw [hsucc,List.map_append,List.nodup_append] at h2
    exact h2.2.2 _ hm _ (by simp) rfl
   have hx20:(l[i].id.map by8).length=20:=by rw [List.length_map]; exact h20 _ (List.getElem_mem h)
   have hkx:=BnH l[i] (h20 _ (List.getElem_mem h)) (hnm _ (List.getElem_mem h))
   generalize l[i]=x at *
   simp -dsimp (disch:=first | assumption | omega | (simp only [Ac];try omega)) only [↓Ag,Ae,Ai,Ah,eq_self,Nat.reduceEqDiff,↓reduceIte,reduceCtorEq,↓Wp,↓Agn,↓Aha]
   refine Cj (fun q e H'=>∃ at':Nat,q=out.length - at'∧at'≤out.length∧(∀ (j:Nat) y,j<at'→out[j]?=some y→ltB (UT y) (UT x))∧e=[(0,.sl 22 (l.map enT)),(3,.os 22 k v [] 0 out.length cp),(4,i64 (i:Int)),(5,i64 (at':Int))]∧H'=H) out.length ?_ ?_
   ·exact ⟨0,by simp,by simp,by simp,by simp [forget,get],rfl⟩
   ·rintro q e H' ⟨at',rfl,hat,hlt,rfl,rfl⟩
    by_cases ha:at'<out.length
    ·have hga:out[at']?=some out[at']:=List.getElem?_eq_getElem ha
     have hya:out[at']∈l:=List.mem_of_mem_take (hmem.mem_iff.1 (List.mem_of_getElem? hga))
     have hky:=BnH out[at'] (h20 _ hya) (hnm _ hya)
     have hne:UT out[at']≠UT x:=fun e=>hnot (by rw [←e]; exact List.mem_map.2 ⟨_,List.getElem_mem ha,rfl⟩)
     have h20y:(out[at'].id.map by8).length=20:=by rw [List.length_map]; exact h20 _ hya
     generalize out[at']=y at *
     have hgt:(out.map enT)[at']?=some (enT y):=by rw [List.getElem?_map,hga]; rfl
     simp -dsimp (disch:=first | assumption | omega | (simp only [Ac];try omega)) only [↓Ag,Ae,Ai,Ah,eq_self,Nat.reduceEqDiff,↓reduceIte,Nat.reduceAdd,reduceCtorEq,↓WE,hk,hgt]
     refine ⟨_,hky.calls rfl fun r hr=>⟨hr,rfl⟩,?_⟩
     simp -dsimp (disch:=first | assumption | omega | (simp only [Ac];try omega)) only [↓Ag,Ae,Ai,Ah,eq_self,Nat.reduceEqDiff,↓reduceIte,Nat.reduceAdd,reduceCtorEq,hg]
     refine hkx.calls rfl fun r hr => ?_
     subst hr
     simp -dsimp (disch:=first | assumption | omega | (simp only [Ac];try omega)) only [↓Ag,Ae,Ai,Ah,eq_self,Nat.reduceEqDiff,↓reduceIte,Bkc]
     refine A4g (fun hl1 => ?_) (fun hl1 => ?_)
     ·simp -dsimp (disch:=first | assumption | omega | (simp only [Ac];try omega)) only [↓Ag,Ae,Ai,Ah,eq_self,Nat.reduceEqDiff,↓reduceIte,reduceCtorEq]
      refine Aq (out.length - (at'+1)) (by omega) (Nat.le_refl _) ⟨at'+1,rfl,by omega,fun j z hj hz => ?_,by simp [forget,get],rfl⟩
      rcases Nat.lt_succ_iff_lt_or_eq.1 hj with hj | rfl
      ·exact hlt j z hj hz
      ·rw [hga] at hz; cases hz
       by_cases e:ltB (UT y) (UT x)
       ·exact e
       ·exact absurd (Afp e hl1) hne
     ·simp -dsimp (disch:=first | assumption | omega | (simp only [Ac];try omega)) only [↓Ag,Ah,eq_self,Nat.reduceEqDiff,↓reduceIte,reduceCtorEq]
      refine AiK hx20 hg (by omega) (by omega) hat hk hcp fun k' v' H2 hk2 hl2 => ?_
      have i1:=hsd.insert hat hlt (fun z hz=>by rw [hga] at hz; cases hz; exact Decidable.not_not.1 hl1)
      have i2:=AqO (k:=at') (x:=x) hmem
      rw [←hsucc] at i2
      simp only [List.append_assoc,List.singleton_append] at hk2 ⊢
      generalize out.take at'++x::out.drop at'=out' at *
      simp -dsimp (disch:=first | assumption | omega | (simp only [Ac];try omega)) only [↓Ag,Ae,Ai,Ah,eq_self,Nat.reduceEqDiff,↓reduceIte,reduceCtorEq,↓WL]
      exact Aq (l.length - (i+1)) (by omega) (by omega) ⟨i+1,k',v',_,out',rfl,by omega,i1,i2,by simp [forget,get],hk2,Nat.le_refl _⟩
    ·have hat2:at'=out.length:=by omega
     subst hat2
     simp -dsimp (disch:=first | assumption | omega | (simp only [Ac];try omega)) only [↓Ag,Ae,Ai,Ah,eq_self,Nat.reduceEqDiff,↓reduceIte,reduceCtorEq,↓WE]
     refine AiK hx20 hg (by omega) (by omega) hat hk hcp fun k' v' H2 hk2 hl2 => ?_
     have i1:=hsd.insert hat hlt (fun z hz=>by rw [List.getElem?_eq_none (Nat.le_refl _)] at hz; cases hz)
     have i2:=AqO (k:=out.length) (x:=x) hmem
     rw [←hsucc] at i2
     simp only [List.append_assoc,List.singleton_append] at hk2 ⊢
     generalize out.take out.length++x::out.drop out.length=out' at *
     simp -dsimp (disch:=first | assumption | omega | (simp only [Ac];try omega)) only [↓Ag,Ae,Ai,Ah,eq_self,Nat.reduceEqDiff,↓reduceIte,reduceCtorEq,↓WL]
     exact Aq (l.length - (i+1)) (by omega) (by omega) ⟨i+1,k',v',_,out',rfl,by omega,i1,i2,by simp [forget,get],hk2,Nat.le_refl _⟩
  ·have hi2:i=l.length:=by omega
   subst hi2
   rw [List.take_length] at hmem
   simp -dsimp (disch:=first | assumption | omega | (simp only [Ac];try omega)) only [↓Ag,Ae,Ai,Ah,eq_self,Nat.reduceEqDiff,↓reduceIte,reduceCtorEq,↓Wp,↓AfA,↓Akf,hk]
   exact ⟨out,rfl,hsd,hmem⟩
theorem BkL {e:En} (h:Al8 e):(enB e).length≤78:=by
 obtain ⟨h1,h2,h3⟩:=h
 have hn:=(Aar h2).2.1
 have ho:(ZB e.mode).length≤6:=by
  rcases LW h1 with h | h | h | h<;>rw [h]<;>decide
 unfold enB
 simp only [List.length_append,List.length_cons]
 omega
theorem AqT:∀ {s:List En},(∀ e∈s,Al8 e)→(s.flatMap enB).length≤78*s.length
 | [],_=>by simp
 | e::s,h=>by
  have h1:=BkL (h e (by simp))
  have h2:=AqT (s:=s) fun x hx=>h x (by simp [hx])
  rw [List.flatMap_cons,List.length_append,List.length_cons]
  omega
def BiY (l:List En) (r:TV):Prop:=(Yq l→∃ s,SE s∧s.Perm l∧r = .tup [slB (s.flatMap enB),i64 ((0:Nat):Int)])∧(¬ Yq l→r = .tup [.val (.slice none 0 0),i64 ((21:Nat):Int)])
theorem ApP (l:List En) (h20:∀ x∈l,x.id.length=20) (hnm:∀ x∈l,x.name.length≤140737488351232) (hll:l.length≤140737488351232):P8 Tryz.prog 50 [.sl 22 (l.map enT)] (BiY l):=by
 refine Au.toFreshV (Ait (by simp) ?_)
 have err:¬ Yq l→BiY l (.tup [.val (.slice none 0 0),i64 ((21:Nat):Int)]):=fun h=>⟨fun h'=>absurd h' h,fun _=>rfl⟩
 by_cases hl:l.length≤2000
 case neg =>
  simp -dsimp (disch:=first | assumption | omega | (simp only [Ac];try omega)) only [↓Ag,Ae,Ai,Ah,eq_self,Nat.reduceEqDiff,↓reduceIte,reduceCtorEq,↓Wx,↓Qy,↓Ir]
  exact err fun h=>hl h.1
 simp -dsimp (disch:=first | assumption | omega | (simp only [Ac];try omega)) only [↓Ag,Ae,Ai,Ah,eq_self,↓reduceIte,reduceCtorEq,↓Wx,↓Qy,↓AbK,↓AcO]
 refine Cj (fun q e H=>∃ i:Nat,q=l.length - i∧i≤l.length∧(∀ e∈l.take i,Al8 e)∧((l.take i).map (·.name)).Nodup∧e=[(0,.sl 22 (l.map enT)),(4,i64 (i:Int))]∧H=[]) l.length ?_ ?_
 ·exact ⟨0,by simp,by simp,by simp,by simp,rfl,rfl⟩
 ·rintro q e H ⟨i,rfl,hi,hall,hnd,rfl,rfl⟩
  by_cases hil:i<l.length
  ·have hg:l[i]?=some l[i]:=List.getElem?_eq_getElem hil
   have hm:=List.mem_of_getElem? hg
   have hxl:=h20 _ hm
   have hx20:(l[i].id.map by8).length=20:=by rw [List.length_map]; exact hxl
   have hxn:=hnm _ hm
   have hts:=List.take_succ_eq_append_getElem hil
   have htm:(l.take (i+1)).map (·.name)=(l.take i).map (·.name)++[l[i].name]:=by rw [hts,List.map_append]; rfl
   have hnx:((l.take (i+1)).map (·.name)).Nodup↔l[i].name∉(l.take i).map (·.name):=by
    rw [htm,List.nodup_append]
    exact ⟨fun ⟨_,_,g⟩ hm=>g _ hm _ (by simp) rfl,fun g=>⟨hnd,by simp,fun a ha b hb=>by rw [List.mem_singleton] at hb; subst hb; exact fun e=>g (e▸ha)⟩⟩
   have hpre:Yq l→((l.take (i+1)).map (·.name)).Nodup∧Al8 l[i]:=fun h=>⟨h.2.2.sublist ((List.take_sublist _ _).map _),h.2.1 _ hm⟩
   have hall':Al8 l[i]→∀ e∈l.take (i+1),Al8 e:=fun h e he=>by
    rw [hts] at he
    rcases List.mem_append.1 he with he | he
    ·exact hall e he
    ·rw [List.mem_singleton] at he; subst he; exact h
   have hoc:=BiX l[i].mode
   have hna:=Aso l[i].name (by omega)
   generalize hxi:l[i]=x at *
   simp -dsimp (disch:=first | assumption | omega | (simp only [Ac];try omega)) only [↓Ag,Ae,Ai,Ah,eq_self,Nat.reduceEqDiff,↓reduceIte,Nat.reduceAdd,reduceCtorEq,↓TB,↓Acg,hg]
   refine hna.calls rfl fun r hr => ?_
   subst hr
   cases hn:TY x.name with
   | false =>
    simp -dsimp (disch:=first | assumption | omega | (simp only [Ac];try omega)) only [↓Ag,Ae,Ai,Ah,eq_self,Nat.reduceEqDiff,↓reduceIte,reduceCtorEq,↓Tf,↓Ir]
    exact err fun h=>by have:=(hpre h).2.2.1; rw [hn] at this; cases this
   | true =>
    simp -dsimp (disch:=first | assumption | omega | (simp only [Ac];try omega)) only [↓Ag,Ae,Ai,Ah,eq_self,Nat.reduceEqDiff,↓reduceIte,reduceCtorEq,↓Tf,hg]
    refine hoc.calls rfl fun r hr => ?_
    subst hr
    cases hmo:V4 x.mode with
    | false =>
     have ho:=Ard.2 hmo
     simp -dsimp (disch:=first | assumption | omega | (simp only [Ac];try omega)) only [↓Ag,Ae,Ai,Ah,eq_self,Nat.reduceEqDiff,↓reduceIte,reduceCtorEq,ho,↓Ir]
     exact err fun h=>by have:=(hpre h).2.1; rw [hmo] at this; cases this
    | true =>
     have ho:¬ ZB x.mode=[]:=fun e=>by rw [Ard,hmo] at e; cases e
     have hen:Al8 x:=⟨hmo,hn,hxl⟩
     simp -dsimp (disch:=first | assumption | omega | (simp only [Ac];try omega)) only [↓Ag,Ae,Ai,Ah,eq_self,Nat.reduceEqDiff,↓reduceIte,reduceCtorEq,ho,↓AcC,↓AbX]
     refine Cj (fun q e H=>∃ k:Nat,q=i - k∧k≤i∧x.name∉(l.take k).map (·.name)∧e=[(0,.sl 22 (l.map enT)),(4,i64 (i:Int)),(6,i64 (k:Int))]∧H=[]) i ?_ ?_
     ·exact ⟨0,by simp,by simp,by simp,rfl,rfl⟩
     ·rintro q e H ⟨k,rfl,hk,hnk,rfl,rfl⟩
      by_cases hki:k<i
      ·have hkl:k<l.length:=by omega
       have hgk:l[k]?=some l[k]:=List.getElem?_eq_getElem hkl
       have hk20:(l[k].id.map by8).length=20:=by rw [List.length_map]; exact h20 _ (List.mem_of_getElem? hgk)
       have hks:(l.take (k+1)).map (·.name)=(l.take k).map (·.name)++[l[k].name]:=by rw [List.take_succ_eq_append_getElem hkl,List.map_append]; rfl
       have hkm:l[k].name∈(l.take i).map (·.name):=List.mem_map.2 ⟨l[k],by rw [List.mem_take_iff_getElem]; exact ⟨k,by omega,rfl⟩,rfl⟩
       generalize l[k]=y at *
       by_cases hyx:y.name=x.name
       ·simp -dsimp (disch:=first | assumption | omega | (simp only [Ac];try omega)) only [↓Ag,Ae,Ai,Ah,eq_self,Nat.reduceEqDiff,↓reduceIte,Nat.reduceAdd,reduceCtorEq,hg,hgk,hyx,↓LP,↓S9,↓Ir]
        exact err fun h=>hnx.1 (hpre h).1 (hyx▸hkm)
       ·simp -dsimp (disch:=first | assumption | omega | (simp only [Ac];try omega)) only [↓Ag,Ae,Ai,Ah,eq_self,Nat.reduceEqDiff,↓reduceIte,Nat.reduceAdd,reduceCtorEq,hg,hgk,hyx,↓LP,↓S9]
        refine Aq (i - (k+1)) (by omega) (by simp) ⟨k+1,rfl,by omega,?_,rfl,rfl⟩
        rw [hks]
        simp only [List.mem_append,List.mem_singleton,not_or]
        exact ⟨hnk,fun e=>hyx e.symm⟩
      ·have hki2:k=i:=by omega
       subst hki2
       simp -dsimp (disch:=first | assumption | omega | (simp only [Ac];try omega)) only [↓Ag,Ae,Ai,Ah,eq_self,Nat.reduceEqDiff,↓reduceIte,reduceCtorEq,↓LP,↓AcU]
       exact Aq (l.length - (k+1)) (by omega) (by simp) ⟨k+1,rfl,by omega,hall' hen,hnx.2 hnk,rfl,rfl⟩
  ·have hi2:i=l.length:=by omega
   rw [hi2,List.take_length] at hnd hall
   have hok:Yq l:=⟨hl,hall,hnd⟩
   have hso:=A3w l (by omega) h20 (fun x hx=>by have:=(Aar (hall x hx).2.1).2.1; omega) (Arm hok)
   simp -dsimp (disch:=first | assumption | omega | (simp only [Ac];try omega)) only [↓Ag,Ae,Ai,Ah,eq_self,Nat.reduceEqDiff,↓reduceIte,reduceCtorEq,↓TB,↓AbD,↓Abz]
   refine hso.calls rfl fun r hr => ?_
   obtain ⟨s,rfl,hse,hsp⟩:=hr
   have hsl:=hsp.length_eq
   have hsok:∀ e∈s,Al8 e:=fun e he=>hall e (hsp.mem_iff.1 he)
   clear hso
   simp -dsimp (disch:=first | assumption | omega | (simp only [Ac];try omega)) only [↓Ag,Ae,Ai,Ah,eq_self,Nat.reduceEqDiff,↓reduceIte,reduceCtorEq,↓AbI,↓Abw]
   refine Cj (fun q e H=>∃ (j k v cp:Nat),q=s.length - j∧j≤s.length∧H[k]?=some (.obj v (.arr ((s.take j).flatMap enB).length 1 (((s.take j).flatMap enB).map by8)))∧e=[(7,.os 1 k v [] 0 ((s.take j).flatMap enB).length cp),(8,.sl 22 (s.map enT)),(9,i64 (j:Int))]) s.length ?_ ?_
   ·exact ⟨0,0,0,0,by simp,by simp,rfl,by simp [forget,get]⟩
   ·rintro q e H ⟨j,k,v,cp,rfl,hj,hk,rfl⟩
    have hkl:=Aj9 hk
    by_cases hjl:j<s.length
    ·have hg:s[j]?=some s[j]:=List.getElem?_eq_getElem hjl
     have hen:=hsok _ (List.mem_of_getElem? hg)
     have hx20:(s[j].id.map by8).length=20:=by rw [List.length_map]; exact hen.2.2
     have hsn:(s.take (j+1)).flatMap enB=(s.take j).flatMap enB++enB s[j]:=by rw [List.take_succ_eq_append_getElem hjl,List.flatMap_append]; simp
     have hBl:=AqT (s:=s.take j) (fun e he=>hsok e (List.mem_of_mem_take he))
     have hBl2:(s.take j).length≤2000:=by simp; omega
     have hnl:=(Aar hen.2.1).2.1
     have hol:(ZB s[j].mode).length≤6:=by
      rcases LW hen.1 with h | h | h | h<;>rw [h]<;>decide
     have hoc:=BiX s[j].mode
     generalize (s.take j).flatMap enB=B at *
     generalize s[j]=x at *
     have hBt:(B.map by8).take B.length=B.map by8:=List.take_of_length_le (by simp)
     simp -dsimp (disch:=first | assumption | omega | (simp only [Ac];try omega)) only [↓Ag,Ae,Ai,Ah,eq_self,Nat.reduceEqDiff,↓reduceIte,hg,↓QP,↓Abv]
     refine hoc.calls rfl fun r hr => ?_
     subst hr
     have hid20:x.id.length=20:=hen.2.2
     have hT1:List.take (B.length+(ZB x.mode).length) (B.map by8++(ZB x.mode).map by8)=B.map by8++(ZB x.mode).map by8:=List.take_of_length_le (by simp)
     have hT2:∀ y:TV,List.take (B.length+(ZB x.mode).length+1) (B.map by8++(ZB x.mode).map by8++[y])=B.map by8++(ZB x.mode).map by8++[y]:=fun y=>List.take_of_length_le (by simp; omega)
     have hT3:∀ y:TV,List.take (B.length+(ZB x.mode).length+1+x.name.length) (B.map by8++(ZB x.mode).map by8++[y]++x.name.map by8)=B.map by8++(ZB x.mode).map by8++[y]++x.name.map by8:=fun y=>List.take_of_length_le (by simp; omega)
     have hT4:∀ y z:TV,List.take (B.length+(ZB x.mode).length+1+x.name.length+1) (B.map by8++(ZB x.mode).map by8++[y]++x.name.map by8++[z])=B.map by8++(ZB x.mode).map by8++[y]++x.name.map by8++[z]:=fun y z=>List.take_of_length_le (by simp; omega)
     have hT5:List.take 20 (x.id.map by8)=x.id.map by8:=List.take_of_length_le (by simp; omega)
     simp -dsimp (disch:=first | assumption | omega | (simp only [Ac];try omega)) only [↓Ag,Ae,Ai,Ah,eq_self,Nat.reduceEqDiff,↓reduceIte,Nat.reduceAdd,Nat.reduceLeDiff,hk,hBt,Dj,BkG,hT1,hT2,hT3,hT4,↓AbB,↓AbP,hg,hx20]
     have eB:B.map by8++(ZB x.mode).map by8++[TV.val (.int .u8 ((32:Nat):Int))]++x.name.map by8++[TV.val (.int .u8 ((0:Nat):Int))]++x.id.map by8=(B++enB x).map by8:=by
      unfold enB
      simp only [List.map_append,List.map_cons,List.append_assoc,List.cons_append,List.nil_append]
      rfl
     have eL:B.length+(ZB x.mode).length+1+x.name.length+1+20=(B++enB x).length:=by
      unfold enB
      simp only [List.length_append,List.length_cons]
      omega
     rw [eB,eL,←hsn,List.append_assoc]
     refine Aq (s.length - (j+1)) (by omega) (by simp) ⟨j+1,k,_,_,rfl,by omega,?_,rfl⟩
     rw [List.getElem?_append_left (by simpa using hkl),List.getElem?_set_self hkl]
    ·have hj2:j=s.length:=by omega
     rw [hj2,List.take_length] at hk
     have htt:s.take j=s:=List.take_of_length_le (by omega)
     rw [htt]
     have hBt:((s.flatMap enB).map by8).take (s.flatMap enB).length=(s.flatMap enB).map by8:=List.take_of_length_le (by simp)
     simp -dsimp (disch:=first | assumption | omega | (simp only [Ac];try omega)) only [↓Ag,Ae,Ai,Ah,eq_self,Nat.reduceEqDiff,↓reduceIte,hk,hBt,↓QP,↓AbJ,↓Ir]
     exact ⟨fun _=>⟨s,hse,hsp,rfl⟩,fun h=>absurd hok h⟩
end
section
open Go.RowKit
variable [AL]
abbrev Bi4:TV := .arr 20 1 (List.replicate 20 (.val (.int .u8 ((0:Nat):Int))))
theorem Aoi:∀ l:List En,MZ (l.map enT)=true
 | []=>rfl
 | x::l=>by
  have hy:∀ l:List UInt8,MZ (l.map by8)=true:=fun l=>by
   induction l with
   | nil=>rfl
   | cons b l ih=>rw [List.map_cons,MZ,ih]; rfl
  rw [List.map_cons,MZ,Aoi l]
  show (true && (true && (MZ (x.id.map by8) && true)) && true)=true
  rw [hy]; rfl
theorem Bqw {b:List UInt8} {es:List En} {f k v cp N m:Nat} {H:List Ob} {Q:VEx→Env→List Ob→Prop} (hb:b.length≤1000000) (hf:f≤b.length+1) (hel:es.length≤1000000) (hNk:N≠k)
  (hk:H[k]?=some (.obj v (.arr es.length 22 (es.map enT)))) (hN:H[N]?=some (.obj 0 (.agg [i64 (m:Int),ts [],Bi4])))
  (hno:∀ H' j,j≤(b.drop f).length→0∉(b.drop f).take j→((b.drop f)[j]?=some 0∨j=(b.drop f).length)→b.length<f+j+21→Q .ret [(2,.val (.slice none 0 0)),(3,tb false)] H')
  (hyes:∀ H' j v' cp' e,j≤(b.drop f).length→0∉(b.drop f).take j→((b.drop f)[j]?=some 0∨j=(b.drop f).length)→f+j+21≤b.length→H.length≤H'.length→e=⟨(m:Int),(b.drop f).take j,(b.drop (f+j+1)).take 20⟩→H'[k]?=some (.obj v' (.arr (es++[e]).length 22 ((es++[e]).map enT)))→Q .nor [(0,slB b),(4,.os 22 k v' [] 0 (es++[e]).length cp'),(5,i64 ((f+j+21:Nat):Int))] H') :
  vwp Tryz.prog KC Q [(0,slB b),(4,.os 22 k v [] 0 es.length cp),(5,i64 (f:Int)),(6,.op N 0 []),(7,i64 (f:Int))] H:=by
 have hDl:(b.drop f).length=b.length - f:=List.length_drop
 have hLe:∀ e:En,(es++[e]).length=es.length+1:=fun e=>by simp
 simp only [hLe] at hyes
 simp -dsimp (disch:=first | assumption | omega | (simp only [Ac];try omega)) only [↓Ag,↓AdA]
 refine Cj (fun q e H'=>∃ (j:Nat),q=(b.drop f).length - j∧j≤(b.drop f).length∧0∉(b.drop f).take j∧H'=H∧e=[(0,slB b),(4,.os 22 k v [] 0 es.length cp),(5,i64 ((f+j:Nat):Int)),(6,.op N 0 []),(7,i64 (f:Int))]) (b.drop f).length ?_ ?_
 ·exact ⟨0,rfl,Nat.zero_le _,List.not_mem_nil,rfl,rfl⟩
 rintro q e H' ⟨j,rfl,hj,h0,rfl,rfl⟩
 have tail:((b.drop f)[j]?=some 0∨j=(b.drop f).length)→vwp Tryz.prog PM Q [(0,slB b),(4,.os 22 k v [] 0 es.length cp),(5,i64 ((f+j:Nat):Int)),(6,.op N 0 []),(7,i64 (f:Int))] H':=fun hend=>by
  by_cases h21:f+j+21≤b.length
  case neg =>
   simp -dsimp (disch:=first | assumption | omega | (simp only [Ac];try omega)) only [↓Ag,Ae,Ai,Ah,eq_self,Nat.reduceEqDiff,↓reduceIte,reduceCtorEq,↓UD]
   exact hno H' j hj h0 hend (by omega)
  have hNl:=Aj9 hN
  have gN:∀ o:Ob,(H'.set N o)[N]?=some o:=fun o=>List.getElem?_set_self hNl
  have gk:∀ o:Ob,(H'.set N o)[k]?=some (.obj v (.arr es.length 22 (es.map enT))):=fun o=>by rw [List.getElem?_set_ne hNk]; exact hk
  have gk2:∀ (o:Ob) (T:List Ob),(H'.set N o++T)[k]?=some (.obj v (.arr es.length 22 (es.map enT))):=fun o T=>by rw [List.getElem?_append_left (by rw [List.length_set]; exact Aj9 hk)]; exact gk o
  have hd1:(((b.map by8).drop (f+j+1)).take 20).length=20:=by simp; omega
  have hq0:f+j+21 - (f+j+1)=20:=by omega
  have hq1:∀ l:List UInt8,List.take 20 (List.take 20 l)=List.take 20 l:=fun l=>by rw [List.take_take,Nat.min_self]
  have hq2:(List.take 20 (List.drop (f+j+1) b)).length=20:=by simp; omega
  have hq3:∀ z:TV,List.drop 20 (List.replicate 20 z)=[]:=fun z=>rfl
  have hq4:∀ y z:TV,List.take 1 ((List.replicate 1 z).set 0 y)=[y]:=fun y z=>rfl
  simp -dsimp (disch:=first | assumption | omega | (simp only [Ac];try omega)) only [↓Ag,Ae,Ai,Ah,eq_self,Nat.reduceEqDiff,↓reduceIte,Nat.reduceAdd,reduceCtorEq,Nat.reduceLeDiff,hN,gN,gk2,hq0,hq2,hq3,hq4,Nat.min_self,List.append_nil,↓UD,↓AdJ,↓AdM]
  have hkl:=Aj9 hk
  refine hyes _ j (v+1) (es.length+1) ⟨(m:Int),(b.drop f).take j,(b.drop (f+j+1)).take 20⟩ hj h0 hend h21 (by simp) rfl ?_
  rw [List.getElem?_set_self (by simp; omega),List.map_append]; rfl
 by_cases hjl:j<(b.drop f).length
 case neg =>
  simp -dsimp (disch:=first | assumption | omega | (simp only [Ac];try omega)) only [↓Ag,Ae,Ai,Ah,eq_self,Nat.reduceEqDiff,↓reduceIte,reduceCtorEq,↓MS]
  exact tail (.inr (by omega))
 obtain ⟨c,hc⟩:∃ c,(b.drop f)[j]?=some c:=⟨_,List.getElem?_eq_getElem hjl⟩
 have hc8:(b.map by8)[f+j]?=some (by8 c):=by rw [List.getElem?_drop] at hc; rw [List.getElem?_map,hc]; rfl
 by_cases hc0:c.toNat=0
 ·simp -dsimp (disch:=first | assumption | omega | (simp only [Ac];try omega)) only [↓Ag,Ae,Ai,Ah,eq_self,Nat.reduceEqDiff,↓reduceIte,reduceCtorEq,hc8,hc0,↓MS]
  exact tail (.inl (by rw [hc,show c=0 from UInt8.toNat_inj.1 hc0]))
 simp -dsimp (disch:=first | assumption | omega | (simp only [Ac];try omega)) only [↓Ag,Ae,Ai,Ah,eq_self,Nat.reduceEqDiff,↓reduceIte,reduceCtorEq,hc8,hc0,↓MS]
 refine Aq ((b.drop f).length - (j+1)) (by omega) (by simp) ⟨j+1,by omega,by omega,?_,rfl,rfl⟩
 rw [List.take_add_one,hc]
 simp only [Option.toList_some,List.mem_append,List.mem_singleton,not_or]
 exact ⟨h0,fun e=>hc0 (by rw [←e]; rfl)⟩
theorem Ar6 (b:List UInt8) (hb:b.length≤1000000):P8 Tryz.prog 32 [slB b] (A3J b):=by
 refine Au.toFreshV (Ai4 (by simp) ?_)
 have err:(∀ l,¬ QB l b)→A3J b (.tup [.val (.slice none 0 0),tb false]):=fun h=>⟨fun l hl=>absurd hl (h l),fun _=>rfl⟩
 simp -dsimp (disch:=first | assumption | omega | (simp only [Ac];try omega)) only [↓Ag,Ae,Ai,Ah,eq_self,Nat.reduceEqDiff,↓reduceIte,reduceCtorEq,↓AhK,↓Ade,↓Aca,↓AcM]
 refine Cj (fun q e H=>∃ (es:List En) (a k v cp:Nat),q=b.length - a∧PR b es a∧H[k]?=some (.obj v (.arr es.length 22 (es.map enT)))∧e=[(0,slB b),(4,.os 22 k v [] 0 es.length cp),(5,i64 (a:Int))]) b.length ?_ ?_
 ·exact ⟨[],0,0,0,0,rfl,PR.start b,rfl,rfl⟩
 ·rintro q e H ⟨es,a,k,v,cp,rfl,hP,hk,rfl⟩
  have hkl:=Aj9 hk
  have hal:=hP.le
  by_cases ha:a<b.length
  case neg =>
   have hae:a=b.length:=by omega
   subst hae
   have hkt:(es.map enT).take es.length=es.map enT:=List.take_of_length_le (by simp)
   have hfew:=hP.few
   simp -dsimp (disch:=first | assumption | omega | (simp only [Ac];try omega)) only [↓Ag,Ae,Ai,Ah,eq_self,Nat.reduceEqDiff,↓reduceIte,reduceCtorEq,↓TE,↓Adc]
   refine (ApP es hP.ids (fun x hx=>by have:=hP.nms x hx; omega) (by omega)).lends (args':=[.sl 22 (es.map enT)]) (by simp -dsimp (disch:=first | assumption | omega | (simp only [Ac];try omega)) only [Ai,Ah,eq_self,↓reduceIte,hk,hkt]) fun r hr => ?_
   by_cases hok:Yq es
   case neg =>
    rw [hr.2 hok]
    simp -dsimp (disch:=first | assumption | omega | (simp only [Ac];try omega)) only [↓Ag,Ae,Ai,Ah,eq_self,Nat.reduceEqDiff,↓reduceIte,reduceCtorEq,↓LQ,↓D6]
    exact err fun l hl=>hok (by rw [←hP.fin hl]; exact hl.1)
   obtain ⟨s,hs1,hs2,rfl⟩:=hr.1 hok
   clear hr
   by_cases hsb:s.flatMap enB=b
   ·have hT:QB s b:=⟨⟨by rw [hs2.length_eq]; exact hok.1,fun e he=>hok.2.1 e (hs2.mem_iff.1 he),((hs2.map (·.name)).nodup_iff).2 hok.2.2⟩,hs1,hsb⟩
    rw [hsb]
    simp -dsimp (disch:=first | assumption | omega | (simp only [Ac];try omega)) only [↓Ag,Ae,Ai,Ah,eq_self,Nat.reduceEqDiff,↓reduceIte,reduceCtorEq,hk,hkt,↓LQ,↓D6]
    rw [if_pos (Aoi _)]
    exact ⟨fun l hl=>by rw [hP.fin hl],fun h=>absurd hT (h s)⟩
   ·simp -dsimp (disch:=first | assumption | omega | (simp only [Ac];try omega)) only [↓Ag,Ae,Ai,Ah,eq_self,Nat.reduceEqDiff,↓reduceIte,reduceCtorEq,hsb,↓LQ,↓D6]
    refine err fun l hl=>hsb ?_
    have he:=hP.fin hl
    subst he
    rw [hs1.ext hl.2.1 hs2]; exact hl.2.2
  have hz:∀ T:List Ob,(H++T)[k]?=H[k]?:=fun T=>List.getElem?_append_left hkl
  simp -dsimp (disch:=first | assumption | omega | (simp only [Ac];try omega)) only [↓Ag,Ae,Ai,Ah,eq_self,Nat.reduceEqDiff,↓reduceIte,reduceCtorEq,↓TE,↓Acu,↓Acl]
  refine Cj (fun q e H'=>∃ (i:Nat),q=(b.drop a).length - i∧i≤(b.drop a).length∧32∉(b.drop a).take i∧AdQ 0 ((b.drop a).take i)≤8388615∧H.length<H'.length∧H'[k]?=some (.obj v (.arr es.length 22 (es.map enT))) ∧
   H'[H.length]?=some (.obj 0 (.agg [i64 ((AdQ 0 ((b.drop a).take i):Nat):Int),ts [],Bi4]))∧e=[(0,slB b),(4,.os 22 k v [] 0 es.length cp),(5,i64 ((a+i:Nat):Int)),(6,.op H.length 0 [])]) (b.drop a).length ?_ ?_
  ·exact ⟨0,rfl,Nat.zero_le _,List.not_mem_nil,Nat.zero_le _,by simp,by rw [hz]; exact hk,by rw [List.getElem?_append_right (Nat.le_refl _),Nat.sub_self]; rfl,rfl⟩
  rintro q e H' ⟨i,rfl,hi,h32,hm,hHl,hk',hn',rfl⟩
  have hDl:(b.drop a).length=b.length - a:=List.length_drop
  have tail:((b.drop a)[i]?=some 32∨i=(b.drop a).length)→vwp Tryz.prog KC (Blk 1 (Rnd 1 [0,4,5] (Blk 0 (Thn Tryz.prog NR (Acy VG fun x H'=>CQ (frs H' x) (A3J b)))) (fun q e H=>∃ (es:List En) (a k v cp:Nat),q=b.length - a∧PR b es a∧H[k]?=some (.obj v (.arr es.length 22 (es.map enT)))∧e=[(0,slB b),(4,.os 22 k v [] 0 es.length cp),(5,i64 (a:Int))]) (b.length - a))) [(0,slB b),(4,.os 22 k v [] 0 es.length cp),(5,i64 ((a+i+1:Nat):Int)),(6,.op H.length 0 []),(7,i64 ((a+i+1:Nat):Int))] H':=fun hend=>by
   have hfew:=hP.few
   refine Bqw hb (by omega) (by omega) (by omega) hk' hn' (fun H2 j hj h0 hj2 hlt => ?_) (fun H2 j v' cp' e hj h0 hj2 hle hHl2 he hk2 => ?_)
   ·simp -dsimp (disch:=first | assumption | omega | (simp only [Ac];try omega)) only [↓Ag,Ae,Ai,Ah,eq_self,Nat.reduceEqDiff,↓reduceIte,↓D6]
    refine err (hP.no ha fun x r hx h => ?_)
    have:=(AsW hx h hi h32 hend hj h0 hj2).1
    omega
   ·have hst:PR b (es++[e]) (a+i+1+j+21):=hP.step (by omega) hle (by rw [he]; simp; omega) (by rw [he]; simp; omega) fun x r hx h=>by
     obtain ⟨_,k1,k2⟩:=AsW hx h hi h32 hend hj h0 hj2
     exact ⟨by rw [k1,he],k2⟩
    have hLe:(es++[e]).length=es.length+1:=by simp
    simp -dsimp (disch:=first | assumption | omega | (simp only [Ac];try omega)) only [↓Ag,Ah]
    refine Aq (b.length - (a+i+1+j+21)) (by omega) (by omega) ⟨es++[e],a+i+1+j+21,k,v',cp',rfl,hst,hk2,by rw [hLe]; rfl⟩
  by_cases hil:i<(b.drop a).length
  case neg =>
   have hie:i=(b.drop a).length:=by omega
   simp -dsimp (disch:=first | assumption | omega | (simp only [Ac];try omega)) only [↓Ag,Ae,Ai,Ah,eq_self,Nat.reduceEqDiff,↓reduceIte,reduceCtorEq,↓DF,↓SL,↓TT]
   exact tail (.inr hie)
  obtain ⟨c,hc⟩:∃ c,(b.drop a)[i]?=some c:=⟨_,List.getElem?_eq_getElem hil⟩
  have hc8:(b.map by8)[a+i]?=some (by8 c):=by rw [List.getElem?_drop] at hc; rw [List.getElem?_map,hc]; rfl
  by_cases hc32:c.toNat=32
  ·simp -dsimp (disch:=first | assumption | omega | (simp only [Ac];try omega)) only [↓Ag,Ae,Ai,Ah,eq_self,Nat.reduceEqDiff,↓reduceIte,reduceCtorEq,hc8,hc32,↓DF,↓SL,↓TT]
   exact tail (.inl (by rw [hc,show c=32 from UInt8.toNat_inj.1 hc32]))
  have hb0:(Abt c=true→AdQ 0 ((b.drop a).take i)≤1048576→False)→∀ l,¬ QB l b:=fun h=>hP.no ha fun x r hx h'=>by
   obtain ⟨k1,k2⟩:=BkU hx h' hi h32 hc fun e=>hc32 (by rw [e]; rfl)
   exact h k1 k2
  by_cases hlo:c.toNat<48
  ·simp -dsimp (disch:=first | assumption | omega | (simp only [Ac];try omega)) only [↓Ag,Ae,Ai,Ah,eq_self,Nat.reduceEqDiff,↓reduceIte,reduceCtorEq,hc8,hc32,hlo,↓DF,↓Jm,↓D6]
   exact err (hb0 fun h _=>by simp [Abt] at h; omega)
  by_cases hhi:55<c.toNat
  ·simp -dsimp (disch:=first | assumption | omega | (simp only [Ac];try omega)) only [↓Ag,Ae,Ai,Ah,eq_self,Nat.reduceEqDiff,↓reduceIte,reduceCtorEq,hc8,hc32,hlo,hhi,↓DF,↓Jm,↓D6]
   exact err (hb0 fun h _=>by simp [Abt] at h; omega)
  by_cases hbig:1048576<AdQ 0 ((b.drop a).take i)
  ·simp -dsimp (disch:=first | assumption | omega | (simp only [Ac];try omega)) only [↓Ag,Ae,Ai,Ah,eq_self,Nat.reduceEqDiff,↓reduceIte,reduceCtorEq,hc8,hc32,hlo,hhi,hbig,hn',↓DF,↓Jm,↓D6]
   exact err (hb0 fun _ h=>by omega)
  have hbs:I9 5 BinOp.sub (.int .u8 (c.toNat:Int)) (.int .u8 ((48:Nat):Int))=some (.int .u8 ((c.toNat - 48:Nat):Int)):=Aob (by omega) (by have:=c.toNat_lt; omega)
  simp -dsimp (disch:=first | assumption | omega | (simp only [Ac];try omega)) only [↓Ag,Ae,Ai,Ah,eq_self,Nat.reduceEqDiff,↓reduceIte,reduceCtorEq,hc8,hc32,hlo,hhi,hbig,hn',hbs,↓DF,↓Jm,↓AdI]
  have hsn:(b.drop a).take (i+1)=(b.drop a).take i++[c]:=by rw [List.take_add_one,hc]; rfl
  have hsm:AdQ 0 ((b.drop a).take (i+1))=AdQ 0 ((b.drop a).take i)*8+(c.toNat - 48):=by rw [hsn,Af5]; rfl
  refine Aq ((b.drop a).length - (i+1)) (by omega) (by simp; omega) ⟨i+1,by omega,by omega,?_,by omega,by rw [List.length_set]; exact hHl,?_,?_,rfl⟩
  ·rw [hsn]
   simp only [List.mem_append,List.mem_singleton,not_or]
   exact ⟨h32,fun e=>hc32 (by rw [←e]; rfl)⟩
  ·rw [List.getElem?_set_ne (by omega)]; exact hk'
  ·rw [List.getElem?_set_self hHl,hsm]
end
section
open Go.RowKit Kit
variable [AL]
abbrev obT (o:ObD):TV := .agg [i64 o.kind,slB o.data]
def LSt (x:TV) (out:List EnJ) (H:List Ob):Prop:=(out=[]∧x = .val (.slice none 0 0))∨∃ k v cp,x = .os 24 k v [] 0 out.length cp∧H[k]?=some (.obj v (.arr out.length 24 (out.map enJ)))
def Brn (res:Except Nat (List EnJ)) (x:TV) (H':List Ob):Prop:=match res with
 | .error c=>x = .tup [.val (.slice none 0 0),i64 (c:Int)]
 | .ok o=>∃ k v cp,x = .tup [.os 24 k v [] 0 o.length cp,i64 ((0:Nat):Int)]∧H'[k]?=some (.obj v (.arr o.length 24 (o.map enJ)))
theorem Bmc {objs:List ObD} {f:Nat} {dir:List UInt8} {t:List En} {out:List EnJ} {ri v cp:Nat} {H1:List Ob} {Q:VEx→Env→List Ob→Prop} {R:List UInt8→List UInt8→List EnJ→Except Nat (List EnJ)}
  (hR:∀ i d out o,Af6 out→R i d out = .ok o→Af6 o) (hRe:∀ i d out c,R i d out = .error c→Alb c)
  (ih:∀ (i d:List UInt8) (out:List EnJ) (x3:TV) (H:List Ob),dir.length+1≤d.length→d.length≤101→i.length=20→Af6 out→LSt x3 out H →
   Au Tryz.prog 24 [X0 i,ts d,.sl 2 (objs.map obT),x3] H (fun x H'=>H.length≤H'.length∧Brn (R i d out) x H'))
  (hdl:dir.length≤101) (htl:t.length≤2000) (hten:∀ e∈t,Al8 e) (hout:Af6 out) (hri:H1[ri]?=some (.obj v (.arr out.length 24 (out.map enJ))))
  (hno:∀ c H',AhG R dir t out = .error c→H1.length≤H'.length→Q .ret [(8,.val (.slice none 0 0)),(9,i64 (c:Int))] H')
  (hyes:∀ o k v cp H',AhG R dir t out = .ok o→H1.length≤H'.length→H'[k]?=some (.obj v (.arr o.length 24 (o.map enJ)))→Q .ret [(8,.os 24 k v [] 0 o.length cp),(9,i64 ((0:Nat):Int))] H') :
  vwp Tryz.prog Vk Q [(1,ts dir),(2,.sl 2 (objs.map obT)),(3,.os 24 ri v [] 0 out.length cp),(13,.sl 22 (t.map enT)),(65,tb false)] H1:=by
 simp -dsimp (disch:=first | assumption | omega | (simp only [Ac];try omega)) only [↓Ag,Ae,Ai,Ah,eq_self,Nat.reduceEqDiff,↓reduceIte,↓Air,↓Ajq]
 refine Cj (fun q e H2=>∃ (k:Nat) (o:List EnJ) (ri v cp:Nat),q=t.length - k∧k≤t.length∧Af6 o∧AhG R dir t out=AhG R dir (t.drop k) o∧H1.length≤H2.length ∧
   H2[ri]?=some (.obj v (.arr o.length 24 (o.map enJ))) ∧
   e=[(1,ts dir),(2,.sl 2 (objs.map obT)),(3,.os 24 ri v [] 0 o.length cp),(13,.sl 22 (t.map enT)),(15,i64 (k:Int))]) t.length ?_ ?_
 ·exact ⟨0,out,ri,v,cp,rfl,Nat.zero_le _,hout,rfl,Nat.le_refl _,hri,rfl⟩
 clear hri
 rintro q e H2 ⟨k,o,ri,v,cp,rfl,hk,ho,hent,hHl,g3,rfl⟩
 have l3:ri<H2.length:=(List.getElem?_eq_some_iff.1 g3).1
 have A3:∀ T:List Ob,(H2++T)[ri]?=some (.obj v (.arr o.length 24 (o.map enJ))):=fun T=>by rw [List.getElem?_append_left l3]; exact g3
 by_cases hkt:k<t.length
 ·have hg:t[k]?=some t[k]:=List.getElem?_eq_getElem hkt
  have hen:=hten _ (List.mem_of_getElem? hg)
  have hdk:=List.drop_eq_getElem_cons hkt
  generalize t[k]=en at *
  have hn50:=(Aar hen.2.1).2.1
  have hI2:(en.id.map by8).length=20:=by rw [List.length_map]; exact hen.2.2
  rw [hdk,AhG] at hent
  have hnl:(dir++en.name).length=dir.length+en.name.length:=List.length_append
  have hcat1:=fun t=>Arv (t:=t) (l:=dir) (m:=en.name) (by omega)
  by_cases hp:(dir++en.name).length > 100
  ·rw [if_pos hp] at hent
   have:=hno 71 H2 hent hHl
   simp -dsimp (disch:=first | assumption | omega | (simp only [Ac];try omega)) only [↓Ag,Ae,Ai,Ah,eq_self,Nat.reduceEqDiff,↓reduceIte,Nat.reduceAdd,↓J6,↓NK,↓NF,hg,hcat1,Dj]
   exact this
  rw [if_neg hp] at hent
  have hcat2:=fun t=>Arv (t:=t) (l:=dir++en.name) (m:=[47]) (by simp; omega)
  by_cases hm:en.mode=16384
  ·rw [if_pos hm] at hent
   have hih:=ih en.id (dir++en.name++[47]) o (.os 24 ri v [] 0 o.length cp) H2 (by simp) (by simp; omega) hen.2.2 ho (.inr ⟨ri,v,cp,rfl,g3⟩)
   simp -dsimp (disch:=first | assumption | omega | (simp only [Ac];try omega)) only [↓Ag,Ae,Ai,Ah,eq_self,Nat.reduceEqDiff,↓reduceIte,Nat.reduceAdd,↓J6,↓NK,↓NF,hg,hcat1,hcat2,Dj,hm,↓TP,↓TM,↓AjB]
   refine Js (hih.mono fun x H' hx => ?_)
   obtain ⟨hx1,hx2⟩:=hx
   cases hres:R en.id (dir++en.name++[47]) o with
   | error c =>
    rw [hres] at hx2 hent
    have hx3:x = .tup [.val (.slice none 0 0),i64 (c:Int)]:=hx2
    subst hx3
    have hc0:c≠0:=by rcases hRe _ _ _ _ hres with h | h | h | h<;>omega
    have hc1:c≤71:=by rcases hRe _ _ _ _ hres with h | h | h | h<;>omega
    have:=hno c H' hent (by omega)
    simp -dsimp (disch:=first | assumption | omega | (simp only [Ac];try omega)) only [↓Ag,Ae,Ai,Ah,eq_self,Nat.reduceEqDiff,↓reduceIte,hc0]
    exact this
   | ok o' =>
    rw [hres] at hx2 hent
    obtain ⟨ri',v',cp',rfl,w4⟩:=hx2
    have hent':AhG R dir t out=AhG R dir (t.drop (k+1)) o':=hent
    have ho':=hR _ _ _ _ ho hres
    simp -dsimp (disch:=first | assumption | omega | (simp only [Ac];try omega)) only [↓Ag,Ae,Ai,Ah,eq_self,Nat.reduceEqDiff,↓reduceIte]
    exact Aq (t.length - (k+1)) (by omega) (by omega) ⟨k+1,o',ri',v',cp',rfl,by omega,ho',hent',by omega,w4,rfl⟩
  rw [if_neg hm] at hent
  by_cases ho2:o.length≥2000
  ·rw [if_pos ho2] at hent
   have:=hno 70 H2 hent hHl
   simp -dsimp (disch:=first | assumption | omega | (simp only [Ac];try omega)) only [↓Ag,Ae,Ai,Ah,eq_self,Nat.reduceEqDiff,↓reduceIte,Nat.reduceAdd,↓J6,↓NK,↓NF,hg,hcat1,Dj,↓TP,↓TM,↓AaZ,ho2]
   exact this
  rw [if_neg ho2] at hent
  have htk:(o.map enJ).take o.length=o.map enJ:=List.take_of_length_le (by simp)
  simp -dsimp (disch:=first | assumption | omega | (simp only [Ac];try omega)) only [↓Ag,Ae,Ai,Ah,eq_self,Nat.reduceEqDiff,↓reduceIte,Nat.reduceAdd,Nat.reduceLeDiff,↓J6,↓NK,↓NF,hg,hcat1,Dj,↓TP,↓TM,↓AaZ,ho2,↓Ajg,A3,Aq7,htk]
  have hsn:o.map enJ++[enJ ⟨dir++en.name,en.mode,en.id,0,0⟩]=(o++[(⟨dir++en.name,en.mode,en.id,0,0⟩:EnJ)]).map enJ:=by simp
  refine Aq (t.length - (k+1)) (by omega) (by simp; omega) ⟨k+1,o++[⟨dir++en.name,en.mode,en.id,0,0⟩],ri,v+1,o.length+1,rfl,by omega,⟨by simp; omega,fun x hx => ?_⟩,hent,by simp; omega,?_,?_⟩
  ·rcases List.mem_append.1 hx with hx | hx
   ·exact ho.2 x hx
   ·rw [List.mem_singleton.1 hx]; exact hen.2.2
  ·rw [List.getElem?_append_left (by simpa using l3),List.getElem?_set_self l3,←hsn,List.length_append]; rfl
  ·rw [List.length_append]; rfl
 ·have hent2:AhG R dir t out = .ok o:=by rw [hent,List.drop_of_length_le (by omega)]; rfl
  have:=hyes o ri v cp H2 hent2 hHl g3
  simp -dsimp (disch:=first | assumption | omega | (simp only [Ac];try omega)) only [↓Ag,Ae,Ai,Ah,eq_self,Nat.reduceEqDiff,↓reduceIte,↓J6,↓Aip]
  exact this
variable [Ar] [AB]
theorem BnF {objs:List ObD} (hol:objs.length≤1000000) (hob:∀ o∈objs,o.data.length≤1000000):∀ (f:Nat) (i dir:List UInt8) (out:List EnJ) (x3:TV) (H:List Ob),102≤dir.length+f→dir.length≤101→i.length=20→Af6 out→LSt x3 out H →
  Au Tryz.prog 24 [X0 i,ts dir,.sl 2 (objs.map obT),x3] H (fun x H'=>H.length≤H'.length∧Brn (LD (JR objs) f i dir out) x H'):=by
 intro f
 induction f with
 | zero=>intro i dir out x3 H h1 h2; omega
 | succ f ih =>
 intro i dir out x3 H h1 h2 hi hout hL
 refine Aon (by simp) ?_
 have hI:(i.map by8).length=20:=by rw [List.length_map]; exact hi
 have hloop:∀ (H1:List Ob) (ri v cp:Nat),H.length≤H1.length→H1[H.length]?=some (.obj 0 (X0 i))→H1[ri]?=some (.obj v (.arr out.length 24 (out.map enJ))) →
   vwp Tryz.prog (Af.loop [1,2,3,4,10] U6) (Blk 0 (Thn Tryz.prog VD (Acy Afl fun x H'=>H.length≤H'.length∧Brn (LD (JR objs) (f+1) i dir out) x H')))
    [(1,ts dir),(2,.sl 2 (objs.map obT)),(3,.os 24 ri v [] 0 out.length cp),(4,.op H.length 0 []),(10,i64 ((0:Nat):Int))] H1:=by
  intro H1 ri v cp q1 q2 q3
  refine Cj (fun q e H2=>∃ (j:Nat),q=objs.length - j∧j≤objs.length∧JR objs i=JR (objs.drop j) i∧H1.length≤H2.length∧H2[H.length]?=some (.obj 0 (X0 i))∧H2[ri]?=some (.obj v (.arr out.length 24 (out.map enJ))) ∧
   e=[(1,ts dir),(2,.sl 2 (objs.map obT)),(3,.os 24 ri v [] 0 out.length cp),(4,.op H.length 0 []),(10,i64 (j:Int))]) objs.length ?_ ?_
  ·exact ⟨0,rfl,Nat.zero_le _,rfl,Nat.le_refl _,q2,q3,rfl⟩
  clear q2 q3
  rintro q e H2 ⟨j,rfl,hj,hlj,hHl,g1,g2,rfl⟩
  have l1:H.length<H2.length:=(List.getElem?_eq_some_iff.1 g1).1
  have l2:ri<H2.length:=(List.getElem?_eq_some_iff.1 g2).1
  have A1:∀ T:List Ob,(H2++T)[H.length]?=some (.obj 0 (X0 i)):=fun T=>by rw [List.getElem?_append_left l1]; exact g1
  have A2:∀ T:List Ob,(H2++T)[ri]?=some (.obj v (.arr out.length 24 (out.map enJ))):=fun T=>by rw [List.getElem?_append_left l2]; exact g2
  by_cases hjl:j<objs.length
  case neg =>
   have hl0:JR objs i=none:=by rw [hlj,List.drop_of_length_le (by omega)]; rfl
   have hres:LD (JR objs) (f+1) i dir out = .error 50:=by rw [LD,hl0]
   rw [hres]
   simp -dsimp (disch:=first | assumption | omega | (simp only [Ac];try omega)) only [↓Ag,Ae,Ai,Ah,eq_self,Nat.reduceEqDiff,↓reduceIte,↓ZK,↓Ah2,↓LU]
   exact ⟨by omega,rfl⟩
  have hg:objs[j]?=some objs[j]:=List.getElem?_eq_getElem hjl
  have hod:=hob _ (List.mem_of_getElem? hg)
  have hdk:=List.drop_eq_getElem_cons hjl
  generalize objs[j]=ob at *
  rw [hdk,JR] at hlj
  have hrid:=Bo6 ob.kind ob.data hod
  have hobT:obT ob = .agg [i64 ob.kind,slB ob.data]:=rfl
  have goon:AfZ ob i=none→∀ H3:List Ob,H2.length≤H3.length→H3[H.length]?=some (.obj 0 (X0 i))→H3[ri]?=some (.obj v (.arr out.length 24 (out.map enJ))) →
    (fun q e H2=>∃ (j:Nat),q=objs.length - j∧j≤objs.length∧JR objs i=JR (objs.drop j) i∧H1.length≤H2.length∧H2[H.length]?=some (.obj 0 (X0 i))∧H2[ri]?=some (.obj v (.arr out.length 24 (out.map enJ))) ∧
   e=[(1,ts dir),(2,.sl 2 (objs.map obT)),(3,.os 24 ri v [] 0 out.length cp),(4,.op H.length 0 []),(10,i64 (j:Int))]) (objs.length - (j+1)) [(1,ts dir),(2,.sl 2 (objs.map obT)),(3,.os 24 ri v [] 0 out.length cp),(4,.op H.length 0 []),(10,i64 ((j+1:Nat):Int))] H3:=fun h H3 h3 h4 h5 =>
   ⟨j+1,rfl,by omega,by rw [hlj,h],by omega,h4,h5,rfl⟩
  simp -dsimp (disch:=first | assumption | omega | (simp only [Ac];try omega)) only [↓Ag,Ae,Ai,Ah,eq_self,Nat.reduceEqDiff,↓reduceIte,Nat.reduceAdd,↓ZK,↓AhZ,hg]
  refine hrid.pure.calls rfl fun r hr => ?_
  cases he:Af0 ob.kind ob.data with
  | error c =>
   rw [hr.2 c he]
   have hc0:c≠0:=by
    unfold Af0 at he
    split at he
    ·cases he; omega
    ·split at he
     ·cases he
     ·cases he; omega
   have hno:AfZ ob i=none:=by
    unfold AfZ Xy; rw [he,if_neg (by simp)]
   have hz20:((List.replicate 20 (0:UInt8)).map by8).length=20:=by simp
   simp -dsimp (disch:=first | assumption | omega | (simp only [Ac];try omega)) only [↓Ag,Ae,Ai,Ah,eq_self,Nat.reduceEqDiff,↓reduceIte,hc0,↓L6,↓LV]
   exact Aq (objs.length - (j+1)) (by omega) (by simp; omega) (goon hno _ (by simp) (A1 _) (A2 _))
  | ok b =>
  rw [hr.1 b he]
  have hsl:((sha b).map by8).length=20:=by rw [List.length_map]; exact JC b
  have gX:(H2++[Ob.obj 0 (X0 (sha b))])[H2.length]?=some (.obj 0 (X0 (sha b))):=by simp
  have hid:Xy ob=some (sha b):=by unfold Xy; rw [he]
  by_cases hsi:sha b=i
  case neg =>
   have hno:AfZ ob i=none:=by unfold AfZ; rw [hid,if_neg (by simp [hsi])]
   have hbq:(sha b == i)=false:=by simpa using hsi
   simp -dsimp (disch:=first | assumption | omega | (simp only [Ac];try omega)) only [↓Ag,Ae,Ai,Ah,eq_self,Nat.reduceEqDiff,↓reduceIte,A1,gX,↓L6,hbq,↓LV]
   exact Aq (objs.length - (j+1)) (by omega) (by simp; omega) (goon hno _ (by simp) (A1 _) (A2 _))
  have hbq:(sha b == i)=true:=by simpa using hsi
  by_cases hk2:ob.kind=2
  case neg =>
   have hno:AfZ ob i=none:=by unfold AfZ; rw [if_neg (fun h=>hk2 h.1)]
   simp -dsimp (disch:=first | assumption | omega | (simp only [Ac];try omega)) only [↓Ag,Ae,Ai,Ah,eq_self,Nat.reduceEqDiff,↓reduceIte,A1,gX,↓L6,hg,hbq,↓LV]
   exact Aq (objs.length - (j+1)) (by omega) (by simp; omega) (goon hno _ (by simp) (A1 _) (A2 _))
  have hone:AfZ ob i=rdT ob.data:=by unfold AfZ; rw [if_pos ⟨hk2,by rw [hid,hsi]⟩]
  have hread:=Ar6 ob.data hod
  simp -dsimp (disch:=first | assumption | omega | (simp only [Ac];try omega)) only [↓Ag,Ae,Ai,Ah,eq_self,Nat.reduceEqDiff,↓reduceIte,Nat.reduceAdd,A1,gX,↓L6,hg,hbq,hk2,↓Aib]
  refine hread.pure.calls rfl fun r2 hr2 => ?_
  cases ht:rdT ob.data with
  | none =>
   rw [hr2.2 (Aq2 ht)]
   rw [ht] at hone
   simp -dsimp (disch:=first | assumption | omega | (simp only [Ac];try omega)) only [↓Ag,Ae,Ai,Ah,eq_self,Nat.reduceEqDiff,↓reduceIte,↓LX,↓LV]
   exact Aq (objs.length - (j+1)) (by omega) (by simp; omega) (goon hone _ (by simp) (A1 _) (A2 _))
  | some t =>
  have hTI:=Al9 ht
  have hr2':r2 = .tup [.sl 22 (t.map enT),tb true]:=hr2.1 t hTI
  rw [hr2']
  obtain ⟨htl,hten,_⟩:=hTI.1
  rw [hone,ht] at hlj
  have hl0:JR objs i=some t:=hlj
  have hwF:LD (JR objs) (f+1) i dir out=if t=[]∧dir≠[] then .error 21 else AhG (LD (JR objs) f) dir t out:=by rw [LD,hl0]
  clear hr hr2 hr2' hrid hread goon
  by_cases hbad:t=[]∧dir≠[]
  ·obtain ⟨ht0,hd0⟩:=hbad
   rw [hwF,if_pos ⟨ht0,hd0⟩]
   subst ht0
   simp -dsimp (disch:=first | assumption | omega | (simp only [Ac];try omega)) only [↓Ag,Ae,Ai,Ah,eq_self,Nat.reduceEqDiff,↓reduceIte,↓LX,↓Rq,hd0,↓LU]
   exact ⟨by omega,rfl⟩
  rw [hwF,if_neg hbad]
  have hin:=fun Q hno hyes=>Bmc (objs:=objs) (f:=f) (dir:=dir) (t:=t) (out:=out) (ri:=ri) (v:=v) (cp:=cp) (H1:=H2++[Ob.obj 0 (X0 (sha b))]) (Q:=Q) (R:=LD (JR objs) f) (fun i d out o h1 h2=>Adn Ab7 h1 h2) (fun i d out c h=>Ahh h)
   (fun i d out x3 H g1 g2 g3 g4 g5=>ih i d out x3 H (by omega) g2 g3 g4 g5) h2 htl hten hout (A2 _) hno hyes
  by_cases ht0:t=[]
  ·have hd0:dir=[]:=Classical.byContradiction fun h=>hbad ⟨ht0,h⟩
   subst ht0 hd0
   simp -dsimp (disch:=first | assumption | omega | (simp only [Ac];try omega)) only [↓Ag,Ae,Ai,Ah,eq_self,Nat.reduceEqDiff,↓reduceIte,↓LX,↓Rq]
   refine hin _ (fun c H' he hl => ?_) (fun o k v cp H' he hl hk => ?_)
   ·simp -dsimp (disch:=first | assumption | omega | (simp only [Ac];try omega)) only [↓Ag,Ae,Ai,Ah,eq_self,Nat.reduceEqDiff,↓reduceIte,↓LU]
    simp at hl
    rw [he]
    exact ⟨by omega,rfl⟩
   ·simp -dsimp (disch:=first | assumption | omega | (simp only [Ac];try omega)) only [↓Ag,Ae,Ai,Ah,eq_self,Nat.reduceEqDiff,↓reduceIte,↓LU]
    simp at hl
    rw [he]
    exact ⟨by omega,k,v,cp,rfl,hk⟩
  ·have htl0:t.length≠0:=fun h=>ht0 (List.length_eq_zero_iff.1 h)
   simp -dsimp (disch:=first | assumption | omega | (simp only [Ac];try omega)) only [↓Ag,Ae,Ai,Ah,eq_self,Nat.reduceEqDiff,↓reduceIte,↓LX,↓Rq,htl0]
   refine hin _ (fun c H' he hl => ?_) (fun o k v cp H' he hl hk => ?_)
   ·simp -dsimp (disch:=first | assumption | omega | (simp only [Ac];try omega)) only [↓Ag,Ae,Ai,Ah,eq_self,Nat.reduceEqDiff,↓reduceIte,↓LU]
    simp at hl
    rw [he]
    exact ⟨by omega,rfl⟩
   ·simp -dsimp (disch:=first | assumption | omega | (simp only [Ac];try omega)) only [↓Ag,Ae,Ai,Ah,eq_self,Nat.reduceEqDiff,↓reduceIte,↓LU]
    simp at hl
    rw [he]
    exact ⟨by omega,k,v,cp,rfl,hk⟩
 rcases hL with ⟨rfl,rfl⟩ | ⟨k,v,cp,rfl,hk⟩
 ·have:=hloop (H++[.obj 0 (X0 i)]++[.obj 0 (.arr 0 24 [])]) (H.length+1) 0 0 (by simp) (by simp) (by rw [List.getElem?_append_right (by simp)]; simp)
  simp -dsimp (disch:=first | assumption | omega | (simp only [Ac];try omega)) only [↓Ag,Ae,Ai,Ah,eq_self,Nat.reduceEqDiff,↓reduceIte,Nat.reduceAdd,reduceCtorEq,↓Aht,↓X9,↓Y8]
  exact this
 ·have hkl:k<H.length:=(List.getElem?_eq_some_iff.1 hk).1
  have:=hloop (H++[.obj 0 (X0 i)]) k v cp (by simp) (by simp) (by rw [List.getElem?_append_left hkl]; exact hk)
  simp -dsimp (disch:=first | assumption | omega | (simp only [Ac];try omega)) only [↓Ag,Ae,Ai,Ah,eq_self,Nat.reduceEqDiff,↓reduceIte,Nat.reduceAdd,reduceCtorEq,↓Aht,↓X9,↓Y8]
  exact this
end
section
def AdB (c:UInt8):List UInt8→Option Nat
 | []=>none
 | b::l=>if b=c then some 0 else (AdB c l).map (· + 1)
theorem U1 {c:UInt8}:∀ {l:List UInt8} {i:Nat},AdB c l=some i→i<l.length∧l[i]?=some c∧¬ c∈l.take i
 | [],i,h=>by cases h
 | b::l,i,h=>by
  rw [AdB] at h
  split at h
  ·rename_i e; cases h; exact ⟨by simp,by simp [e],by simp⟩
  ·rename_i e
   obtain ⟨j,hj,rfl⟩:=Option.map_eq_some_iff.1 h
   obtain ⟨h1,h2,h3⟩:=U1 hj
   exact ⟨by simp; omega,by simpa using h2,by simp [h3,Ne.symm e]⟩
theorem Aj3 {c:UInt8}:∀ {l m:List UInt8},¬ c∈l→AdB c (l++c::m)=some l.length
 | [],m,_=>by simp [AdB]
 | b::l,m,h=>by
  rw [List.cons_append,AdB,if_neg (fun e=>h (by simp [e])),Aj3 (fun hm=>h (List.mem_cons_of_mem _ hm))]
  simp
theorem Amb (c:UInt8):∀ l:List UInt8,Lib.indexByte l c=(match AdB c l with | some i=>(i:Int) | none => -1):=by
 intro l
 induction l with
 | nil=>rfl
 | cons b l ih =>
  rw [Lib.indexByte,AdB]
  by_cases e:b=c
  ·simp [e]
  ·rw [if_neg (by simpa using e),if_neg e,ih]
   cases hc:AdB c l with
   | none=>simp
   | some i =>
    have:¬ ((i:Int) == -1)=true:=by simp
    simp only [Option.map_some]
    rw [if_neg this]; rfl
end
section
open Go.RowKit
variable [AL]
set_option maxHeartbeats 2000000 in
set_option maxRecDepth 100000 in
theorem AiP (a:Addr) (n c:Nat) (xs:List Int) (cv:Int) (w:World) (hx:xs.length=n) (hc:∀ i,i<n→w.cell? (a.add i)=some (.int .u8 (xs.getD i 0))) :
  Calls Tryz.prog 88 #[.slice (some a) n c,.int .u8 cv] w fun e w'=>e = .returned (.int .i64 (Lib.indexByte (Lib.bytesOf xs) cv.toNat.toUInt8))∧w'=w:=by
 go_enter Tryz.func88,Tryz.ntmps88
 go_wp2
 rw [run_callFunc_extern Tryz.func113 (by kernel_rfl) (by kernel_rfl) (by kernel_rfl) (e:=Extern.BytealgIndexByte.indexByte) (by kernel_rfl),Lib.run_indexByteAt w a n c xs hx hc cv]
 simp only [Result.andThen]
 rw [Oper.upon_value]
 go_wp2
 go_ret
 exact ⟨rfl,rfl⟩
set_option maxHeartbeats 2000000 in
set_option maxRecDepth 100000 in
theorem Am0 (n c:Nat) (cv:Int) (w:World) :
  Calls Tryz.prog 88 #[.slice none n c,.int .u8 cv] w fun e w'=>e = .returned (.int .i64 (-1))∧w'=w:=by
 go_enter Tryz.func88,Tryz.ntmps88
 go_wp2
 rw [run_callFunc_extern Tryz.func113 (by kernel_rfl) (by kernel_rfl) (by kernel_rfl) (e:=Extern.BytealgIndexByte.indexByte) (by kernel_rfl),Lib.run_indexByteNil w n c cv]
 simp only [Result.andThen]
 rw [Oper.upon_value]
 go_wp2
 go_ret
 exact ⟨rfl,rfl⟩
theorem BD.indexByte (l:List UInt8) (c:UInt8):BD Tryz.prog 88 [slB l,by8 c] (fun x=>x = .val (.int .i64 (Lib.indexByte l c))):=by
 intro β F w vs hF hv
 obtain ⟨v,us,rfl,h1,hv⟩:=BQ.cons.1 hv
 obtain ⟨v2,us,rfl,h2,hv⟩:=BQ.cons.1 hv
 rw [BQ.nil] at hv; subst hv
 have h2':v2 = .int .u8 c.toNat:=by
  have:=Rep.val.1 (Or.inl h2:Rep _ _ _ _); exact this
 subst h2'
 have hcv:((c.toNat:Int)).toNat.toUInt8=c:=by
  rw [Int.toNat_natCast]; simp
 have fin:∀ e w',(e=Ending.returned (.int .i64 (Lib.indexByte l c))∧w'=w)→∃ v x F',e = .returned v∧x = .val (.int .i64 (Lib.indexByte l c))∧Rep ⟨β,[],F'⟩ w' x v∧WW F w F' w':=by
  rintro e w' ⟨rfl,rfl⟩
  exact ⟨_,_,F,rfl,rfl,Rep.of_val,⟨rfl,rfl,rfl,Nat.le_refl _,fun _ _=>rfl,fun _ h=>h,fun _ _ h=>h,hF.1⟩⟩
 have hr0:Rep ⟨β,[],F⟩ w (slB l) v:=Or.inl h1
 have hr:=hr0.sl
 obtain ⟨hw,hr⟩:=hr
 rcases hr with ⟨he,ad,cap,rfl,_⟩ | ⟨b,off,cap,us,rfl,h3,h4,h5,h6,h7⟩
 ·have hl:l=[]:=by simpa using he
  subst hl
  cases ad with
  | none=>exact (Am0 0 cap _ w).mono fun e w' h=>fin e w' h
  | some ad =>
   refine (AiP ad 0 cap [] c.toNat w rfl (fun i hi=>by omega)).mono fun e w' h=>fin e w' ?_
   exact h
 ·have hb:=NI (fun y hy=>by obtain ⟨b,_,rfl⟩:=List.mem_map.1 hy; exact AgS b) h6
  rw [WF] at hb
  refine (AiP ⟨b,off,none⟩ (l.map by8).length cap (l.map fun b:UInt8=>(b.toNat:Int)) c.toNat w (by simp) (fun i hi => ?_)).mono fun e w' h=>fin e w' ?_
  ·rw [Hg]
   have hi':i<l.length:=by simpa using hi
   refine h7 i _ ?_
   rw [hb,List.getElem?_map,List.getElem?_eq_getElem hi',List.getD_eq_getElem?_getD,List.getElem?_map,List.getElem?_eq_getElem hi']
   rfl
  ·rw [hcv] at h
   have:Lib.bytesOf (l.map fun b:UInt8=>(b.toNat:Int))=l:=by
    simp [Lib.bytesOf,List.map_map,Function.comp_def]
   rw [this] at h; exact h
end
section
open Go.RowKit
variable [AL]
theorem A2L (s:List UInt8) (c:UInt8) (hs:s.length≤1000000):BD Tryz.prog 64 [slB s,slB [c]] (fun r=>r=i64 (Lib.indexByte s c)):=by
 refine Au.toPureV (Alf (by simp) ?_)
 simp -dsimp (disch:=first | assumption | omega | (simp only [Ac];try omega)) only [↓Ag,Ae,Ai,Ah,eq_self,Nat.reduceEqDiff,↓reduceIte,Nat.reduceAdd,reduceCtorEq,↓Ahw]
 refine (BD.indexByte s c).calls rfl fun r hr => ?_
 subst hr
 simp -dsimp (disch:=first | assumption | omega | (simp only [Ac];try omega)) only [↓Ag,Ae,Ai,Ah,eq_self,↓reduceIte,↓Ahw]
theorem BpM (s:List UInt8) (c:UInt8) (hs:s.length≤1000000):BD Tryz.prog 38 [slB s,slB [c]] (fun r=>(∀ i,AdB c s=some i→r = .tup [slB (s.take i),slB (s.drop (i+1)),tb true])∧(AdB c s=none→r = .tup [slB s,.val (.slice none 0 0),tb false])):=by
 refine Au.toPureV (Aov (by simp) ?_)
 simp -dsimp (disch:=first | assumption | omega | (simp only [Ac];try omega)) only [↓Ag,Ae,Ai,Ah,eq_self,Nat.reduceEqDiff,↓reduceIte,Nat.reduceAdd,reduceCtorEq,↓AeM]
 refine (A2L s c hs).calls rfl fun r hr => ?_
 subst hr
 rw [Amb]
 cases hc:AdB c s with
 | none =>
  simp only
  simp -dsimp (disch:=first | assumption | omega | (simp only [Ac];try omega)) only [↓Ag,Ae,Ai,Ah,eq_self,forall_const,Nat.reduceEqDiff,↓reduceIte,reduceCtorEq,↓AeM]
  exact fun i h=>h.elim
 | some i =>
  obtain ⟨h1,_,_⟩:=U1 hc
  simp only
  simp -dsimp (disch:=first | assumption | omega | (simp only [Ac];try omega)) only [↓Ag,Ae,Ai,Ah,eq_self,Nat.reduceEqDiff,↓reduceIte,reduceCtorEq,↓AeM]
  exact ⟨fun j h=>(by cases h; rfl),fun h=>h.elim⟩
end
section
open Go.RowKit
variable [AL]
def pEn (b:List UInt8):Option (En×List UInt8):=match AdB 32 b with
 | none=>none
 | some i=>match AdB 0 (b.drop (i+1)) with
  | none=>none
  | some j=>match pO (b.take i) with
   | none=>none
   | some m=>if (b.take i)[0]?=some 48∨((b.drop (i+1)).drop (j+1)).length<20 then none
    else some (⟨(m:Int),(b.drop (i+1)).take j,((b.drop (i+1)).drop (j+1)).take 20⟩,((b.drop (i+1)).drop (j+1)).drop 20)
theorem Bjb {e:En} {r:List UInt8} (h:Al8 e):pEn (enB e++r)=some (e,r):=by
 obtain ⟨m,n,d⟩:=e
 obtain ⟨h1,h2,h3⟩:=h
 simp only at *
 obtain ⟨p1,p2,p3,p4⟩:=Bjt h1
 have n0:=(Aar h2).2.2.2
 have e1:enB ⟨m,n,d⟩++r=ZB m++32::(n++0::(d++r)):=by simp [enB]
 have hm:((m.toNat:Nat):Int)=m:=by rcases LW h1 with h | h | h | h<;>rw [h]<;>rfl
 unfold pEn
 rw [e1,Aj3 p3]
 simp only [List.take_left]
 have e2:(ZB m++32::(n++0::(d++r))).drop ((ZB m).length+1)=n++0::(d++r):=by
  rw [←List.drop_drop,List.drop_left]; rfl
 have e3:(n++0::(d++r)).drop (n.length+1)=d++r:=by
  rw [←List.drop_drop,List.drop_left]; rfl
 rw [e2,Aj3 n0]
 simp only [List.take_left]
 rw [p1,e3]
 simp only
 rw [if_neg (by simp [p2,h3]),List.take_left' h3,List.drop_left' h3,hm]
theorem Bme {b r:List UInt8} {e:En} (h:pEn b=some (e,r)):e.id.length=20∧r.length<b.length∧(V4 e.mode=true→b=enB e++r):=by
 unfold pEn at h
 split at h
 ·cases h
 rename_i i hi
 split at h
 ·cases h
 rename_i j hj
 split at h
 ·cases h
 rename_i m hm
 split at h
 ·cases h
 rename_i hc
 simp only [Option.some.injEq,Prod.mk.injEq] at h
 obtain ⟨rfl,rfl⟩:=h
 simp only [not_or,Nat.not_lt] at hc
 obtain ⟨c1,c2,c3⟩:=U1 hi
 obtain ⟨d1,d2,d3⟩:=U1 hj
 have hb:b=b.take i++32::b.drop (i+1):=by
  have e1:b=b.take i++b.drop i:=(List.take_append_drop i b).symm
  have e2:b.drop i=32::b.drop (i+1):=by
   rw [List.drop_eq_getElem_cons c1]
   rw [List.getElem?_eq_getElem c1] at c2
   rw [Option.some.inj c2]
  rw [e2] at e1; exact e1
 generalize hR:b.drop (i+1)=R at *
 have hr:R=R.take j++0::R.drop (j+1):=by
  have e1:R=R.take j++R.drop j:=(List.take_append_drop j R).symm
  have e2:R.drop j=0::R.drop (j+1):=by
   rw [List.drop_eq_getElem_cons d1]
   rw [List.getElem?_eq_getElem d1] at d2
   rw [Option.some.inj d2]
  rw [e2] at e1; exact e1
 refine ⟨by simp only [List.length_take]; omega,?_,fun h1 => ?_⟩
 ·have:=congrArg List.length hb
  have h2:=congrArg List.length hr
  simp only [List.length_append,List.length_cons,List.length_drop] at this h2 ⊢
  omega
 ·simp only at h1
  have hcan:=A3g (s:=b.take i) (m:=(m:Int)) (by rw [hm]; simp) h1 hc.1
  unfold enB
  simp only
  rw [←hcan]
  have e4:(R.drop (j+1)).take 20++(R.drop (j+1)).drop 20=R.drop (j+1):=List.take_append_drop 20 _
  simp only [List.append_assoc,List.cons_append]
  rw [e4,←hr]
  exact hb
structure PI (b:List UInt8) (es:List En) (rest:List UInt8):Prop where
 pre:∀ l,(∀ e∈l,Al8 e)→l.flatMap enB=b→∃ l',l=es++l'∧l'.flatMap enB=rest
 back:(∀ e∈es,V4 e.mode=true)→es.flatMap enB++rest=b
 ids:∀ e∈es,e.id.length=20
theorem PI.start (b:List UInt8):PI b [] b:=⟨fun l _ h=>⟨l,rfl,h⟩,fun _=>rfl,fun _ h=>by cases h⟩
theorem PI.step {b rest r:List UInt8} {es:List En} {e:En} (h:PI b es rest) (hp:pEn rest=some (e,r)):PI b (es++[e]) r:=by
 obtain ⟨h1,h2,h3⟩:=h
 obtain ⟨p1,p2,p3⟩:=Bme hp
 refine ⟨fun l hl hb => ?_,fun hm => ?_,fun x hx => ?_⟩
 ·obtain ⟨l',rfl,hl'⟩:=h1 l hl hb
  cases l' with
  | nil =>
   simp only [List.flatMap_nil] at hl'
   rw [←hl'] at p2
   simp at p2
  | cons x l'' =>
   rw [List.flatMap_cons] at hl'
   have:=Bjb (r:=l''.flatMap enB) (hl x (by simp))
   rw [hl',hp] at this
   simp only [Option.some.injEq,Prod.mk.injEq] at this
   obtain ⟨rfl,rfl⟩:=this
   exact ⟨l'',by simp,rfl⟩
 ·have a:=h2 fun x hx=>hm x (by simp [hx])
  rw [p3 (hm e (by simp))] at a
  rw [←a]; simp
 ·rcases List.mem_append.1 hx with hx | hx
  ·exact h3 x hx
  ·rw [List.mem_singleton] at hx; subst hx; exact p1
theorem PI.no {b rest:List UInt8} {es:List En} (h:PI b es rest) (hne:rest≠[]) (hp:pEn rest=none):∀ l,¬ QB l b:=by
 rintro l ⟨⟨_,hl,_⟩,_,hb⟩
 obtain ⟨l',rfl,hl'⟩:=h.pre l hl hb
 cases l' with
 | nil=>exact hne hl'.symm
 | cons x l'' =>
  rw [List.flatMap_cons] at hl'
  have:=Bjb (r:=l''.flatMap enB) (hl x (by simp))
  rw [hl',hp] at this
  cases this
theorem PI.unsorted {b r:List UInt8} {es:List En} {x e:En} (h:PI b (es++[x]++[e]) r) (hk:¬ ltB (UT x) (UT e)):∀ l,¬ QB l b:=by
 rintro l ⟨⟨_,hl,_⟩,hs,hb⟩
 obtain ⟨l',rfl,_⟩:=h.pre l hl hb
 rw [SE,List.append_assoc,List.append_assoc,List.pairwise_append] at hs
 exact hk ((List.pairwise_cons.1 hs.2.1).1 e (by simp))
def A2G (b:List UInt8) (r:TV):Prop:=(∀ l,QB l b→r = .tup [.sl 22 (l.map fun e:En => .agg [.val (.int .i64 e.mode),.val (.string (str e.name)),.arr 20 1 (e.id.map by8)]),.val .nilIface])∧((∀ l,¬ QB l b)→r = .tup [.val (.slice none 0 0),.ifc 45 (.val (.int .i64 21))])
theorem PI.fin {b:List UInt8} {es:List En} (h:PI b es []) (hs:SE es):(Yq es→QB es b)∧(∀ l,QB l b→l=es∧Yq es):=by
 constructor
 ·intro ht
  refine ⟨ht,hs,?_⟩
  have:=h.back fun e he=>(ht.2.1 e he).1
  simpa using this
 ·rintro l ⟨ht,hsl,hb⟩
  obtain ⟨l',rfl,hl'⟩:=h.pre l ht.2.1 hb
  cases l' with
  | nil=>rw [List.append_nil] at ht ⊢; exact ⟨rfl,ht⟩
  | cons x l'' =>
   exfalso
   rw [List.flatMap_cons] at hl'
   have:=congrArg List.length hl'
   simp [enB] at this
theorem SE.snoc {es:List En} {x e:En} (h:SE (es++[x])) (hk:ltB (UT x) (UT e)):SE (es++[x]++[e]):=by
 rw [SE,List.pairwise_append]
 refine ⟨h,by simp,fun a ha y hy => ?_⟩
 rw [List.mem_singleton] at hy; subst hy
 rcases List.mem_append.1 ha with ha | ha
 ·rw [SE,List.pairwise_append] at h
  exact Qj (h.2.2 a ha x (by simp)) hk
 ·rw [List.mem_singleton] at ha; subst ha; exact hk
end
end Go.Proofs.YtnkpoloeifhflaaGreatDoor
