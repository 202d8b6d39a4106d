/- StageWritesCard: the law, proved out of contracts of the functions that it reaches (texts merged; names shortened by a program). No condition is laid on it. -/
import Derived.Test.YtnkpoloeifhflaaDoorQG
import Derived.Deep.LoopGhost
import Derived.Deep.DeepMust
import Derived.StillTailTactics
import Derived.IntWalk
import Derived.Test.YtnkpoloeifhflaaDoorQE
import Derived.Test.YtnkpoloeifhflaaDoorProg
import Derived.KernelRfl
import Derived.SevenTiedAt
import Derived.Test.YtnkpoloeifhflaaDoorCards
import Derived.Test.YtnkpoloeifhflaaDoorTie
import Derived.Test.YtnkpoloeifhflaaDoorRows
import Derived.WalkKit
import Derived.ProofKit
import Derived.OpenShut
import Derived.ShutString
import Derived.ChangeOld
import Derived.Below
import Derived.SizedLaws
import Derived.ChangeVars
import Derived.LaidLaws
import Derived.LaidHandle
import Derived.Stop.Joined
import Derived.Stop.LaidErr
import Derived.ClosedOfChecked
set_option linter.defProp false
set_option linter.unusedSectionVars false
set_option linter.unusedSimpArgs false
set_option linter.unusedVariables false
namespace Go.Proofs.YtnkpoloeifhflaaDoor.Kit
open Go.RowKit
theorem A4B (l:List UInt8) (n:Nat):(bv (l++[128]))=bv l++[.int .u8 128]:=by simp [bv]
set_option maxRecDepth 100000 in
set_option maxHeartbeats 4000000 in
theorem A82 (a:Option Addr) (cap:Nat) (l:List UInt8) (w:World) (hb:Bs w a l) (hbl:l.length≤1000000000) :
  Calls Tryd.prog 17 #[.slice a l.length cap] w fun e w'=>e = .returned (.agg (bv (sha l)).toArray)∧Ato w w':=by
 go_enter Tryd.func17,Tryd.ntmps17
 go_upto_region 2 with (fail)
 have hI0:Arr (w.alloc (.cells #[.int .u8 0,.int .u8 0,.int .u8 0,.int .u8 0,.int .u8 0,.int .u8 0,.int .u8 0,.int .u8 0,.int .u8 0,.int .u8 0,.int .u8 0,.int .u8 0,.int .u8 0,.int .u8 0,.int .u8 0,.int .u8 0,.int .u8 0,.int .u8 0,.int .u8 0,.int .u8 0] 29)) w.heap.size 29 (z8 20):=Arr.new _ _ _
 have hk0:=(Ato.refl w).alloc (.cells #[.int .u8 0,.int .u8 0,.int .u8 0,.int .u8 0,.int .u8 0,.int .u8 0,.int .u8 0,.int .u8 0,.int .u8 0,.int .u8 0,.int .u8 0,.int .u8 0,.int .u8 0,.int .u8 0,.int .u8 0,.int .u8 0,.int .u8 0,.int .u8 0,.int .u8 0,.int .u8 0] 29)
 have hsrc:Src Tryd.prog 1 23 (.slice a l.length cap) l.length (bv l) _:=(hb.keep hk0).srcOf Tryd.underlying23 cap (fun _=>rfl)
 go_cut [3] (fun v wc=>Seg wc w.heap.size 5 1 v l.length (bv l)∧Arr wc w.heap.size 29 (z8 20)∧Ato w wc)
 case first =>
  go_wp2_with (at_builtin; go_must (refine AvX _ rfl (.tmp 11) (.tmp 12) 23 23 rfl w.heap.size 5 (.int .u8 0) 1 1 Tryd.underlying23 Tryd.infoU8 rfl _ 0 [] rfl (Seg.nil _ _ _ _) _ _ _ rfl hsrc ?c1 ?c2 ?c3 ?_))
  case c1=>unfold maxLen; omega
  case c2=>omega
  case c3=>exact Below.size hk0
  intro v1 w1 hS1 hg1 ho1
  try simp only [Nat.zero_add,List.nil_append] at hS1
  have hI1:=hI0.keep (Awx hg1)
  have hk1:=Ato.trans hk0 (Awx hg1)
  clear hI0 hk0 hsrc
  go_wp2
  go_meet
  case rel=>exact ⟨hS1,hI1,hk1⟩
 case rest =>
  clear hI0 hk0 hsrc
  obtain ⟨hS,hI,hk⟩:=hcut
  obtain ⟨wa,rfl⟩:∃ wa:World,wa=wc:=⟨_,rfl⟩
  go_upto_region 3 with (fail)
  go_cut [3] (fun v wc=>Seg wc w.heap.size 5 1 v (l++[128]).length (bv (l++[128]))∧Arr wc w.heap.size 29 (z8 20)∧Ato w wc)
  case first =>
   have hne:=hS.ne_arr hI (by decide)
   go_wp2_with (at_builtin; go_must (refine AvX _ rfl (.tmp 14) (.tmp 15) 23 23 rfl w.heap.size 5 (.int .u8 0) 1 1 Tryd.underlying23 Tryd.infoU8 rfl _ _ _ rfl (hS.alloc _) _ 1 [_] rfl (ARj Tryd.underlying23 _ _ _ rfl) ?c1 ?c2 ?c3 ?_))
   case c1=>unfold maxLen; omega
   case c2=>omega
   case c3=>exact Nat.le_trans (Below.size hk) (by simp)
   intro v1 w1 hS1 hg1 ho1
   have hI1:=(hI.alloc (.cells #[.int .u8 128] 5)).grown hg1 (fun e=>hne e.symm)
   have hk1:Ato w w1:=Below.grown (hk.alloc _) hg1 (Nat.le_trans (Below.size hk) (by simp)) (fun j hj=>(hS.lt j hj).1)
   go_wp2
   go_meet
   case rel=>exact ⟨by rw [A4B l 0,List.length_append]; exact hS1,hI1,hk1⟩
  case rest =>
   clear hS hI hk
   obtain ⟨hS,hI,hk⟩:=hcut
   obtain ⟨wb,rfl⟩:∃ wb:World,wb=wc:=⟨_,rfl⟩
   obtain ⟨z,hz⟩:∃ z:Nat,z=(119 - l.length % 64) % 64:=⟨_,rfl⟩
   have HZ:=Lib.hid hz
   have hz64:z<64:=by omega
   go_upto_block 0 with (fail)
   go_cut [3] (fun v wc=>Seg wc w.heap.size 5 1 v (l++128::List.replicate z 0).length (bv (l++128::List.replicate z 0))∧Arr wc w.heap.size 29 (z8 20)∧Ato w wc)
   case first =>
    go_wp2
    go_loopg [3] z (fun gn v wr=>∃ (j:Nat) (m:List UInt8),j+gn=z∧Hid (m=l++128::List.replicate j 0)∧Seg wr w.heap.size 5 1 v m.length (bv m)∧Arr wr w.heap.size 29 (z8 20)∧Ato w wr)
    case atStart=>exact ⟨0,l++[128],by omega,rfl,hS,hI,hk⟩
    case round =>
     clear hS hI hk
     obtain ⟨j,m,hj,hm,hS,hI,hk⟩:=hrel
     have hml:m.length=l.length+1+j:=by rw [hm.out]; simp; omega
     obtain ⟨x,cap1,rfl,hn1,hc1,hx1⟩:=hS.form
     by_cases hlt:j<z
     ·have ht:=A1h hz hlt hml
      have hml2:m.length≤1000000100:=by omega
      have HM:=Lib.hid hml; clear hml
      have hne:=hS.ne_arr hI (by decide)
      clear hz
      go_wp2_with (at_builtin; go_must (refine AvX _ rfl (.tmp 21) (.tmp 22) 23 23 rfl w.heap.size 5 (.int .u8 0) 1 1 Tryd.underlying23 Tryd.infoU8 rfl _ _ _ rfl (hS.alloc _) _ 1 [_] rfl (ARj Tryd.underlying23 _ _ _ rfl) ?c1 ?c2 ?c3 ?_))
      case c1=>unfold maxLen; omega
      case c2=>omega
      case c3=>exact Nat.le_trans (Below.size hk) (by simp)
      intro v1 w1 hS1 hg1 ho1
      have hI1:=(hI.alloc (.cells #[.int .u8 0] 5)).grown hg1 (fun e=>hne e.symm)
      have hk1:Ato w w1:=Below.grown (hk.alloc _) hg1 (Nat.le_trans (Below.size hk) (by simp)) (fun j hj=>(hS.lt j hj).1)
      go_wp2
      go_roundg (gk - 1)
      case measure=>omega
      case rel =>
       go_light
       refine ⟨j+1,m++[0],by omega,?_,?_,hI1,hk1⟩
       ·show m++[0]=_
        rw [hm.out]; simp [List.replicate_succ']
       ·rw [List.length_append,←ATV m 0 (z:=0) rfl]; exact hS1
     ·have hjz:j=z:=by omega
      have ht:=A0k hz hjz hml
      have HM:=Lib.hid (And.intro hml hjz); clear hml hjz hz
      go_wp2
      go_meet
      case rel =>
       go_light
       have e:=hm.out
       rw [HM.out.2] at e
       rw [←e]; exact ⟨hS,hI,hk⟩
   case rest =>
    clear hS hI hk
    obtain ⟨hS,hI,hk⟩:=hcut
    obtain ⟨wb,rfl⟩:∃ wb:World,wb=wc:=⟨_,rfl⟩
    obtain ⟨nn,hnn⟩:∃ nn:Nat,nn=l.length*8 % 18446744073709551616:=⟨_,rfl⟩
    have hnl:nn<18446744073709551616:=by omega
    have hn8:nn=l.length*8:=by omega
    obtain ⟨P,hP⟩:∃ P,P=l++AKs l.length:=⟨_,rfl⟩
    have hPe:P=(l++128::List.replicate z 0)++be8 nn:=by rw [hP,AKs,←hz,←hnn]; simp
    generalize hQ:l++128::List.replicate z 0=Q0 at *
    have hQl:Q0.length≤1000000100:=by rw [←hQ]; simp; omega
    have HP:=Lib.hid (And.intro hP hPe)
    have hPl:P.length≤1000000200:=by rw [hP,List.length_append]; have:=A08 l.length; omega
    have hPq:∃ q,P.length=64*q:=by rw [hP]; exact A49 l
    have HN:=Lib.hid (And.intro hnn (And.intro hz hQ))
    clear hP hPe hnn hz hQ
    have hn4:IntKind.u64.wrap ((l.length:Int)*8)=(nn:Int):=by rw [IntKind.wrap_u64]; omega
    have hn4':(l.length:Int)*8=(nn:Int):=by omega
    go_upto_region 7 with (fail)
    have HN4:=Lib.hid (And.intro hn4 (And.intro hn4' hn8)); clear hn4 hn4' hn8
    go_upto_block 2 with (fail)
    rw [HN4.out.2.1]
    go_cut [3] (fun v wc=>Seg wc w.heap.size 5 1 v P.length (bv P)∧Arr wc w.heap.size 29 (z8 20)∧Ato w wc)
    case first =>
     go_wp2
     go_loopg [3,5] 8 (fun gn v iv wr=>∃ (m:List UInt8) (j:Nat),j≤8∧j≤gn∧(iv = .int .i64 ((j:Int) - 1))∧Hid (m=Q0++(be8 nn).take (8 - j))∧Seg wr w.heap.size 5 1 v m.length (bv m)∧Arr wr w.heap.size 29 (z8 20)∧Ato w wr)
     case atStart=>exact ⟨Q0,8,by omega,by omega,rfl,by simp [Hid],hS,hI,hk⟩
     case round =>
      clear hS hI hk
      obtain ⟨m,j,hj8,hjg,rfl,hm,hS,hI,hk⟩:=hrel
      have hml:m.length≤1000000150:=by rw [hm.out]; simp [AyA]; omega
      cases j with
      | succ q =>
       rw [show ((q+1:Nat):Int) - 1=(q:Int) from by omega]
       have hne:=hS.ne_arr hI (by decide)
       have e8:=AHW (nn / 2 ^ (8*q))
       have hb8:=A4E nn q (by omega)
       generalize hy:UInt8.ofNat (nn / 2 ^ (8*q) % 256)=y at *
       have HY:=Lib.hid (And.intro e8 hb8)
       clear e8 hb8 hy
       go_wp2_with (at_builtin; go_must (refine AvX _ rfl (.tmp 32) (.tmp 38) 23 23 rfl w.heap.size 5 (.int .u8 0) 1 1 Tryd.underlying23 Tryd.infoU8 rfl _ _ _ rfl (hS.alloc _) _ 1 [_] rfl (ARj Tryd.underlying23 _ _ _ rfl) ?c1 ?c2 ?c3 ?_))
       case c1=>unfold maxLen; omega
       case c2=>omega
       case c3=>exact Nat.le_trans (Below.size hk) (by simp)
       intro v1 w1 hS1 hg1 ho1
       have hI1:=(hI.alloc (.cells #[.int .u8 ((nn:Int) / 2 ^ (8*q) % 256)] 5)).grown hg1 (fun e=>hne e.symm)
       have hk1:Ato w w1:=Below.grown (hk.alloc _) hg1 (Nat.le_trans (Below.size hk) (by simp)) (fun j hj=>(hS.lt j hj).1)
       go_wp2
       go_roundg (gk - 1)
       case measure=>omega
       case rel =>
        go_light
        refine ⟨m++[y],q,by omega,by omega,rfl,?_,?_,hI1,hk1⟩
        ·show m++[y]=_
         have e:=hm.out
         rw [show 8 - (q+1)=7 - q from by omega] at e
         rw [HY.out.2,←List.append_assoc,←e]
        ·rw [List.length_append]
         have h6:=hS1
         rw [ATV m y (by rw [HY.out.1]; rfl)] at h6
         exact h6
      | zero =>
       rw [show ((0:Nat):Int) - 1 = -1 from rfl]
       go_wp2
       go_meet
       case rel =>
        go_light
        have e:=hm.out
        rw [show 8 - 0=8 from rfl,List.take_of_length_le (by rw [AyA]; omega),←HP.out.2] at e
        rw [←e]; exact ⟨hS,hI,hk⟩
    case rest =>
     clear hS hI hk HN4
     obtain ⟨hS,hI,hk⟩:=hcut
     obtain ⟨x3,cap3,rfl,hn3,hc3,hx3⟩:=hS.form
     obtain ⟨wd,rfl⟩:∃ wd:World,wd=wc:=⟨_,rfl⟩
     go_upto_block 4 with (fail)
     have hh0:Arr (wd.alloc (.cells #[.int .u32 1732584193,.int .u32 4023233417,.int .u32 2562383102,.int .u32 271733878,.int .u32 3285377520] 71)) wd.heap.size 71 (AxU H0.list):=Arr.new _ _ _
     have hkd:Ato wd (wd.alloc (.cells #[.int .u32 1732584193,.int .u32 4023233417,.int .u32 2562383102,.int .u32 271733878,.int .u32 3285377520] 71)):=(Ato.refl wd).alloc _
     have hwd:w.heap.size≤wd.heap.size:=Below.size hk
     go_cut [] (fun wc=>Arr wc wd.heap.size 71 (AxU (Auj H0 P).1.list)∧Ato wd wc)
     case first =>
      go_wp2
      go_loopg [7] (P.length) (fun gn iv wr=>∃ (q:Nat) (h:V5),P.length≤64*q+gn∧64*q≤P.length∧iv = .int .i64 ((64*q:Nat):Int)∧Arr wr wd.heap.size 71 (AxU h.list)∧AXN P h (P.drop (64*q))∧Ato wd wr)
      case atStart=>exact ⟨0,H0,by omega,by omega,rfl,hh0,⟨rfl,A2o⟩,hkd⟩
      case round =>
       clear hh0 hkd
       obtain ⟨q,h,hg,hq,rfl,hh,hB,hkd⟩:=hrel
       obtain ⟨atq,hat⟩:∃ n:Nat,n=64*q:=⟨_,rfl⟩
       rw [←hat]
       rw [←hat] at hq hg hB
       obtain ⟨QQ,hQQ⟩:=hPq
       have hlast:atq<P.length→atq+64≤P.length:=by intro h; omega
       have hfin:¬ atq<P.length→atq=P.length:=by intro h; omega
       have HA:=Lib.hid (And.intro hat hQQ)
       clear hat hQQ
       obtain ⟨c0,c1,c2,c3,c4⟩:=hh.five
       have f0:=hh.frozen 0
       have f1:=hh.frozen 1
       have f2:=hh.frozen 2
       have f3:=hh.frozen 3
       have f4:=hh.frozen 4
       by_cases hlt:atq<P.length
       ·have h64:=hlast hlt
        clear hlast hfin
        obtain ⟨bb,off,rfl,hbb,hbw⟩:=hx3 (by omega)
        have hbP:Bs wr (some ⟨bb,off,none⟩) P:=hS.bytes.keep hkd
        have hbt:=(hbP.drop atq).take 64
        have s1:IntKind.i64.wrap ((atq:Int)+64)=(atq:Int)+64:=IntWalk.i64_in _ (by omega)
        have t1:((atq:Int)+64).toNat=atq+64:=by omega
        have g1:(atq:Int)+64≤(P.length:Int):=by omega
        have g2:(0:Int)≤(atq:Int)+64:=by omega
        have g3:(atq:Int)+64≤(cap3:Int):=by omega
        have g4:¬ cap3=atq:=by omega
        go_upto_region 15 with (fail)
        go_still_tail 6,(by kernel_rfl)
        have hB2:AXN P (blk h ((P.drop atq).take 64)) (P.drop (atq+64)):=⟨by rw [←hB.eq,AAs _ (P.drop atq) (by rw [List.length_drop]; omega),List.drop_drop],AUh _ _⟩
        have hlt64:((P.drop atq).take 64).length=64:=by rw [List.length_take,List.length_drop]; omega
        have HL:=Lib.hid hlt64; clear hlt64
        generalize hHH:blk h ((P.drop atq).take 64)=H2 at *
        have HH:=Lib.hid hHH; clear hHH
        go_wp2_with fail
        (with_reducible refine (A0y h _ _ ((P.drop atq).take 64) _ hB.ok (hbt.keep (Ato.refl wr).drew) HL.out).mono ?_)
        rw [HH.out]
        rintro e w5 ⟨rfl,hk5⟩
        have hh5:Arr w5 wd.heap.size 71 (AxU h.list):=Arr.keep hh.drew hk5
        have hkd5:Ato wd w5:=Ato.trans hkd.drew hk5
        clear c0 c1 c2 c3 c4 f0 f1 f2 f3 f4
        obtain ⟨c0,c1,c2,c3,c4⟩:=hh5.five
        have f0:=hh5.frozen 0
        have f1:=hh5.frozen 1
        have f2:=hh5.frozen 2
        have f3:=hh5.frozen 3
        have f4:=hh5.frozen 4
        go_wp2
        go_roundg (P.length - (atq+64))
        case measure=>omega
        case rel =>
         go_light
         refine ⟨q+1,H2,?_,?_,?_,?_,?_,?_⟩
         ·have:=HA.out.1; omega
         ·have:=HA.out.1; omega
         ·have e:64*(q+1)=atq+64:=by have:=HA.out.1; omega
          rw [e]; go_num
         ·exact ((((hh5.set 0 _).set 1 _).set 2 _).set 3 _).set 4 _
         ·have e:64*(q+1)=atq+64:=by have:=HA.out.1; omega
          rw [e]; exact hB2
         ·exact Below.setCell (Below.setCell (Below.setCell (Below.setCell (Below.setCell hkd5 (p:=⟨wd.heap.size,0,none⟩) (Nat.le_refl _) _) (p:=⟨wd.heap.size,1,none⟩) (Nat.le_refl _) _) (p:=⟨wd.heap.size,2,none⟩) (Nat.le_refl _) _) (p:=⟨wd.heap.size,3,none⟩) (Nat.le_refl _) _) (p:=⟨wd.heap.size,4,none⟩) (Nat.le_refl _) _
       ·have he:=hfin hlt
        have hE:=hB.eq
        rw [List.drop_eq_nil_of_le (by omega),Aw0 _ _ (by simp)] at hE
        have HE:=Lib.hid hE
        clear hlast hfin hE he
        go_wp2
        go_meet
        case rel =>
         go_light
         rw [←HE.out]; exact ⟨hh,hkd⟩
     case rest =>
      clear hh0 hkd
      obtain ⟨hh,hkd⟩:=hcut
      have hI2:=hI.keep hkd
      have hk2:=Ato.trans hk hkd
      have hV:(Auj H0 P).1.ok:=AOZ _ _ A2o
      have hsha:sha l=Awm (Auj H0 P).1:=by rw [HP.out.1]; rfl
      have HS:=Lib.hid hsha; clear hsha
      generalize (Auj H0 P).1=V at *
      clear hI hk hS hkd hx3 hPq
      obtain ⟨we,rfl⟩:∃ we:World,we=wc:=⟨_,rfl⟩
      go_upto_block 6 with (fail)
      have ho0:Arr (we.alloc (.cells #[.int .u8 0,.int .u8 0,.int .u8 0,.int .u8 0,.int .u8 0,.int .u8 0,.int .u8 0,.int .u8 0,.int .u8 0,.int .u8 0,.int .u8 0,.int .u8 0,.int .u8 0,.int .u8 0,.int .u8 0,.int .u8 0,.int .u8 0,.int .u8 0,.int .u8 0,.int .u8 0] 29)) we.heap.size 29 (bv ((Awm V).take (4*0))++z8 (20 - 4*0)):=Arr.new _ _ _
      have hh1:=hh.alloc (.cells #[.int .u8 0,.int .u8 0,.int .u8 0,.int .u8 0,.int .u8 0,.int .u8 0,.int .u8 0,.int .u8 0,.int .u8 0,.int .u8 0,.int .u8 0,.int .u8 0,.int .u8 0,.int .u8 0,.int .u8 0,.int .u8 0,.int .u8 0,.int .u8 0,.int .u8 0,.int .u8 0] 29)
      have hI1:=hI2.alloc (.cells #[.int .u8 0,.int .u8 0,.int .u8 0,.int .u8 0,.int .u8 0,.int .u8 0,.int .u8 0,.int .u8 0,.int .u8 0,.int .u8 0,.int .u8 0,.int .u8 0,.int .u8 0,.int .u8 0,.int .u8 0,.int .u8 0,.int .u8 0,.int .u8 0,.int .u8 0,.int .u8 0] 29)
      have hk1:=hk2.alloc (.cells #[.int .u8 0,.int .u8 0,.int .u8 0,.int .u8 0,.int .u8 0,.int .u8 0,.int .u8 0,.int .u8 0,.int .u8 0,.int .u8 0,.int .u8 0,.int .u8 0,.int .u8 0,.int .u8 0,.int .u8 0,.int .u8 0,.int .u8 0,.int .u8 0,.int .u8 0,.int .u8 0] 29)
      have l4:=hh.lt
      have l5:=hI2.lt
      go_cut [] (fun wr=>Arr wr we.heap.size 29 (bv (Awm V))∧Arr wr w.heap.size 29 (z8 20)∧Ato w wr)
      case first =>
       go_wp2
       go_loopg [9,10] 5 (fun gn iv _ wr=>∃ i:Nat,i≤5∧5≤i+gn∧iv = .int .i64 i∧Arr wr we.heap.size 29 (bv ((Awm V).take (4*i))++z8 (20 - 4*i))∧Arr wr wd.heap.size 71 (AxU V.list)∧Arr wr w.heap.size 29 (z8 20)∧Ato w wr)
       case atStart=>exact ⟨0,by omega,by omega,rfl,ho0,hh1,hI1,hk1⟩
       case round =>
        clear ho0 hh1 hI1 hk1 hh hI2 hk2
        obtain ⟨i,hi,hig,rfl,ho,hh,hI,hk⟩:=hrel
        by_cases hlt:i<5
        ·have hmi:(i:Int)<5:=by omega
         obtain ⟨gi,rfl⟩:∃ gi:Nat,gi=gk:=⟨_,rfl⟩
         go_wp2
         go_loopg [10] 4 (fun gn kv wr=>∃ k:Nat,k≤4∧4≤k+gn∧kv = .int .i64 k∧Arr wr we.heap.size 29 (bv ((Awm V).take (4*i+k))++z8 (20 - (4*i+k)))∧Arr wr wd.heap.size 71 (AxU V.list)∧Arr wr w.heap.size 29 (z8 20)∧Ato w wr)
         case atStart=>exact ⟨0,by omega,by omega,rfl,ho,hh,hI,hk⟩
         case round =>
          clear ho hh hI hk
          obtain ⟨k,hk4,hkg,rfl,ho,hh,hI,hk⟩:=hrel
          by_cases hlk:k<4
          ·have hmk:(k:Int)<4:=by omega
           have ci:wr.cell? ⟨we.heap.size,4*i+k,none⟩=some (.int .u8 0):=by rw [ho.cell]; exact AUU V _ (by omega)
           have fi:=ho.frozen (4*i+k)
           have ch:wr.cell? ⟨wd.heap.size,i,none⟩=some (.int .u32 ((V.list.getD i 0:Nat):Int)):=by rw [hh.cell]; exact AKC V _ hlt
           have hbv:=hV.get i
           have e8:=AHW (V.list.getD i 0 / 2 ^ (24 - 8*k))
           have hb8:=AV9 V i k hlt hlk
           generalize hy:UInt8.ofNat (V.list.getD i 0 / 2 ^ (24 - 8*k) % 256)=y at *
           have HY:=Lib.hid (And.intro e8 hb8)
           clear e8 hb8 hy
           generalize V.list.getD i 0=q at *
           go_wp2
           go_roundg (gk - 1)
           case measure=>omega
           case rel =>
            go_light
            have n1:wd.heap.size≠we.heap.size:=by omega
            have n2:w.heap.size≠we.heap.size:=by omega
            refine ⟨k+1,by omega,by omega,by go_num,?_,hh.other _ _ n1,hI.other _ _ n2,Below.setCell hk (p:=⟨we.heap.size,4*i+k,none⟩) (by show w.heap.size≤we.heap.size; omega) _⟩
            have h5:=ho.set (4*i+k) (.int .u8 ((q:Int) / 2 ^ (24 - 8*k) % 256))
            rw [AYM V (4*i+k) (by omega) HY.out.2 (by rw [HY.out.1]; rfl)] at h5
            exact h5
          ·have hk4e:k=4:=by omega
           have HK:=Lib.hid hk4e; clear hk4e
           go_wp2
           go_roundg (gi - 1)
           case measure=>omega
           case rel =>
            go_light
            refine ⟨i+1,by omega,by omega,by go_num,?_,hh,hI,hk⟩
            have h5:=ho
            rw [HK.out,show 4*i+4=4*(i+1) from by omega] at h5
            exact h5
        ·have HI:=Lib.hid (show i=5 by omega)
         rw [HI.out] at ho
         go_wp2
         go_meet
         case rel =>
          go_light
          refine ⟨?_,hI,hk⟩
          have e:bv ((Awm V).take (4*5))++z8 (20 - 4*5)=bv (Awm V):=by
           rw [List.take_of_length_le (by rw [AuJ]; omega)]; simp [z8]
          rw [←e]; exact ho
      case rest =>
       clear ho0 hh1 hI1 hk1 hh hI2 hk2 l4 l5
       obtain ⟨hid,hI,hk⟩:=hcut
       have hl:(bv (Awm V)).length=(z8 20).length:=by rw [AxK,AuJ]; rfl
       have hsa:=hI.setAll hl
       have hks:=Ato.setCells (Nat.le_refl _) (bv (Awm V)) 0 _ hk
       have hth:=hI.there 20 (by simp [z8])
       unfold Arr at hid hsa
       have z1:(Tryd.prog.info? 29).map (·.size)=some (bv (Awm V)).toArray.size:=by rw [List.size_toArray,AxK,AuJ]; kernel_rfl
       have z2:wc.there w.heap.size 0 (bv (Awm V)).toArray.size:=by rw [show (bv (Awm V)).toArray.size=20 from by simp [AuJ]]; exact hth
       have z3:=all_oneCell_toArray (AKb (Awm V))
       have Z1:=Lib.hid z1
       clear z1
       clear hth
       go_upto_region 24 with (fail)
       go_wp2_with (first | (with_reducible refine wpList_load_row rfl 29 (.tmp 8) rfl _ rfl 29 (bv (Awm V)).toArray (0,0) _ hid Tryd.underlying29 rfl Z1.out ?_) | (with_reducible refine wpList_store_mid rfl 29 (.tmp 2) (.tmp 75) rfl w.heap.size 0 (bv (Awm V)).toArray rfl rfl z2 Z1.out z3 ?_))
       refine bodyPost_ret (results_cell_row rfl _ _ w.heap.size 29 (bv (Awm V)).toArray (0,0) _ rfl hsa Tryd.underlying29 rfl Z1.out) rfl ⟨by rw [HS.out],hks⟩
end Go.Proofs.YtnkpoloeifhflaaDoor.Kit
namespace Go.Proofs.YtnkpoloeifhflaaDoor
section
open Go.RowKit Kit
variable [AtQ]
theorem Auk.of_bytes {P:Program} {f:FuncId} {l out:List UInt8} {n:Nat} (hn:out.length=n)
  (h:∀ (a:Option Addr) (cap:Nat) (w:World),Bs w a l→Calls P f #[.slice a l.length cap] w fun e w'=>e = .returned (.agg (bv out).toArray)∧Ato w w') :
  Auk P f [slB l] (fun x=>x = .arr n 1 (out.map by8)):=by
 intro β F w vs hF hv
 obtain ⟨v,us,rfl,h1,hv⟩:=Aue.cons.1 hv
 rw [Aue.nil] at hv; subst hv
 have fin:∀ e w',(e=Ending.returned (.agg (bv out).toArray)∧Ato w w')→∃ v x F',e = .returned v∧x = .arr n 1 (out.map by8)∧Rep ⟨β,[],F'⟩ w' x v∧AGc F w F' w':=by
  rintro e w' ⟨rfl,hk⟩
  refine ⟨_,_,F,rfl,rfl,Rep.of_cells (us:=bv out) ?_,⟨hk.os,hk.tape,hk.output,hk.size,fun b hb=>hk.block b hb,fun _ h=>h,fun _ _ h=>h,fun b hb=>Nat.lt_of_lt_of_le (hF.1 b hb) hk.size⟩⟩
  rw [Ath]
  exact ⟨by simpa using hn,fun y hy=>by obtain ⟨b,_,rfl⟩:=List.mem_map.1 hy; rfl,Ayi out⟩
 have hr0:Rep ⟨β,[],F⟩ w (slB l) v:=Or.inl h1
 have hr:=hr0.sl
 obtain ⟨hw,hr⟩:=hr
 rcases hr with ⟨he,ad,cap,rfl,_⟩ | ⟨b,off,cap,us,rfl,h3,h4,h5,h6,h7⟩
 ·have hl:l=[]:=by simpa using he
  subst hl
  exact (h ad cap w (Bs.nil w ad)).mono fun e w' h=>fin e w' h
 ·have hb:=AAy (fun y hy=>by obtain ⟨b,_,rfl⟩:=List.mem_map.1 hy; exact AUW b) h6
  rw [AH1] at hb
  have hbs:Bs w (some ⟨b,off,none⟩) l:=fun j hj=>⟨b,off,rfl,h7 j _ (by rw [hb,List.getElem?_map,List.getElem?_eq_getElem hj,List.getD_eq_getElem?_getD,List.getElem?_eq_getElem hj]; rfl)⟩
  have:=h (some ⟨b,off,none⟩) cap w hbs
  rw [show (l.map by8).length=l.length from by simp]
  exact this.mono fun e w' h=>fin e w' h
theorem Ber (b:List UInt8) (hb:b.length≤1000000000):Auk Tryd.prog 13 [slB b] (fun x=>x = .arr 20 1 ((sha b).map by8)) :=
 Auk.of_bytes (AAt b) fun a cap w h=>A8H a cap b w h hb
theorem Bdl (b:List UInt8) (hb:b.length≤1000000000):Auk Tryd.prog 17 [slB b] (fun x=>x = .arr 20 1 ((sha b).map by8)) :=
 Auk.of_bytes (AAt b) fun a cap w h=>A82 a cap b w h hb
end
section
open Go.RowKit Kit
variable [AtQ]
theorem ATJ (X:List UInt8):(X.map by8).take X.length=X.map by8:=List.take_of_length_le (by simp)
def AQb (no:Nat→TV) (yes:List UInt8→TV) (l:List EnJ) (r:TV):Prop:=(∀ b,wrJ Atp sha l=some b→r=yes b)∧(wrJ Atp sha l=none→r=no (ACS Atp l))
theorem AUI {l:List EnJ} (h:ACS Atp l=0) {e:EnJ} (he:e∈l):Aun e=true∧Atp e.path=true:=by
 unfold ACS at h
 by_cases c1:(l.any fun e => !Atp e.path)=true
 ·rw [if_pos c1] at h; cases h
 rw [if_neg c1] at h
 by_cases c2:(l.all Aun && decide (ABG l))=true
 ·rw [Bool.and_eq_true,List.all_eq_true] at c2
  refine ⟨c2.1 e he,?_⟩
  cases hp:Atp e.path
  ·exact absurd (List.any_eq_true.2 ⟨e,he,by simp [hp]⟩) c1
  ·rfl
 ·rw [if_neg c2] at h; cases h
structure StJ (n1 n0:Nat) (e:TV) (H:List Ob) (v:Nat) (X:List UInt8):Prop where
 row:H[0]?=some (.obj v (.arr X.length 1 (X.map by8)))
 box:H[n1]?=some (.obj 0 e)
 pos:0<n1
 lt:n0≤n1
theorem StJ.grew {n1 n0:Nat} {e:TV} {H H':List Ob} {v v':Nat} {X Y:List UInt8} (h:StJ n1 n0 e H v X) (g:APB H H' 0 (.obj v' (.arr Y.length 1 (Y.map by8)))):StJ n1 n0 e H' v' Y :=
 ⟨g.at',(g.low n1 (List.getElem?_eq_some_iff.1 h.box).1 (by have:=h.pos; omega)).trans h.box,h.pos,h.lt⟩
theorem StJ.set {n1 n0:Nat} {e:TV} {H:List Ob} {v v':Nat} {X Y:List UInt8} (h:StJ n1 n0 e H v X):StJ n1 n0 e (H.set 0 (.obj v' (.arr Y.length 1 (Y.map by8)))) v' Y :=
 ⟨by rw [List.getElem?_set_self (List.getElem?_eq_some_iff.1 h.row).1],by rw [List.getElem?_set_ne (by have:=h.pos; omega)]; exact h.box,h.pos,h.lt⟩
theorem A1k {n x:Nat} (hx:x<4096):(n*2 ^ 12 ||| x)=n*4096+x:=by
 rw [show n*2 ^ 12=n <<< 12 from by rw [Nat.shiftLeft_eq],←Nat.shiftLeft_add_eq_or_of_lt (by simpa using hx),Nat.shiftLeft_eq]
theorem AEA (X Y:List UInt8):X.map by8++Y.map by8=(X++Y).map by8:=by simp
theorem ARF (n:Nat):List.replicate n (TV.val (.int .u8 ((0:Nat):Int)))=(AuZ n).map by8:=by unfold AuZ; simp [by8]
theorem Bc8 {p id:List UInt8} {m sz st:Nat} {n1 n0 v:Nat} {H:List Ob} {X:List UInt8} {a b c:TV} {Q:VEx→Env→List Ob→Prop} (hx1:p.length≤100) (hst:st≤3) (hX:X.length≤1000000)
  (h:StJ n1 n0 (.agg [ts p,i64 (m:Int),.arr 20 1 (id.map by8),i64 (sz:Int),i64 (st:Int)]) H v X)
  (hK:∀ H' v' Y,Y=X++beN (st*4096+p.length) 2++p++AuZ (8 - (62+p.length) % 8)→H'[0]?=some (.obj v' (.arr Y.length 1 (Y.map by8)))→n0≤H'.length →
   Q .nor [(5,.os 1 0 v' [] 0 Y.length Y.length),(21,a),(22,b),(23,c)] H') :
  vwp Tryd.prog AA3 Q [(5,.os 1 0 v [] 0 X.length X.length),(7,.op n1 0 []),(21,a),(22,b),(23,c)] H:=by
 obtain ⟨h1,h2,h3,h4⟩:=h
 have ho:(st*4096 ||| p.length)=st*4096+p.length:=A1k (n:=st) (x:=p.length) (by omega)
 simp -dsimp (disch:=first | assumption | omega | (simp only [Ata];try omega)) only [↓Atf,Atb,Atd,Ate,eq_self,Nat.reduceEqDiff,Nat.reduceMod,Nat.reducePow,↓reduceIte,Nat.reduceAdd,↓ALx,h2,AtL,ho]
 refine Atj.callsP (A7U (l:=X) (n:=st*4096+p.length) (k:=2) (by omega) (by decide) (by decide) (by omega) h1 fun H1 v1 G1 => ?_)
 generalize hY:X++beN (st*4096+p.length) 2=Y at *
 have hYl:Y.length=X.length+2:=by rw [←hY]; simp [Aur]
 rw [←hYl] at G1 ⊢
 have S1:=StJ.grew ⟨h1,h2,h3,h4⟩ G1
 have R1:=S1.row
 have B1:=S1.box
 have hBB:H1[n1]?=H[n1]?:=B1.trans h2.symm
 refine ⟨?_,?_⟩
 case refine_2 =>
  change AGj [42,45,50] _ _ _
  exact AEJ (id:=n1) (ver:=0) (p:=[(4,23)]) (by simp [get]) hBB (AEJ (id:=n1) (ver:=0) (p:=[(0,0)]) (by simp [get]) hBB (AEJ (id:=n1) (ver:=0) (p:=[(0,0)]) (by simp [get]) hBB AOk))
 have htY:=ATJ Y
 have S2:StJ n1 n0 _ (H1.set 0 (.obj (v1+1) (.arr (Y++p).length 1 ((Y++p).map by8)))) (v1+1) (Y++p):=S1.set
 have R2:=S2.row
 have B2:=S2.box
 rw [←AEA,List.length_append] at R2 B2
 simp -dsimp (disch:=first | assumption | omega | (simp only [Ata];try omega)) only [↓Atf,Atb,Atd,Ate,eq_self,Nat.reduceEqDiff,↓reduceIte,R1,B1,AtL,htY]
 rw [AEA,←List.length_append] at R2 B2 ⊢
 have hZl:(Y++p).length=Y.length+p.length:=List.length_append
 have h2l:n1<(H1.set 0 (.obj (v1+1) (.arr (Y++p).length 1 ((Y++p).map by8)))).length:=(List.getElem?_eq_some_iff.1 B2).1
 generalize H1.set 0 (.obj (v1+1) (.arr (Y++p).length 1 ((Y++p).map by8)))=H2 at *
 generalize Y++p=Z at *
 have htZ:=ATJ Z
 have fin:=hK (H2.set 0 (.obj (v1+1+1) (.arr (Z++AuZ (8 - (62+p.length) % 8)).length 1 ((Z++AuZ (8 - (62+p.length) % 8)).map by8)))) (v1+1+1) _ rfl (by rw [List.getElem?_set_self (by omega)]) (by rw [List.length_set]; omega)
 have hzl:(AuZ (8 - (62+p.length) % 8)).length=8 - (62+p.length) % 8:=by simp [AuZ]
 rw [←AEA,List.length_append,←ARF,hzl] at fin
 simp -dsimp (disch:=first | assumption | omega | (simp only [Ata];try omega)) only [↓Atf,Atb,Atd,Ate,eq_self,Nat.reduceEqDiff,↓reduceIte,R2,htZ]
 exact fin
theorem BcR {p id:List UInt8} {m sz st:Nat} {n1 n0 v:Nat} {H:List Ob} {X:List UInt8} {a b c:TV} {Q:VEx→Env→List Ob→Prop} (hx1:p.length≤100) (h20:id.length=20) (hm:m<100000) (hsz:sz≤100000) (hst:st≤3) (hX:X.length≤900000)
  (h:StJ n1 n0 (.agg [ts p,i64 (m:Int),.arr 20 1 (id.map by8),i64 (sz:Int),i64 (st:Int)]) H v X)
  (hK:∀ H' v' Y,Y=X++beN m 4++AuZ 8++beN sz 4++id++beN (st*4096+p.length) 2++p++AuZ (8 - (62+p.length) % 8)→H'[0]?=some (.obj v' (.arr Y.length 1 (Y.map by8)))→n0≤H'.length →
   Q .nor [(5,.os 1 0 v' [] 0 Y.length Y.length),(21,a),(22,b),(23,c)] H') :
  vwp Tryd.prog AAY Q [(5,.os 1 0 v [] 0 X.length X.length),(7,.op n1 0 []),(21,a),(22,b),(23,c)] H:=by
 have h1:=h.row
 have h2:=h.box
 simp -dsimp (disch:=first | assumption | omega | (simp only [Ata];try omega)) only [↓Atf,Atb,Atd,Ate,eq_self,Nat.reduceEqDiff,Nat.reduceMod,↓reduceIte,Nat.reduceAdd,↓ALc,h2]
 refine Atj.callsP (A7U (l:=X) (n:=m) (k:=4) (by omega) (by decide) (by decide) (by omega) h1 fun H1 v1 G1 => ?_)
 generalize hY:X++beN m 4=Y at *
 have hYl:Y.length=X.length+4:=by rw [←hY]; simp [Aur]
 rw [←hYl] at G1 ⊢
 have S1:=h.grew G1
 have hBB:H1[n1]?=H[n1]?:=S1.box.trans h2.symm
 refine ⟨?_,?_⟩
 case refine_2 =>
  change AGj [30,34] _ _ _
  exact AEJ (id:=n1) (ver:=0) (p:=[(1,1)]) (by simp [get]) hBB (AEJ (id:=n1) (ver:=0) (p:=[(3,22)]) (by simp [get]) hBB AOk)
 simp -dsimp (disch:=first | assumption | omega | (simp only [Ata];try omega)) only [↓Atf,Atb,Atd,Ate,eq_self,↓reduceIte]
 refine Atj.callsP (A7U (l:=Y) (n:=0) (k:=8) (by omega) (by decide) (by decide) (by omega) S1.row fun H2 v2 G2 => ?_)
 have hb08:beN 0 8=AuZ 8:=by decide
 rw [hb08] at G2
 have hz8:(AuZ 8).length=8:=by simp [AuZ]
 generalize hZ:Y++AuZ 8=Z at *
 have hZl:Z.length=Y.length+8:=by rw [←hZ,List.length_append,hz8]
 rw [←hZl] at G2 ⊢
 have S2:=S1.grew G2
 have hBB2:H2[n1]?=H1[n1]?:=S2.box.trans S1.box.symm
 refine ⟨?_,?_⟩
 case refine_2 =>
  change AGj [30,34] _ _ _
  exact AEJ (id:=n1) (ver:=0) (p:=[(1,1)]) (by simp [get]) hBB2 (AEJ (id:=n1) (ver:=0) (p:=[(3,22)]) (by simp [get]) hBB2 AOk)
 simp -dsimp (disch:=first | assumption | omega | (simp only [Ata];try omega)) only [↓Atf,Atb,Atd,Ate,eq_self,Nat.reduceEqDiff,↓reduceIte]
 refine Atj.callsP (A7U (l:=Z) (n:=sz) (k:=4) (by omega) (by decide) (by decide) (by omega) S2.row fun H3 v3 G3 => ?_)
 generalize hW:Z++beN sz 4=W at *
 have hWl:W.length=Z.length+4:=by rw [←hW]; simp [Aur]
 rw [←hWl] at G3 ⊢
 have S3:=S2.grew G3
 have hBB3:H3[n1]?=H2[n1]?:=S3.box.trans S2.box.symm
 refine ⟨?_,?_⟩
 case refine_2 =>
  change AGj [30,34] _ _ _
  exact AEJ (id:=n1) (ver:=0) (p:=[(1,1)]) (by simp [get]) hBB3 (AEJ (id:=n1) (ver:=0) (p:=[(3,22)]) (by simp [get]) hBB3 AOk)
 have htW:=ATJ W
 have R3:=S3.row
 have B3:=S3.box
 have S4:StJ n1 n0 _ (H3.set 0 (.obj (v3+1) (.arr (W++id).length 1 ((W++id).map by8)))) (v3+1) (W++id):=S3.set
 have hidl:(id.map by8).length=20:=by rw [List.length_map]; exact h20
 have htid:(id.map by8).take 20=id.map by8:=List.take_of_length_le (by omega)
 have hEA:Aw6 [(2,2)] 1 0 20 (.agg [ts p,i64 (m:Int),.arr 20 1 (id.map by8),i64 (sz:Int),i64 (st:Int)])=some (id.map by8):=by
  have hw:Aut [ts p,i64 (m:Int)]=2:=rfl
  unfold Aw6; simp [ABl,h20,hw]; exact List.take_of_length_le (by simp [h20])
 have hWi:(W++id).length=W.length+20:=by rw [List.length_append,h20]
 simp -dsimp (disch:=first | assumption | omega | (simp only [Ata];try omega)) only [↓Atf,Atb,Atd,Ate,eq_self,Nat.reduceEqDiff,↓reduceIte,Nat.reduceAdd,Nat.reduceLeDiff,↓ALa,R3,B3,hidl,htW,hEA]
 rw [AEA,←hWi]
 exact Bc8 hx1 hst (by omega) S4 hK
theorem A48 (l:List EnJ) (hl:l.length≤2000) (h20:∀ e∈l,e.id.length=20):Az5 Tryd.prog 4 [.sl 24 (l.map enJ)] (AQb (fun c => .tup [.val (.slice none 0 0),erJ c]) (fun b => .tup [slB b,.val .nilIface]) l):=by
 refine Atj.toFreshV (APU (by simp) ?_)
 simp -dsimp (disch:=first | assumption | omega | (simp only [Ata];try omega)) only [↓Atf,Atb,Atd,Ate,eq_self,↓reduceIte,reduceCtorEq,↓AOu,↓AJc]
 refine AwK ((Bam l hl).calls (by simp [Aud,AuQ]) fun r hr => ?_)
 subst hr
 by_cases h0:ACS Atp l=0
 case neg =>
  have hw:wrJ Atp sha l=none:=by unfold wrJ; rw [if_neg h0]
  have:AQb (fun c => .tup [.val (.slice none 0 0),erJ c]) (fun b => .tup [slB b,.val .nilIface]) l (.tup [.val (.slice none 0 0),erJ (ACS Atp l)]):=⟨fun b hb=>(by rw [hw] at hb; cases hb),fun _=>rfl⟩
  rw [AWe h0] at *
  simp -dsimp (disch:=first | assumption | omega | (simp only [Ata];try omega)) only [↓Atf,Atb,Atd,Ate,eq_self,Nat.reduceEqDiff,↓reduceIte,reduceCtorEq,↓AG2]
  exact this
 have hw:wrJ Atp sha l=some (ABg l++sha (ABg l)):=by unfold wrJ; rw [if_pos h0]
 have fin:∀ X,X=ABg l++sha (ABg l)→AQb (fun c => .tup [.val (.slice none 0 0),erJ c]) (fun b => .tup [slB b,.val .nilIface]) l (.tup [slB X,.val .nilIface]):=fun X hX=>⟨fun b hb=>(by rw [hw] at hb; cases hb; rw [hX]),fun hb=>(by rw [hw] at hb; cases hb)⟩
 have hB:ABg l=([68,73,82,67]++beN 2 4)++beN l.length 4++(AAu ltJ l).flatMap AH4:=rfl
 rw [hB] at fin
 have hf:=fun e he=>AUI (l:=l) h0 (e:=e) he
 clear hB hw
 rw [h0,A9q]
 simp -dsimp (disch:=first | assumption | omega | (simp only [Ata];try omega)) only [↓Atf,Atb,Atd,Ate,eq_self,Nat.reduceEqDiff,↓reduceIte,reduceCtorEq,Nat.reduceLeDiff,↓AJG]
 refine AwK (A7U (l:=[68,73,82,67]) (n:=2) (k:=4) (id:=0) (by decide) (by decide) (by decide) (by decide) rfl fun H1 v1 G1 => ?_)
 generalize hM:([68,73,82,67]:List UInt8)++beN 2 4=M at *
 have hMl:M.length=8:=by rw [←hM]; simp [Aur]
 clear hM
 have E8:([68,73,82,67]:List UInt8).length+4=M.length:=by rw [hMl]; rfl
 rw [E8] at G1 ⊢
 simp -dsimp (disch:=first | assumption | omega | (simp only [Ata];try omega)) only [↓Atf,Atb,Atd,Ate,eq_self,Nat.reduceEqDiff,↓reduceIte,reduceCtorEq]
 refine AwK (A7U (l:=M) (n:=l.length) (k:=4) (id:=0) (by omega) (by decide) (by decide) (by omega) G1.at' fun H2 v2 G2 => ?_)
 generalize hM2:M++beN l.length 4=M2 at *
 have E9:M.length+4=M2.length:=by rw [←hM2]; simp [Aur]
 have hM2l:M2.length=12:=by rw [←E9,hMl]
 rw [E9] at G2 ⊢
 clear hM2
 simp -dsimp (disch:=first | assumption | omega | (simp only [Ata];try omega)) only [↓Atf,Atb,Atd,Ate,eq_self,↓reduceIte,reduceCtorEq,↓AJi]
 refine AwK ((AZs l (by omega)).calls (by simp [Aud,AuQ]) fun r hr => ?_)
 subst hr
 have hsl:(AAu ltJ l).length=l.length:=(AuA l).length_eq
 have hmem:∀ e∈AAu ltJ l,e∈l:=fun e he=>(AuA l).mem_iff.1 he
 generalize AAu ltJ l=s at *
 simp -dsimp (disch:=first | assumption | omega | (simp only [Ata];try omega)) only [↓Atf,Atb,Atd,Ate,eq_self,Nat.reduceEqDiff,↓reduceIte,reduceCtorEq,↓AJ8]
 refine At5 (fun c e H=>∃ (i v':Nat) (X:List UInt8),c=s.length - i∧i≤s.length∧X=M2++(s.take i).flatMap AH4∧X.length≤12+168*i∧H2.length≤H.length∧H[0]?=some (.obj v' (.arr X.length 1 (X.map by8))) ∧
  e=[(5,.os 1 0 v' [] 0 X.length X.length),(21,.sl 24 (s.map enJ)),(22,i64 (s.length:Int)),(23,i64 (i:Int))]) s.length ?_ ?_
 ·exact ⟨0,v2,M2,rfl,by omega,by simp,by omega,Nat.le_refl _,G2.at',rfl⟩
 rintro c e H ⟨i,v',X,rfl,hi,hX,hXl,hHl,gX,rfl⟩
 by_cases h:i<s.length
 ·obtain ⟨x,hx⟩:∃ x,s[i]?=some x:=⟨_,List.getElem?_eq_getElem h⟩
  have hxm:=hmem x (List.mem_of_getElem? hx)
  obtain ⟨hg,hp⟩:=hf x hxm
  have hp1:=(ABA hp).1
  have hx20:=h20 x hxm
  have hxJ:=Axc x
  obtain ⟨m,sz,st,em,es,et,hm,hsz,hst⟩:∃ m sz st:Nat,x.mode=m∧x.size=sz∧x.stage=st∧m<100000∧sz≤100000∧st≤3:=by
   unfold Aun at hg; simp at hg
   exact ⟨x.mode.toNat,x.size.toNat,x.stage.toNat,by omega,by omega,by omega,by omega,by omega,by omega⟩
  have hH0:0<H.length:=(List.getElem?_eq_some_iff.1 gX).1
  rw [em,es,et] at hxJ
  have S0:StJ H.length H2.length (.agg [ts x.path,i64 (m:Int),.arr 20 1 (x.id.map by8),i64 (sz:Int),i64 (st:Int)]) (H++[.obj 0 (.agg [ts x.path,i64 (m:Int),.arr 20 1 (x.id.map by8),i64 (sz:Int),i64 (st:Int)])]) v' X :=
   ⟨by rw [List.getElem?_append_left hH0]; exact gX,by simp,hH0,hHl⟩
  have S1:=S0.set (v':=v'+1) (Y:=X++AuZ 24)
  rw [List.set_append_left _ _ hH0] at S1
  have R0:=S0.row
  have htX:=ATJ X
  have hz24:(AuZ 24).length=24:=by simp [AuZ]
  have hXz:(X++AuZ 24).length=X.length+24:=by rw [List.length_append,hz24]
  have hrep:=ARF 24
  simp -dsimp (disch:=first | assumption | omega | (simp only [Ata];try omega)) only [↓Atf,Atb,Atd,Ate,eq_self,Nat.reduceEqDiff,Nat.reduceMul,↓reduceIte,Nat.reduceAdd,Nat.reduceLeDiff,↓AB4,↓AB7,↓AJQ,hx,hxJ,↓AKj,R0,htX,hrep,hz24]
  rw [AEA,←hXz]
  refine BcR hp1 hx20 hm hsz hst (by omega) S1 fun H' v2 Y hY gY hl2 => ?_
  have hEn:AH4 x=AuZ 24++beN m 4++AuZ 8++beN sz 4++x.id++beN (st*4096+x.path.length) 2++x.path++AuZ (8 - (62+x.path.length) % 8):=by
   unfold AH4; rw [em,es,et]; simp only [Int.toNat_natCast]
  have hYe:Y=X++AH4 x:=by rw [hY,hEn]; simp only [List.append_assoc]
  have hEl:=AHX x hx20
  have hYl:Y.length=X.length+ALQ x.path.length:=by rw [hYe,List.length_append,hEl]
  have hsz2:ALQ x.path.length≤168:=by unfold ALQ; omega
  have htk:s.take (i+1)=s.take i++[x]:=by
   obtain ⟨_,rfl⟩:=List.getElem?_eq_some_iff.1 hx
   exact List.take_succ_eq_append_getElem h
  simp -dsimp (disch:=first | assumption | omega | (simp only [Ata];try omega)) only [↓Atf,Atb,Atd,Ate,eq_self,Nat.reduceEqDiff,↓reduceIte]
  exact Atk (s.length - (i+1)) (by omega) hl2 ⟨i+1,v2,Y,rfl,by omega,by rw [htk,List.flatMap_append,hYe,hX]; simp,by omega,hl2,gY,rfl⟩
 ·obtain rfl:i=s.length:=by omega
  rw [List.take_length] at hX
  rw [←hX] at fin
  have htX:=ATJ X
  have hsl:(sha X).length=20:=AAt X
  have hXs:(X++sha X).length=X.length+20:=by rw [List.length_append,hsl]
  have fin':=fin _ rfl
  have htXs:=ATJ (X++sha X)
  have hshl:((sha X).map by8).length=20:=by rw [List.length_map]; exact hsl
  have hH0:0<H.length:=(List.getElem?_eq_some_iff.1 gX).1
  simp -dsimp (disch:=first | assumption | omega | (simp only [Ata];try omega)) only [↓Atf,Atb,Atd,Ate,eq_self,Nat.reduceEqDiff,↓reduceIte,↓AB4,↓AB7,↓ALC]
  refine (Ber X (by omega)).lends (args':=[slB X]) (by simp -dsimp (disch:=first | assumption | omega | (simp only [Ata];try omega)) only [Atd,Ate,eq_self,↓reduceIte,gX,htX]) fun r hr => ?_
  subst hr
  refine ⟨by rw [ARN,AKe],?_⟩
  generalize sha X=q at *
  have hqt:(q.map by8).take 20=q.map by8:=by rw [List.take_of_length_le]; simp [hsl]
  have hmq:X.map by8++q.map by8=(X++q).map by8:=by simp
  have htq:=ATJ (X++q)
  simp -dsimp (disch:=first | assumption | omega | (simp only [Ata];try omega)) only [↓Atf,Atb,Atd,Ate,eq_self,Nat.reduceEqDiff,↓reduceIte,Nat.reduceLeDiff,gX,htX,hsl]
  rw [hmq,←hXs]
  have hget:(H.set 0 (Ob.obj (v'+1) (.arr (X++q).length 1 ((X++q).map by8)))++[Ob.obj 0 (.arr 20 1 (q.map by8))])[0]?=some (.obj (v'+1) (.arr (X++q).length 1 ((X++q).map by8))):=by
   rw [List.getElem?_append_left (by simpa using hH0),List.getElem?_set_self hH0]
  generalize H.set 0 (Ob.obj (v'+1) (.arr (X++q).length 1 ((X++q).map by8)))++[Ob.obj 0 (.arr 20 1 (q.map by8))]=H9 at *
  simp -dsimp (disch:=first | assumption | omega | (simp only [Ata];try omega)) only [↓Atf,Atb,Atd,Ate,eq_self,Nat.reduceEqDiff,↓reduceIte,↓AG2,hget]
  exact fin'
end
section
variable [AtQ]
set_option maxRecDepth 100000
def ALb:Atc := .seq (.ops [po_ 4 (.mov (.c (.bool false)))] [0,1])
 (.seq (.ops [mv_ 5 0,po_ 6 (.b2s (.t 5)),mv_ 7 1,po_ 8 (.b2s (.t 7)),po_ 9 (.bin 9 .eql (.t 6) (.t 8)),mv_ 4 9] [4])
 (.ret))
def ALv:List VR:=[.tmp 4]
theorem ARA:Tryd.f39.body.bind (trC Tryd.prog Tryd.f39.ntmps)=some (er ALb):=by kernel_rfl
theorem AQ5:trR Tryd.prog Tryd.f39.results.toList=some ALv:=by kernel_rfl
def AOE:=As8 ALb.eq_1
theorem APg {K:TV→Prop} {e:Env} {H:List Ob}:res ALv e H K=res [.tmp 4] e H K:=As9 rfl
def ARr:=(And.intro @AOE @APg)
def APD:=Awn 10 Tryd.func39 ARA AQ5 rfl
end
section
open Go.RowKit Kit
variable [AtQ]
theorem ATw (a b:List UInt8):Auk Tryd.prog 39 [slB a,slB b] (fun x=>x=tb (decide (a=b))):=by
 refine Atj.toPureV (APD (by simp) ?_)
 simp -dsimp (disch:=first | assumption | omega | (simp only [Ata];try omega)) only [↓Atf,Atb,Atd,Ate,eq_self,Nat.reduceEqDiff,↓reduceIte,Nat.reduceAdd,reduceCtorEq,↓ARr]
theorem ASW:AT1 Atp sha:=⟨fun p h=>(ABA h).1,AAt⟩
def ANc (yes:List EnJ→TV) (no:TV) (b:List UInt8) (r:TV):Prop:=(∀ l,ANV l→wrJ Atp sha l=some b→r=yes (AAu ltJ l))∧(NoJ Atp sha b→r=no)
theorem ANc.no {yes:List EnJ→TV} {n:TV} {b:List UInt8} (h:NoJ Atp sha b):ANc yes n b n:=⟨fun l hi hw=>absurd hw (h l hi),fun _=>rfl⟩
theorem AYw (b:List UInt8) (i j:Nat):((b.map by8).drop i).take (j - i)=(Awl b i j).map by8:=by unfold Awl; rw [←List.map_drop,←List.map_take]
theorem AAx {b:List UInt8} {i j:Nat} (h:j≤b.length):(Awl b i j).length=j - i:=by unfold Awl; simp; omega
theorem AU4 {rest:List UInt8} (h:62≤rest.length) (h2:ALQ (beV (Awl rest 60 62) % 4096)≤rest.length):AWB rest=some (⟨Awl rest 62 (62+beV (Awl rest 60 62) % 4096),(beV (Awl rest 24 28):Int),Awl rest 40 60,(beV (Awl rest 36 40):Int),((beV (Awl rest 60 62) / 4096:Nat):Int)⟩,rest.drop (ALQ (beV (Awl rest 60 62) % 4096))):=by
 unfold AWB; rw [if_neg (by omega)]; simp only; rw [if_neg (by omega)]
theorem ASd {rest:List UInt8} (h:rest.length<62):AWB rest=none:=by unfold AWB; rw [if_pos h]
theorem AS1 {rest:List UInt8} (h:62≤rest.length) (h2:rest.length<ALQ (beV (Awl rest 60 62) % 4096)):AWB rest=none:=by
 unfold AWB; rw [if_neg (by omega)]; simp only; rw [if_pos h2]
theorem ALB:∀ l:List EnJ,ABK (l.map enJ)=true
 | []=>by rw [List.map_nil,ABK]
 | e::l=>by
  rw [List.map_cons,ABK,ALB l,Axc]
  simp [ARN,ABK,AKe]
theorem BbU (b:List UInt8) (hb:b.length≤20000):Az5 Tryd.prog 20 [slB b] (ANc (fun l => .tup [.sl 24 (l.map enJ),.val .nilIface]) (.tup [.val (.slice none 0 0),eno ((70:Nat):Int)]) b):=by
 refine Atj.toFreshV (ARK (by simp) ?_)
 have no:=fun h=>ANc.no (yes:=fun l => .tup [.sl 24 (l.map enJ),.val .nilIface]) (n := .tup [.val (.slice none 0 0),eno ((70:Nat):Int)]) (b:=b) h
 by_cases h32:b.length<32
 ·have:=no (NoJ.short ASW h32)
  simp -dsimp (disch:=first | assumption | omega | (simp only [Ata];try omega)) only [↓Atf,Atb,Atd,Ate,eq_self,Nat.reduceEqDiff,↓reduceIte,reduceCtorEq,↓AIB,↓ABN,h32,↓Axd]
  exact this
 have hs:=LIJ.start ASW b
 have hcl:(Awl b 12 (b.length - 20)).length=b.length - 20 - 12:=AAx (by omega)
 have hcut:=AYw b 12 (b.length - 20)
 simp -dsimp (disch:=first | assumption | omega | (simp only [Ata];try omega)) only [↓Atf,Atb,Atd,Ate,eq_self,Nat.reduceEqDiff,↓reduceIte,reduceCtorEq,↓AIB,↓ABN,↓AK3,↓AJ4,h32,↓ALI]
 refine At5 (fun c e H=>∃ (ls:List EnJ) (rest:List UInt8) (v cp:Nat),c=rest.length∧LIJ Atp sha b ls rest∧ANV ls∧rest.length+64*ls.length≤b.length∧1≤H.length∧H[0]?=some (.obj v (.arr ls.length 24 (ls.map enJ))) ∧
  e=[(0,slB b),(4,.os 24 0 v [] 0 ls.length cp),(5,slB rest)]) (Awl b 12 (b.length - 20)).length ?_ ?_
 ·exact ⟨[],Awl b 12 (b.length - 20),0,0,rfl,hs,fun e he=>(by cases he),by rw [hcl]; simp; omega,Nat.le_refl _,rfl,rfl⟩
 rintro c e H ⟨ls,rest,v,cp,rfl,hI,hids,hlen,hHl,gL,rfl⟩
 by_cases hr:rest=[]
 ·subst hr
  have htl:(ls.map enJ).take ls.length=ls.map enJ:=List.take_of_length_le (by simp)
  simp -dsimp (disch:=first | assumption | omega | (simp only [Ata];try omega)) only [↓Atf,Atb,Atd,Ate,eq_self,Nat.reduceLT,Nat.reduceEqDiff,↓reduceIte,reduceCtorEq,↓AAg,↓AMK]
  refine ((A48 ls (by simp at hlen; omega) hids).lends (args':=[.sl 24 (ls.map enJ)]) (by simp -dsimp (disch:=first | assumption | omega | (simp only [Ata];try omega)) only [Atd,Ate,eq_self,↓reduceIte,gL,htl])) fun r hr => ?_
  cases hw:wrJ Atp sha ls with
  | none =>
   have hr2:r = .tup [.val (.slice none 0 0),erJ (ACS Atp ls)]:=hr.2 hw
   have h0:ACS Atp ls≠0:=fun h0=>by unfold wrJ at hw; rw [if_pos h0] at hw; cases hw
   have:=no fun l hi hl=>by
    have e:=hI.fin hi hl
    rw [←e,ARm,hl] at hw; cases hw
   rw [AWe h0] at hr2
   subst hr2
   simp -dsimp (disch:=first | assumption | omega | (simp only [Ata];try omega)) only [↓Atf,Atb,Atd,Ate,eq_self,Nat.reduceEqDiff,↓reduceIte,reduceCtorEq,↓Axd]
   exact this
  | some x =>
   have hr2:r = .tup [slB x,.val .nilIface]:=hr.1 x hw
   subst hr2
   simp -dsimp (disch:=first | assumption | omega | (simp only [Ata];try omega)) only [↓Atf,Atb,Atd,Ate,eq_self,Nat.reduceEqDiff,↓reduceIte,reduceCtorEq]
   refine AwK ((ATw x b).calls rfl fun r hr => ?_)
   subst hr
   by_cases hxb:x=b
   ·subst hxb
    have hyes:ANc (fun l => .tup [.sl 24 (l.map enJ),.val .nilIface]) (.tup [.val (.slice none 0 0),eno ((70:Nat):Int)]) x (.tup [.sl 24 (ls.map enJ),.val .nilIface]) :=
     ⟨fun l hi hl=>by rw [hI.fin hi hl],fun hno=>absurd hw (hno ls hids)⟩
    have hsc:=ALB ls
    simp -dsimp (disch:=first | assumption | omega | (simp only [Ata];try omega)) only [↓Atf,Atb,Atd,Ate,eq_self,Nat.reduceEqDiff,↓reduceIte,reduceCtorEq,↓Axd,gL,htl,hsc]
    exact hyes
   ·have:=no fun l hi hl=>by
     have e:=hI.fin hi hl
     rw [←e,ARm,hl] at hw
     exact hxb (Option.some.inj hw).symm
    simp -dsimp (disch:=first | assumption | omega | (simp only [Ata];try omega)) only [↓Atf,Atb,Atd,Ate,eq_self,Nat.reduceEqDiff,↓reduceIte,reduceCtorEq,↓Axd,hxb]
    exact this
 have hr0:0<rest.length:=by cases rest with | nil=>exact absurd rfl hr | cons a t=>simp
 by_cases h62:rest.length<62
 ·have:=no (hI.bad hr (ASd h62))
  simp -dsimp (disch:=first | assumption | omega | (simp only [Ata];try omega)) only [↓Atf,Atb,Atd,Ate,eq_self,Nat.reduceEqDiff,↓reduceIte,reduceCtorEq,↓AAg,↓ADm,h62,↓Axd]
  exact this
 have c60:=AYw rest 60 62
 have l60:(Awl rest 60 62).length=2:=AAx (by omega)
 simp -dsimp (disch:=first | assumption | omega | (simp only [Ata];try omega)) only [↓Atf,Atb,Atd,Ate,eq_self,Nat.reduceEqDiff,Nat.reduceSub,↓reduceIte,reduceCtorEq,Nat.reduceLeDiff,↓AAg,↓ADm,h62,↓ALT]
 refine AwK ((BcV (Awl rest 60 62) (by omega)).calls (by simp [Aud,AuQ]) fun r hr => ?_)
 subst hr
 have l24:(Awl rest 24 28).length=4:=AAx (by omega)
 have l36:(Awl rest 36 40).length=4:=AAx (by omega)
 have l40:(Awl rest 40 60).length=20:=AAx (by omega)
 have hds:=AU4 (rest:=rest) (by omega)
 have hdn:=AS1 (rest:=rest) (by omega)
 have hf:=AKJ (Awl rest 60 62)
 rw [l60] at hf
 generalize beV (Awl rest 60 62)=f at *
 have hq1:=BcV (Awl rest 24 28) (by omega)
 have hq2:=BcV (Awl rest 36 40) (by omega)
 have hl1:=AKJ (Awl rest 24 28)
 have hl2:=AKJ (Awl rest 36 40)
 rw [l24] at hl1
 rw [l36] at hl2
 generalize beV (Awl rest 24 28)=m at *
 generalize beV (Awl rest 36 40)=z at *
 have t40:(List.take 20 (List.drop 40 rest)).length=20:=l40
 have u40:List.take 20 ((List.take 20 (List.drop 40 rest)).map by8)=(Awl rest 40 60).map by8:=List.take_of_length_le (by rw [List.length_map,t40]; exact Nat.le_refl _)
 have u40l:((Awl rest 40 60).map by8).length=20:=by rw [List.length_map]; exact l40
 have hand:∀ t,AyH t .and (.int .i64 (f:Int)) (.int .i64 ((4095:Nat):Int))=some (.int .i64 ((f % 4096:Nat):Int)):=fun t=>by
  have e:f &&& 4095=f % 4096:=Nat.and_two_pow_sub_one_eq_mod f 12
  rw [A8l (by omega) (by omega) (by omega) (by omega)]
  simp only [Int.toNat_natCast,e]
 simp -dsimp (disch:=first | assumption | omega | (simp only [Ata];try omega)) only [↓Atf,Atb,Atd,Ate,eq_self,Nat.reduceLT,Nat.reduceEqDiff,Nat.reduceSub,Nat.reducePow,↓reduceIte,reduceCtorEq,Nat.reduceLeDiff,↓AM4,t40,u40]
 refine ⟨_,hq1.calls (by simp [Aud,AuQ]) fun r hr=>⟨hr,rfl⟩,?_⟩
 simp -dsimp (disch:=first | assumption | omega | (simp only [Ata];try omega)) only [↓Atf,Atb,Atd,Ate,eq_self,Nat.reduceEqDiff,↓reduceIte]
 refine ⟨_,hq2.calls (by simp [Aud,AuQ]) fun r hr=>⟨hr,rfl⟩,?_⟩
 by_cases hsz:rest.length<ALQ (f % 4096)
 ·have:=no (hI.bad hr (hdn hsz))
  have hsz':rest.length<(62+f % 4096) / 8*8+8:=hsz
  simp -dsimp (disch:=first | assumption | omega | (simp only [Ata];try omega)) only [↓Atf,Atb,Atd,Ate,eq_self,Nat.reduceEqDiff,↓reduceIte,Nat.reduceAdd,reduceCtorEq,↓ADu,hand,↓ADn,↓ADz,hsz',↓Axd]
  exact this
 have hsz':¬ rest.length<(62+f % 4096) / 8*8+8:=hsz
 have hd:=hds (by omega)
 have gL':∀ T:List Ob,(H++T)[0]?=some (.obj v (.arr ls.length 24 (ls.map enJ))):=fun T=>by rw [List.getElem?_append_left (by omega)]; exact gL
 have htl:(ls.map enJ).take ls.length=ls.map enJ:=List.take_of_length_le (by simp)
 have hszl:(62+f % 4096) / 8*8+8≤rest.length:=by omega
 have hs64:64≤(62+f % 4096) / 8*8+8:=by omega
 simp -dsimp (disch:=first | assumption | omega | (simp only [Ata];try omega)) only [↓Atf,Atb,Atd,Ate,eq_self,Nat.reduceEqDiff,↓reduceIte,Nat.reduceAdd,reduceCtorEq,Nat.reduceLeDiff,↓ADu,hand,↓ADn,↓ADz,hsz',↓AMz,gL',AEC,htl]
 obtain ⟨en,hen⟩:∃ en:EnJ,en=⟨Awl rest 62 (62+f % 4096),(m:Int),Awl rest 40 60,(z:Int),((f / 4096:Nat):Int)⟩:=⟨_,rfl⟩
 have hEn:enJ en = .agg [ts (Awl rest 62 (62+f % 4096)),i64 (m:Int),.arr 20 1 ((Awl rest 40 60).map by8),i64 (z:Int),i64 ((f / 4096:Nat):Int)]:=by rw [hen]; exact Axc _
 have hp62:Awl rest 62 (62+f % 4096)=List.take (f % 4096) (List.drop 62 rest):=by unfold Awl; rw [Nat.add_sub_cancel_left]
 rw [hp62] at hEn
 rw [←hen] at hd
 have hid:en.id.length=20:=by rw [hen]; exact l40
 have hstep:=hI.step hr hd
 have hlen2:(rest.drop (ALQ (f % 4096))).length=rest.length - ALQ (f % 4096):=List.length_drop
 have hsd:ALQ (f % 4096)=(62+f % 4096) / 8*8+8:=rfl
 have hmap:ls.map enJ++[enJ en]=(ls++[en]).map enJ:=by simp
 rw [hEn] at hmap
 have hl1':(ls++[en]).length=ls.length+1:=by simp
 refine Atk (rest.drop (ALQ (f % 4096))).length (by omega) (by simp) ⟨ls++[en],rest.drop (ALQ (f % 4096)),v+1,ls.length+1,rfl,hstep,?_,by rw [hl1']; omega,by simp,?_,?_⟩
 ·intro x hx
  rcases List.mem_append.1 hx with hx | hx
  ·exact hids x hx
  ·rw [List.mem_singleton.1 hx]; exact hid
 ·rw [←hmap,hl1',List.getElem?_append_left (by simp),List.getElem?_append_left (by simp; omega),List.getElem?_set_self (by omega)]
 ·rw [hl1']
  rfl
end
section
open Go.RowKit Kit
variable [AtQ]
structure GwJ (n0:Nat) (H:List Ob) (v:Nat) (X:List UInt8):Prop where
 row:H[0]?=some (.obj v (.arr X.length 1 (X.map by8)))
 len:n0≤H.length
 pos:0<H.length
theorem GwJ.grew {n0:Nat} {H H':List Ob} {v v':Nat} {X Y:List UInt8} (h:GwJ n0 H v X) (g:APB H H' 0 (.obj v' (.arr Y.length 1 (Y.map by8)))):GwJ n0 H' v' Y:=⟨g.at',Nat.le_trans h.len g.len,Nat.lt_of_lt_of_le h.pos g.len⟩
theorem GwJ.set {n0:Nat} {H:List Ob} {v v':Nat} {X Y:List UInt8} (h:GwJ n0 H v X):GwJ n0 (H.set 0 (.obj v' (.arr Y.length 1 (Y.map by8)))) v' Y:=⟨by rw [List.getElem?_set_self h.pos],by rw [List.length_set]; exact h.len,by rw [List.length_set]; exact h.pos⟩
theorem GwJ.app {n0:Nat} {H T:List Ob} {v:Nat} {X:List UInt8} (h:GwJ n0 H v X):GwJ n0 (H++T) v X:=⟨by rw [List.getElem?_append_left h.pos]; exact h.row,by rw [List.length_append]; have:=h.len; omega,by rw [List.length_append]; have:=h.pos; omega⟩
theorem AVt (j:Nat):AuZ (j+1)=AuZ j++[0]:=by unfold AuZ; rw [List.replicate_succ']
theorem BcU {s:TV} {n st n0 v:Nat} {i:TV} {H:List Ob} {X:List UInt8} {Q:VEx→Env→List Ob→Prop} (hX:X.length≤900000) (hXs:X.length=st+62+n) (h:GwJ n0 H v X)
  (hK:∀ H' v' Y b,Y=X++AuZ (8 - (62+n) % 8)→GwJ n0 H' v' Y→Q .nor [(5,s),(6,.os 1 0 v' [] 0 Y.length Y.length),(7,i),(8,i64 (st:Int)),(88,b)] H') :
  vwp Tryd.prog ABu Q [(5,s),(6,.os 1 0 v [] 0 X.length X.length),(7,i),(8,i64 (st:Int))] H:=by
 have R:∀ T:List Ob,(H++T)[0]?=some (.obj v (.arr X.length 1 (X.map by8))):=fun T=>(h.app (T:=T)).row
 have htX:=ATJ X
 have R0:=h.row
 have p0:=h.pos
 have hb0:[TV.val (.int .u8 ((0:Nat):Int))]=[(0:UInt8)].map by8:=rfl
 have g1:GwJ n0 (H.set 0 (.obj (v+1) (.arr (X++[0]).length 1 ((X++[0]).map by8)))++[.obj 0 (.arr 1 1 [by8 0])]) (v+1) (X++[0]):=h.set.app
 simp -dsimp (disch:=first | assumption | omega | (simp only [Ata];try omega)) only [↓Atf,Atb,Atd,Ate,eq_self,Nat.reduceEqDiff,↓reduceIte,Nat.reduceLeDiff,↓AL9,R,htX,AEC,hb0]
 have hX1:(X++[(0:UInt8)]).length=X.length+1:=by simp
 have hap:∀ Z:List UInt8,Z.map by8++[by8 0]=(Z++[0]).map by8:=fun Z=>by simp
 rw [←hX1,hap]
 generalize H.set 0 (.obj (v+1) (.arr (X++[(0:UInt8)]).length 1 ((X++[0]).map by8)))++[.obj 0 (.arr 1 1 [by8 0])]=H1 at *
 refine At5 (fun c e H'=>∃ (j v':Nat) (Y:List UInt8),c=8 - (62+n) % 8 - j∧1≤j∧j≤8 - (62+n) % 8∧Y=X++AuZ j∧Y.length=X.length+j∧GwJ H1.length H' v' Y ∧
  e=[(5,s),(6,.os 1 0 v' [] 0 Y.length Y.length),(7,i),(8,i64 (st:Int))]) (8 - (62+n) % 8 - 1) ?_ ?_
 ·exact ⟨1,v+1,X++[0],rfl,Nat.le_refl _,by omega,rfl,hX1,⟨g1.row,Nat.le_refl _,g1.pos⟩,rfl⟩
 ·rintro c e H' ⟨j,v',Y,rfl,hj1,hj,hY,hYl,gY,rfl⟩
  have hle:st≤Y.length:=by omega
  have hsub:Y.length - st=62+n+j:=by omega
  have rY:=gY.row
  have rY':∀ T:List Ob,(H'++T)[0]?=some (.obj v' (.arr Y.length 1 (Y.map by8))):=fun T=>(gY.app (T:=T)).row
  have htY:=ATJ Y
  have p1:=gY.pos
  have hYi:Y.length≤900008:=by omega
  by_cases hc:(62+n+j) % 8=0
  ·have hje:j=8 - (62+n) % 8:=by omega
   simp -dsimp (disch:=first | assumption | omega | (simp only [Ata];try omega)) only [↓Atf,Atb,Atd,Ate,eq_self,Nat.reduceEqDiff,↓reduceIte,↓ADT,hsub,hc]
   exact hK H' v' Y _ (by rw [hY,hje]) ⟨gY.row,Nat.le_trans g1.len gY.len,gY.pos⟩
  ·have hY1:(Y++[(0:UInt8)]).length=Y.length+1:=by simp
   have g2:GwJ H1.length (H'.set 0 (.obj (v'+1) (.arr (Y++[0]).length 1 ((Y++[0]).map by8)))++[.obj 0 (.arr 1 1 [by8 0])]) (v'+1) (Y++[0]):=gY.set.app
   simp -dsimp (disch:=first | assumption | omega | (simp only [Ata];try omega)) only [↓Atf,Atb,Atd,Ate,eq_self,Nat.reduceEqDiff,↓reduceIte,Nat.reduceLeDiff,↓ADT,hsub,hc,AEC,hb0,rY',htY]
   rw [←hY1,hap]
   exact Atk (8 - (62+n) % 8 - (j+1)) (by omega) g2.len ⟨j+1,v'+1,Y++[0],rfl,by omega,by omega,by rw [hY,AVt,List.append_assoc],by omega,g2,rfl⟩
theorem BbB {l:List EnJ} {x:EnJ} {k m sz st n0 v:Nat} {H:List Ob} {X:List UInt8} {Q:VEx→Env→List Ob→Prop} (hl:l.length≤5000) (hx:l[k]?=some x) (hp:x.path.length≤100) (h20:x.id.length=20) (em:x.mode=m) (es:x.size=sz) (et:x.stage=st)
  (hm:m<100000) (hsz:sz≤100000) (hst:st≤3) (hX:X.length≤800000) (h:GwJ n0 H v X)
  (hK:∀ H' v' Y b,Y=X++AH4 x→GwJ n0 H' v' Y→Q .nor [(5,.sl 24 (l.map enJ)),(6,.os 1 0 v' [] 0 Y.length Y.length),(7,i64 (k:Int)),(8,i64 (X.length:Int)),(88,b)] H') :
  vwp Tryd.prog ABq Q [(5,.sl 24 (l.map enJ)),(6,.os 1 0 v [] 0 X.length X.length),(7,i64 (k:Int)),(8,i64 (X.length:Int))] H:=by
 have hxJ:=Axc x
 rw [em,es,et] at hxJ
 have hEn:AH4 x=AuZ 24++beN m 4++AuZ 8++beN sz 4++x.id++beN (st*4096+x.path.length) 2++x.path++AuZ (8 - (62+x.path.length) % 8):=by
  unfold AH4; rw [em,es,et]; simp only [Int.toNat_natCast]
 have hkl:k<l.length:=(List.getElem?_eq_some_iff.1 hx).1
 have hX0:=ATJ X
 have r0:=h.row
 have hrep:=ARF 24
 have hrep8:=ARF 8
 have hz24:(AuZ 24).length=24:=by simp [AuZ]
 have hz8:(AuZ 8).length=8:=by simp [AuZ]
 have e1:(X++AuZ 24).length=X.length+24:=by rw [List.length_append,hz24]
 have g1:GwJ n0 (H.set 0 (.obj (v+1) (.arr (X++AuZ 24).length 1 ((X++AuZ 24).map by8)))) (v+1) (X++AuZ 24):=h.set
 simp -dsimp (disch:=first | assumption | omega | (simp only [Ata];try omega)) only [↓Atf,Atb,Atd,Ate,eq_self,Nat.reduceEqDiff,Nat.reduceMul,↓reduceIte,Nat.reduceLeDiff,↓AL1,r0,hX0,hrep,hz24]
 rw [AEA,←e1]
 generalize H.set 0 (.obj (v+1) (.arr (X++AuZ 24).length 1 ((X++AuZ 24).map by8)))=H1 at *
 generalize hA:X++AuZ 24=A at *
 simp -dsimp (disch:=first | assumption | omega | (simp only [Ata];try omega)) only [↓Atf,Atb,Atd,Ate,eq_self,Nat.reduceEqDiff,↓reduceIte,Nat.reduceAdd,↓AMv,hx,hxJ]
 refine AwK (AXw (l:=A) (n:=m) (k:=4) (by omega) (by decide) (by decide) (by omega) g1.row fun H2 v2 G2 => ?_)
 have g2:=g1.grew (Y:=A++beN m 4) (by rw [List.length_append,Aur]; exact G2)
 have e2:(A++beN m 4).length=A.length+4:=by rw [List.length_append,Aur]
 rw [←e2]
 generalize hB:A++beN m 4=B at *
 have r2:=g2.row
 have hB0:=ATJ B
 have e3:(B++AuZ 8).length=B.length+8:=by rw [List.length_append,hz8]
 have g3:GwJ n0 (H2.set 0 (.obj (v2+1) (.arr (B++AuZ 8).length 1 ((B++AuZ 8).map by8)))) (v2+1) (B++AuZ 8):=g2.set
 simp -dsimp (disch:=first | assumption | omega | (simp only [Ata];try omega)) only [↓Atf,Atb,Atd,Ate,eq_self,Nat.reduceEqDiff,Nat.reduceMul,↓reduceIte,Nat.reduceLeDiff,↓AMW,r2,hB0,hrep8,hz8]
 rw [AEA,←e3]
 generalize H2.set 0 (.obj (v2+1) (.arr (B++AuZ 8).length 1 ((B++AuZ 8).map by8)))=H3 at *
 generalize hC:B++AuZ 8=C at *
 simp -dsimp (disch:=first | assumption | omega | (simp only [Ata];try omega)) only [↓Atf,Atb,Atd,Ate,eq_self,Nat.reduceEqDiff,↓reduceIte,Nat.reduceAdd,↓AM1,hx,hxJ]
 refine AwK (AXw (l:=C) (n:=sz) (k:=4) (by omega) (by decide) (by decide) (by omega) g3.row fun H4 v4 G4 => ?_)
 have g4:=g3.grew (Y:=C++beN sz 4) (by rw [List.length_append,Aur]; exact G4)
 have e4:(C++beN sz 4).length=C.length+4:=by rw [List.length_append,Aur]
 rw [←e4]
 generalize hD:C++beN sz 4=D at *
 have r4:=g4.row
 have hD0:=ATJ D
 have e5:(D++x.id).length=D.length+20:=by rw [List.length_append,h20]
 have g5:GwJ n0 (H4.set 0 (.obj (v4+1) (.arr (D++x.id).length 1 ((D++x.id).map by8)))) (v4+1) (D++x.id):=g4.set
 have hidl:(x.id.map by8).length=20:=by rw [List.length_map]; exact h20
 have htid:(x.id.map by8).take 20=x.id.map by8:=List.take_of_length_le (by omega)
 simp -dsimp (disch:=first | assumption | omega | (simp only [Ata];try omega)) only [↓Atf,Atb,Atd,Ate,eq_self,Nat.reduceEqDiff,↓reduceIte,Nat.reduceAdd,Nat.reduceLeDiff,↓AM3,hx,hxJ,r4,hD0,hidl]
 rw [AEA,←e5]
 generalize H4.set 0 (.obj (v4+1) (.arr (D++x.id).length 1 ((D++x.id).map by8)))=H5 at *
 generalize hE:D++x.id=E at *
 simp -dsimp (disch:=first | assumption | omega | (simp only [Ata];try omega)) only [↓Atf,Atb,Atd,Ate,eq_self,Nat.reduceEqDiff,↓reduceIte,Nat.reduceAdd,↓AMw,hx,hxJ,AtL]
 refine AwK (AXw (l:=E) (n:=st*4096+x.path.length) (k:=2) (by omega) (by decide) (by decide) (by omega) g5.row fun H6 v6 G6 => ?_)
 have g6:=g5.grew (Y:=E++beN (st*4096+x.path.length) 2) (by rw [List.length_append,Aur]; exact G6)
 have e6:(E++beN (st*4096+x.path.length) 2).length=E.length+2:=by rw [List.length_append,Aur]
 rw [←e6]
 generalize hF:E++beN (st*4096+x.path.length) 2=F at *
 have r6:=g6.row
 have hF0:=ATJ F
 have e7:(F++x.path).length=F.length+x.path.length:=by rw [List.length_append]
 have g7:GwJ n0 (H6.set 0 (.obj (v6+1) (.arr (F++x.path).length 1 ((F++x.path).map by8)))) (v6+1) (F++x.path):=g6.set
 simp -dsimp (disch:=first | assumption | omega | (simp only [Ata];try omega)) only [↓Atf,Atb,Atd,Ate,eq_self,Nat.reduceEqDiff,↓reduceIte,↓AL6,hx,hxJ,r6,hF0,AtL]
 rw [AEA,←e7]
 generalize H6.set 0 (.obj (v6+1) (.arr (F++x.path).length 1 ((F++x.path).map by8)))=H7 at *
 generalize hG:F++x.path=G at *
 refine BcU (n:=x.path.length) (by omega) (by omega) g7 fun H' v' Y b hY g8=>hK H' v' Y b ?_ g8
 rw [hY,hEn,←hG,←hF,←hE,←hD,←hC,←hB,←hA]
 simp only [List.append_assoc]
end
section
open Go.RowKit
variable [AtQ]
theorem AUt {α:Type} {lt:α→α→Bool} {e:α}:∀ {l:List α} {k:Nat},k≤l.length→(∀ (j:Nat) y,j<k→l[j]?=some y→lt e y=false)→(∀ y,l[k]?=some y→lt e y=true)→l.take k++[e]++l.drop k=ASi lt e l
 | [],0,_,_,_=>rfl
 | [],k+1,h,_,_=>by simp at h
 | d::l,0,_,_,h=>by
  have:=h d rfl
  rw [ASi,if_pos this]; rfl
 | d::l,k+1,hk,h1,h2=>by
  have hd:=h1 0 d (by omega) rfl
  rw [ASi,if_neg (by rw [hd]; decide)]
  have ih:=AUt (l:=l) (k:=k) (by simpa using hk) (fun j y hj hy=>h1 (j+1) y (by omega) (by simpa using hy)) (fun y hy=>h2 y (by simpa using hy))
  rw [←ih]; simp
theorem A2e (l:List EnJ) (x:EnJ):AAu ltJ (l++[x])=ASi ltJ x (AAu ltJ l):=by unfold AAu; rw [List.foldl_append]; rfl
theorem AZJ {α:Type} {z a:α}:(List.replicate 1 z).set 0 a=[a]:=by simp [List.replicate]
theorem AVS {l out:List EnJ} {i at' k v cp:Nat} {x:EnJ} {H:List Ob} {Q:VEx→Env→List Ob→Prop} (hg:l[i]?=some x) (hol:out.length≤10000) (hil:i≤10000) (hat:at'≤out.length) (hk:H[k]?=some (.obj v (.arr out.length 24 (out.map enJ)))) (hcp:out.length≤cp)
  (hQ:∀ k' v' H',H'[k']?=some (.obj v' (.arr (out.take at'++[x]++out.drop at').length 24 ((out.take at'++[x]++out.drop at').map enJ)))→H.length≤H'.length→Q .nor [(0,.sl 24 (l.map enJ)),(3,.os 24 k' v' [] 0 (out.take at'++[x]++out.drop at').length (out.take at'++[x]++out.drop at').length),(4,i64 (i:Int))] H') :
  vwp Tryd.prog Ayd Q [(0,.sl 24 (l.map enJ)),(3,.os 24 k v [] 0 out.length cp),(4,i64 (i:Int)),(5,i64 (at':Int))] H:=by
 have hkl:=(List.getElem?_eq_some_iff.1 hk).1
 have htl:((out.map enJ).take at').length=at':=by simp [hat]
 have hdl:((out.map enJ).drop at').length=out.length - at':=by simp
 have hq1:List.take at' (List.take at' out)=List.take at' out:=by rw [List.take_take,Nat.min_self]
 have hq2:(List.take at' out).length=at':=by simp [hat]
 have hq3:∀ y:TV,List.take (at'+1) ((List.take at' out).map enJ++[y])=(List.take at' out).map enJ++[y]:=fun y=>List.take_of_length_le (by simp [hat])
 have hq4:(out.drop at').length=out.length - at':=by simp
 simp -dsimp (disch:=first | assumption | omega | (simp only [Ata];try omega)) only [↓Atf,Atb,Atd,Ate,eq_self,Nat.reduceEqDiff,↓reduceIte,Nat.reduceAdd,reduceCtorEq,Nat.reduceLeDiff,↓ALd,↓ALt,↓AJ6,hg,hk,Axb,Azv,AEt,AAw,AZJ,hq2,hq3,hq4]
 have hlen':(out.take at'++[x]++out.drop at').length=at'+1+(out.length - at'):=by
  rw [List.length_append,List.length_append,hq2,hq4,List.length_singleton]
 have:=hQ H.length 3 (H++[Ob.obj 3 (.arr (at'+1+(out.length - at')) 24 (List.map enJ (List.take at' out)++[enJ x]++List.map enJ (List.drop at' out)))]++[Ob.obj 0 (TV.arr 1 24 [enJ x])])
  (by rw [List.append_assoc,A4Y rfl,hlen']; simp) (by simp)
 rw [hlen'] at this
 exact this
theorem A2a (l:List EnJ) (hlen:l.length≤5000):Auk Tryd.prog 15 [.sl 24 (l.map enJ)] (fun r=>r = .sl 24 ((AAu ltJ l).map enJ)):=by
 refine Atj.toPureV (APG (by simp) ?_)
 simp -dsimp (disch:=first | assumption | omega | (simp only [Ata];try omega)) only [↓Atf,Atb,Atd,Ate,eq_self,Nat.reduceEqDiff,↓reduceIte,reduceCtorEq,↓AOw,↓AJe,↓AJl,↓ALj]
 refine At5 (fun q e H=>∃ (i k v cp:Nat) (out:List EnJ),q=l.length - i∧i≤l.length∧out=AAu ltJ (l.take i)∧e=[(0,.sl 24 (l.map enJ)),(3,.os 24 k v [] 0 out.length cp),(4,i64 (i:Int))]∧(H[k]?=some (.obj v (.arr out.length 24 (out.map enJ)))∧out.length≤cp)) l.length ?_ ?_
 ·exact ⟨0,0,0,0,[],by simp,by simp,by rw [List.take_zero]; rfl,by simp [forget,get],rfl,by simp⟩
 ·rintro q e H ⟨i,k,v,cp,out,rfl,hi,hsd,rfl,hk,hcp⟩
  have hkl:=(List.getElem?_eq_some_iff.1 hk).1
  have hol:out.length=i:=by rw [hsd,(AuA _).length_eq]; simp [hi]
  by_cases h:i<l.length
  ·obtain ⟨x,hg⟩:∃ x,l[i]?=some x:=⟨_,List.getElem?_eq_getElem h⟩
   have hsucc:l.take (i+1)=l.take i++[x]:=by
    obtain ⟨_,rfl⟩:=List.getElem?_eq_some_iff.1 hg
    exact List.take_succ_eq_append_getElem h
   have nx:ASi ltJ x out=AAu ltJ (l.take (i+1)):=by rw [hsucc,A2e,hsd]
   have hxJ:=Axc x
   have hirr:=Axg x.path
   simp -dsimp (disch:=first | assumption | omega | (simp only [Ata];try omega)) only [↓Atf,Atb,Atd,Ate,eq_self,Nat.reduceEqDiff,↓reduceIte,reduceCtorEq,↓ABT,↓ALu,↓AKA]
   refine At5 (fun q e H'=>∃ at':Nat,q=out.length - at'∧at'≤out.length∧(∀ (j:Nat) y,j<at'→out[j]?=some y→ltJ x y=false)∧e=[(0,.sl 24 (l.map enJ)),(3,.os 24 k v [] 0 out.length cp),(4,i64 (i:Int)),(5,i64 (at':Int))]∧H'=H) out.length ?_ ?_
   ·exact ⟨0,by simp,by simp,by simp,by simp [forget,get],rfl⟩
   ·rintro q e H' ⟨at',rfl,hat,hlt,rfl,hHH⟩
    subst H'
    have stop:(∀ y,out[at']?=some y→ltJ x y=true)→vwp Tryd.prog Ayd (Blk 1 (Thn Tryd.prog AA5 (Rnd 1 [0,3,4] (Blk 0 (Thn Tryd.prog AAp (ABL AEk fun x H'=>Auf (Ayp H' (AU1 H' 2) x) (fun r=>r = .sl 24 ((AAu ltJ l).map enJ)))))
      (fun q e H=>∃ (i k v cp:Nat) (out:List EnJ),q=l.length - i∧i≤l.length∧out=AAu ltJ (l.take i)∧e=[(0,.sl 24 (l.map enJ)),(3,.os 24 k v [] 0 out.length cp),(4,i64 (i:Int))]∧(H[k]?=some (.obj v (.arr out.length 24 (out.map enJ)))∧out.length≤cp)) (l.length - i)))) [(0,.sl 24 (l.map enJ)),(3,.os 24 k v [] 0 out.length cp),(4,i64 (i:Int)),(5,i64 (at':Int))] H:=by
     intro hstop
     refine AVS hg (by omega) (by omega) hat hk hcp fun k' v' H2 hk2 hl2 => ?_
     rw [AUt hat hlt hstop,nx] at hk2
     rw [AUt hat hlt hstop,nx]
     simp -dsimp (disch:=first | assumption | omega | (simp only [Ata];try omega)) only [↓Atf,Atb,Atd,Ate,eq_self,Nat.reduceEqDiff,↓reduceIte,reduceCtorEq,↓AK7]
     exact Atk (l.length - (i+1)) (by omega) (by omega) ⟨i+1,k',v',_,_,rfl,by omega,rfl,by simp [forget,get],hk2,Nat.le_refl _⟩
    by_cases ha:at'<out.length
    case neg =>
     have hs:=stop fun y hy=>by have:=(List.getElem?_eq_some_iff.1 hy).1; omega
     simp -dsimp (disch:=first | assumption | omega | (simp only [Ata];try omega)) only [↓Atf,Atb,Atd,Ate,eq_self,Nat.reduceEqDiff,↓reduceIte,reduceCtorEq,↓Aww]
     exact hs
    obtain ⟨y,hga⟩:∃ y,out[at']?=some y:=⟨_,List.getElem?_eq_getElem ha⟩
    have nxt:ltJ x y=false→∀ (j:Nat) z,j<at'+1→out[j]?=some z→ltJ x z=false:=fun h j z hj hz=>by
     by_cases e:j=at'
     ·subst e; rw [hga] at hz; cases hz; exact h
     ·exact hlt j z (by omega) hz
    by_cases c1:ltB y.path x.path
    ·have hn:=nxt (APk.2 ⟨fun k=>Axg _ (AKR c1 k),fun e=>by rw [e] at c1; exact absurd c1 (Axg _)⟩)
     simp -dsimp (disch:=first | assumption | omega | (simp only [Ata];try omega)) only [↓Atf,Atb,Atd,Ate,eq_self,Nat.reduceEqDiff,↓reduceIte,reduceCtorEq,↓Aww,hg,hk,hga,hxJ,Aya,APa,c1]
     exact Atk (out.length - (at'+1)) (by omega) (Nat.le_refl _) ⟨at'+1,rfl,by omega,hn,by simp [forget,get],rfl⟩
    ·by_cases c2:y.path=x.path
     ·by_cases c3:y.stage≤x.stage
      ·have hn:=nxt (APk.2 ⟨fun k=>by rw [c2] at k; exact Axg _ k,fun _=>by omega⟩)
       simp -dsimp (disch:=first | assumption | omega | (simp only [Ata];try omega)) only [↓Atf,Atb,Atd,Ate,eq_self,Nat.reduceEqDiff,↓reduceIte,Nat.reduceAdd,reduceCtorEq,↓Aww,hg,hk,hga,hxJ,Aya,ADX,APa,c2,c3,hirr]
       exact Atk (out.length - (at'+1)) (by omega) (Nat.le_refl _) ⟨at'+1,rfl,by omega,hn,by simp [forget,get],rfl⟩
      ·have hs:=stop fun z hz=>by rw [hga] at hz; cases hz; exact AOq.2 (.inr ⟨c2.symm,by omega⟩)
       simp -dsimp (disch:=first | assumption | omega | (simp only [Ata];try omega)) only [↓Atf,Atb,Atd,Ate,eq_self,Nat.reduceEqDiff,↓reduceIte,Nat.reduceAdd,reduceCtorEq,↓Aww,hg,hk,hga,hxJ,Aya,ADX,APa,c2,c3,hirr]
       exact hs
     ·have hs:=stop fun z hz=>by
       rw [hga] at hz; cases hz
       refine AOq.2 (.inl ?_)
       by_cases k:ltB x.path y.path
       ·exact k
       ·exact absurd (AMj c1 k) c2
      simp -dsimp (disch:=first | assumption | omega | (simp only [Ata];try omega)) only [↓Atf,Atb,Atd,Ate,eq_self,Nat.reduceEqDiff,↓reduceIte,reduceCtorEq,↓Aww,hg,hk,hga,hxJ,Aya,APa,c1,c2]
      exact hs
  ·have hi2:i=l.length:=by omega
   subst hi2
   rw [List.take_length] at hsd
   rw [←hsd]
   simp -dsimp (disch:=first | assumption | omega | (simp only [Ata];try omega)) only [↓Atf,Atb,Atd,Ate,eq_self,Nat.reduceEqDiff,↓reduceIte,reduceCtorEq,↓ABT,↓AJF,↓AOm,hk]
end
section
open Go.RowKit
variable [AtQ]
theorem A0T {l:List EnJ} {K:TV→List Ob→Prop} (hl:l.length≤2000) (hno:(l.any fun e => !Atp e.path)=true→K (i64 ((71:Nat):Int)) []) (hyes:(∀ e∈l,Atp e.path=true)→∀ E:Env,get E 0 = .sl 24 (l.map enJ)→vwp Tryd.prog Ayc (ABL AwZ K) E []) :
  vwp Tryd.prog AA4 (ABL AwZ K) [(0,.sl 24 (l.map enJ))] []:=by
 simp -dsimp (disch:=first | assumption | omega | (simp only [Ata];try omega)) only [↓Atf,Atb,Atd,Ate,eq_self,↓reduceIte,reduceCtorEq,↓AKP,↓ALS]
 refine At5 (fun c e H'=>∃ i:Nat,c=l.length - i∧i≤l.length∧(∀ j x,j<i→l[j]?=some x→Atp x.path=true)∧e=[(0,.sl 24 (l.map enJ)),(3,i64 (i:Int))]∧H'=[]) l.length ?_ ?_
 ·exact ⟨0,rfl,by omega,by omega,rfl,rfl⟩
 ·rintro c e H' ⟨i,rfl,hi,hp,rfl,rfl⟩
  by_cases h:i<l.length
  case neg =>
   have:=hyes fun e he=>by obtain ⟨j,hj,rfl⟩:=List.mem_iff_getElem.1 he; exact hp j _ (by omega) (List.getElem?_eq_getElem hj)
   simp -dsimp (disch:=first | assumption | omega | (simp only [Ata];try omega)) only [↓Atf,Atb,Atd,Ate,eq_self,Nat.reduceEqDiff,↓reduceIte,reduceCtorEq,↓AEi,↓AKZ]
   exact this _ rfl
  obtain ⟨x,hx⟩:∃ x,l[i]?=some x:=⟨_,List.getElem?_eq_getElem h⟩
  have hxJ:=Axc x
  simp -dsimp (disch:=first | assumption | omega | (simp only [Ata];try omega)) only [↓Atf,Atb,Atd,Ate,eq_self,Nat.reduceEqDiff,↓reduceIte,reduceCtorEq,↓AEi,↓AM0,hx,hxJ]
  refine AwK ((A8N x.path).calls rfl fun r hr => ?_)
  subst hr
  cases hpx:Atp x.path with
  | false =>
   have:=hno (by rw [List.any_eq_true]; exact ⟨x,List.mem_of_getElem? hx,by rw [hpx]; rfl⟩)
   simp -dsimp (disch:=first | assumption | omega | (simp only [Ata];try omega)) only [↓Atf,Atb,Atd,Ate,eq_self,Nat.reduceEqDiff,↓reduceIte,reduceCtorEq,↓Atr]
   exact this
  | true =>
   simp -dsimp (disch:=first | assumption | omega | (simp only [Ata];try omega)) only [↓Atf,Atb,Atd,Ate,eq_self,Nat.reduceEqDiff,↓reduceIte,reduceCtorEq]
   refine Atk (l.length - (i+1)) (by omega) (by simp) ⟨i+1,rfl,by omega,fun j y hj hy => ?_,rfl,rfl⟩
   by_cases e:j=i
   ·subst e; rw [hx] at hy; cases hy; exact hpx
   ·exact hp j y (by omega) hy
set_option maxHeartbeats 4000000 in
theorem A7g {l:List EnJ} {K:TV→List Ob→Prop} {E0:Env} (gE:get E0 0 = .sl 24 (l.map enJ)) (hl:l.length≤2000) (hno:¬ ((∀ e∈l,Aun e=true)∧ABG l)→∀ H',K (i64 ((70:Nat):Int)) H') (hyes:(∀ e∈l,Aun e=true)→ABG l→∀ E H',get E 0 = .sl 24 (l.map enJ)→vwp Tryd.prog Axa (ABL AwZ K) E H') :
  vwp Tryd.prog Ayc (ABL AwZ K) E0 []:=by
 simp -dsimp (disch:=first | assumption | omega | (simp only [Ata];try omega)) only [↓Atf,Atb,Atd,Ate,eq_self,↓reduceIte,reduceCtorEq,gE,↓AK9,↓AK1]
 refine At5 (fun c e H'=>∃ (i:Nat),c=l.length - i∧i≤l.length∧(∀ j x,j<i→l[j]?=some x→Aun x=true)∧ABG (l.take i)∧e=[(0,.sl 24 (l.map enJ)),(5,i64 (i:Int))]) l.length ?_ ?_
 ·exact ⟨0,rfl,by omega,by omega,by simp [ABG],rfl⟩
 ·rintro c e H' ⟨i,rfl,hi,hg,hn,rfl⟩
  by_cases h:i<l.length
  case neg =>
   have hie:l.take i=l:=List.take_of_length_le (by omega)
   rw [hie] at hn
   have:=hyes (fun e he=>by obtain ⟨j,hj,rfl⟩:=List.mem_iff_getElem.1 he; exact hg j _ (by omega) (List.getElem?_eq_getElem hj)) hn
   simp -dsimp (disch:=first | assumption | omega | (simp only [Ata];try omega)) only [↓Atf,Atb,Atd,Ate,eq_self,Nat.reduceEqDiff,↓reduceIte,reduceCtorEq,↓ACg]
   exact this _ _ rfl
  obtain ⟨x,hx⟩:∃ x,l[i]?=some x:=⟨_,List.getElem?_eq_getElem h⟩
  have hxm:=List.mem_of_getElem? hx
  have hsucc:l.take (i+1)=l.take i++[x]:=by
   obtain ⟨_,rfl⟩:=List.getElem?_eq_some_iff.1 hx
   exact List.take_succ_eq_append_getElem h
  have hxJ:=Axc x
  have hC:∀ o:Ob,(H'++[o])[H'.length]?=some o:=fun o=>by simp
  have hCs:∀ o o2:Ob,(H'++[o]).set H'.length o2=H'++[o2]:=fun o o2=>by simp
  have bad:Aun x=false→∀ H',K (i64 ((70:Nat):Int)) H':=fun k=>hno fun k2=>by rw [k2.1 x hxm] at k; cases k
  have tail:Aun x=true→∀ (E:Env) (md:Int),get E 0 = .sl 24 (l.map enJ)→get E 5=i64 (i:Int)→get E 6 = .op H'.length 0 []→vwp Tryd.prog ABw (Blk 3 (Thn Tryd.prog ABD (Rnd 0 [0,5] (Blk 2 (Thn Tryd.prog Axa (ABL AwZ K)))
    (fun c e H'=>∃ (i:Nat),c=l.length - i∧i≤l.length∧(∀ j x,j<i→l[j]?=some x→Aun x=true)∧ABG (l.take i)∧e=[(0,.sl 24 (l.map enJ)),(5,i64 (i:Int))]) (l.length - i)))) E (H'++[.obj 0 (.agg [ts x.path,i64 md,.arr 20 1 (x.id.map by8),i64 x.size,i64 x.stage])]):=by
   intro hgx E md z0 z5 z6
   simp -dsimp (disch:=first | assumption | omega | (simp only [Ata];try omega)) only [↓Atf,Atb,Atd,Ate,eq_self,Nat.reduceEqDiff,↓reduceIte,reduceCtorEq,z0,z5,z6,↓ALR,↓AMU]
   refine At5 (fun c e H2=>∃ k:Nat,c=i - k∧k≤i∧(∀ j y,j<k→l[j]?=some y→¬ A1y y x)∧e=[(0,.sl 24 (l.map enJ)),(5,i64 (i:Int)),(6,.op H'.length 0 []),(7,i64 (k:Int))]∧H2=H'++[.obj 0 (.agg [ts x.path,i64 md,.arr 20 1 (x.id.map by8),i64 x.size,i64 x.stage])]) i ?_ ?_
   ·exact ⟨0,rfl,by omega,by omega,rfl,rfl⟩
   ·rintro c e H2 ⟨k,rfl,hk,hnk,rfl,rfl⟩
    have hCg:(H'++[Ob.obj 0 (TV.agg [ts x.path,i64 md,.arr 20 1 (x.id.map by8),i64 x.size,i64 x.stage])])[H'.length]?=some (Ob.obj 0 (TV.agg [ts x.path,i64 md,.arr 20 1 (x.id.map by8),i64 x.size,i64 x.stage])):=hC _
    by_cases hki:k<i
    case neg =>
     have hn2:ABG (l.take (i+1)):=by
      rw [hsucc]
      refine List.pairwise_append.2 ⟨hn,by simp,fun a ha b hb => ?_⟩
      rw [List.mem_singleton] at hb; subst hb
      obtain ⟨j,hj⟩:=List.mem_iff_getElem?.1 ha
      have hjl:=(List.getElem?_eq_some_iff.1 hj).1
      simp at hjl
      rw [List.getElem?_take_of_lt (by omega)] at hj
      exact hnk j a (by omega) hj
     simp -dsimp (disch:=first | assumption | omega | (simp only [Ata];try omega)) only [↓Atf,Atb,Atd,Ate,eq_self,Nat.reduceEqDiff,↓reduceIte,reduceCtorEq,↓AvW,↓AMV]
     refine Atk (l.length - (i+1)) (by omega) (by simp) ⟨i+1,rfl,by omega,fun j y hj hy => ?_,hn2,rfl⟩
     by_cases e:j=i
     ·subst e; rw [hx] at hy; cases hy; exact hgx
     ·exact hg j y (by omega) hy
    obtain ⟨y,hy⟩:∃ y,l[k]?=some y:=⟨_,List.getElem?_eq_getElem (by omega)⟩
    have hyJ:=Axc y
    have nxt:¬ A1y y x→∀ j z,j<k+1→l[j]?=some z→¬ A1y z x:=fun h j z hj hz=>by
     by_cases e:j=k
     ·subst e; rw [hy] at hz; cases hz; exact h
     ·exact hnk j z (by omega) hz
    have bad2:A1y y x→∀ H',K (i64 ((70:Nat):Int)) H':=fun hc=>hno fun k2=>by
     obtain ⟨q1,rfl⟩:=List.getElem?_eq_some_iff.1 hy
     obtain ⟨q2,rfl⟩:=List.getElem?_eq_some_iff.1 hx
     exact List.pairwise_iff_getElem.1 k2.2 k i q1 q2 hki hc
    by_cases c1:y.path=x.path
    ·by_cases c2:y.stage=x.stage
     ·have:=bad2 ⟨c1,.inl c2⟩
      simp -dsimp (disch:=first | assumption | omega | (simp only [Ata];try omega)) only [↓Atf,Atb,Atd,Ate,eq_self,Nat.reduceEqDiff,↓reduceIte,Nat.reduceAdd,reduceCtorEq,↓AvW,↓AwQ,hy,hyJ,hCg,c1,c2,↓Atr]
      exact this _
     ·by_cases c3:y.stage=0
      ·have:=bad2 ⟨c1,.inr (.inl c3)⟩
       have c2':¬ (0:Int)=x.stage:=by rw [←c3]; exact c2
       simp -dsimp (disch:=first | assumption | omega | (simp only [Ata];try omega)) only [↓Atf,Atb,Atd,Ate,eq_self,Nat.reduceEqDiff,↓reduceIte,Nat.reduceAdd,reduceCtorEq,↓AvW,↓AwQ,hy,hyJ,hCg,c1,c2',c3,↓Atr]
       exact this _
      ·by_cases c4:x.stage=0
       ·have:=bad2 ⟨c1,.inr (.inr c4)⟩
        simp -dsimp (disch:=first | assumption | omega | (simp only [Ata];try omega)) only [↓Atf,Atb,Atd,Ate,eq_self,Nat.reduceEqDiff,↓reduceIte,Nat.reduceAdd,reduceCtorEq,↓AvW,↓AwQ,hy,hyJ,c1,c3,c4,↓Atr]
        exact this _
       ·have hn2:=nxt fun hb=>hb.2.elim c2 fun h=>h.elim c3 c4
        simp -dsimp (disch:=first | assumption | omega | (simp only [Ata];try omega)) only [↓Atf,Atb,Atd,Ate,eq_self,Nat.reduceEqDiff,↓reduceIte,Nat.reduceAdd,reduceCtorEq,↓AvW,↓AwQ,hy,hyJ,hCg,c1,c2]
        exact Atk (i - (k+1)) (by omega) (by simp) ⟨k+1,rfl,by omega,hn2,rfl,rfl⟩
    ·have hn2:=nxt fun hb=>c1 hb.1
     simp -dsimp (disch:=first | assumption | omega | (simp only [Ata];try omega)) only [↓Atf,Atb,Atd,Ate,eq_self,Nat.reduceEqDiff,↓reduceIte,reduceCtorEq,↓AvW,↓AwQ,hy,hyJ,hCg,c1]
     exact Atk (i - (k+1)) (by omega) (by simp) ⟨k+1,rfl,by omega,hn2,rfl,rfl⟩
  have hCh:=hC (Ob.obj 0 (TV.agg [ts x.path,i64 x.mode,.arr 20 1 (x.id.map by8),i64 x.size,i64 x.stage]))
  simp -dsimp (disch:=first | assumption | omega | (simp only [Ata];try omega)) only [↓Atf,Atb,Atd,Ate,eq_self,Nat.reduceEqDiff,↓reduceIte,Nat.reduceAdd,reduceCtorEq,↓ACg,↓AKE,hx,hxJ,hC,hCs]
  clear hC hCs hxJ hx hsucc hg hn hno
  by_cases m1:x.mode=33188
  ·by_cases s1:x.size<0
   ·have hb:Aun x=false:=by unfold Aun; simp [m1]; try omega
    have:=bad hb
    simp -dsimp (disch:=first | assumption | omega | (simp only [Ata];try omega)) only [↓Atf,Atb,Atd,Ate,eq_self,Nat.reduceEqDiff,↓reduceIte,Nat.reduceAdd,reduceCtorEq,↓Atn,m1,↓Atr]
    exact this _
   by_cases s2:100000<x.size
   ·have hb:Aun x=false:=by unfold Aun; simp [m1]; try omega
    have:=bad hb
    simp -dsimp (disch:=first | assumption | omega | (simp only [Ata];try omega)) only [↓Atf,Atb,Atd,Ate,eq_self,Nat.reduceEqDiff,↓reduceIte,Nat.reduceAdd,reduceCtorEq,↓Atn,m1,↓Atr]
    exact this _
   by_cases g1:x.stage<0
   ·have hb:Aun x=false:=by unfold Aun; simp [m1]; try omega
    have:=bad hb
    simp -dsimp (disch:=first | assumption | omega | (simp only [Ata];try omega)) only [↓Atf,Atb,Atd,Ate,eq_self,Nat.reduceEqDiff,↓reduceIte,Nat.reduceAdd,reduceCtorEq,↓Atn,m1,↓Atr]
    exact this _
   by_cases g2:3<x.stage
   ·have hb:Aun x=false:=by unfold Aun; simp [m1]; try omega
    have:=bad hb
    simp -dsimp (disch:=first | assumption | omega | (simp only [Ata];try omega)) only [↓Atf,Atb,Atd,Ate,eq_self,Nat.reduceEqDiff,↓reduceIte,Nat.reduceAdd,reduceCtorEq,↓Atn,m1,↓Atr]
    exact this _
   have hb:Aun x=true:=by unfold Aun; simp [m1]; omega
   have:=tail hb
   simp -dsimp (disch:=first | assumption | omega | (simp only [Ata];try omega)) only [↓Atf,Atb,Atd,Ate,eq_self,Nat.reduceEqDiff,↓reduceIte,Nat.reduceAdd,reduceCtorEq,↓Atn,m1]
   exact this _ _ rfl rfl rfl
  by_cases m2:x.mode=33261
  ·by_cases s1:x.size<0
   ·have hb:Aun x=false:=by unfold Aun; simp [m2]; try omega
    have:=bad hb
    simp -dsimp (disch:=first | assumption | omega | (simp only [Ata];try omega)) only [↓Atf,Atb,Atd,Ate,eq_self,Nat.reduceEqDiff,↓reduceIte,Nat.reduceAdd,reduceCtorEq,↓Atn,m2,↓Atr]
    exact this _
   by_cases s2:100000<x.size
   ·have hb:Aun x=false:=by unfold Aun; simp [m2]; try omega
    have:=bad hb
    simp -dsimp (disch:=first | assumption | omega | (simp only [Ata];try omega)) only [↓Atf,Atb,Atd,Ate,eq_self,Nat.reduceEqDiff,↓reduceIte,Nat.reduceAdd,reduceCtorEq,↓Atn,m2,↓Atr]
    exact this _
   by_cases g1:x.stage<0
   ·have hb:Aun x=false:=by unfold Aun; simp [m2]; try omega
    have:=bad hb
    simp -dsimp (disch:=first | assumption | omega | (simp only [Ata];try omega)) only [↓Atf,Atb,Atd,Ate,eq_self,Nat.reduceEqDiff,↓reduceIte,Nat.reduceAdd,reduceCtorEq,↓Atn,m2,↓Atr]
    exact this _
   by_cases g2:3<x.stage
   ·have hb:Aun x=false:=by unfold Aun; simp [m2]; try omega
    have:=bad hb
    simp -dsimp (disch:=first | assumption | omega | (simp only [Ata];try omega)) only [↓Atf,Atb,Atd,Ate,eq_self,Nat.reduceEqDiff,↓reduceIte,Nat.reduceAdd,reduceCtorEq,↓Atn,m2,↓Atr]
    exact this _
   have hb:Aun x=true:=by unfold Aun; simp [m2]; omega
   have:=tail hb
   simp -dsimp (disch:=first | assumption | omega | (simp only [Ata];try omega)) only [↓Atf,Atb,Atd,Ate,eq_self,Nat.reduceEqDiff,↓reduceIte,Nat.reduceAdd,reduceCtorEq,↓Atn,m2]
   exact this _ _ rfl rfl rfl
  by_cases m3:x.mode=40960
  ·by_cases s1:x.size<0
   ·have hb:Aun x=false:=by unfold Aun; simp [m3]; try omega
    have:=bad hb
    simp -dsimp (disch:=first | assumption | omega | (simp only [Ata];try omega)) only [↓Atf,Atb,Atd,Ate,eq_self,Nat.reduceEqDiff,↓reduceIte,Nat.reduceAdd,reduceCtorEq,↓Atn,m3,↓Atr]
    exact this _
   by_cases s2:100000<x.size
   ·have hb:Aun x=false:=by unfold Aun; simp [m3]; try omega
    have:=bad hb
    simp -dsimp (disch:=first | assumption | omega | (simp only [Ata];try omega)) only [↓Atf,Atb,Atd,Ate,eq_self,Nat.reduceEqDiff,↓reduceIte,Nat.reduceAdd,reduceCtorEq,↓Atn,m3,↓Atr]
    exact this _
   by_cases g1:x.stage<0
   ·have hb:Aun x=false:=by unfold Aun; simp [m3]; try omega
    have:=bad hb
    simp -dsimp (disch:=first | assumption | omega | (simp only [Ata];try omega)) only [↓Atf,Atb,Atd,Ate,eq_self,Nat.reduceEqDiff,↓reduceIte,Nat.reduceAdd,reduceCtorEq,↓Atn,m3,↓Atr]
    exact this _
   by_cases g2:3<x.stage
   ·have hb:Aun x=false:=by unfold Aun; simp [m3]; try omega
    have:=bad hb
    simp -dsimp (disch:=first | assumption | omega | (simp only [Ata];try omega)) only [↓Atf,Atb,Atd,Ate,eq_self,Nat.reduceEqDiff,↓reduceIte,Nat.reduceAdd,reduceCtorEq,↓Atn,m3,↓Atr]
    exact this _
   have hb:Aun x=true:=by unfold Aun; simp [m3]; omega
   have:=tail hb
   simp -dsimp (disch:=first | assumption | omega | (simp only [Ata];try omega)) only [↓Atf,Atb,Atd,Ate,eq_self,Nat.reduceEqDiff,↓reduceIte,Nat.reduceAdd,reduceCtorEq,↓Atn,m3]
   exact this _ _ rfl rfl rfl
  have hb:Aun x=false:=by unfold Aun; simp [m1,m2,m3]
  have:=bad hb
  simp -dsimp (disch:=first | assumption | omega | (simp only [Ata];try omega)) only [↓Atf,Atb,Atd,Ate,eq_self,Nat.reduceEqDiff,↓reduceIte,Nat.reduceAdd,reduceCtorEq,↓Atn,hCh,↓Atr]
  exact this _
theorem A4v {x y:EnJ} (hy:Atp y.path=true):AQf x y↔x.path.length+1<y.path.length∧y.path.take (x.path.length+1)=x.path++[47]:=by
 unfold AQf
 constructor
 ·rintro ⟨t,ht⟩
  have hl:(x.path++[47]).length=x.path.length+1:=by simp
  refine ⟨?_,by rw [←ht,←hl,List.take_left]⟩
  rw [←ht,List.length_append,hl]
  cases t with
  | nil =>
   have:=(ABA hy).2
   rw [←ht] at this
   simp at this
  | cons a t=>simp
 ·rintro ⟨h1,h2⟩
  exact ⟨y.path.drop (x.path.length+1),by rw [←h2,List.take_append_drop]⟩
theorem A5r {l:List EnJ} {K:TV→List Ob→Prop} {E0:Env} {H:List Ob} (hl:l.length≤2000) (hp:∀ e∈l,Atp e.path=true) (gE:get E0 0 = .sl 24 (l.map enJ)) (hno:(∃ x∈l,∃ y∈l,AQf x y)→K (i64 ((71:Nat):Int)) H) (hyes:(¬ ∃ x∈l,∃ y∈l,AQf x y)→K (i64 ((0:Nat):Int)) H) :
  vwp Tryd.prog Axa (ABL AwZ K) E0 H:=by
 simp -dsimp (disch:=first | assumption | omega | (simp only [Ata];try omega)) only [↓Atf,Atb,Atd,Ate,eq_self,↓reduceIte,reduceCtorEq,gE,↓AKN,↓ALN]
 refine At5 (fun c e H'=>∃ (i:Nat),c=l.length - i∧i≤l.length∧(∀ j x,j<i→l[j]?=some x→∀ y∈l,¬ AQf x y)∧e=[(0,.sl 24 (l.map enJ)),(8,i64 (i:Int))]∧H'=H) l.length ?_ ?_
 ·exact ⟨0,rfl,by omega,by omega,rfl,rfl⟩
 ·rintro c e H' ⟨i,rfl,hi,hn,rfl,hHH⟩
  subst H'
  by_cases h:i<l.length
  case neg =>
   have:=hyes fun ⟨x,hx,y,hy,hs⟩=>by
    obtain ⟨j,hj,rfl⟩:=List.mem_iff_getElem.1 hx
    exact hn j _ (by omega) (List.getElem?_eq_getElem hj) y hy hs
   simp -dsimp (disch:=first | assumption | omega | (simp only [Ata];try omega)) only [↓Atf,Atb,Atd,Ate,eq_self,Nat.reduceEqDiff,↓reduceIte,reduceCtorEq,↓ABO,↓AJZ,↓Atr]
   exact this
  obtain ⟨x,hx⟩:∃ x,l[i]?=some x:=⟨_,List.getElem?_eq_getElem h⟩
  have hxm:=List.mem_of_getElem? hx
  have hxl:=(ABA (hp x hxm)).1
  have hxJ:=Axc x
  simp -dsimp (disch:=first | assumption | omega | (simp only [Ata];try omega)) only [↓Atf,Atb,Atd,Ate,eq_self,Nat.reduceEqDiff,↓reduceIte,reduceCtorEq,↓ABO,↓ALE,↓AKL]
  refine At5 (fun c e H'=>∃ (k:Nat),c=l.length - k∧k≤l.length∧(∀ j y,j<k→l[j]?=some y→¬ AQf x y)∧e=[(0,.sl 24 (l.map enJ)),(8,i64 (i:Int)),(9,i64 (k:Int))]∧H'=H) l.length ?_ ?_
  ·exact ⟨0,rfl,by omega,by omega,rfl,rfl⟩
  ·rintro c e H' ⟨k,rfl,hk,hnk,rfl,hHH⟩
   subst H'
   by_cases hkl:k<l.length
   case neg =>
    simp -dsimp (disch:=first | assumption | omega | (simp only [Ata];try omega)) only [↓Atf,Atb,Atd,Ate,eq_self,Nat.reduceEqDiff,↓reduceIte,reduceCtorEq,↓Axj,↓AJV]
    refine Atk (l.length - (i+1)) (by omega) (by simp) ⟨i+1,rfl,by omega,fun j z hj hz => ?_,rfl,rfl⟩
    by_cases e:j=i
    ·subst e; rw [hx] at hz; cases hz
     intro y hy
     obtain ⟨j2,hj2,rfl⟩:=List.mem_iff_getElem.1 hy
     exact hnk j2 _ (by omega) (List.getElem?_eq_getElem hj2)
    ·exact hn j z (by omega) hz
   obtain ⟨y,hy⟩:∃ y,l[k]?=some y:=⟨_,List.getElem?_eq_getElem hkl⟩
   have hym:=List.mem_of_getElem? hy
   have hyp:=hp y hym
   have hyl:=(ABA hyp).1
   have hyJ:=Axc y
   have hst:=A4v (x:=x) hyp
   have nxt:¬ AQf x y→∀ j z,j<k+1→l[j]?=some z→¬ AQf x z:=fun h j z hj hz=>by
    by_cases e:j=k
    ·subst e; rw [hy] at hz; cases hz; exact h
    ·exact hnk j z (by omega) hz
   have hcat:([47]:List UInt8).length+x.path.length≤9223372036854775807:=by simp; omega
   have hcat2:x.path.length+([47]:List UInt8).length≤9223372036854775807:=by simp; omega
   by_cases c1:x.path.length+1<y.path.length
   ·by_cases c2:y.path.take (x.path.length+1)=x.path++[47]
    ·have:=hno ⟨x,hxm,y,hym,hst.2 ⟨c1,c2⟩⟩
     simp -dsimp (disch:=first | assumption | omega | (simp only [Ata];try omega)) only [↓Atf,Atb,Atd,Ate,eq_self,Nat.reduceEqDiff,↓reduceIte,reduceCtorEq,↓Axj,↓AyP,↓Ay5,↓Ay0,AtL,hx,hxJ,hy,hyJ,A6o,c1,c2,↓Atr]
     exact this
    ·have hn2:=nxt fun hb=>c2 (hst.1 hb).2
     simp -dsimp (disch:=first | assumption | omega | (simp only [Ata];try omega)) only [↓Atf,Atb,Atd,Ate,eq_self,Nat.reduceEqDiff,↓reduceIte,reduceCtorEq,↓Axj,↓AyP,↓Ay5,↓Ay0,AtL,hx,hxJ,hy,hyJ,A6o,c1,c2]
     exact Atk (l.length - (k+1)) (by omega) (by simp) ⟨k+1,rfl,by omega,hn2,rfl,rfl⟩
   ·have hn2:=nxt fun hb=>c1 (hst.1 hb).1
    simp -dsimp (disch:=first | assumption | omega | (simp only [Ata];try omega)) only [↓Atf,Atb,Atd,Ate,eq_self,Nat.reduceEqDiff,↓reduceIte,reduceCtorEq,↓Axj,↓AyP,↓Ay5,↓Ay0,AtL,hx,hxJ,hy,hyJ,A6o,c1]
    exact Atk (l.length - (k+1)) (by omega) (by simp) ⟨k+1,rfl,by omega,hn2,rfl,rfl⟩
theorem A6n (l:List EnJ) (hl:l.length≤2000):Auk Tryd.prog 14 [.sl 24 (l.map enJ)] (fun r=>r=i64 ((ACS Atp l:Nat):Int)):=by
 refine Atj.toPureV (AQ7 (by simp) ?_)
 simp -dsimp (disch:=first | assumption | omega | (simp only [Ata];try omega)) only [↓Atf,Atb,Atd,Ate,eq_self,↓reduceIte,reduceCtorEq,↓APq]
 refine A0T hl (fun hbad => ?_) (fun hp E gE => ?_)
 ·have e:ACS Atp l=71:=by unfold ACS; rw [if_pos hbad]
  rw [e]
  simp -dsimp (disch:=first | assumption | omega | (simp only [Ata];try omega)) only [Atb,Atd,eq_self]
 ·have hnb:¬ (l.any fun e => !Atp e.path)=true:=by
   rw [List.any_eq_true]
   rintro ⟨x,hx,k⟩
   rw [hp x hx] at k; cases k
  refine A7g gE hl (fun hno H' => ?_) (fun hg hn E' H' gE' => ?_)
  ·have hn:¬ (l.all Aun && decide (ABG l))=true:=by
    rw [Bool.and_eq_true,List.all_eq_true,decide_eq_true_eq]
    exact fun k=>hno k
   have e:ACS Atp l=70:=by unfold ACS; rw [if_neg hnb,if_neg hn]
   rw [e]
   simp -dsimp (disch:=first | assumption | omega | (simp only [Ata];try omega)) only [Atb,Atd,eq_self]
  ·have hy:(l.all Aun && decide (ABG l))=true:=by
    rw [Bool.and_eq_true,List.all_eq_true,decide_eq_true_eq]
    exact ⟨hg,hn⟩
   have hd:(∃ x∈l,∃ y∈l,AQf x y)↔(l.any fun x=>l.any fun y=>decide (AQf x y))=true:=by simp [List.any_eq_true]
   refine A5r hl hp gE' (fun k => ?_) (fun k => ?_)
   ·have e:ACS Atp l=71:=by unfold ACS; rw [if_neg hnb,if_pos hy,if_pos (hd.1 k)]
    rw [e]
    simp -dsimp (disch:=first | assumption | omega | (simp only [Ata];try omega)) only [Atb,Atd,eq_self]
   ·have e:ACS Atp l=0:=by unfold ACS; rw [if_neg hnb,if_pos hy,if_neg (fun h=>k (hd.2 h))]
    rw [e]
    simp -dsimp (disch:=first | assumption | omega | (simp only [Ata];try omega)) only [Atb,Atd,eq_self]
end
section
open Go.RowKit Kit
variable [AtQ]
theorem AWE (l:List EnJ) (hl:l.length≤2000) (h20:∀ e∈l,e.id.length=20):Az5 Tryd.prog 6 [.sl 24 (l.map enJ)] (AQb (fun c => .tup [.val (.slice none 0 0),i64 (c:Int)]) (fun b => .tup [slB b,i64 ((0:Nat):Int)]) l):=by
 refine Atj.toFreshV (ARp (by simp) ?_)
 simp -dsimp (disch:=first | assumption | omega | (simp only [Ata];try omega)) only [↓Atf,Atb,Atd,Ate,eq_self,↓reduceIte,reduceCtorEq,↓APu,↓AJY]
 refine AwK ((A6n l hl).calls (by simp [Aud,AuQ]) fun r hr => ?_)
 subst hr
 by_cases h0:ACS Atp l=0
 case neg =>
  have hw:wrJ Atp sha l=none:=by unfold wrJ; rw [if_neg h0]
  have:AQb (fun c => .tup [.val (.slice none 0 0),i64 (c:Int)]) (fun b => .tup [slB b,i64 ((0:Nat):Int)]) l (.tup [.val (.slice none 0 0),i64 ((ACS Atp l:Nat):Int)]):=⟨fun b hb=>(by rw [hw] at hb; cases hb),fun _=>rfl⟩
  generalize ACS Atp l=w at *
  simp -dsimp (disch:=first | assumption | omega | (simp only [Ata];try omega)) only [↓Atf,Atb,Atd,Ate,eq_self,Nat.reduceEqDiff,↓reduceIte,reduceCtorEq,↓ACd,↓AIM,h0]
  exact this
 have hw:wrJ Atp sha l=some (ABg l++sha (ABg l)):=by unfold wrJ; rw [if_pos h0]
 have fin:∀ X,X=ABg l++sha (ABg l)→AQb (fun c => .tup [.val (.slice none 0 0),i64 (c:Int)]) (fun b => .tup [slB b,i64 ((0:Nat):Int)]) l (.tup [slB X,i64 ((0:Nat):Int)]):=fun X hX=>⟨fun b hb=>(by rw [hw] at hb; cases hb; rw [hX]),fun hb=>(by rw [hw] at hb; cases hb)⟩
 have hB:ABg l=([68,73,82,67]++beN 2 4)++beN l.length 4++(AAu ltJ l).flatMap AH4:=rfl
 rw [hB] at fin
 have hf:=fun e he=>AUI (l:=l) h0 (e:=e) he
 clear hB hw
 rw [h0]
 simp -dsimp (disch:=first | assumption | omega | (simp only [Ata];try omega)) only [↓Atf,Atb,Atd,Ate,eq_self,Nat.reduceEqDiff,↓reduceIte,reduceCtorEq,↓ACd,↓AKk]
 refine AwK ((A2a l (by omega)).calls (by simp [Aud,AuQ]) fun r hr => ?_)
 subst hr
 have hsl:(AAu ltJ l).length=l.length:=(AuA l).length_eq
 have hmem:∀ e∈AAu ltJ l,e∈l:=fun e he=>(AuA l).mem_iff.1 he
 generalize AAu ltJ l=s at *
 simp -dsimp (disch:=first | assumption | omega | (simp only [Ata];try omega)) only [↓Atf,Atb,Atd,Ate,eq_self,Nat.reduceEqDiff,↓reduceIte,Nat.reduceLeDiff,↓AKu,↓AKo]
 refine AwK (AXw (l:=[68,73,82,67]) (n:=2) (k:=4) (id:=0) (by decide) (by decide) (by decide) (by decide) rfl fun H1 v1 G1 => ?_)
 generalize hM:([68,73,82,67]:List UInt8)++beN 2 4=M at *
 have hMl:M.length=8:=by rw [←hM]; simp [Aur]
 clear hM
 have E8:([68,73,82,67]:List UInt8).length+4=M.length:=by rw [hMl]; rfl
 rw [E8] at G1 ⊢
 simp -dsimp (disch:=first | assumption | omega | (simp only [Ata];try omega)) only [↓Atf,Atb,Atd,Ate,eq_self,Nat.reduceEqDiff,↓reduceIte,↓AK6]
 rw [hsl]
 refine AwK (AXw (l:=M) (n:=l.length) (k:=4) (id:=0) (by omega) (by decide) (by decide) (by omega) G1.at' fun H2 v2 G2 => ?_)
 generalize hM2:M++beN l.length 4=M2 at *
 have E9:M.length+4=M2.length:=by rw [←hM2]; simp [Aur]
 have hM2l:M2.length=12:=by rw [←E9,hMl]
 rw [E9] at G2 ⊢
 clear hM2
 simp -dsimp (disch:=first | assumption | omega | (simp only [Ata];try omega)) only [↓Atf,Atb,Atd,Ate,eq_self,Nat.reduceEqDiff,↓reduceIte,↓ALA,↓ALF]
 refine At5 (fun c e H=>∃ (i v':Nat) (X:List UInt8),c=s.length - i∧i≤s.length∧X=M2++(s.take i).flatMap AH4∧X.length≤12+168*i∧GwJ H2.length H v' X ∧
  e=[(5,.sl 24 (s.map enJ)),(6,.os 1 0 v' [] 0 X.length X.length),(7,i64 (i:Int))]) s.length ?_ ?_
 ·exact ⟨0,v2,M2,rfl,by omega,by simp,by omega,⟨G2.at',Nat.le_refl _,(List.getElem?_eq_some_iff.1 G2.at').1⟩,rfl⟩
 rintro c e H ⟨i,v',X,rfl,hi,hX,hXl,gX,rfl⟩
 by_cases h:i<s.length
 ·obtain ⟨x,hx⟩:∃ x,s[i]?=some x:=⟨_,List.getElem?_eq_getElem h⟩
  have hxm:=hmem x (List.mem_of_getElem? hx)
  obtain ⟨hg,hp⟩:=hf x hxm
  have hp1:=(ABA hp).1
  have hx20:=h20 x hxm
  obtain ⟨m,sz,st,em,es,et,hm,hsz,hst⟩:∃ m sz st:Nat,x.mode=m∧x.size=sz∧x.stage=st∧m<100000∧sz≤100000∧st≤3:=by
   unfold Aun at hg; simp at hg
   exact ⟨x.mode.toNat,x.size.toNat,x.stage.toNat,by omega,by omega,by omega,by omega,by omega,by omega⟩
  simp -dsimp (disch:=first | assumption | omega | (simp only [Ata];try omega)) only [↓Atf,Atb,Atd,Ate,eq_self,Nat.reduceEqDiff,↓reduceIte,↓ABY,↓AK8]
  refine BbB (by omega) hx hp1 hx20 em es et hm hsz hst (by omega) gX fun H' v2 Y b hYe gY => ?_
  have hEl:=AHX x hx20
  have hYl:Y.length=X.length+ALQ x.path.length:=by rw [hYe,List.length_append,hEl]
  have hsz2:ALQ x.path.length≤168:=by unfold ALQ; omega
  have htk:s.take (i+1)=s.take i++[x]:=by
   obtain ⟨_,rfl⟩:=List.getElem?_eq_some_iff.1 hx
   exact List.take_succ_eq_append_getElem h
  simp -dsimp (disch:=first | assumption | omega | (simp only [Ata];try omega)) only [↓Atf,Atb,Atd,Ate,eq_self,Nat.reduceEqDiff,↓reduceIte,↓AKY]
  exact Atk (s.length - (i+1)) (by omega) gY.len ⟨i+1,v2,Y,rfl,by omega,by rw [htk,List.flatMap_append,hYe,hX]; simp,by omega,gY,rfl⟩
 ·obtain rfl:i=s.length:=by omega
  rw [List.take_length] at hX
  rw [←hX] at fin
  have htX:=ATJ X
  have hsl:(sha X).length=20:=AAt X
  have hXs:(X++sha X).length=X.length+20:=by rw [List.length_append,hsl]
  have fin':=fin _ rfl
  have hH0:=gX.pos
  have gX:=gX.row
  simp -dsimp (disch:=first | assumption | omega | (simp only [Ata];try omega)) only [↓Atf,Atb,Atd,Ate,eq_self,Nat.reduceEqDiff,↓reduceIte,↓ABY,↓ALD]
  refine (Bdl X (by omega)).lends (args':=[slB X]) (by simp -dsimp (disch:=first | assumption | omega | (simp only [Ata];try omega)) only [Atd,Ate,eq_self,↓reduceIte,gX,htX]) fun r hr => ?_
  subst hr
  refine ⟨by rw [ARN,AKe],?_⟩
  generalize sha X=q at *
  have hqt:(q.map by8).take 20=q.map by8:=by rw [List.take_of_length_le]; simp [hsl]
  have hmq:X.map by8++q.map by8=(X++q).map by8:=by simp
  have htq:=ATJ (X++q)
  simp -dsimp (disch:=first | assumption | omega | (simp only [Ata];try omega)) only [↓Atf,Atb,Atd,Ate,eq_self,Nat.reduceEqDiff,↓reduceIte,Nat.reduceLeDiff,gX,htX,hqt,hsl]
  rw [hmq,←hXs]
  have hget:(H.set 0 (Ob.obj (v'+1) (.arr (X++q).length 1 ((X++q).map by8)))++[Ob.obj 0 (.arr 20 1 (q.map by8))])[0]?=some (.obj (v'+1) (.arr (X++q).length 1 ((X++q).map by8))):=by
   rw [List.getElem?_append_left (by simpa using hH0),List.getElem?_set_self hH0]
  generalize H.set 0 (Ob.obj (v'+1) (.arr (X++q).length 1 ((X++q).map by8)))++[Ob.obj 0 (.arr 20 1 (q.map by8))]=H9 at *
  simp -dsimp (disch:=first | assumption | omega | (simp only [Ata];try omega)) only [↓Atf,Atb,Atd,Ate,eq_self,Nat.reduceEqDiff,↓reduceIte,↓AIM,hget]
  exact fin'
end
section
open Go.RowKit Kit
variable [AtQ]
variable {pok:List UInt8→Bool} {sh:List UInt8→List UInt8}
theorem LDJ.step {b:List UInt8} {ls:List EnJ} {a a2:Nat} {e:EnJ} (h:LDJ pok sh b ls a) (hn:∀ l,ANV l→wrJ pok sh l=some b→ls.length<l.length) (hd:∀ e' r',AWB (b.drop a)=some (e',r')→e'=e∧r'=b.drop a2):LDJ pok sh b (ls++[e]) a2:=fun l hi hw=>by
 obtain ⟨ms,h1,h2,h3⟩:=h l hi hw
 cases ms with
 | nil =>
  have:=congrArg List.length h1
  rw [(AuA (lt:=ltJ) l).length_eq,List.append_nil] at this
  have:=hn l hi hw
  omega
 | cons m ms =>
  rw [List.flatMap_cons,List.append_assoc] at h2
  obtain ⟨rfl,h4⟩:=hd _ _ (by rw [h2,AOd (h3 m (by simp))])
  exact ⟨ms,by rw [h1]; simp,h4.symm,fun e he=>h3 e (by simp [he])⟩
theorem LDJ.bad {b:List UInt8} {ls:List EnJ} {a:Nat} (h:LDJ pok sh b ls a) (hn:∀ l,ANV l→wrJ pok sh l=some b→ls.length<l.length) (hd:AWB (b.drop a)=none):NoJ pok sh b:=fun l hi hw=>by
 obtain ⟨ms,h1,h2,h3⟩:=h l hi hw
 cases ms with
 | nil =>
  have:=congrArg List.length h1
  rw [(AuA (lt:=ltJ) l).length_eq,List.append_nil] at this
  have:=hn l hi hw
  omega
 | cons m ms =>
  rw [List.flatMap_cons,List.append_assoc] at h2
  rw [h2,AOd (h3 m (by simp))] at hd
  cases hd
theorem LDJ.fin {b:List UInt8} {ls:List EnJ} {a:Nat} (h:LDJ pok sh b ls a) {l:List EnJ} (hi:ANV l) (hw:wrJ pok sh l=some b) (hn:l.length=ls.length):AAu ltJ l=ls:=by
 obtain ⟨ms,h1,h2,h3⟩:=h l hi hw
 have:=congrArg List.length h1
 rw [(AuA (lt:=ltJ) l).length_eq,List.length_append] at this
 cases ms with
 | nil=>rw [h1,List.append_nil]
 | cons m ms=>rw [List.length_cons] at this; omega
theorem AVg:∀ ms:List EnJ,(∀ e∈ms,OkJ e)→64*ms.length≤(ms.flatMap AH4).length
 | [],_=>by simp
 | e::l,h=>by
  have h1:=AVg l fun x hx=>h x (by simp [hx])
  have h2:=AHX e (h e (by simp)).id
  rw [List.flatMap_cons,List.length_append,List.length_cons,h2]
  unfold ALQ; omega
theorem AYO (hp:AT1 pok sh) {l:List EnJ} {b:List UInt8} (hi:ANV l) (hw:wrJ pok sh l=some b):32+64*l.length≤b.length:=by
 obtain ⟨rfl,hok⟩:=AHY hp hi hw
 obtain ⟨hd,h1,h2,_⟩:=AH2 l
 have h3:=AVg _ hok
 rw [(AuA (lt:=ltJ) l).length_eq] at h3
 rw [List.length_append,hp.sha,h2,List.length_append,h1]
 omega
theorem A9e (b:List UInt8) (a i j:Nat):Awl b (a+i) (a+j)=Awl (b.drop a) i j:=by unfold Awl; rw [List.drop_drop,show a+j - (a+i)=j - i by omega]
theorem A9S (b:List UInt8) (hb:b.length≤20000):Az5 Tryd.prog 22 [slB b] (ANc (fun l => .tup [.sl 24 (l.map enJ),tb true]) (.tup [.val (.slice none 0 0),tb false]) b):=by
 refine Atj.toFreshV (ATj (by simp) ?_)
 have no:=fun h=>ANc.no (yes:=fun l => .tup [.sl 24 (l.map enJ),tb true]) (n := .tup [.val (.slice none 0 0),tb false]) (b:=b) h
 by_cases h32:b.length<32
 ·have:=no (NoJ.short ASW h32)
  simp -dsimp (disch:=first | assumption | omega | (simp only [Ata];try omega)) only [↓Atf,Atb,Atd,Ate,eq_self,Nat.reduceEqDiff,↓reduceIte,reduceCtorEq,↓AK5,↓AD1,h32,↓Aw3]
  exact this
 have hs:=LDJ.start ASW b
 have l8:(Awl b 8 12).length=4:=AAx (by omega)
 simp -dsimp (disch:=first | assumption | omega | (simp only [Ata];try omega)) only [↓Atf,Atb,Atd,Ate,eq_self,Nat.reduceSub,↓reduceIte,reduceCtorEq,Nat.reduceLeDiff,↓AK5,↓AD1,h32,↓AMk]
 refine AwK ((Ba8 (Awl b 8 12) (by omega)).calls (by simp [Aud,AuQ]) fun r hr => ?_)
 subst hr
 have hhn:∀ l,ANV l→wrJ Atp sha l=some b→beV (Awl b 8 12)=l.length∧l.length≤1000:=fun l hi hw=>by
  have hl:=AYO ASW hi hw
  exact ⟨A9b ASW hi (by omega) hw,by omega⟩
 have hbl:=AKJ (Awl b 8 12)
 rw [l8] at hbl
 generalize beV (Awl b 8 12)=n at *
 by_cases hn:2000<n
 ·have:=no fun l hi hw=>by have:=hhn l hi hw; omega
  simp -dsimp (disch:=first | assumption | omega | (simp only [Ata];try omega)) only [↓Atf,Atb,Atd,Ate,eq_self,Nat.reduceEqDiff,↓reduceIte,reduceCtorEq,↓AD4,hn,↓Aw3]
  exact this
 simp -dsimp (disch:=first | assumption | omega | (simp only [Ata];try omega)) only [↓Atf,Atb,Atd,Ate,eq_self,Nat.reduceEqDiff,↓reduceIte,reduceCtorEq,↓AD4,hn,↓AMZ,↓AMq,↓AMe,↓ALZ]
 refine At5 (fun c e H=>∃ (ls:List EnJ) (a v cp:Nat),c=n - ls.length∧ls.length≤n∧LDJ Atp sha b ls a∧ANV ls∧12≤a∧a≤b.length+8∧1≤H.length∧H[0]?=some (.obj v (.arr ls.length 24 (ls.map enJ))) ∧
  e=[(0,slB b),(4,i64 (n:Int)),(5,i64 (a:Int)),(6,.os 24 0 v [] 0 ls.length cp),(7,i64 (ls.length:Int))]) n ?_ ?_
 ·exact ⟨[],12,0,0,rfl,Nat.zero_le _,hs,fun e he=>(by cases he),by omega,by omega,Nat.le_refl _,rfl,rfl⟩
 rintro c e H ⟨ls,a,v,cp,rfl,hln,hI,hids,ha,hab,hHl,gL,rfl⟩
 have htl:(ls.map enJ).take ls.length=ls.map enJ:=List.take_of_length_le (by simp)
 by_cases hi:ls.length<n
 case neg =>
  obtain rfl:n=ls.length:=by omega
  simp -dsimp (disch:=first | assumption | omega | (simp only [Ata];try omega)) only [↓Atf,Atb,Atd,Ate,eq_self,Nat.reduceEqDiff,↓reduceIte,reduceCtorEq,↓AAm,↓AMX]
  refine ((AWE ls (by omega) hids).lends (args':=[.sl 24 (ls.map enJ)]) (by simp -dsimp (disch:=first | assumption | omega | (simp only [Ata];try omega)) only [Atd,Ate,eq_self,↓reduceIte,gL,htl])) fun r hr => ?_
  cases hw:wrJ Atp sha ls with
  | none =>
   have hr2:r = .tup [.val (.slice none 0 0),i64 ((ACS Atp ls:Nat):Int)]:=hr.2 hw
   have h0:ACS Atp ls≠0:=fun h0=>by unfold wrJ at hw; rw [if_pos h0] at hw; cases hw
   have:=no fun l hi hl=>by
    have e:=hI.fin hi hl (hhn l hi hl).1.symm
    rw [←e,ARm,hl] at hw; cases hw
   generalize ACS Atp ls=w at *
   subst hr2
   simp -dsimp (disch:=first | assumption | omega | (simp only [Ata];try omega)) only [↓Atf,Atb,Atd,Ate,eq_self,Nat.reduceEqDiff,↓reduceIte,reduceCtorEq,↓AAj,↓Aw3,h0]
   exact this
  | some x =>
   have hr2:r = .tup [slB x,i64 ((0:Nat):Int)]:=hr.1 x hw
   subst hr2
   by_cases hxb:x=b
   ·subst hxb
    have hyes:ANc (fun l => .tup [.sl 24 (l.map enJ),tb true]) (.tup [.val (.slice none 0 0),tb false]) x (.tup [.sl 24 (ls.map enJ),tb true]) :=
     ⟨fun l hi hl=>by rw [hI.fin hi hl (hhn l hi hl).1.symm],fun hno=>absurd hw (hno ls hids)⟩
    have hsc:=ALB ls
    simp -dsimp (disch:=first | assumption | omega | (simp only [Ata];try omega)) only [↓Atf,Atb,Atd,Ate,eq_self,Nat.reduceEqDiff,↓reduceIte,reduceCtorEq,↓AAj,↓Aw3,gL,htl,hsc]
    exact hyes
   ·have:=no fun l hi hl=>by
     have e:=hI.fin hi hl (hhn l hi hl).1.symm
     rw [←e,ARm,hl] at hw
     exact hxb (Option.some.inj hw).symm
    simp -dsimp (disch:=first | assumption | omega | (simp only [Ata];try omega)) only [↓Atf,Atb,Atd,Ate,eq_self,Nat.reduceEqDiff,↓reduceIte,reduceCtorEq,↓AAj,↓Aw3,hxb]
    exact this
 have hlt:∀ l,ANV l→wrJ Atp sha l=some b→ls.length<l.length:=fun l h1 h2=>by have:=hhn l h1 h2; omega
 by_cases h62:(b.length:Int) - (a:Int)<62
 ·have:=no (hI.bad hlt (ASd (by rw [List.length_drop]; omega)))
  simp -dsimp (disch:=first | assumption | omega | (simp only [Ata];try omega)) only [↓Atf,Atb,Atd,Ate,eq_self,Nat.reduceEqDiff,↓reduceIte,reduceCtorEq,↓AAm,↓AEh,↓Aw3]
  exact this
 have ha2:a+62≤b.length:=by omega
 have h62':¬ b.length - a<62:=by omega
 simp -dsimp (disch:=first | assumption | omega | (simp only [Ata];try omega)) only [↓Atf,Atb,Atd,Ate,eq_self,Nat.reduceEqDiff,↓reduceIte,reduceCtorEq,Nat.reduceLeDiff,↓AAm,↓AEh,h62',↓AMM,↓ANK]
 generalize hR:b.drop a=R at *
 have hRl:R.length=b.length - a:=by rw [←hR,List.length_drop]
 have l24:(Awl R 24 28).length=4:=AAx (by omega)
 have l36:(Awl R 36 40).length=4:=AAx (by omega)
 have l40:(Awl R 40 60).length=20:=AAx (by omega)
 have l60:(Awl R 60 62).length=2:=AAx (by omega)
 have q24:=Ba8 (Awl R 24 28) (by omega)
 have q36:=Ba8 (Awl R 36 40) (by omega)
 have q60:=Ba8 (Awl R 60 62) (by omega)
 have e24:Awl b (a+24) (a+28)=Awl R 24 28:=by rw [←hR]; exact A9e b a 24 28
 have e36:Awl b (a+36) (a+40)=Awl R 36 40:=by rw [←hR]; exact A9e b a 36 40
 have e40:Awl b (a+40) (a+60)=Awl R 40 60:=by rw [←hR]; exact A9e b a 40 60
 have e60:Awl b (a+60) (a+62)=Awl R 60 62:=by rw [←hR]; exact A9e b a 60 62
 have hds:=AU4 (rest:=R) (by omega)
 have hdn:=AS1 (rest:=R) (by omega)
 have hf:=AKJ (Awl R 60 62)
 have hl1:=AKJ (Awl R 24 28)
 have hl2:=AKJ (Awl R 36 40)
 rw [l60] at hf
 rw [l24] at hl1
 rw [l36] at hl2
 generalize beV (Awl R 24 28)=m at *
 generalize beV (Awl R 36 40)=z at *
 generalize beV (Awl R 60 62)=f at *
 rw [←e24] at q24
 rw [←e36] at q36
 rw [←e60] at q60
 refine AwK (q24.calls (by simp [Aud,AuQ]) fun r hr => ?_)
 subst hr
 simp -dsimp (disch:=first | assumption | omega | (simp only [Ata];try omega)) only [↓Atf,Atb,Atd,Ate,eq_self,Nat.reduceEqDiff,↓reduceIte,Nat.reduceAdd,reduceCtorEq,Nat.reduceLeDiff,↓ANB]
 refine AwK (q36.calls (by simp [Aud,AuQ]) fun r hr => ?_)
 subst hr
 simp -dsimp (disch:=first | assumption | omega | (simp only [Ata];try omega)) only [↓Atf,Atb,Atd,Ate,eq_self,Nat.reduceEqDiff,↓reduceIte,Nat.reduceAdd,reduceCtorEq,Nat.reduceLeDiff,↓ANT]
 simp -dsimp (disch:=first | assumption | omega | (simp only [Ata];try omega)) only [↓Atf,Atb,Atd,Ate,eq_self,Nat.reduceEqDiff,↓reduceIte,reduceCtorEq,Nat.reduceLeDiff,↓ANP]
 refine AwK (q60.calls (by simp [Aud,AuQ]) fun r hr => ?_)
 subst hr
 have hsub:(b.length:Int) - (a:Int) - ((62:Nat):Int)=((b.length - a - 62:Nat):Int):=by omega
 by_cases hsz:b.length - a - 62<f % 4096
 ·have:=no (hI.bad hlt (by rw [hR]; exact hdn (by unfold ALQ; omega)))
  simp -dsimp (disch:=first | assumption | omega | (simp only [Ata];try omega)) only [↓Atf,Atb,Atd,Ate,eq_self,Nat.reduceEqDiff,↓reduceIte,Nat.reduceAdd,reduceCtorEq,↓AET,↓AFF,↓AEY,hsz,↓Aw3]
  exact this
 have gL':∀ T:List Ob,(H++T)[0]?=some (.obj v (.arr ls.length 24 (ls.map enJ))):=fun T=>by rw [List.getElem?_append_left (by omega)]; exact gL
 have ha3:a+62+f % 4096≤b.length:=by omega
 simp -dsimp (disch:=first | assumption | omega | (simp only [Ata];try omega)) only [↓Atf,Atb,Atd,Ate,eq_self,Nat.reduceEqDiff,↓reduceIte,Nat.reduceAdd,reduceCtorEq,Nat.reduceLeDiff,↓AET,↓AFF,↓AEY,hsz,↓ANO,↓AN5,gL',AEC,htl]
 obtain ⟨en,hen⟩:∃ en:EnJ,en=⟨Awl R 62 (62+f % 4096),(m:Int),Awl R 40 60,(z:Int),((f / 4096:Nat):Int)⟩:=⟨_,rfl⟩
 have hEn:enJ en = .agg [ts (Awl R 62 (62+f % 4096)),i64 (m:Int),.arr 20 1 ((Awl R 40 60).map by8),i64 (z:Int),i64 ((f / 4096:Nat):Int)]:=by rw [hen]; exact Axc _
 have e62:Awl b (a+62) (a+(62+f % 4096))=Awl R 62 (62+f % 4096):=by rw [←hR]; exact A9e b a 62 (62+f % 4096)
 have hid:en.id.length=20:=by rw [hen]; exact l40
 have hstep:LDJ Atp sha b (ls++[en]) (a+(62+f % 4096) / 8*8+8):=hI.step hlt fun e' r' h=>by
  rw [hR] at h
  by_cases c:ALQ (f % 4096)≤R.length
  ·rw [hds c] at h
   cases h
   refine ⟨hen.symm,?_⟩
   rw [←hR,List.drop_drop]; congr 1
  ·rw [hdn (by omega)] at h; cases h
 have hl1':(ls++[en]).length=ls.length+1:=by simp
 have hmap:ls.map enJ++[enJ en]=(ls++[en]).map enJ:=by simp
 refine Atk (n - (ls.length+1)) (by omega) (by simp) ⟨ls++[en],a+(62+f % 4096) / 8*8+8,v+1,ls.length+1,by rw [hl1'],by omega,hstep,?_,by omega,by omega,by simp,?_,?_⟩
 ·intro x hx
  rcases List.mem_append.1 hx with hx | hx
  ·exact hids x hx
  ·rw [List.mem_singleton.1 hx]; exact hid
 ·rw [←hmap,hl1',List.getElem?_append_left (by simp),List.getElem?_append_left (by simp; omega),List.getElem?_set_self (by omega),hEn]
  have hA:List.take (a+60 - (a+40)) (List.drop (a+40) b)=Awl R 40 60:=e40
  have hP:List.take (f % 4096) (List.drop (a+62) b)=Awl R 62 (62+f % 4096):=by
   rw [←e62]; unfold Awl; rw [show a+(62+f % 4096) - (a+62)=f % 4096 by omega]
  have hT:List.take 20 (Awl R 40 60)=Awl R 40 60:=List.take_of_length_le (by omega)
  rw [hA,hP,hT,l40]
  congr 4
  simp
 ·rw [hl1']
  rfl
end
section
open Go.RowKit
variable [AtQ]
theorem AZc {l m:List UInt8} {k:Nat} (h:l.take k=m.take k) (h1:k<l.length) (h2:k<m.length) (e:l[k]=m[k]):l.take (k+1)=m.take (k+1):=by
 rw [List.take_succ_eq_append_getElem h1,List.take_succ_eq_append_getElem h2,h,e]
theorem Bc3 {x y:UInt8} (h:x≠y):¬ (x.toNat=y.toNat):=fun e=>h (UInt8.toNat_inj.1 e)
theorem same (l m:List UInt8) (hl:l.length≤9223372036854775807) (hm:m.length≤9223372036854775807):Auk Tryd.prog 7 [slB l,slB m] (fun x=>x=tb (decide (l=m))):=by
 refine Atj.toPureV (ASb (by simp) ?_)
 by_cases hlen:l.length=m.length
 case neg =>
  have hne:l≠m:=fun e=>hlen (by rw [e])
  simp -dsimp (disch:=first | assumption | omega) only [↓Atf,Atb,Atd,Ate,eq_self,Nat.reduceEqDiff,↓reduceIte,Nat.reduceAdd,reduceCtorEq,↓ABs,decide_eq_false hne]
 simp -dsimp (disch:=first | assumption | omega) only [↓Atf,Atb,Atd,Ate,eq_self,Nat.reduceEqDiff,↓reduceIte,Nat.reduceAdd,reduceCtorEq,↓ABs]
 refine At5 (fun n e H=>∃ (k:Nat),n=l.length - k∧k≤l.length∧l.take k=m.take k∧e=[(0,slB l),(1,slB m),(5,i64 (k:Int))]∧H=[]) l.length ?_ ?_
 ·exact ⟨0,by simp,by omega,by simp,rfl,rfl⟩
 ·rintro n e H ⟨k,rfl,hk,ht,rfl,rfl⟩
  by_cases hkl:k<l.length
  ·have hkm:k<m.length:=by omega
   have g1:l[k]?=some l[k]:=by simp [hkl]
   have g2:m[k]?=some m[k]:=by simp [hkm]
   by_cases he:l[k]=m[k]
   ·have hx:=AZc ht hkl hkm he
    have he':l[k].toNat=m[k].toNat:=by rw [he]
    simp -dsimp (disch:=first | assumption | omega) only [↓Atf,Atb,Atd,Ate,eq_self,Nat.reduceEqDiff,↓reduceIte,reduceCtorEq,↓ABs,g1,g2]
    exact Atk (l.length - (k+1)) (by omega) (by simp) ⟨k+1,rfl,by omega,hx,rfl,rfl⟩
   ·have he':=Bc3 he
    have hne:l≠m:=fun e=>he (by subst e; rfl)
    simp -dsimp (disch:=first | assumption | omega) only [↓Atf,Atb,Atd,Ate,eq_self,Nat.reduceEqDiff,↓reduceIte,reduceCtorEq,↓ABs,g1,g2,decide_eq_false hne]
  ·have hke:k=l.length:=by omega
   have heq:l=m:=by rw [hke,List.take_length,hlen,List.take_length] at ht; exact ht
   simp -dsimp (disch:=first | assumption | omega) only [↓Atf,Atb,Atd,Ate,eq_self,Nat.reduceEqDiff,↓reduceIte,reduceCtorEq,↓ABs,decide_eq_true heq]
theorem A8b (l:List UInt8) (hl:l.length≤1000000) {H:List Ob} {K:TV→List Ob→Prop} (hk:K (.os 1 H.length 0 [] 0 l.length (l.length+2)) (H++[.obj 0 (.arr (l.length+2) 1 ((l++[71,72]).map by8))])) :
  Atj Tryd.prog 19 [slB l] H K:=by
 refine AQT (by simp) ?_
 have c2:((l.length:Int)+2)=((l.length+2:Nat):Int):=by omega
 have b1:((1:Nat):Int)*((l.length+2:Nat):Int)≤281474976710656:=by omega
 have b2:((l.length+2:Nat):Int)≤9223372036854775807:=by omega
 have z:∀ n:Nat,List.replicate n (TV.val (.int .u8 ((0:Nat):Int)))=(List.replicate n (0:UInt8)).map by8:=fun n=>by rw [List.map_replicate]; rfl
 have e1:List.map by8 l++List.drop (min l.length (l.length+2)) (List.replicate (l.length+2) (TV.val (.int .u8 ((0:Nat):Int))))=(l++[0,0]).map by8:=by
  rw [z,←List.map_drop,←List.map_append,Nat.min_eq_left (by omega),List.drop_replicate,show l.length+2 - l.length=2 from by omega]; rfl
 have e2:((l++[0,0]).map by8).set l.length (.val (.int .u8 ((71:Nat):Int)))=(l++[71,0]).map by8:=by
  rw [List.map_append,List.set_append_right _ _ (by simp),List.map_append]; simp
 have e3:((l++[71,0]).map by8).set (l.length+1) (.val (.int .u8 ((72:Nat):Int)))=(l++[71,72]).map by8:=by
  rw [List.map_append,List.set_append_right _ _ (by simp),List.map_append]; simp
 have g1:((l++[0,0]).map by8)[l.length]?=some (by8 0):=by simp
 have g2:((l++[71,0]).map by8)[l.length+1]?=some (by8 0):=by simp
 simp -dsimp (disch:=first | assumption | omega | (simp only [Ata];try omega)) only [↓Atf,Atb,Atd,Ate,eq_self,Nat.reduceEqDiff,↓reduceIte,reduceCtorEq,Nat.reduceLeDiff,↓ATm,e1,e2,e3,g1,g2]
 exact hk
abbrev x85 (l:List UInt8):List UInt8:=l.map (· ^^^ 85)
theorem A15 {c:List UInt8} {k:Nat} (hk:k<c.length):(x85 (c.take k)++c.drop k).set k (c[k] ^^^ 85)=x85 (c.take (k+1))++c.drop (k+1):=by
 have h1:(x85 (c.take k)).length=k:=by simp; omega
 rw [List.set_append_right _ _ (by omega),h1,Nat.sub_self,List.drop_eq_getElem_cons hk,List.set_cons_zero,List.take_succ_eq_append_getElem hk,x85,x85,List.map_append,List.append_assoc]
 rfl
theorem ASt (l:List UInt8) (hl:l.length≤1000000) {H:List Ob} {id ver:Nat} {K:TV→List Ob→Prop} (ho:H[id]?=some (.obj ver (.arr (l.length+2) 1 ((l++[71,72]).map by8))))
  (hk:K (tb true) (H.set id (.obj ver (.arr (l.length+2) 1 ((x85 (l++[71,72])).map by8))))) :
  Atj Tryd.prog 21 [.os 1 id ver [] 0 l.length (l.length+2),slB l] H K:=by
 refine AQz (by simp) ?_
 have hid:id<H.length:=(List.getElem?_eq_some_iff.1 ho).1
 have c2:((l.length:Int)+2)=((l.length+2:Nat):Int):=by omega
 have g1:(l++[71,72])[l.length]?=some 71:=by simp
 have g2:(l++[71,72])[l.length+1]?=some 72:=by simp
 have hL:(l++[71,72]).length=l.length+2:=by simp
 have ht:(l++[71,72]).take l.length=l:=by simp
 generalize hc:l++[71,72]=c at *
 simp -dsimp (disch:=first | assumption | omega | (simp only [Ata];try omega)) only [↓Atf,Atb,Atd,Ate,eq_self,Nat.reduceEqDiff,↓reduceIte,Nat.reduceAdd,reduceCtorEq,Nat.reduceLeDiff,↓ACi]
 refine (same l l (by omega) (by omega)).lends (args':=[slB l,slB l]) (by simp -dsimp (disch:=first | assumption | omega) only [Atd,Ate,eq_self,↓reduceIte,ho,hL,ht]) ?_
 rintro x rfl
 refine ⟨rfl,?_⟩
 rw [show tb (decide (l=l))=tb true from by simp]
 simp -dsimp (disch:=first | assumption | omega | (simp only [Ata];try omega)) only [↓Atf,Atb,Atd,Ate,eq_self,Nat.reduceEqDiff,UInt8.reduceToNat,↓reduceIte,↓ACi,ho,g1,g2]
 ·refine At5 (fun n e H'=>∃ (k:Nat),n=c.length - k∧k≤c.length∧e=[(6,.os 1 id ver [] 0 (l.length+2) (l.length+2)),(7,tb true),(8,i64 (k:Int))]∧H'=H.set id (.obj ver (.arr (l.length+2) 1 ((x85 (c.take k)++c.drop k).map by8)))) c.length ?_ ?_
  ·refine ⟨0,by simp,by omega,rfl,?_⟩
   have e0:x85 (c.take 0)++c.drop 0=c:=by simp
   obtain ⟨h1,h2⟩:=List.getElem?_eq_some_iff.1 ho
   rw [e0,←h2,List.set_getElem_self]
  ·rintro n e H' ⟨k,rfl,hkl,rfl,rfl⟩
   have gs:∀ o,(H.set id o)[id]?=some o:=fun o=>by simp [hid]
   by_cases hkc:k<c.length
   ·have hk2:k<l.length+2:=by omega
    have hlen:(x85 (c.take k)).length=k:=by simp; omega
    have g3:(x85 (c.take k)++c.drop k)[k]?=some c[k]:=by
     rw [List.getElem?_append_right (by omega),hlen,Nat.sub_self,List.getElem?_drop]; simp [hkc]
    have g4:=A15 hkc
    have h85:∀ (t:TypeId) (x:UInt8),AyH t .xor (.int .u8 (x.toNat:Int)) (.int .u8 ((85:Nat):Int))=some (.int .u8 ((x ^^^ 85).toNat:Int)):=fun t x=>A46 (t:=t) (x:=x) (y:=85)
    generalize x85 (c.take k)++c.drop k=r at *
    generalize c[k]=y at *
    simp -dsimp (disch:=first | assumption | omega | (simp only [Ata];try omega)) only [↓Atf,Atb,Atd,Ate,eq_self,Nat.reduceEqDiff,↓reduceIte,↓ACi,gs,g3,g4,h85,A0L]
    exact Atk (c.length - (k+1)) (by omega) (by simp) ⟨k+1,rfl,by omega,rfl,rfl⟩
   ·have hke:k=c.length:=by omega
    have hk2:¬ k<l.length+2:=by omega
    have e0:x85 (c.take k)++c.drop k=x85 c:=by rw [hke,List.take_length,List.drop_length,List.append_nil]
    have e1:List.drop k c=[]:=by rw [hke,List.drop_length]
    simp -dsimp (disch:=first | assumption | omega | (simp only [Ata];try omega)) only [↓Atf,Atb,Atd,Ate,eq_self,Nat.reduceEqDiff,↓reduceIte,↓ACi]
    rw [e1,List.append_nil]
    exact hk
end
section
variable [AtQ]
set_option maxRecDepth 100000
def AAU:Atc := .seq (.block 1 (.seq (.draw 4 [mv_ 37 5,mv_ 38 8,po_ 39 (.idxA 24 (.t 37) (.t 38)),po_ 40 (.load true 24 (.t 39)),mv_ 41 0,mv_ 42 8,po_ 43 (.idxA 24 (.t 41) (.t 42)),po_ 44 (.load true 24 (.t 43)),po_ 45 (.gen (.eqR [.s,.i,.b 20,.i,.i] true) [.t 40,.t 44])] [0,1,5,6,7,8,45])
 (.cond (.t 45)
 (.seq (.ops [po_ 4 (.mov (.c (.bool false)))] [4])
  (.ret))
 (.skip))))
 (.ops [mv_ 35 8,po_ 36 (.bin 3 .add (.t 35) (ci_ 1)),mv_ 8 36] [0,1,5,6,7,8])
def AAN:Atc := .seq (.seq (.ops [mv_ 31 8,mv_ 32 0,po_ 33 (.lenV (.t 32)),po_ 34 (.bin 3 .lss (.t 31) (.t 33))] [0,1,5,6,7,8,34])
 (.cond (.t 34)
 (.skip)
 (.exit 0)))
 AAU
def AxG:Atc := .block 0 (.loop [0,1,5,6,7,8] AAN)
def AAX:Atc := .seq (.ops [mv_ 68 13,mv_ 69 68,⟨some 70,.p (.mov (.t 6)),some ⟨69,true⟩⟩,⟨some 71,.p (.lenV (.t 70)),some ⟨69,true⟩⟩,⟨some 72,.p (.bin 3 .eql (.t 71) (ci_ 0)),some ⟨69,true⟩⟩,po_ 73 (.pick (.t 69) (.t 72) (.c (.bool false))),mv_ 4 73] [4])
 (.ret)
def AAH:Atc := .seq (.seq (.ops [mv_ 66 11,po_ 67 (.bin 3 .neq (.t 66) (ci_ 0))] [6,13,67])
 (.cond (.t 67)
 AAX
 (.skip)))
 (.seq (.ops [mv_ 74 6,so_ 75 (.call 9 [.t 74]),mv_ 14 75] [13,14])
 (.seq (.ops [mv_ 76 13,mv_ 77 76,⟨some 78,.p (.mov (.t 14)),some ⟨77,true⟩⟩,po_ 79 (.pick (.t 77) (.t 78) (.c (.bool false))),mv_ 4 79] [4])
 (.ret)))
def AAS:Atc := .seq (.ops [mv_ 64 1,so_ 65 (.call 9 [.t 64]),mv_ 13 65] [6,11,13])
 AAH
def AAD:Atc := .seq (.seq (.ops [mv_ 56 12,po_ 57 (.un .not (.t 56)),mv_ 58 57,⟨some 59,.p (.mov (.t 7)),some ⟨58,false⟩⟩,⟨some 60,.s (.call 8 [.t 59]),some ⟨58,false⟩⟩,⟨some 61,.p (.mov (.t 11)),some ⟨58,false⟩⟩,⟨some 62,.p (.bin 3 .neq (.t 60) (.t 61)),some ⟨58,false⟩⟩,po_ 63 (.pick (.t 58) (.c (.bool true)) (.t 62))] [1,6,11,63])
 (.cond (.t 63)
 (.seq (.ops [po_ 4 (.mov (.c (.bool false)))] [4])
  (.ret))
 (.skip)))
 AAS
def AAW:Atc := .seq (.ops [mv_ 53 6,mv_ 54 10,so_ 55 (.call 7 [.t 53,.t 54]),mv_ 12 55] [1,6,7,11,12])
 AAD
def AAL:Atc := .seq (.ops [mv_ 49 9,so_ 50 (.call 6 [.t 49]),mv_ 48 50,po_ 51 (.ext 0 (.t 48)),po_ 52 (.ext 1 (.t 48)),mv_ 10 51,mv_ 11 52] [1,6,7,10,11])
 AAW
def AzQ:Atc := .seq (.ops [mv_ 46 0,so_ 47 (.call 5 [.t 46]),mv_ 9 47] [1,6,7,9])
 AAL
def AzS:Atc := .seq (.seq (.ops [po_ 8 (.mov (ci_ 0))] [0,1,5,6,7,8])
 AxG)
 AzQ
def AzV:Atc := .seq (.ops [mv_ 27 5,so_ 28 (.call 4 [.t 27]),mv_ 26 28,po_ 29 (.ext 0 (.t 26)),po_ 30 (.ext 1 (.t 26)),mv_ 6 29,mv_ 7 30] [0,1,5,6,7])
 AzS
def AzU:Atc := .seq (.ops [mv_ 23 5,mv_ 24 0,so_ 25 (.app 24 64 32 (.t 23) (.t 24)),mv_ 5 25] [0,1,5])
 AzV
def Az4:Atc := .seq (.ops [po_ 5 (.mov (.c (.slice none 0 0)))] [0,1,5])
 AzU
def Az8:Atc := .seq (.seq (.ops [mv_ 15 0,po_ 16 (.lenV (.t 15)),po_ 17 (.bin 3 .gtr (.t 16) (ci_ 60)),mv_ 18 17,⟨some 19,.p (.mov (.t 1)),some ⟨18,false⟩⟩,⟨some 20,.p (.lenV (.t 19)),some ⟨18,false⟩⟩,⟨some 21,.p (.bin 3 .gtr (.t 20) (ci_ 8000)),some ⟨18,false⟩⟩,po_ 22 (.pick (.t 18) (.c (.bool true)) (.t 21))] [0,1,22])
 (.cond (.t 22)
 (.seq (.ops [po_ 4 (.mov (.c (.bool true)))] [4])
  (.ret))
 (.skip)))
 Az4
def AB0:Atc := .seq (.ops [po_ 4 (.mov (.c (.bool false)))] [0,1])
 Az8
def ACh:List VR:=[.tmp 4]
theorem ALq:Tryd.f3.body.bind (trC Tryd.prog Tryd.f3.ntmps)=some (er AB0):=by kernel_rfl
theorem AJR:trR Tryd.prog Tryd.f3.results.toList=some ACh:=by kernel_rfl
def AEE:=As8 AAU.eq_1
def Azs:=As8 AAN.eq_1
def AEj:=As8 AxG.eq_1
def AEy:=As8 AAX.eq_1
def AyJ:=As8 AAH.eq_1
def AyR:=As8 AAS.eq_1
def Azu:=As8 AAD.eq_1
def Azp:=As8 AAW.eq_1
def AzG:=As8 AAL.eq_1
def Ays:=As8 AzQ.eq_1
def Ayz:=As8 AzS.eq_1
def ADx:=As8 AzV.eq_1
def ADO:=As8 AzU.eq_1
def ADt:=As8 Az4.eq_1
def AwL:=As8 Az8.eq_1
def Ax1:=As8 AB0.eq_1
theorem AwJ {K:TV→Prop} {e:Env} {H:List Ob}:res ACh e H K=res [.tmp 4] e H K:=As9 rfl
def AJE:=Awn 80 Tryd.func3 ALq AJR rfl
def AHm:Atc := .seq (.ops [mv_ 27 6,mv_ 28 27,⟨some 29,.p (.mov (.t 4)),some ⟨28,true⟩⟩,⟨some 30,.p (.lenV (.t 29)),some ⟨28,true⟩⟩,⟨some 31,.p (.bin 3 .eql (.t 30) (ci_ 0)),some ⟨28,true⟩⟩,po_ 32 (.pick (.t 28) (.t 31) (.c (.bool false))),mv_ 33 32,⟨some 34,.p (.mov (.t 5)),some ⟨33,true⟩⟩,⟨some 35,.s (.call 8 [.t 34]),some ⟨33,true⟩⟩,⟨some 36,.p (.bin 38 .eql (.t 35) (ci_ 70)),some ⟨33,true⟩⟩,po_ 37 (.pick (.t 33) (.t 36) (.c (.bool false))),mv_ 2 37] [2])
 (.ret)
def AHO:Atc := .seq (.ops [mv_ 38 4,mv_ 39 7,so_ 40 (.call 23 [.t 38,.t 39]),mv_ 9 40] [5,6,9])
 (.seq (.ops [mv_ 41 6,mv_ 42 41,⟨some 43,.p (.mov (.t 9)),some ⟨42,true⟩⟩,po_ 44 (.pick (.t 42) (.t 43) (.c (.bool false))),mv_ 45 44,⟨some 46,.p (.mov (.t 5)),some ⟨45,true⟩⟩,⟨some 47,.s (.call 8 [.t 46]),some ⟨45,true⟩⟩,⟨some 48,.p (.bin 38 .eql (.t 47) (ci_ 0)),some ⟨45,true⟩⟩,po_ 49 (.pick (.t 45) (.t 48) (.c (.bool false))),mv_ 2 49] [2])
 (.ret))
def AG9:Atc := .seq (.seq (.ops [mv_ 25 8,po_ 26 (.un .not (.t 25))] [4,5,6,7,26])
 (.cond (.t 26)
 AHm
 (.skip)))
 AHO
def AHx:Atc := .seq (.ops [mv_ 21 0,so_ 22 (.call 22 [.t 21]),mv_ 20 22,po_ 23 (.ext 0 (.t 20)),po_ 24 (.ext 1 (.t 20)),mv_ 7 23,mv_ 8 24] [4,5,6,7,8])
 AG9
def AGQ:Atc := .seq (.ops [mv_ 17 3,mv_ 18 0,so_ 19 (.call 21 [.t 17,.t 18]),mv_ 6 19] [0,4,5,6])
 AHx
def AHi:Atc := .seq (.ops [mv_ 13 3,so_ 14 (.call 20 [.t 13]),mv_ 12 14,po_ 15 (.ext 0 (.t 12)),po_ 16 (.ext 1 (.t 12)),mv_ 4 15,mv_ 5 16] [0,3,4,5])
 AGQ
def AHB:Atc := .seq (.ops [mv_ 10 0,so_ 11 (.call 19 [.t 10]),mv_ 3 11] [0,3])
 AHi
def ANt:Atc := .seq (.ops [po_ 2 (.mov (.c (.bool false)))] [0])
 AHB
def AM6:List VR:=[.tmp 2]
theorem ASP:Tryd.f9.body.bind (trC Tryd.prog Tryd.f9.ntmps)=some (er ANt):=by kernel_rfl
theorem ASY:trR Tryd.prog Tryd.f9.results.toList=some AM6:=by kernel_rfl
def AMT:=As8 AHm.eq_1
def AL0:=As8 AHO.eq_1
def ADN:=As8 AG9.eq_1
def ADS:=As8 AHx.eq_1
def AD5:=As8 AGQ.eq_1
def AMa:=As8 AHi.eq_1
def AME:=As8 AHB.eq_1
def API:=As8 ANt.eq_1
theorem AIE {K:TV→Prop} {e:Env} {H:List Ob}:res AM6 e H K=res [.tmp 2] e H K:=As9 rfl
def ARB:=Awn 50 Tryd.func9 ASP ASY rfl
def AIy:Atc := .seq (.block 1 (.seq (.draw 57 [mv_ 17 0,mv_ 18 5,po_ 19 (.idxA 24 (.t 17) (.t 18)),po_ 20 (.fieldA 0 0 (.t 19)),po_ 21 (.load false 1 (.t 20)),mv_ 22 1,mv_ 23 5,po_ 24 (.idxA 24 (.t 22) (.t 23)),po_ 25 (.fieldA 0 0 (.t 24)),po_ 26 (.load false 1 (.t 25)),po_ 27 (.bin 9 .neq (.t 21) (.t 26)),mv_ 28 27,⟨some 29,.p (.mov (.t 0)),some ⟨28,false⟩⟩,⟨some 30,.p (.mov (.t 5)),some ⟨28,false⟩⟩,⟨some 31,.p (.idxA 24 (.t 29) (.t 30)),some ⟨28,false⟩⟩,⟨some 32,.p (.fieldA 1 1 (.t 31)),some ⟨28,false⟩⟩,⟨some 33,.p (.load false 1 (.t 32)),some ⟨28,false⟩⟩,⟨some 34,.p (.mov (.t 1)),some ⟨28,false⟩⟩,⟨some 35,.p (.mov (.t 5)),some ⟨28,false⟩⟩,⟨some 36,.p (.idxA 24 (.t 34) (.t 35)),some ⟨28,false⟩⟩,⟨some 37,.p (.fieldA 1 1 (.t 36)),some ⟨28,false⟩⟩,⟨some 38,.p (.load false 1 (.t 37)),some ⟨28,false⟩⟩,⟨some 39,.p (.bin 3 .neq (.t 33) (.t 38)),some ⟨28,false⟩⟩,po_ 40 (.pick (.t 28) (.c (.bool true)) (.t 39)),mv_ 41 40,⟨some 42,.p (.mov (.t 0)),some ⟨41,false⟩⟩,⟨some 43,.p (.mov (.t 5)),some ⟨41,false⟩⟩,⟨some 44,.p (.idxA 24 (.t 42) (.t 43)),some ⟨41,false⟩⟩,⟨some 45,.p (.fieldA 2 2 (.t 44)),some ⟨41,false⟩⟩,⟨some 46,.p (.load true 20 (.t 45)),some ⟨41,false⟩⟩,⟨some 47,.p (.mov (.t 1)),some ⟨41,false⟩⟩,⟨some 48,.p (.mov (.t 5)),some ⟨41,false⟩⟩,⟨some 49,.p (.idxA 24 (.t 47) (.t 48)),some ⟨41,false⟩⟩,⟨some 50,.p (.fieldA 2 2 (.t 49)),some ⟨41,false⟩⟩,⟨some 51,.p (.load true 20 (.t 50)),some ⟨41,false⟩⟩,⟨some 52,.p (.gen (.eqA 20 true) [.t 46,.t 51]),some ⟨41,false⟩⟩,po_ 53 (.pick (.t 41) (.c (.bool true)) (.t 52)),mv_ 54 53,⟨some 55,.p (.mov (.t 0)),some ⟨54,false⟩⟩,⟨some 56,.p (.mov (.t 5)),some ⟨54,false⟩⟩,⟨some 57,.p (.idxA 24 (.t 55) (.t 56)),some ⟨54,false⟩⟩,⟨some 58,.p (.fieldA 3 22 (.t 57)),some ⟨54,false⟩⟩,⟨some 59,.p (.load false 1 (.t 58)),some ⟨54,false⟩⟩,⟨some 60,.p (.mov (.t 1)),some ⟨54,false⟩⟩,⟨some 61,.p (.mov (.t 5)),some ⟨54,false⟩⟩,⟨some 62,.p (.idxA 24 (.t 60) (.t 61)),some ⟨54,false⟩⟩,⟨some 63,.p (.fieldA 3 22 (.t 62)),some ⟨54,false⟩⟩,⟨some 64,.p (.load false 1 (.t 63)),some ⟨54,false⟩⟩,⟨some 65,.p (.bin 3 .neq (.t 59) (.t 64)),some ⟨54,false⟩⟩,po_ 66 (.pick (.t 54) (.c (.bool true)) (.t 65)),mv_ 67 66,⟨some 68,.p (.mov (.t 0)),some ⟨67,false⟩⟩,⟨some 69,.p (.mov (.t 5)),some ⟨67,false⟩⟩,⟨some 70,.p (.idxA 24 (.t 68) (.t 69)),some ⟨67,false⟩⟩,⟨some 71,.p (.fieldA 4 23 (.t 70)),some ⟨67,false⟩⟩,⟨some 72,.p (.load false 1 (.t 71)),some ⟨67,false⟩⟩,⟨some 73,.p (.mov (.t 1)),some ⟨67,false⟩⟩,⟨some 74,.p (.mov (.t 5)),some ⟨67,false⟩⟩,⟨some 75,.p (.idxA 24 (.t 73) (.t 74)),some ⟨67,false⟩⟩,⟨some 76,.p (.fieldA 4 23 (.t 75)),some ⟨67,false⟩⟩,⟨some 77,.p (.load false 1 (.t 76)),some ⟨67,false⟩⟩,⟨some 78,.p (.bin 3 .neq (.t 72) (.t 77)),some ⟨67,false⟩⟩,po_ 79 (.pick (.t 67) (.c (.bool true)) (.t 78))] [0,1,5,79])
 (.cond (.t 79)
 (.seq (.ops [po_ 4 (.mov (.c (.bool false)))] [4])
  (.ret))
 (.skip))))
 (.ops [mv_ 15 5,po_ 16 (.bin 3 .add (.t 15) (ci_ 1)),mv_ 5 16] [0,1,5])
def AIH:Atc := .seq (.seq (.ops [mv_ 11 5,mv_ 12 0,po_ 13 (.lenV (.t 12)),po_ 14 (.bin 3 .lss (.t 11) (.t 13))] [0,1,5,14])
 (.cond (.t 14)
 (.skip)
 (.exit 0)))
 AIy
def AI3:Atc := .block 0 (.loop [0,1,5] AIH)
def AIu:Atc := .seq (.ops [po_ 4 (.mov (.c (.bool true)))] [4])
 (.ret)
def AIz:Atc := .seq (.seq (.ops [po_ 5 (.mov (ci_ 0))] [0,1,5])
 AI3)
 AIu
def AI0:Atc := .seq (.seq (.ops [mv_ 6 0,po_ 7 (.lenV (.t 6)),mv_ 8 1,po_ 9 (.lenV (.t 8)),po_ 10 (.bin 3 .neq (.t 7) (.t 9))] [0,1,10])
 (.cond (.t 10)
 (.seq (.ops [po_ 4 (.mov (.c (.bool false)))] [4])
  (.ret))
 (.skip)))
 AIz
def APd:Atc := .seq (.ops [po_ 4 (.mov (.c (.bool false)))] [0,1])
 AI0
def AOG:List VR:=[.tmp 4]
theorem AUk:Tryd.f23.body.bind (trC Tryd.prog Tryd.f23.ntmps)=some (er APd):=by kernel_rfl
theorem ATY:trR Tryd.prog Tryd.f23.results.toList=some AOG:=by kernel_rfl
def ANX:=As8 AIy.eq_1
def AFN:=As8 AIH.eq_1
def ANM:=As8 AI3.eq_1
def ANI:=As8 AIu.eq_1
def ANR:=As8 AIz.eq_1
def ANJ:=As8 AI0.eq_1
def AQH:=As8 APd.eq_1
theorem ARI {K:TV→Prop} {e:Env} {H:List Ob}:res AOG e H K=res [.tmp 4] e H K:=As9 rfl
def AS5:=Awn 80 Tryd.func23 AUk ATY rfl
def AFD:Atc := .seq (.block 1 (.draw 21 [mv_ 11 3,mv_ 12 0,mv_ 13 4,po_ 14 (.idxA 24 (.t 12) (.t 13)),po_ 15 (.fieldA 0 0 (.t 14)),po_ 16 (.load false 1 (.t 15)),mv_ 17 0,mv_ 18 4,po_ 19 (.idxA 24 (.t 17) (.t 18)),po_ 20 (.fieldA 1 1 (.t 19)),po_ 21 (.load false 1 (.t 20)),mv_ 22 0,mv_ 23 4,po_ 24 (.idxA 24 (.t 22) (.t 23)),po_ 25 (.fieldA 2 2 (.t 24)),po_ 26 (.load true 20 (.t 25)),mv_ 27 0,mv_ 28 4,po_ 29 (.idxA 24 (.t 27) (.t 28)),po_ 30 (.fieldA 3 22 (.t 29)),po_ 31 (.load false 1 (.t 30)),mv_ 32 0,mv_ 33 4,po_ 34 (.idxA 24 (.t 32) (.t 33)),po_ 35 (.fieldA 4 23 (.t 34)),po_ 36 (.load false 1 (.t 35)),⟨some 37,.p (.build [.val (.string (str [])),.val (.int .i64 ((0:Nat):Int)),.arr 20 1 [.val (.int .u8 ((0:Nat):Int)),.val (.int .u8 ((0:Nat):Int)),.val (.int .u8 ((0:Nat):Int)),.val (.int .u8 ((0:Nat):Int)),.val (.int .u8 ((0:Nat):Int)),.val (.int .u8 ((0:Nat):Int)),.val (.int .u8 ((0:Nat):Int)),.val (.int .u8 ((0:Nat):Int)),.val (.int .u8 ((0:Nat):Int)),.val (.int .u8 ((0:Nat):Int)),.val (.int .u8 ((0:Nat):Int)),.val (.int .u8 ((0:Nat):Int)),.val (.int .u8 ((0:Nat):Int)),.val (.int .u8 ((0:Nat):Int)),.val (.int .u8 ((0:Nat):Int)),.val (.int .u8 ((0:Nat):Int)),.val (.int .u8 ((0:Nat):Int)),.val (.int .u8 ((0:Nat):Int)),.val (.int .u8 ((0:Nat):Int)),.val (.int .u8 ((0:Nat):Int))],.val (.int .i64 ((0:Nat):Int)),.val (.int .i64 ((0:Nat):Int))] [1,1,20,1,1] [⟨0,.t 16⟩,⟨1,.t 21⟩,⟨2,.t 26⟩,⟨3,.t 31⟩,⟨4,.t 36⟩]),none⟩,⟨some 38,.s (.bslice 24 1 (.agg [.val (.string (str [])),.val (.int .i64 ((0:Nat):Int)),.arr 20 1 [.val (.int .u8 ((0:Nat):Int)),.val (.int .u8 ((0:Nat):Int)),.val (.int .u8 ((0:Nat):Int)),.val (.int .u8 ((0:Nat):Int)),.val (.int .u8 ((0:Nat):Int)),.val (.int .u8 ((0:Nat):Int)),.val (.int .u8 ((0:Nat):Int)),.val (.int .u8 ((0:Nat):Int)),.val (.int .u8 ((0:Nat):Int)),.val (.int .u8 ((0:Nat):Int)),.val (.int .u8 ((0:Nat):Int)),.val (.int .u8 ((0:Nat):Int)),.val (.int .u8 ((0:Nat):Int)),.val (.int .u8 ((0:Nat):Int)),.val (.int .u8 ((0:Nat):Int)),.val (.int .u8 ((0:Nat):Int)),.val (.int .u8 ((0:Nat):Int)),.val (.int .u8 ((0:Nat):Int)),.val (.int .u8 ((0:Nat):Int)),.val (.int .u8 ((0:Nat):Int))],.val (.int .i64 ((0:Nat):Int)),.val (.int .i64 ((0:Nat):Int))]) [⟨0,.t 37⟩]),none⟩,so_ 39 (.app 24 64 48 (.t 11) (.t 38)),mv_ 3 39] [0,3,4]))
 (.ops [mv_ 9 4,po_ 10 (.bin 3 .add (.t 9) (ci_ 1)),mv_ 4 10] [0,3,4])
def AE3:Atc := .seq (.seq (.ops [mv_ 5 4,mv_ 6 0,po_ 7 (.lenV (.t 6)),po_ 8 (.bin 3 .lss (.t 5) (.t 7))] [0,3,4,8])
 (.cond (.t 8)
 (.skip)
 (.exit 0)))
 AFD
def AFq:Atc := .block 0 (.own 3 24 (.loop [0,3,4] AE3))
def AFO:Atc := .seq (.ops [mv_ 40 3,mv_ 2 40] [2])
 (.ret)
def AFn:Atc := .seq (.seq (.ops [po_ 4 (.mov (ci_ 0))] [0,3,4])
 AFq)
 AFO
def AF7:Atc := .seq (.ops [po_ 3 (.mov (.c (.slice none 0 0)))] [0,3])
 AFn
def AJ1:Atc := .seq (.ops [po_ 2 (.mov (.c (.slice none 0 0)))] [0])
 AF7
def ALr:List VR:=[.tmp 2]
theorem ARH:Tryd.f5.body.bind (trC Tryd.prog Tryd.f5.ntmps)=some (er AJ1):=by kernel_rfl
theorem ARD:trR Tryd.prog Tryd.f5.results.toList=some ALr:=by kernel_rfl
def ALM:=As8 AFD.eq_1
def AB3:=As8 AE3.eq_1
def AJ9:=As8 AFq.eq_1
def AKc:=As8 AFO.eq_1
def AKD:=As8 AFn.eq_1
def ALz:=As8 AF7.eq_1
def APj:=As8 AJ1.eq_1
theorem AOT {K:TV→Prop} {e:Env} {H:List Ob}:res ALr e H K=res [.tmp 2] e H K:=As9 rfl
def APA:=Awn 41 Tryd.func5 ARH ARD rfl
end
section
open Go.RowKit Kit
variable [AtQ] [AwB]
theorem AZR (l:List EnJ) (h20:ANV l) (hl:l.length≤1000000):Az5 Tryd.prog 5 [.sl 24 (l.map enJ)] (fun r=>r = .sl 24 (l.map enJ)):=by
 refine Atj.toFreshV (APA (by simp) ?_)
 simp -dsimp (disch:=first | assumption | omega | (simp only [Ata];try omega)) only [↓Atf,Atb,Atd,Ate,eq_self,Nat.reduceEqDiff,↓reduceIte,reduceCtorEq,↓APj,↓ALz,↓AKD,↓AJ9]
 refine At5 (fun q e H=>∃ (i k v cp:Nat),q=l.length - i∧i≤l.length∧H[k]?=some (.obj v (.arr i 24 ((l.take i).map enJ)))∧e=[(0,.sl 24 (l.map enJ)),(3,.os 24 k v [] 0 i cp),(4,i64 (i:Int))]) l.length ?_ ?_
 ·exact ⟨0,0,0,0,rfl,Nat.zero_le _,rfl,rfl⟩
 rintro q e H ⟨i,k,v,cp,rfl,hi,hk,rfl⟩
 have hkl:k<H.length:=(List.getElem?_eq_some_iff.1 hk).1
 have hwl:((l.take i).map enJ).length=i:=by rw [List.length_map,List.length_take,Nat.min_eq_left hi]
 have hwt:((l.take i).map enJ).take i=(l.take i).map enJ:=List.take_of_length_le (by omega)
 by_cases hil:i<l.length
 ·have hg:l[i]?=some l[i]:=List.getElem?_eq_getElem hil
  have hx20:=h20 _ (List.mem_of_getElem? hg)
  have hsn:(l.take (i+1)).map enJ=(l.take i).map enJ++[enJ l[i]]:=by rw [List.take_succ_eq_append_getElem hil,List.map_append]; rfl
  generalize l[i]=x at *
  have hxJ:=Axc x
  rw [hxJ] at hsn
  have hx:(x.id.map by8).length=20:=by rw [List.length_map]; exact hx20
  have hA:∀ T:List Ob,(H++T)[k]?=some (.obj v (.arr i 24 ((l.take i).map enJ))):=fun T=>by rw [List.getElem?_append_left hkl]; exact hk
  simp -dsimp (disch:=first | assumption | omega | (simp only [Ata];try omega)) only [↓Atf,Atb,Atd,Ate,eq_self,Nat.reduceEqDiff,↓reduceIte,Nat.reduceAdd,reduceCtorEq,Nat.reduceLeDiff,hg,hxJ,hA,hwl,AEC,↓AB3,↓ALM]
  refine Atk (l.length - (i+1)) (by omega) (by simp) ⟨i+1,k,v+1,i+1,rfl,by omega,?_,rfl⟩
  rw [List.getElem?_append_left (by simp; omega),List.getElem?_set_self (by omega),hsn]
 ·have hi2:i=l.length:=by omega
  have htt:l.take i=l:=List.take_of_length_le (by omega)
  rw [htt] at hwl hwt hk
  have hsc:=ALB l
  simp -dsimp (disch:=first | assumption | omega | (simp only [Ata];try omega)) only [↓Atf,Atb,Atd,Ate,eq_self,Nat.reduceEqDiff,↓reduceIte,reduceCtorEq,hk,hwl,hsc,↓AB3,↓AKc,↓AOT]
set_option maxRecDepth 100000 in
set_option maxHeartbeats 4000000 in
theorem A8s (l:List EnJ) (h20:ANV l) (hl:l.length≤1000000):Auk Tryd.prog 23 [.sl 24 (l.map enJ),.sl 24 (l.map enJ)] (fun r=>r=tb true):=by
 refine Atj.toPureV (AS5 (by simp) ?_)
 simp -dsimp (disch:=first | assumption | omega | (simp only [Ata];try omega)) only [↓Atf,Atb,Atd,Ate,eq_self,Nat.reduceEqDiff,↓reduceIte,Nat.reduceAdd,reduceCtorEq,↓AQH,↓ANJ,↓ANR,↓ANM]
 refine At5 (fun q e H=>∃ i:Nat,q=l.length - i∧i≤l.length∧H=[]∧e=[(0,.sl 24 (l.map enJ)),(1,.sl 24 (l.map enJ)),(5,i64 (i:Int))]) l.length ?_ ?_
 ·exact ⟨0,rfl,by omega,rfl,rfl⟩
 ·rintro q e H ⟨i,rfl,hi,rfl,rfl⟩
  by_cases hil:i<l.length
  ·have hg:l[i]?=some l[i]:=List.getElem?_eq_getElem hil
   have hx20:=h20 _ (List.mem_of_getElem? hg)
   generalize l[i]=p at *
   have hxJ:=Axc p
   have hp20:(p.id.map by8).length=20:=by rw [List.length_map]; exact hx20
   have hss:(str p.path == str p.path)=true:=beq_self_eq_true (α:=Array UInt8) _
   simp -dsimp (disch:=first | assumption | omega | (simp only [Ata];try omega)) only [↓Atf,Atb,Atd,Ate,eq_self,Nat.reduceEqDiff,↓reduceIte,Nat.reduceAdd,reduceCtorEq,hg,hxJ,beq_self_eq_true,↓AFN,↓ANX]
   exact Atk (l.length - (i+1)) (by omega) (by simp) ⟨i+1,rfl,by omega,rfl,rfl⟩
  ·simp -dsimp (disch:=first | assumption | omega | (simp only [Ata];try omega)) only [↓Atf,Atb,Atd,Ate,eq_self,Nat.reduceEqDiff,↓reduceIte,reduceCtorEq,↓AFN,↓ANI,↓ARI]
theorem AZk (b:List UInt8) (hb:b.length≤20000):Auk Tryd.prog 9 [slB b] (fun r=>r=tb true):=by
 refine Atj.toPureV (ARB (by simp) ?_)
 have htk2:((b++[71,72]).map by8).take b.length=b.map by8:=by rw [List.map_append,List.take_append_of_le_length (by simp),List.take_of_length_le (by simp)]
 have hrd:=A9S b (by omega)
 simp -dsimp (disch:=first | assumption | omega | (simp only [Ata];try omega)) only [↓Atf,Atb,Atd,Ate,eq_self,↓reduceIte,reduceCtorEq,↓API,↓AME]
 refine AwK (A8b b (by omega) ?_)
 simp -dsimp (disch:=first | assumption | omega | (simp only [Ata];try omega)) only [↓Atf,Atb,Atd,Ate,eq_self,↓reduceIte,reduceCtorEq,↓AMa]
 refine (BbU b (by omega)).lends (args':=[slB b]) (by simp -dsimp (disch:=first | assumption | omega | (simp only [Ata];try omega)) only [Atd,Ate,eq_self,↓reduceIte,Nat.reduceAdd,htk2]) fun r hr => ?_
 by_cases h:∃ l,ANV l∧wrJ Atp sha l=some b
 ·obtain ⟨l,hi,hl⟩:=h
  have hr1:r = .tup [.sl 24 ((AAu ltJ l).map enJ),.val .nilIface]:=hr.1 l hi hl
  subst hr1
  have hids:=A5N hi
  have hll:=AYO ASW hi hl
  rw [←(AuA (lt:=ltJ) l).length_eq] at hll
  have hrr:Az5 Tryd.prog 22 [slB b] (fun r=>r = .tup [.sl 24 ((AAu ltJ l).map enJ),tb true]):=hrd.mono fun r hr=>hr.1 l hi hl
  generalize AAu ltJ l=s at *
  have hsame:=A8s s hids (by omega)
  clear hr hrd
  simp -dsimp (disch:=first | assumption | omega | (simp only [Ata];try omega)) only [↓Atf,Atb,Atd,Ate,eq_self,Nat.reduceEqDiff,↓reduceIte,reduceCtorEq,↓AD5]
  refine AwK (ASt b (by omega) rfl ?_)
  simp -dsimp (disch:=first | assumption | omega | (simp only [Ata];try omega)) only [↓Atf,Atb,Atd,Ate,eq_self,Nat.reduceEqDiff,↓reduceIte,reduceCtorEq,↓ADS]
  refine hrr.pure.calls rfl fun r hr => ?_
  subst hr
  simp -dsimp (disch:=first | assumption | omega | (simp only [Ata];try omega)) only [↓Atf,Atb,Atd,Ate,eq_self,Nat.reduceEqDiff,↓reduceIte,reduceCtorEq,↓ADN,↓AL0]
  refine hsame.calls (by simp [Aud,AuQ]) fun r hr => ?_
  subst hr
  simp -dsimp (disch:=first | assumption | omega | (simp only [Ata];try omega)) only [↓Atf,Atb,Atd,Ate,eq_self,Nat.reduceEqDiff,↓reduceIte]
  refine A8X.calls rfl fun r hr => ?_
  subst hr
  simp -dsimp (disch:=first | assumption | omega | (simp only [Ata];try omega)) only [↓Atf,Atb,Atd,Ate,eq_self,Nat.reduceEqDiff,↓reduceIte,↓AIE]
 ·have hno:NoJ Atp sha b:=fun l hi hl=>h ⟨l,hi,hl⟩
  rw [hr.2 hno]
  have hrr:Az5 Tryd.prog 22 [slB b] (fun r=>r = .tup [.val (.slice none 0 0),tb false]):=hrd.mono fun r hr=>hr.2 hno
  simp -dsimp (disch:=first | assumption | omega | (simp only [Ata];try omega)) only [↓Atf,Atb,Atd,Ate,eq_self,Nat.reduceEqDiff,↓reduceIte,reduceCtorEq,↓AD5]
  refine AwK (ASt b (by omega) rfl ?_)
  simp -dsimp (disch:=first | assumption | omega | (simp only [Ata];try omega)) only [↓Atf,Atb,Atd,Ate,eq_self,Nat.reduceEqDiff,↓reduceIte,reduceCtorEq,↓ADS]
  refine hrr.pure.calls rfl fun r hr => ?_
  subst hr
  simp -dsimp (disch:=first | assumption | omega | (simp only [Ata];try omega)) only [↓Atf,Atb,Atd,Ate,eq_self,Nat.reduceEqDiff,↓reduceIte,reduceCtorEq,↓ADN,↓AMT]
  refine BdX.calls rfl fun r hr => ?_
  subst hr
  simp -dsimp (disch:=first | assumption | omega | (simp only [Ata];try omega)) only [↓Atf,Atb,Atd,Ate,eq_self,Nat.reduceEqDiff,↓reduceIte,↓AIE]
end
section
open Go.RowKit Kit
variable [AtQ] [AwB]
theorem AWH {l:List EnJ} {b:List UInt8} {x6 x7:TV} {H0:List Ob} {c5:TV} {v cp k:Nat} {Q:VEx→Env→List Ob→Prop} (h20:ANV l) (hl:l.length≤1000000) (hc:c5 = .os 24 k v [] 0 l.length cp) (hk:H0[k]?=some (.obj v (.arr l.length 24 (l.map enJ))))
  (h:∀ z,Q .nor [(0,.sl 24 (l.map enJ)),(1,slB b),(5,c5),(6,x6),(7,x7),(8,i64 (l.length:Int)),(34,z)] H0) :
  vwp Tryd.prog AxG Q [(0,.sl 24 (l.map enJ)),(1,slB b),(5,c5),(6,x6),(7,x7),(8,i64 ((0:Nat):Int))] H0:=by
 subst hc
 simp -dsimp (disch:=first | assumption | omega | (simp only [Ata];try omega)) only [↓Atf,↓AEj]
 refine At5 (fun q e H=>∃ i:Nat,q=l.length - i∧i≤l.length∧H=H0∧e=[(0,.sl 24 (l.map enJ)),(1,slB b),(5,.os 24 k v [] 0 l.length cp),(6,x6),(7,x7),(8,i64 (i:Int))]) l.length ?_ ?_
 ·exact ⟨0,rfl,Nat.zero_le _,rfl,rfl⟩
 rintro q e H ⟨i,rfl,hi,rfl,rfl⟩
 by_cases hil:i<l.length
 ·have hg:l[i]?=some l[i]:=List.getElem?_eq_getElem hil
  have hx20:=h20 _ (List.mem_of_getElem? hg)
  generalize l[i]=p at *
  have hxJ:=Axc p
  have hp20:(p.id.map by8).length=20:=by rw [List.length_map]; exact hx20
  have hss:(str p.path == str p.path)=true:=beq_self_eq_true (α:=Array UInt8) _
  simp -dsimp (disch:=first | assumption | omega | (simp only [Ata];try omega)) only [↓Atf,Atb,Atd,Ate,eq_self,Nat.reduceEqDiff,↓reduceIte,Nat.reduceAdd,reduceCtorEq,hg,hxJ,hk,hss,beq_self_eq_true,↓Azs,↓AEE]
  exact Atk (l.length - (i+1)) (by omega) (by simp) ⟨i+1,rfl,by omega,rfl,rfl⟩
 ·have hi2:i=l.length:=by omega
  subst hi2
  simp -dsimp (disch:=first | assumption | omega | (simp only [Ata];try omega)) only [↓Atf,Atb,Atd,Ate,eq_self,Nat.reduceEqDiff,↓reduceIte,reduceCtorEq,↓Azs]
  exact h _
theorem APv (l:List EnJ) (b:List UInt8) (hi:ANV l):Auk Tryd.prog 3 [.sl 24 (l.map enJ),slB b] (fun r=>r=tb true):=by
 refine Atj.toPureV (AJE (by simp) ?_)
 by_cases hll:l.length≤60
 case neg=>simp -dsimp (disch:=first | assumption | omega | (simp only [Ata];try omega)) only [↓Atf,Atb,Atd,Ate,eq_self,Nat.reduceEqDiff,↓reduceIte,Nat.reduceAdd,reduceCtorEq,↓Ax1,↓AwL,↓AwJ]
 by_cases hbl:b.length≤8000
 case neg=>simp -dsimp (disch:=first | assumption | omega | (simp only [Ata];try omega)) only [↓Atf,Atb,Atd,Ate,eq_self,Nat.reduceEqDiff,↓reduceIte,Nat.reduceAdd,reduceCtorEq,↓Ax1,↓AwL,↓AwJ]
 have hwt:=A48 l (by omega) hi
 have hrw:=AWE l (by omega) hi
 have hth:=AZR l hi (by omega)
 have hrb:=AZk b (by omega)
 have hlt:(l.map enJ).take l.length=l.map enJ:=List.take_of_length_le (by simp)
 simp -dsimp (disch:=first | assumption | omega | (simp only [Ata];try omega)) only [↓Atf,Atb,Atd,Ate,eq_self,Nat.reduceEqDiff,↓reduceIte,Nat.reduceAdd,reduceCtorEq,↓Ax1,↓AwL,↓ADt,↓ADO]
 simp -dsimp (disch:=first | assumption | omega | (simp only [Ata];try omega)) only [↓Atf,Atb,Atd,Ate,eq_self,Nat.reduceEqDiff,↓reduceIte,reduceCtorEq,↓ADx]
 refine hwt.lends (args':=[.sl 24 (l.map enJ)]) (by simp -dsimp (disch:=first | assumption | omega | (simp only [Ata];try omega)) only [Atd,Ate,eq_self,↓reduceIte,hlt]) fun r hr => ?_
 cases hw:wrJ Atp sha l with
 | some X =>
  have hr2:r = .tup [slB X,.val .nilIface]:=hr.1 X hw
  subst hr2
  have hrs:Az5 Tryd.prog 6 [.sl 24 (l.map enJ)] (fun r=>r = .tup [slB X,i64 ((0:Nat):Int)]):=hrw.mono fun r hr=>hr.1 X hw
  have hXl:X.length≤20000:=by
   obtain ⟨h1,h2⟩:=AHY ASW hi hw
   have h3:∀ ms:List EnJ,(∀ e∈ms,OkJ e)→(ms.flatMap AH4).length≤168*ms.length:=fun ms=>by
    induction ms with
    | nil=>simp
    | cons e ms ih =>
     intro h
     have k1:=ih fun x hx=>h x (by simp [hx])
     have k2:=AHX e (h e (by simp)).id
     have k3:=(h e (by simp)).path
     rw [List.flatMap_cons,List.length_append,List.length_cons,k2]
     unfold ALQ; omega
   have h4:=h3 _ h2
   obtain ⟨hd,g1,g2,_⟩:=AH2 l
   have h5:(ABg l).length≤12+168*60:=by
    rw [g2,List.length_append,g1]
    have:=(AuA (lt:=ltJ) l).length_eq
    omega
   have h6:=AAt (ABg l)
   rw [h1,List.length_append]; omega
  have hrx:=AZk X hXl
  clear hr hwt hrw hw
  simp -dsimp (disch:=first | assumption | omega | (simp only [Ata];try omega)) only [↓Atf,Atb,Atd,Ate,eq_self,Nat.reduceEqDiff,↓reduceIte,reduceCtorEq,↓Ayz]
  refine AWH hi (by omega) rfl rfl fun z => ?_
  simp -dsimp (disch:=first | assumption | omega | (simp only [Ata];try omega)) only [↓Atf,Atb,Atd,Ate,eq_self,↓reduceIte,↓Ays]
  refine hth.pure.calls (by simp [Aud,AuQ]) fun r hr => ?_
  subst hr
  simp -dsimp (disch:=first | assumption | omega | (simp only [Ata];try omega)) only [↓Atf,Atb,Atd,Ate,eq_self,Nat.reduceEqDiff,↓reduceIte,reduceCtorEq,↓AzG]
  refine hrs.pure.calls (by simp [Aud,AuQ]) fun r hr => ?_
  subst hr
  simp -dsimp (disch:=first | assumption | omega | (simp only [Ata];try omega)) only [↓Atf,Atb,Atd,Ate,eq_self,Nat.reduceEqDiff,↓reduceIte,↓Azp]
  refine (same X X (by omega) (by omega)).calls rfl fun r hr => ?_
  subst hr
  simp -dsimp (disch:=first | assumption | omega | (simp only [Ata];try omega)) only [↓Atf,Atb,Atd,Ate,eq_self,Nat.reduceEqDiff,↓reduceIte,↓Azu]
  refine A8X.calls rfl fun r hr => ?_
  subst hr
  simp -dsimp (disch:=first | assumption | omega | (simp only [Ata];try omega)) only [↓Atf,Atb,Atd,Ate,eq_self,Nat.reduceEqDiff,↓reduceIte,↓AyR]
  refine hrb.calls rfl fun r hr => ?_
  subst hr
  simp -dsimp (disch:=first | assumption | omega | (simp only [Ata];try omega)) only [↓Atf,Atb,Atd,Ate,eq_self,Nat.reduceEqDiff,↓reduceIte,↓AyJ]
  refine hrx.calls rfl fun r hr => ?_
  subst hr
  simp -dsimp (disch:=first | assumption | omega | (simp only [Ata];try omega)) only [↓Atf,Atb,Atd,Ate,eq_self,Nat.reduceEqDiff,↓reduceIte,↓AwJ]
 | none =>
  have h0:ACS Atp l≠0:=fun h0=>by unfold wrJ at hw; rw [if_pos h0] at hw; cases hw
  have hr2:r = .tup [.val (.slice none 0 0),erJ (ACS Atp l)]:=hr.2 hw
  rw [AWe h0] at hr2
  subst hr2
  have hrs:Az5 Tryd.prog 6 [.sl 24 (l.map enJ)] (fun r=>r = .tup [.val (.slice none 0 0),i64 ((ACS Atp l:Nat):Int)]):=hrw.mono fun r hr=>hr.2 hw
  have hsame:Auk Tryd.prog 7 [.val (.slice none 0 0),.val (.slice none 0 0)] (fun x=>x=tb true):=((same [] [] (by simp) (by simp)).mono fun x hx=>by simpa using hx).argL (.cons AQK (.cons AQK .nil))
  have hcb:ACS Atp l≤71:=by unfold ACS; split<;>(try split)<;>(try split)<;>omega
  clear hr hwt hrw hw
  generalize ACS Atp l=w at *
  simp -dsimp (disch:=first | assumption | omega | (simp only [Ata];try omega)) only [↓Atf,Atb,Atd,Ate,eq_self,Nat.reduceEqDiff,↓reduceIte,reduceCtorEq,↓Ayz]
  refine AWH hi (by omega) rfl rfl fun z => ?_
  simp -dsimp (disch:=first | assumption | omega | (simp only [Ata];try omega)) only [↓Atf,Atb,Atd,Ate,eq_self,↓reduceIte,↓Ays]
  refine hth.pure.calls (by simp [Aud,AuQ]) fun r hr => ?_
  subst hr
  simp -dsimp (disch:=first | assumption | omega | (simp only [Ata];try omega)) only [↓Atf,Atb,Atd,Ate,eq_self,Nat.reduceEqDiff,↓reduceIte,reduceCtorEq,↓AzG]
  refine hrs.pure.calls (by simp [Aud,AuQ]) fun r hr => ?_
  subst hr
  simp -dsimp (disch:=first | assumption | omega | (simp only [Ata];try omega)) only [↓Atf,Atb,Atd,Ate,eq_self,Nat.reduceEqDiff,↓reduceIte,↓Azp]
  refine hsame.calls rfl fun r hr => ?_
  subst hr
  simp -dsimp (disch:=first | assumption | omega | (simp only [Ata];try omega)) only [↓Atf,Atb,Atd,Ate,eq_self,Nat.reduceEqDiff,↓reduceIte,↓Azu]
  refine BdX.calls rfl fun r hr => ?_
  subst hr
  simp -dsimp (disch:=first | assumption | omega | (simp only [Ata];try omega)) only [↓Atf,Atb,Atd,Ate,eq_self,Nat.reduceEqDiff,↓reduceIte,↓AyR]
  refine hrb.calls rfl fun r hr => ?_
  subst hr
  simp -dsimp (disch:=first | assumption | omega | (simp only [Ata];try omega)) only [↓Atf,Atb,Atd,Ate,eq_self,Nat.reduceEqDiff,↓reduceIte,↓AyJ,↓AEy,h0,↓AwJ]
end
section
open Go.RowKit
variable [AtQ]
set_option maxRecDepth 100000 in
theorem AVJ {t:TypeId} (ht:Tryd.prog.underlying t=some (.array 20 5)) (hn:Tryd.prog.cellsOf t=20):AAE Tryd.prog t (fun l:List UInt8 => .arr 20 1 (l.map by8)) (fun l=>l.length=20) :=
 ABj (ARX ht (k:=1) (by kernel_rfl) (by rw [hn]) (AR3 Tryd.underlying5) (fun _ _=>rfl)) fun l h=>⟨l,rfl,h.1⟩
set_option maxRecDepth 100000 in
theorem AVX:AAE Tryd.prog 32 (fun e:EnJ=>enJ e) (fun e=>e.id.length=20):=by
 refine ABj (ARb Tryd.underlying32 (by kernel_rfl) (AAC (off:=0) (n:=1) rfl (by kernel_rfl) (ARR Tryd.underlying9)
  (AAC (off:=1) (n:=1) rfl (by kernel_rfl) (AMn Tryd.underlying28) (AAC (off:=2) (n:=20) rfl (by kernel_rfl) (AVJ Tryd.underlying30 (by kernel_rfl))
  (AAC (off:=22) (n:=1) rfl (by kernel_rfl) (AMn Tryd.underlying3) (AAC (off:=23) (n:=1) rfl (by kernel_rfl) (AMn Tryd.underlying3) ATT)))))) fun x h => ?_
 obtain ⟨p,m,i,z,s,u⟩:=x
 exact ⟨⟨p,m,i,z,s⟩,rfl,h.2.2.1⟩
set_option maxRecDepth 100000 in
theorem AUf:AAE Tryd.prog 22 (fun l:List EnJ => .sl 24 (l.map enJ)) (fun l=>∀ x∈l,x.id.length=20) :=
 ABj (ANp (k:=24) (B:=Tryd.prog.bytesOf 32) Tryd.underlying22 (by kernel_rfl) rfl AVX (fun a _=>Axb a) (by decide)) fun l h=>⟨l,rfl,h.1⟩
end
end Go.Proofs.YtnkpoloeifhflaaDoor
namespace Go.Proofs.YtnkpoloeifhflaaDoor.stageWrites
open Go.ChangeShapes Go.WideShapes Go.ChangeAt Go.RowKit
theorem own:ownKnob Tryd.prog.godebug=none:=by kernel_rfl
mutual
def A7v:DataW Unit→List Value
 | .lit (.int k n)=>[.int k n]
 | .lit (.string l)=>[.string ⟨l.toArray⟩]
 | .agg l=>A8T l
 | _=>[]
def A8T:List (DataW Unit)→List Value
 | []=>[]
 | d::l=>A7v d++A8T l
end
instance gi:AtQ:=⟨[(0,Av4)],by kernel_rfl⟩
instance:AwB:=⟨by kernel_rfl⟩
theorem et:Tryd.prog.globalNamed "errors.errorType" = some 0:=by kernel_rfl
theorem rt:(Tryd.prog.cutTypes.find? (·.1 == "internal/reflectlite.rtype")).map (·.2)=some 100:=by kernel_rfl
theorem A8R:((List.range Tryd.prog.types.size).filter fun t=>Tryd.prog.rowNamed t [101,114,114,111,114])=[25]:=by kernel_rfl
theorem APW {W:World} (h:handlesMet Tryd.prog [("errors.errorType", Rows.laid_errors_errorType)] W):∃ t fr,W.heap[0]?=some (.cells Av4.cells.toArray t fr):=by
 obtain ⟨name,u,ty,e1,e2,e3,e4,e5⟩:=h _ (List.mem_singleton.2 rfl)
 have en:name=[101,114,114,111,114]:=(Option.some.inj e1).symm
 subst en
 obtain rfl:=Option.some.inj (rt.symm.trans e2)
 have hm:ty∈(List.range Tryd.prog.types.size).filter fun t=>Tryd.prog.rowNamed t [101,114,114,111,114]:=List.mem_filter.2 ⟨List.mem_range.2 e3,e4⟩
 rw [A8R] at hm
 obtain rfl:=List.mem_singleton.1 hm
 have hh:typeHandle Tryd.prog 25 = .pointer (some ⟨4,25,none⟩):=by kernel_rfl
 rw [hh] at e5
 exact A7i et e5
theorem ASA {W:World} (h:laidMetH Tryd.prog Rows.stageWritesRow.laid W):ABr (fun b=>b<W.heap.size) W:=by
 intro g x hx
 have hm:=AWr hx
 have h':laidMet Tryd.prog [("unicode/utf8.acceptRanges", Rows.laid_unicode_utf8_acceptRanges),("unicode/utf8.first", Rows.laid_unicode_utf8_first)] W∧handlesMet Tryd.prog [("errors.errorType", Rows.laid_errors_errorType)] W:=h
 have hm':(g,x)∈([(0,Av4)]:List (Nat×GV)):=hm
 simp only [List.mem_cons,List.mem_nil_iff,or_false,Prod.mk.injEq] at hm'
 have key:∃ t fr,W.heap[g]?=some (.cells x.cells.toArray t fr):=by
  rcases hm' with ⟨rfl,rfl⟩
  ·exact APW h'.2
 obtain ⟨t,fr,hk⟩:=key
 exact ⟨(Array.getElem?_eq_some_iff.1 hk).1,t,fr,hk⟩
noncomputable def ATi (os:Os):World :=
 let w0:=World.holding Tryd.prog os ⟨#[],#[.slice none 0 0,.slice none 0 0],[]⟩
 let w1:={ w0 with heap:=w0.heap.modify 0 fun
   | .cells _ t frozen => .cells Av4.cells.toArray t frozen
   | o=>o }
 let w2:={ w1 with heap:=w1.heap.modify 2 fun
   | .cells _ t frozen => .cells (A7v Rows.laid_unicode_utf8_acceptRanges).toArray t frozen
   | o=>o }
 let w3:={ w2 with heap:=w2.heap.modify 1 fun
   | .cells _ t frozen => .cells (A7v Rows.laid_unicode_utf8_first).toArray t frozen
   | o=>o }
 w3
theorem ARs (os:Os) (args:Array Value):laidMetH Tryd.prog Rows.stageWritesRow.laid ((ATi os).forCall (fun _ _=>0) ⟨#[],args,[]⟩).memory :=
 laidMetH_of_parts (laidMet_of_run' 8 (by kernel_rfl) (by kernel_rfl)) (by kernel_rfl)
theorem A58:laidOutB Tryd.prog=true∧mapsRowed Tryd.prog=true :=
 have H:=ClosedOfChecked.allSpec_of Tryd.checked.wellFormed (by kernel_rfl:Tryd.checked.prog.types=Tryd.checked.src.types)
 ⟨ClosedOfChecked.laidOutB_of H (by kernel_rfl),ClosedOfChecked.mapsRowed_of H⟩
theorem Ayl {a b:Bool} (h:a=true) (k:b=true):(a && b)=true:=by rw [h,k]; rfl
theorem Bdv:(Rows.stageWritesRow.wf (OpenSpec.ofChange Rows.stageWritesSpec))=true:=by kernel_rfl
theorem Bb6:(laidOutB Tryd.prog)=true:=A58.1
theorem Bbh:(mapsRowed Tryd.prog)=true:=A58.2
theorem Bcv:(Tryd.f3.params.all (Tryd.prog.readableRec ·))=true:=by kernel_rfl
theorem Bbj:(namedTie Tryd.prog Rows.stageWritesRow.named Rows.stageWritesSpec.vars)=true:=by kernel_rfl
theorem Bbx:((Rows.stageWritesRow.stops == []))=true:=by kernel_rfl
theorem BbM:((Tryd.prog.stops == []))=true:=by kernel_rfl
theorem Bb9:((Rows.stageWritesRow.knobs == []))=true:=by kernel_rfl
theorem Bb0:((Tryd.prog.stopKnobs == []))=true:=by kernel_rfl
theorem BbW:((Rows.stageWritesRow.inPlace == Tryd.prog.inPlace 3))=true:=by kernel_rfl
theorem A8h:((Rows.stageWritesRow.unfollowed == Tryd.prog.unfollowed 3))=true:=by kernel_rfl
theorem A8Y:((Rows.stageWritesRow.recurses == Tryd.prog.recurses 3))=true:=by kernel_rfl
theorem A90:((Rows.stageWritesRow.named == Tryd.prog.varsNamed 3))=true:=by kernel_rfl
theorem A8w:((Rows.stageWritesRow.maps == (Tryd.f3.params.toList++Rows.stageWritesSpec.plain.varTypes Tryd.prog).any (Tryd.prog.mapsRec ·)))=true:=by kernel_rfl
theorem A8P:((Rows.stageWritesRow.ifaces == (Tryd.f3.params.toList++Rows.stageWritesSpec.plain.varTypes Tryd.prog).any (Tryd.prog.ifacesRec ·)))=true:=by kernel_rfl
theorem Baa:((Rows.stageWritesRow.mapsOut == Tryd.prog.mapsAmong Tryd.f3.resultTypes.toList))=true:=by kernel_rfl
theorem A83:((Rows.stageWritesRow.loops == (Tryd.f3.params.toList++Rows.stageWritesSpec.plain.varTypes Tryd.prog).any (Tryd.prog.loopsFrom ·)))=true:=by kernel_rfl
theorem A9a:((Rows.stageWritesRow.wideKeys == (Tryd.f3.params.toList++Rows.stageWritesSpec.plain.varTypes Tryd.prog++Tryd.f3.resultTypes.toList).any (Tryd.prog.wideKeysFrom ·)))=true:=by kernel_rfl
theorem Bae:(Rows.stageWritesSpec.vars.all (Tryd.prog.varReadable ·))=true:=by kernel_rfl
theorem A8B:(Tryd.f3.resultTypes.all (fun t=>Tryd.prog.readableRec t && decide (t<Tryd.prog.types.size)))=true:=by kernel_rfl
theorem A8D:((Rows.stageWritesRow.ifacesOut == Tryd.f3.resultTypes.toList.any (Tryd.prog.ifacesRec ·)))=true:=by kernel_rfl
theorem A8F:((Rows.stageWritesRow.loopsOut == Tryd.f3.resultTypes.toList.any (Tryd.prog.loopsFrom ·)))=true:=by kernel_rfl
theorem A84:((Rows.stageWritesRow.plainKeys == Tryd.prog.plainKeys))=true:=by kernel_rfl
theorem A72:(Rows.stageWritesRow.shortTexts.isNone)=true:=by kernel_rfl
theorem Bai:(Tryd.prog.stopsHeard)=true:=by kernel_rfl
theorem A8a:(Tryd.prog.mayEnter)=true:=by kernel_rfl
theorem A9x:((Rows.stageWritesRow.lifted == Tryd.prog.liftsFinal))=true:=by kernel_rfl
theorem A8p:((Tryd.prog.make == some Rows.stageWritesRow.make))=true:=by kernel_rfl
theorem A8J:((Rows.stageWritesRow.kinds == (if Rows.stageWritesRow.domain.isEmpty then [] else Tryd.f3.params.toList.map fun t=>match Tryd.prog.underlying t with | some (.int k)=>some k | _=>none)))=true:=by kernel_rfl
theorem A9i:((Rows.stageWritesRow.pinned == Rows.stageWritesRow.pinnedBy))=true:=by kernel_rfl
theorem Baj:((Rows.stageWritesRow.veiled == (Tryd.f3.params.toList++Rows.stageWritesSpec.plain.varTypes Tryd.prog++Tryd.f3.resultTypes.toList).any (Tryd.prog.veiledRec ·)))=true:=by kernel_rfl
theorem A8c:(Rows.stageWritesRow.veiledFits Tryd.prog Tryd.f3.params.toList (Tryd.f3.params.toList++Rows.stageWritesSpec.plain.varTypes Tryd.prog++Tryd.f3.resultTypes.toList))=true:=by kernel_rfl
set_option maxRecDepth 100000 in
theorem AZX:((Rows.stageWritesRow.wf (OpenSpec.ofChange Rows.stageWritesSpec)) && (laidOutB Tryd.prog) && (mapsRowed Tryd.prog) && (Tryd.f3.params.all (Tryd.prog.readableRec ·)) && (namedTie Tryd.prog Rows.stageWritesRow.named Rows.stageWritesSpec.vars) && ((Rows.stageWritesRow.stops == [])) && ((Tryd.prog.stops == [])) && ((Rows.stageWritesRow.knobs == [])) && ((Tryd.prog.stopKnobs == [])) && ((Rows.stageWritesRow.inPlace == Tryd.prog.inPlace 3)) && ((Rows.stageWritesRow.unfollowed == Tryd.prog.unfollowed 3)) && ((Rows.stageWritesRow.recurses == Tryd.prog.recurses 3)) && ((Rows.stageWritesRow.named == Tryd.prog.varsNamed 3)) && ((Rows.stageWritesRow.maps == (Tryd.f3.params.toList++Rows.stageWritesSpec.plain.varTypes Tryd.prog).any (Tryd.prog.mapsRec ·))) && ((Rows.stageWritesRow.ifaces == (Tryd.f3.params.toList++Rows.stageWritesSpec.plain.varTypes Tryd.prog).any (Tryd.prog.ifacesRec ·))) && ((Rows.stageWritesRow.mapsOut == Tryd.prog.mapsAmong Tryd.f3.resultTypes.toList)) && ((Rows.stageWritesRow.loops == (Tryd.f3.params.toList++Rows.stageWritesSpec.plain.varTypes Tryd.prog).any (Tryd.prog.loopsFrom ·))) && ((Rows.stageWritesRow.wideKeys == (Tryd.f3.params.toList++Rows.stageWritesSpec.plain.varTypes Tryd.prog++Tryd.f3.resultTypes.toList).any (Tryd.prog.wideKeysFrom ·))) && (Rows.stageWritesSpec.vars.all (Tryd.prog.varReadable ·)) && (Tryd.f3.resultTypes.all (fun t=>Tryd.prog.readableRec t && decide (t<Tryd.prog.types.size))) && ((Rows.stageWritesRow.ifacesOut == Tryd.f3.resultTypes.toList.any (Tryd.prog.ifacesRec ·))) && ((Rows.stageWritesRow.loopsOut == Tryd.f3.resultTypes.toList.any (Tryd.prog.loopsFrom ·))) && ((Rows.stageWritesRow.plainKeys == Tryd.prog.plainKeys)) && (Rows.stageWritesRow.shortTexts.isNone) && (Tryd.prog.stopsHeard) && (Tryd.prog.mayEnter) && ((Rows.stageWritesRow.lifted == Tryd.prog.liftsFinal)) && ((Tryd.prog.make == some Rows.stageWritesRow.make)) && ((Rows.stageWritesRow.kinds == (if Rows.stageWritesRow.domain.isEmpty then [] else Tryd.f3.params.toList.map fun t=>match Tryd.prog.underlying t with | some (.int k)=>some k | _=>none))) && ((Rows.stageWritesRow.pinned == Rows.stageWritesRow.pinnedBy)) && ((Rows.stageWritesRow.veiled == (Tryd.f3.params.toList++Rows.stageWritesSpec.plain.varTypes Tryd.prog++Tryd.f3.resultTypes.toList).any (Tryd.prog.veiledRec ·))) && (Rows.stageWritesRow.veiledFits Tryd.prog Tryd.f3.params.toList (Tryd.f3.params.toList++Rows.stageWritesSpec.plain.varTypes Tryd.prog++Tryd.f3.resultTypes.toList)))=true:=(Ayl (Ayl (Ayl (Ayl (Ayl (Ayl (Ayl (Ayl (Ayl (Ayl (Ayl (Ayl (Ayl (Ayl (Ayl (Ayl (Ayl (Ayl (Ayl (Ayl (Ayl (Ayl (Ayl (Ayl (Ayl (Ayl (Ayl (Ayl (Ayl (Ayl (Ayl Bdv Bb6) Bbh) Bcv) Bbj) Bbx) BbM) Bb9) Bb0) BbW) A8h) A8Y) A90) A8w) A8P) Baa) A83) A9a) Bae) A8B) A8D) A8F) A84) A72) Bai) A8a) A9x) A8p) A8J) A9i) Baj) A8c)
set_option maxRecDepth 100000 in
theorem AT6:joinedFacts Tryd.prog 3 Tryd.f3 Rows.stageWritesSpec Rows.stageWritesRow=true:=AZX
set_option maxRecDepth 100000 in
theorem lifted (os:Os) (started:os.Started) (H:Type) (enc:TypeId×Value→H) :
  ReturnsInHanded {} Tryd.checked os 3 .any (fun w args=>(Rows.stageWritesSpec.pre enc Tryd.prog Tryd.f3 [] false w args∧laidMetH Tryd.prog Rows.stageWritesRow.laid w)∧sizedMet enc Tryd.prog Tryd.f3 (OpenSpec.ofChange Rows.stageWritesSpec) false w args) (Rows.stageWritesSpec.post enc Tryd.prog Tryd.f3 false true false false):=by
 refine returnsInHanded_of_change_and (C:=Tryd.checked) (X:=fun w _=>laidMetH Tryd.prog Rows.stageWritesRow.laid w) (fun _ _ _ hh h=>h.of_heap hh) own started (by kernel_rfl) Tryd.func3
  (ChangeSpec.witness_at (enc:=enc) (C:=Tryd.checked) (os:=os) (X:=fun w _=>laidMetH Tryd.prog Rows.stageWritesRow.laid w) false (ATi os) #[.slice none 0 0,.slice none 0 0] 8 rfl (by kernel_rfl) (by kernel_rfl) (by kernel_rfl) (by kernel_rfl) (by kernel_rfl) (ARs os _)) ?_
 intro W base args ds gs before hval0 hW hcnd hsz0 hL _
 have hsz:(DataW.weightsEach Tryd.prog (Tryd.f3.params.toList++Rows.stageWritesSpec.plain.varTypes Tryd.prog) (ds++gs)).all (· ≤ reachBytes)=true:=hsz0
 have hval:∀ (j:Nat) t v,Tryd.f3.params[j]?=some t→args[j]?=some v→Value.okWide Tryd.prog W .any base t v:=hval0
 have hW':=hW
 obtain ⟨p,q,hA0,hV,rfl,hfz,hnd⟩:=hW
 have hA:DataW.TrodAll enc Tryd.prog W 0 (fun _=>true) true Tryd.f3.params.toList args.toList ds p:=hA0
 obtain ⟨rfl,rfl⟩:=trodVars_none hV
 have hsz2:(DataW.weightsEach Tryd.prog Tryd.f3.params.toList ds).all (· ≤ reachBytes)=true:=by
  have e:Tryd.f3.params.toList++Rows.stageWritesSpec.plain.varTypes Tryd.prog=Tryd.f3.params.toList:=by simp [ChangeSpec.plain,Rows.stageWritesSpec]; rfl
  rw [e,List.append_nil] at hsz; exact hsz
 have hA':=hA
 have hps:(Tryd.f3.params.toList.all fun t=>Tryd.prog.readableRec t && decide (t<Tryd.prog.types.size))=true:=by kernel_rfl
 have hv2:∀ (j:Nat) t v,Tryd.f3.params.toList[j]?=some t→args.toList[j]?=some v→∃ base,Value.okWide Tryd.prog W .any base t v:=fun j t v h1 h2=>⟨base,hval j t v (by rw [←Array.getElem?_toList]; exact h1) (by rw [←Array.getElem?_toList]; exact h2)⟩
 rw [Tryd.params3] at hA hsz2 hv2
 obtain ⟨dsE,hdsE⟩:∃ x,x=ds:=⟨_,rfl⟩
 refine (A79 (f:=3) (AII AUf (ANx Tryd.underlying22) (fun _=>rfl) (AII (AR4 Tryd.underlying23 Tryd.underlying5 (by kernel_rfl) (by kernel_rfl)) (ANx Tryd.underlying23) (fun _=>rfl) ARt)) (fun a h=>APv a.1 a.2.1 h.1) hA hv2 hsz2 (ASA hL)).mono fun e W' ⟨he,bel⟩ => ?_
 subst he
 have hB:=ALl A58.1 bel hps hA'
 have hAo:=hA
 obtain ⟨v0,vs0,d0,ds0,p0,q0,ha0,hd0,hp0,h0,r0⟩:=trodAll_cons hAo
 obtain ⟨v1,vs1,d1,ds1,p1,q1,ha1,hd1,hp1,h1,r1⟩:=trodAll_cons r0
 obtain ⟨hz1,hz2,hz3⟩:=trodAll_nil r1
 have hd:ds=[d0,d1]:=by rw [hd0,hd1,hz2]
 subst hd
 exact ⟨_,rfl,_,_,_,[],_,[],hW',trodAll_mk1 (shut_bool Tryd.underlying4 _),hB,rfl,bel.frame _,fun h=>by cases h⟩
theorem over:Rows.stageWritesRow.holds Tryd.pinned (OpenSpec.ofChange Rows.stageWritesSpec) :=
 OpenClaim.holds_of_wide 3 Tryd.f3 rfl rfl rfl rfl rfl rfl rfl ⟨rfl,rfl,rfl,rfl,rfl⟩ rfl rfl rfl rfl rfl (by kernel_rfl) Tryd.func3 AT6
  (of_decide_eq_true (by kernel_rfl)) (by unfold Func.isWrapper; first | (rw [if_pos (by decide +kernel)]; kernel_rfl) | (rw [if_neg (by decide +kernel)]; exact ⟨rfl,rfl⟩))
  (fun os started H enc _=>lifted os started H enc)
theorem stands:(Tryd.f3.params.toList.all fun t => !Tryd.prog.wantsStandIn t)=true:=by kernel_rfl
theorem proved:Rows.StageWritesCardSaid :=
 Claim7.holds_tied_plain_at .later [] [.data,.handle,.pinned] true (true, "9ca9328afd9177ce1d3e3cf1303f7a73306fa8e93534dc96fdf63e517efb4c77") true
  over (fun _ h=>by cases h) (by kernel_rfl) (fun _ h=>by cases h) stageWrites_row_tie rfl ⟨rfl,rfl⟩ (by kernel_rfl) rfl
  (fun f fn hf hfn=>by
   obtain rfl:f=3:=(Option.some.inj ((show Tryd.prog.funcNamed "gitlike/gitlikelaw8.StageWrites" = some 3 by kernel_rfl).symm.trans hf)).symm
   obtain rfl:fn=Tryd.f3:=(Option.some.inj (Tryd.func3.symm.trans hfn)).symm
   exact ⟨by kernel_rfl,fun j t ht=>by
    rw [←Array.getElem?_toList] at ht
    have:=List.all_eq_true.1 stands t (List.mem_of_getElem? ht)
    exact (show Tryd.prog.wantsStandIn t=false by simpa using this)⟩)
  (by kernel_rfl)
#print axioms proved
end Go.Proofs.YtnkpoloeifhflaaDoor.stageWrites
