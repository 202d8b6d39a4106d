/- What the proof of WireOffersUptoCard stands on (texts merged; names shortened by a program): part 6. -/
import Derived.Test.YtnikbdnebdmmiaaGreatDoorQE
import Derived.Test.YtnikbdnebdmmiaaGreatDoorProg
import Derived.KernelRfl
import Derived.Lib.Bytealg
import Derived.WalkKit
import Derived.Test.YtnikbdnebdmmiaaGreatDoorQD
import Derived.LaidEql
import Derived.Stop.Asserts
import Derived.RowKitTokens
import Derived.Laws.RangeAny
import Derived.Lib.TrimU
set_option linter.defProp false
set_option linter.unusedSectionVars false
set_option linter.unusedSimpArgs false
set_option linter.unusedVariables false
namespace Go.Proofs.YtnikbdnebdmmiaaGreatDoor
section
open Go.RowKit
variable [AAE]
theorem AYL {a a' b b':TV} (ha:AAu a=1) (ha':AAu a'=1) (hb:AAu b=1) (hb':AAu b'=1) (hn:ACx a'=false):∀ {p:List (Nat×Nat)} {x x':TV},AF6 p x=some (.agg [a,b])→AHW p x (.agg [a',b])=some x' →
  AF6 (p++[(1,1)]) x'=some b∧∃ x'',AHW (p++[(1,1)]) x' b'=some x''∧AHW p x (.agg [a',b'])=some x''
 | [],x,x',hg,hs=>by
  rw [AVr] at hg; cases hg
  have w1:AAu (.agg [a',b])=AAu (.agg [a,b]):=by simp [AAu,AA1,ha,ha',hb]
  have w2:AAu (.agg [a',b'])=AAu (.agg [a,b]):=by simp [AAu,AA1,ha,ha',hb,hb']
  rw [AMm,if_pos w1] at hs; cases hs
  rw [AMm,if_pos w2,List.nil_append,ASd,AOH]
  have h1:AA1 ([a',b].take 1)=1:=by simp [AA1,ha']
  rw [if_pos h1,if_pos h1]
  refine ⟨by simp [AVr],_,?_,rfl⟩
  simp [AMm,hb,hb']
 | (i,d)::p,x,x',hg,hs=>by
  cases x with
  | agg cs =>
   rw [ASd] at hg
   rw [AOH] at hs
   split at hg
   ·rename_i hw
    rw [if_pos hw] at hs
    cases hc:cs[i]? with
    | none=>rw [hc] at hg; cases hg
    | some c =>
     rw [hc] at hg hs
     have hg':AF6 p c=some (.agg [a,b]):=hg
     have hs':((AHW p c (.agg [a',b])).map fun c'=>TV.agg (cs.set i c'))=some x':=hs
     obtain ⟨c',h1,rfl⟩:=Option.map_eq_some_iff.1 hs'
     obtain ⟨g1,c'',g2,g3⟩:=AYL ha ha' hb hb' hn hg' h1
     have hi:i<cs.length:=(List.getElem?_eq_some_iff.1 hc).1
     have hti:(cs.set i c').take i=cs.take i:=by rw [List.take_set_of_le (Nat.le_refl _)]
     refine ⟨?_,.agg (cs.set i c''),?_,?_⟩
     ·rw [List.cons_append,ASd,hti,if_pos hw,List.getElem?_set_self hi]; exact g1
     ·rw [List.cons_append,AOH,hti,if_pos hw,List.getElem?_set_self hi]
      show (AHW (p++[(1,1)]) c' b').map _=_
      rw [g2]; simp
     ·rw [AOH,if_pos hw,hc]
      show (AHW p c (.agg [a',b'])).map _=_
      rw [g3]; rfl
   ·cases hg
  | arr n k cs =>
   rw [AZj] at hs
   split at hs
   ·rename_i h
    have:=h.2
    simp [ACx,ABz,hn] at this
   ·cases hs
  | _=>cases hg
structure Bld (H:List Ob) (id ver:Nat) (p:List (Nat×Nat)) (j v:Nat) (x:TV) (l:List UInt8):Prop where
 ob:H[id]?=some (.obj ver x)
 fields:∃ a,ATg id ver p a∧AF6 p x=some (.agg [a,.os 1 j v [] 0 l.length l.length])
 row:H[j]?=some (.bld v 5 l)
 ne:id≠j
 fact:∃ (q:Nat) (T:TypeId) (m:Nat),H[q]?=some (Ob.fact id ver T m)∧AZA T m (ABs p)
theorem AMo {id ver:Nat} {p:List (Nat×Nat)} {a:TV} (h:ATg id ver p a):AAu a=1:=by rcases h with rfl | rfl<;>rfl
end
section
variable [AAE]
set_option maxRecDepth 100000
def ACn:AAm := .seq (.ops [mv_ 5 0,so_ 6 (.call 89 [.t 5])] [0,1])
 (.seq (.ops [mv_ 7 0,mv_ 8 0,po_ 9 (.nilc (.t 8)),po_ 10 (.fieldA 1 1 (.t 9)),po_ 11 (.load false 1 (.t 10)),mv_ 12 1,⟨some 13,.s (.bslice 1 1 (.val (.int .u8 ((0:Nat):Int))) [⟨0,.t 12⟩]),none⟩,so_ 14 (.app 1 1 5 (.t 11) (.t 13)),po_ 15 (.nilc (.t 7)),po_ 16 (.fieldA 1 1 (.t 15)),⟨none,.s (.store 1 (.t 16) (.t 14)),none⟩] [])
 (.seq (.ops [po_ 4 (.mov (.c .nilIface))] [4])
 (.ret)))
def ACP:AAm := .seq (.ops [po_ 4 (.mov (.c .nilIface))] [0,1])
 ACn
def ACM:List VR:=[.tmp 4]
theorem AGQ:Tryz.f56.body.bind (trC Tryz.prog Tryz.f56.ntmps)=some (er ACP):=by kernel_rfl
theorem AGu:trR Tryz.prog Tryz.f56.results.toList=some ACM:=by kernel_rfl
def AD5:=AAj ACn.eq_1
def AFJ:=AAj ACP.eq_1
theorem AFI {K:TV→Prop} {e:Env} {H:List Ob}:res ACM e H K=res [.tmp 4] e H K:=AAi rfl
def ACT:=(aI_ (aI_ @AD5 @AFJ) @AFI)
def AGi:=ABp 17 Tryz.func56 AGQ AGu rfl
end
section
open Go.RowKit
variable [AAE]
theorem AUL {id ver j v:Nat} {p:List (Nat×Nat)} {x x':TV} {l:List UInt8} {c:UInt8} {H:List Ob} {K:TV→List Ob→Prop} (hB:Bld H id ver p j v x l) (hlen:l.length+1≤140737488355328)
  (hs:AHW p x (.agg [.op id ver p,.os 1 j v [] 0 l.length l.length])=some x') (hk:∀ x'',AHW p x (.agg [.op id ver p,.os 1 j (v+1) [] 0 (l++[c]).length (l++[c]).length])=some x''→K (.val .nilIface) ((H.set id (.obj ver x'')).set j (.bld (v+1) 5 (l++[c]))++[.obj 0 (.arr 1 1 [by8 c])])) :
  AAs Tryz.prog 56 [.op id ver p,by8 c] H K:=by
 obtain ⟨ho,⟨a,ha,hg⟩,hj,hne,q,T,m,hq,hT⟩:=hB
 refine AGi (by simp) ?_
 simp -dsimp (disch:=first | assumption | omega) only [↓AAp,AAk,AAn,AAo,eq_self,Nat.reduceEqDiff,↓reduceIte,Nat.reduceAdd,reduceCtorEq,↓ACT]
 refine A0u ho hg rfl ha hq hT hs rfl ?_
 have hid:id<H.length:=(List.getElem?_eq_some_iff.1 ho).1
 have hjl:j<H.length:=(List.getElem?_eq_some_iff.1 hj).1
 obtain ⟨g1,x'',g2,g3⟩:=AYL (b' := .os 1 j (v+1) [] 0 (l++[c]).length (l++[c]).length) (AMo ha) (by rfl) (by rfl) (by rfl) (by rfl) hg hs
 have hll:(H.set id (.obj ver x')).length=H.length:=by simp
 have b1:∀ {G:List Ob} {o g:Ob} {i:Nat},G[i]?=some o→(G++[g])[i]?=some o:=fun h=>by rw [List.getElem?_append_left (List.getElem?_eq_some_iff.1 h).1]; exact h
 have f0:(H.set id (.obj ver x')++[Ob.obj 0 (.arr 1 1 [by8 c])])[H.length]?=some (.obj 0 (.arr 1 1 [by8 c])):=by
  rw [←hll,List.getElem?_append_right (Nat.le_refl _)]; simp
 have f1:(H.set id (.obj ver x'))[id]?=some (.obj ver x'):=by simp [hid]
 have f2:(H.set id (.obj ver x')++[Ob.obj 0 (.arr 1 1 [by8 c])])[j]?=some (.bld v 5 l):=b1 (by rw [List.getElem?_set_ne hne]; exact hj)
 have f5:(H.set id (.obj ver x')++[Ob.obj 0 (.arr 1 1 [by8 c])]).set j (.bld (v+1) 5 (l++[c]))=(H.set id (.obj ver x')).set j (.bld (v+1) 5 (l++[c]))++[Ob.obj 0 (.arr 1 1 [by8 c])]:=by
  rw [List.set_append_left _ _ (by rw [hll]; exact hjl)]
 have f3:((H.set id (.obj ver x')).set j (.bld (v+1) 5 (l++[c]))++[Ob.obj 0 (.arr 1 1 [by8 c])])[id]?=some (.obj ver x'):=b1 (by rw [List.getElem?_set_ne (Ne.symm hne)]; exact f1)
 have f4:((H.set id (.obj ver x')).set j (.bld (v+1) 5 (l++[c]))++[Ob.obj 0 (.arr 1 1 [by8 c])]).set id (.obj ver x'')=(H.set id (.obj ver x'')).set j (.bld (v+1) 5 (l++[c]))++[Ob.obj 0 (.arr 1 1 [by8 c])]:=by
  rw [List.set_append_left _ _ (by simpa using hid),List.set_comm _ _ hne,List.set_set,List.set_comm _ _ hne.symm]
 have one:(List.replicate 1 (TV.val (Value.int IntKind.u8 ((0:Nat):Int)))).set 0 (by8 c)=[by8 c]:=by simp
 have tk1:[by8 c].take 1=[by8 c]:=by simp
 have tkl:l.take l.length=l:=List.take_length
 have e1:(l++[c]).length=l.length+1:=by simp
 rw [e1] at g2
 have hk':=hk x'' g3
 simp -dsimp (disch:=first | assumption | omega) only [↓AAp,AAk,AAn,AAo,eq_self,Nat.reduceEqDiff,↓reduceIte,reduceCtorEq,Nat.reduceLeDiff,↓ACT,f0,f1,f2,f3,f4,f5,g1,g2,one,tk1]
 exact hk'
end
section
open Go.RowKit
variable [AAE]
set_option maxHeartbeats 2000000 in
set_option maxRecDepth 100000 in
theorem AVi (s:ByteArray) (cv:Int) (w:World) :
  Calls Tryz.prog 111 #[.string s,.int .u8 cv] w fun e w'=>e = .returned (.int .i64 (Lib.indexByte s.data.toList cv.toNat.toUInt8))∧w'=w:=by
 go_enter Tryz.func111,Tryz.ntmps111
 go_wp2
 rw [run_callFunc_extern Tryz.func132 (by kernel_rfl) (by kernel_rfl) (by kernel_rfl) (e:=Extern.BytealgIndexByte.indexByte) (by kernel_rfl),Lib.run_indexByteString s cv w]
 simp only [Result.andThen]
 rw [Oper.upon_value]
 go_wp2
 go_ret
 exact ⟨rfl,rfl⟩
theorem AAR.ofCalls {f:FuncId} {args:List Value} {r:Value} (h:∀ w,Calls Tryz.prog f args.toArray w fun e w'=>e = .returned r∧w'=w):AAR Tryz.prog f (args.map .val) (fun x=>x = .val r):=by
 intro β F w vs hF hv
 have hvs:vs=args:=by
  clear h hF
  induction args generalizing vs with
  | nil=>rw [List.map_nil,AAZ.nil] at hv; exact hv
  | cons a args ih =>
   rw [List.map_cons] at hv
   obtain ⟨v,us,rfl,h1,h2⟩:=AAZ.cons.1 hv
   have:=Rep.val.1 (Or.inl h1:Rep _ _ _ _)
   rw [this,ih us h2]
 subst hvs
 refine (h w).mono ?_
 rintro e w' ⟨rfl,rfl⟩
 exact ⟨_,_,F,rfl,rfl,Rep.of_val,⟨rfl,rfl,rfl,Nat.le_refl _,fun _ _=>rfl,fun _ h=>h,fun _ _ h=>h,hF.1⟩⟩
theorem AX8 (l:List UInt8) (c:UInt8):AAR Tryz.prog 111 [.val (.string (str l)),by8 c] (fun x=>x = .val (.int .i64 (Lib.indexByte l c))):=by
 have h:=AAR.ofCalls (f:=111) (args:=[.string (str l),.int .u8 c.toNat]) (r := .int .i64 (Lib.indexByte l c)) (fun w=>by
  have h1:=AVi (str l) c.toNat w
  have e1:(str l).data.toList=l:=by simp [str]
  have e2:((c.toNat:Int)).toNat.toUInt8=c:=by rw [Int.toNat_natCast]; simp
  rw [e1,e2] at h1; exact h1)
 exact h
end
section
open Go.RowKit
variable [AAE]
def dig (n:Nat):UInt8:=UInt8.ofNat (if n<10 then 48+n else 87+n)
def ABt (l:List UInt8):List UInt8:=l.flatMap fun x=>[dig (x.toNat / 16),dig (x.toNat % 16)]
def ASF:List UInt8:=[48,49,50,51,52,53,54,55,56,57,97,98,99,100,101,102]
theorem ACZ:∀ n,n<16→ASF[n]?=some (dig n):=by decide
theorem Bbp (n:Nat):n &&& 15=n % 16:=Nat.and_two_pow_sub_one_eq_mod n 4
theorem AEX (l:List UInt8):(ABt l).length=2*l.length:=by
 induction l with
 | nil=>rfl
 | cons x l ih =>
  have e:ABt (x::l)=dig (x.toNat / 16)::dig (x.toNat % 16)::ABt l:=rfl
  rw [e,List.length_cons,List.length_cons,List.length_cons,ih]; omega
theorem AUG (l:List UInt8) (x:UInt8):ABt (l++[x])=ABt l++[dig (x.toNat / 16)]++[dig (x.toNat % 16)]:=by simp [ABt]
theorem AYu:ASF=[48,49,50,51,52,53,54,55,56,57,97,98,99,100,101,102]:=rfl
set_option maxRecDepth 100000 in
theorem BeN:AZA 116 2 0:=⟨by decide,by kernel_rfl⟩
theorem AEC {l:List UInt8}:bl (str l)=l:=by simp [bl,str]
theorem Bf2 {l:List UInt8} {n:Nat} {arr a:TV} {v:Nat} {G:List Ob} (hn:n=l.length) (ha:ATg 1 0 [] a):Bld ([.obj 0 arr,.obj 0 (.agg [a,.os 1 3 v [] 0 n n]),.fact 1 0 116 2,.bld v 5 l]++G) 1 0 [] 3 v (.agg [a,.os 1 3 v [] 0 n n]) l :=
 hn ▸   ⟨rfl,⟨a,ha,rfl⟩,rfl,by decide,⟨2,_,_,rfl,BeN⟩⟩
theorem BcP {a b c:TV} (ha:AAu a=1) (hb:AAu b=1):AHW [] (.agg [a,b]) (.agg [.op 1 0 [],c])=if AAu c=1 then some (.agg [.op 1 0 [],c]) else none:=by
 rw [AMm]
 have e:AAu (.agg [a,b])=2:=by simp [AAu,AA1,ha,hb]
 have e2:AAu (.agg [.op 1 0 [],c])=1+AAu c:=by simp [AAu,AA1]
 rw [e,e2]
 by_cases h:AAu c=1
 ·rw [if_pos h,if_pos (by omega)]
 ·rw [if_neg h,if_neg (by omega)]
theorem Bgr {x:UInt8}:ABW 5 .shr (.int .u8 (x.toNat:Int)) (.int .u64 ((4:Nat):Int))=some (.int .u8 ((x.toNat / 16:Nat):Int)):=Bbc (by have:=x.toNat_lt; omega) (by omega)
theorem Bf4 {x:UInt8}:ABW 5 .and (.int .u8 (x.toNat:Int)) (.int .u8 ((15:Nat):Int))=some (.int .u8 ((x.toNat % 16:Nat):Int)):=by rw [BbY (by have:=x.toNat_lt; omega) (by omega),Bbp]
theorem Bf7 (l:List UInt8) (hl:l.length=20):AAR Tryz.prog 30 [.arr 20 1 (l.map by8)] (fun r=>r = .val (.string (str (ABt l)))):=by
 refine AAs.toPureV (AV1 (by simp) ?_)
 simp -dsimp (disch:=first | assumption | omega) only [↓AAp,AAk,AAn,AAo,eq_self,Nat.reduceEqDiff,↓reduceIte,Nat.reduceAdd,↓ALl]
 refine ACS (fun q e H=>∃ (i v:Nat) (a:TV),q=20 - i∧i≤20∧ATg 1 0 [] a∧e=[(3,.op 1 0 []),(6,.arr 20 1 (l.map by8)),(7,i64 (i:Int))] ∧
  H=[.obj 0 (.arr 20 1 (l.map by8)),.obj 0 (.agg [a,.os 1 3 v [] 0 (ABt (l.take i)).length (ABt (l.take i)).length]),.fact 1 0 116 2,.bld v 5 (ABt (l.take i))]) 20 ?_ ?_
 ·exact ⟨0,0,_,by simp,by simp,.inl rfl,rfl,by simp [ABt]⟩
 ·rintro q e H ⟨i,v,a,rfl,hi,ha,rfl,rfl⟩
  by_cases h:i<20
  ·have hg:l[i]?=some l[i]:=List.getElem?_eq_getElem (by omega)
   have hsucc:=List.take_succ_eq_append_getElem (l:=l) (i:=i) (by omega)
   have hsn:=AUG (l.take i) l[i]
   rw [←hsucc] at hsn
   have hlen:(ABt (l.take i)).length=2*i:=by rw [AEX,List.length_take]; omega
   generalize hr2:ABt (l.take (i+1))=r2 at *
   generalize ABt (l.take i)=r at *
   generalize l[i]=c at *
   have hc:=c.toNat_lt
   have t1:=ACZ (c.toNat / 16) (by omega)
   have t2:=ACZ (c.toNat % 16) (by omega)
   rw [AYu] at t1 t2
   simp -dsimp (disch:=first | assumption | omega) only [↓AAp,AAk,AAn,AAo,eq_self,Nat.reduceEqDiff,↓reduceIte,↓ALl,hg,Bgr,t1,AEC]
   refine AUL (Bf2 (l:=r) (G:=[]) rfl ha) (by omega) (by rw [BcP (AMo ha) rfl]; rfl) (fun x2 h2 => ?_)
   rw [BcP (AMo ha) rfl] at h2
   obtain rfl:=Option.some.inj h2
   simp -dsimp (disch:=first | assumption | omega) only [↓AAp,AAk,AAn,AAo,eq_self,Nat.reduceEqDiff,↓reduceIte,Bf4,t2,AEC]
   refine AUL (Bf2 (l:=r++[dig (c.toNat / 16)]) (G:=[_]) (by simp) (.inr rfl)) (by simp; omega) (by rw [BcP rfl rfl]; rfl) (fun x2 h2 => ?_)
   rw [BcP rfl rfl] at h2
   obtain rfl:=Option.some.inj h2
   simp -dsimp (disch:=first | assumption | omega) only [↓AAp,AAk,AAn,AAo,eq_self,Nat.reduceEqDiff,↓reduceIte,Nat.reduceAdd]
   rw [←hsn]
   exact A1N (20 - (i+1)) 4 (by omega) (by simp) rfl rfl ⟨i+1,v+1+1,_,rfl,by omega,.inr rfl,rfl,by rw [hr2,hsn]; simp⟩
  ·have hi2:i=20:=by omega
   subst hi2
   have htl:l.take 20=l:=List.take_of_length_le (by omega)
   rw [htl]
   have hl2:(ABt l).length=40:=by rw [AEX]; omega
   have hw:=AMo ha
   have hb:=A8s
   simp -dsimp (disch:=first | assumption | omega) only [↓AAp,AAk,AAn,AAo,eq_self,Nat.reduceLT,Nat.reduceEqDiff,↓reduceIte,↓ALl,hb]
end
section
open Go.RowKit
variable [AAE]
section
omit [AAE]
def APS (n:Nat):List UInt8:=[dig (n / 4096 % 16),dig (n / 256 % 16),dig (n / 16 % 16),dig (n % 16)]
def AKJ:List UInt8:=[48,48,48,48]
def AA7 (l:List UInt8):List UInt8:=if l.length=0 then AKJ else APS (l.length+4)++l
theorem ARr:∀ n,n<16→xv (dig n)=n:=by decide
theorem AZn (n:Nat):(APS n).length=4:=rfl
theorem AVA {n:Nat} (h:n<65536):AWq 0 (APS n)=n:=by
 unfold APS
 simp only [AWq]
 rw [ARr _ (by omega),ARr _ (by omega),ARr _ (by omega),ARr _ (by omega)]
 omega
theorem A2b {n:Nat} (h:n<65536):pX (APS n)=some n:=by
 unfold pX
 have ha:(APS n).all isX=true:=by
  unfold APS isX
  simp [ARr _ (show n / 4096 % 16<16 by omega),ARr _ (show n / 256 % 16<16 by omega),ARr _ (show n / 16 % 16<16 by omega),ARr _ (show n % 16<16 by omega)]
  omega
 rw [AVA h,if_pos ⟨by simp [APS],ha,h⟩]
theorem AU8 {n m:Nat} (hn:n<65536) (hm:m<65536) (e:APS n=APS m):n=m:=by
 rw [←AVA hn,e,AVA hm]
def AR1 (l:List UInt8):Nat:=if l.length=0 then 0 else l.length+4
theorem AVu (l:List UInt8):AA7 l=APS (AR1 l)++l:=by
 unfold AA7 AR1
 split
 ·rename_i h
  rw [List.eq_nil_of_length_eq_zero h]; rfl
 ·rfl
theorem ADK (l:List UInt8):(AA7 l).length=4+l.length:=by rw [AVu,List.length_append]; rfl
theorem ABy {x s b:List UInt8} (h:AA7 x++s=b):b.take 4=APS (AR1 x)∧b.drop 4=x++s∧b.length=4+x.length+s.length:=by
 subst h
 rw [AVu,List.append_assoc]
 exact ⟨List.take_left' rfl,List.drop_left' rfl,by simp [AZn]; omega⟩
theorem AVI {x:List UInt8} (h:x.length≤1000):AR1 x<65536:=by unfold AR1; split<;>omega
theorem AOR {x y r s:List UInt8} (hx:x.length≤1000) (hy:y.length≤1000) (h:AA7 x++r=AA7 y++s):x=y∧r=s:=by
 obtain ⟨a1,a2,a3⟩:=ABy h
 obtain ⟨b1,b2,b3⟩:=ABy (rfl:AA7 y++s=AA7 y++s)
 rw [a1] at b1
 have e:=AU8 (AVI hx) (AVI hy) b1
 have hl:x.length=y.length:=by unfold AR1 at e; split at e<;>split at e<;>omega
 rw [a2] at b2
 exact List.append_inj b2 hl
theorem A7h {b:List UInt8} {n:Nat} (h4:4≤b.length) (hn:4<n) (hn2:n≤1004) (hl:n≤b.length) (ht:b.take 4=APS n):AA7 ((b.take n).drop 4)++b.drop n=b:=by
 have hln:((b.take n).drop 4).length=n - 4:=by simp; omega
 unfold AA7
 rw [if_neg (by omega),hln,show n - 4+4=n by omega,←ht,List.append_assoc]
 have e1:(b.take n).take 4=b.take 4:=by rw [List.take_take,Nat.min_eq_left (by omega)]
 rw [←List.append_assoc,←e1,List.take_append_drop,List.take_append_drop]
theorem AW5 {b:List UInt8} (ht:b.take 4=AKJ):AA7 []++b.drop 4=b:=by
 have:AA7 []=AKJ:=rfl
 rw [this,←ht,List.take_append_drop]
def AAG (ls:List (List UInt8)) (b:List UInt8):Prop:=(∀ x∈ls,x.length≤1000)∧ls.flatMap AA7=b
theorem ALx:∀ {ls ms:List (List UInt8)} {b:List UInt8},AAG ls b→AAG ms b→ls=ms
 | [],[],_,_,_=>rfl
 | [],y::ms,b,h,k=>by
  have:=congrArg List.length (h.2.trans k.2.symm)
  rw [List.flatMap_cons,List.length_append,ADK] at this
  simp only [List.flatMap_nil,List.length_nil] at this
  omega
 | x::ls,[],b,h,k=>by
  have:=congrArg List.length (h.2.trans k.2.symm)
  rw [List.flatMap_cons,List.length_append,ADK] at this
  simp only [List.flatMap_nil,List.length_nil] at this
  omega
 | x::ls,y::ms,b,h,k=>by
  have e:=h.2.trans k.2.symm
  rw [List.flatMap_cons,List.flatMap_cons] at e
  obtain ⟨rfl,e2⟩:=AOR (h.1 x (by simp)) (k.1 y (by simp)) e
  rw [ALx (b:=ls.flatMap AA7) ⟨fun z hz=>h.1 z (by simp [hz]),rfl⟩ ⟨fun z hz=>k.1 z (by simp [hz]),e2.symm⟩]
structure LI (b:List UInt8) (ls:List (List UInt8)) (rest:List UInt8):Prop where
 ok:∀ x∈ls,x.length≤1000
 eq:ls.flatMap AA7++rest=b
theorem LI.step {b rest r x:List UInt8} {ls:List (List UInt8)} (h:LI b ls rest) (hx:x.length≤1000) (e:AA7 x++r=rest):LI b (ls++[x]) r:=by
 refine ⟨fun y hy => ?_,?_⟩
 ·rcases List.mem_append.1 hy with hy | hy
  ·exact h.ok y hy
  ·rw [List.mem_singleton] at hy; subst hy; exact hx
 ·rw [List.flatMap_append,List.append_assoc,←h.eq,←e]; simp
theorem LI.pre:∀ {ls ms:List (List UInt8)} {b rest:List UInt8},LI b ls rest→AAG ms b→∃ l',ms=ls++l'∧AAG l' rest
 | [],ms,b,rest,h,k=>⟨ms,rfl,k.1,by rw [k.2,←h.eq]; rfl⟩
 | x::ls,[],b,rest,h,k=>by
  have:=congrArg List.length (h.eq.trans k.2.symm)
  rw [List.flatMap_cons,List.length_append,List.length_append,ADK] at this
  simp only [List.flatMap_nil,List.length_nil] at this
  omega
 | x::ls,y::ms,b,rest,h,k=>by
  have e:=h.eq.trans k.2.symm
  rw [List.flatMap_cons,List.flatMap_cons,List.append_assoc] at e
  obtain ⟨rfl,e2⟩:=AOR (h.ok x (by simp)) (k.1 y (by simp)) e
  obtain ⟨l',rfl,h2⟩:=LI.pre (ls:=ls) (ms:=ms) (b:=ms.flatMap AA7) (rest:=rest) ⟨fun z hz=>h.ok z (by simp [hz]),e2⟩ ⟨fun z hz=>k.1 z (by simp [hz]),rfl⟩
  exact ⟨l',rfl,h2⟩
theorem LI.no {b rest:List UInt8} {ls:List (List UInt8)} (h:LI b ls rest) (hne:rest≠[]) (hno:∀ x s,x.length≤1000→AA7 x++s≠rest):∀ ms,¬ AAG ms b:=fun ms k=>by
 obtain ⟨l',rfl,h2⟩:=h.pre k
 cases l' with
 | nil=>exact hne h2.2.symm
 | cons x l''=>exact hno x _ (h2.1 x (by simp)) (by rw [←h2.2]; rfl)
end
end
section
open Go.RowKit Go.Extern.Stop Go.Stop Go.Extern
variable [AAE]
theorem AXV (t:Addr) (w:World):(ReflectliteValue.unpack (.iface 78 (.pointer (some t)))).run Tryz.prog w
  = .ok (.agg #[.pointer (some ⟨9,78,none⟩),.pointer (some ⟨w.heap.size,0,none⟩),.int .u64 150]) (w.alloc (.cells #[.pointer (some t)] 78)):=by kernel_rfl
theorem A55 (a:Addr) (w:World):(ReflectliteValue.methodAny (ReflectliteValue.valueError "reflectlite.Value.Type" 0) (fun t _ _ _=>ReflectliteType.toType t) #[.agg #[.pointer (some ⟨9,78,none⟩),.pointer (some a),.int .u64 150]]).run Tryz.prog w
  = .ok (.iface 170 (.agg #[.pointer (some ⟨9,78,none⟩)])) w:=by kernel_rfl
theorem AWE (h:Value) (w:World):(Go.method 364 170 (.agg #[h]) "Kind").run Tryz.prog w = .ok (163,h) w:=by kernel_rfl
theorem A4k (w:World):((ReflectliteType.abiMethod fun t=>(fun a:Nat=>Value.int IntKind.u8 (a:Int)) <$> Rtype.kind t) #[.pointer (some ⟨9,78,none⟩)]).run Tryz.prog w = .ok (.int .u8 22) w:=by kernel_rfl
theorem A6m (w:World):((ReflectliteType.abiMethod fun t=>(fun a:Nat=>Value.int IntKind.u8 (a:Int)) <$> Rtype.kind t) #[.pointer (some ⟨9,33,none⟩)]).run Tryz.prog w = .ok (.int .u8 2) w:=by kernel_rfl
theorem rlm (z:Sem Value) (f:TypeId→Addr→Nat→Nat→Sem Value) (v:Value) :
  ReflectliteValue.method z f #[v]=(do match ← ReflectliteValue.parts v with | none=>z | some (t,a,fl)=>f t a fl (fl % 32)):=rfl
theorem AWF (a:Addr) (w:World):(ReflectliteValue.parts (.agg #[.pointer (some ⟨9,78,none⟩),.pointer (some a),.int .u64 150])).run Tryz.prog w = .ok (some (78,a,150)) w:=by kernel_rfl
theorem A3c (a p:Addr) (W:World) (ha:W.cell? a=some (.pointer (some p))) :
  (ReflectliteValue.method (ReflectliteValue.valueError "reflectlite.Value.IsNil" 0) ReflectliteValue.isNil #[.agg #[.pointer (some ⟨9,78,none⟩),.pointer (some a),.int .u64 150]]).run Tryz.prog W = .ok (.bool false) W:=by
 rw [rlm]
 simp only [Sem.run_bind,AWF,Result.andThen]
 simp [ReflectliteValue.isNil,loadVar,isAgg,underlying,Tryz.underlying78,ha,Result.andThen]
theorem AV5 (h:Value) (w:World):(Go.method 364 170 (.agg #[h]) "Elem").run Tryz.prog w = .ok (174,.agg #[h]) w:=by kernel_rfl
theorem AOs (h:Value) (w:World):(Go.method 364 170 (.agg #[h]) "Implements").run Tryz.prog w = .ok (175,.agg #[h]) w:=by kernel_rfl
theorem AMN (h:Value) (w:World):(Go.method 364 170 (.agg #[h]) "AssignableTo").run Tryz.prog w = .ok (172,.agg #[h]) w:=by kernel_rfl
theorem A3R (w:World):(ReflectliteType.method ReflectliteType.elem #[.agg #[.pointer (some ⟨9,78,none⟩)]]).run Tryz.prog w = .ok (.iface 170 (.agg #[.pointer (some ⟨9,33,none⟩)])) w:=by kernel_rfl
theorem AT5 (w:World):(ReflectliteType.relation "Implements" ReflectliteType.implements_ #[.agg #[.pointer (some ⟨9,33,none⟩)],.iface 170 (.agg #[.pointer (some ⟨9,25,none⟩)])]).run Tryz.prog w = .ok (.bool true) w:=by kernel_rfl
theorem A0o (v:Value) (w:World):(ReflectliteType.typeOf #[.iface 33 v]).run Tryz.prog w = .ok (.iface 170 (.agg #[.pointer (some ⟨9,33,none⟩)])) w:=by kernel_rfl
theorem AUc (w:World):(ReflectliteType.relation "AssignableTo" ReflectliteType.assignableTo #[.agg #[.pointer (some ⟨9,33,none⟩)],.iface 170 (.agg #[.pointer (some ⟨9,33,none⟩)])]).run Tryz.prog w = .ok (.bool true) w:=by kernel_rfl
theorem AX1 (e:Int) (w:World):(ReflectliteValue.unpack (.iface 33 (.int .i64 e))).run Tryz.prog w
  = .ok (.agg #[.pointer (some ⟨9,33,none⟩),.pointer (some ⟨w.heap.size,0,none⟩),.int .u64 130]) (w.alloc (.cells #[.int .i64 e] 33)):=by kernel_rfl
theorem A0i (w:World):(Rtype.elem? 78).run Tryz.prog w = .ok (some 33) w:=by kernel_rfl
theorem Ba6 (p:Addr) (w:World):(ReflectliteValue.mk 33 p ReflectliteValue.flagAddr).run Tryz.prog w = .ok (.agg #[.pointer (some ⟨9,33,none⟩),.pointer (some p),.int .u64 386]) w:=by kernel_rfl
theorem A2g (a p:Addr) (W:World) (ha:W.cell? a=some (.pointer (some p))) :
  (ReflectliteValue.method (ReflectliteValue.valueError "reflectlite.Value.Elem" 0) ReflectliteValue.elem #[.agg #[.pointer (some ⟨9,78,none⟩),.pointer (some a),.int .u64 150]]).run Tryz.prog W
   = .ok (.agg #[.pointer (some ⟨9,33,none⟩),.pointer (some p),.int .u64 386]) W:=by
 rw [rlm]
 simp only [Sem.run_bind,AWF,Result.andThen]
 simp [ReflectliteValue.elem,loadVar,isAgg,underlying,Tryz.underlying78,ha,Result.andThen,A0i,Ba6]
theorem rls (v x:Value):ReflectliteValue.set #[v,x]=(do
  let (some (dst,a,fl),some (src,b,_)):=(←ReflectliteValue.parts v,←ReflectliteValue.parts x)
   | unsupported (.noEntry "extern/(internal/reflectlite.Value).Set.zeroValue")
  if fl / ReflectliteValue.flagAddr % 2 == 0 then unsupported (.noEntry "extern/(internal/reflectlite.Value).Set.unaddressable")
  let val ← loadVar src b
  if ← Rtype.directlyAssignable dst src then storeVar dst a val
  else if ← Rtype.implements dst src then
   if (←Rtype.kind src) == 20 then
    match val with
    | .nilIface=>unsupported (.noEntry "extern/reflectlite: a nil value of one interface type handed on as a value of another")
    | _=>storeVar dst a val
   else storeVar dst a (.iface src val)
  else panicString ("reflectlite.Set: value of type " ++ (←Rtype.spelt src) ++ " is not assignable to type " ++ (←Rtype.spelt dst))
  pure (.tuple #[])):=rfl
theorem A0j (a:Addr) (w:World):(ReflectliteValue.parts (.agg #[.pointer (some ⟨9,33,none⟩),.pointer (some a),.int .u64 386])).run Tryz.prog w = .ok (some (33,a,386)) w:=by kernel_rfl
theorem A2Q (a:Addr) (w:World):(ReflectliteValue.parts (.agg #[.pointer (some ⟨9,33,none⟩),.pointer (some a),.int .u64 130])).run Tryz.prog w = .ok (some (33,a,130)) w:=by kernel_rfl
theorem A0r (w:World):(Rtype.directlyAssignable 33 33).run Tryz.prog w = .ok true w:=by kernel_rfl
theorem A7j (ta b:Addr) (e:Int) (old:Value) (W:World) (hb:W.cell? b=some (.int .i64 e)) (ht:W.cell? ta=some old) (hf:W.frozen? ta=false) :
  (ReflectliteValue.set #[.agg #[.pointer (some ⟨9,33,none⟩),.pointer (some ta),.int .u64 386],.agg #[.pointer (some ⟨9,33,none⟩),.pointer (some b),.int .u64 130]]).run Tryz.prog W
   = .ok (.tuple #[]) (W.setCell ta (.int .i64 e)):=by
 rw [rls]
 simp only [Sem.run_bind,A0j,A2Q,Result.andThen]
 simp [ReflectliteValue.flagAddr,loadVar,isAgg,underlying,Tryz.underlying33,hb,Result.andThen,A0r,storeVar,Value.cells,storeCells,Addr.add]
 rw [run_store Tryz.prog W ta _ _ (by rfl)]
 simp [ht,hf]
set_option maxHeartbeats 4000000 in
theorem BaA (e:Int) (t:Addr) (old:Value) (w:World) (hg:w.cell? ⟨0,0,none⟩=some (.iface 170 (.agg #[.pointer (some ⟨9,25,none⟩)]))) (ht0:w.cell? t=some old) (hf0:w.frozen? t=false) :
  Calls Tryz.prog 36 #[.iface 33 (.int .i64 e),.iface 78 (.pointer (some t))] w fun ev w'=>ev = .returned (.bool true)∧w'=((((w.alloc (.cells #[.pointer (some t)] 78)).alloc (.cells #[.pointer (some ⟨9,78,none⟩),.pointer (some ⟨w.heap.size,0,none⟩),.int .u64 150] 124)).alloc (.cells #[.pointer (some ⟨9,78,none⟩),.pointer (some ⟨w.heap.size,0,none⟩),.int .u64 150] 124)).alloc (.cells #[.int .i64 e] 33)).setCell t (.int .i64 e):=by
 have h6:=@run_callFunc_extern Tryz.prog 60 _ (fun args=>ReflectliteValue.unpack (args.getD 0 (.tuple #[]))) Tryz.func60 (by kernel_rfl) (by kernel_rfl) (by kernel_rfl) (by kernel_rfl)
 have h7:=@run_callFunc_extern Tryz.prog 61 _ (ReflectliteValue.methodAny (ReflectliteValue.valueError "reflectlite.Value.Type" 0) (fun t _ _ _=>ReflectliteType.toType t)) Tryz.func61 (by kernel_rfl) (by kernel_rfl) (by kernel_rfl) (by kernel_rfl)
 have h8:=@run_callFunc_extern Tryz.prog 62 _ (ReflectliteValue.method (ReflectliteValue.valueError "reflectlite.Value.IsNil" 0) ReflectliteValue.isNil) Tryz.func62 (by kernel_rfl) (by kernel_rfl) (by kernel_rfl) (by kernel_rfl)
 have h27:=@run_callFunc_extern Tryz.prog 163 _ (ReflectliteType.abiMethod fun t=>do pure (.int .u8 (←Rtype.kind t))) Tryz.func163 (by kernel_rfl) (by kernel_rfl) (by kernel_rfl) (by kernel_rfl)
 have h37:=@run_callFunc_extern Tryz.prog 174 _ (ReflectliteType.method ReflectliteType.elem) Tryz.func174 (by kernel_rfl) (by kernel_rfl) (by kernel_rfl) (by kernel_rfl)
 have h38:=@run_callFunc_extern Tryz.prog 175 _ (ReflectliteType.relation "Implements" ReflectliteType.implements_) Tryz.func175 (by kernel_rfl) (by kernel_rfl) (by kernel_rfl) (by kernel_rfl)
 have h10:=@run_callFunc_extern Tryz.prog 91 _ ReflectliteType.typeOf Tryz.func91 (by kernel_rfl) (by kernel_rfl) (by kernel_rfl) (by kernel_rfl)
 have h35:=@run_callFunc_extern Tryz.prog 172 _ (ReflectliteType.relation "AssignableTo" ReflectliteType.assignableTo) Tryz.func172 (by kernel_rfl) (by kernel_rfl) (by kernel_rfl) (by kernel_rfl)
 have h11:=@run_callFunc_extern Tryz.prog 92 _ (ReflectliteValue.method (ReflectliteValue.valueError "reflectlite.Value.Elem" 0) ReflectliteValue.elem) Tryz.func92 (by kernel_rfl) (by kernel_rfl) (by kernel_rfl) (by kernel_rfl)
 have h12:=@run_callFunc_extern Tryz.prog 93 _ ReflectliteValue.set Tryz.func93 (by kernel_rfl) (by kernel_rfl) (by kernel_rfl) (by kernel_rfl)
 have tO:=A0o
 have mA:=AMN
 have a25:=AUc
 have v25:=AX1
 have f6:=AXV
 have f7:=A55
 have mK:=AWE
 have mE:=AV5
 have mI:=AOs
 have k27:=A4k
 have k25:=A6m
 have e27:=A3R
 have i25:=AT5
 have n8:=A3c ⟨w.heap.size,0,none⟩ t ((w.alloc (.cells #[.pointer (some t)] 78)).alloc (.cells #[.pointer (some ⟨9,78,none⟩),.pointer (some ⟨w.heap.size,0,none⟩),.int .u64 150] 124)) (by simp)
 have hlt:0<w.heap.size:=by
  rcases Nat.lt_or_ge 0 w.heap.size with h | h
  ·exact h
  ·simp [World.cell?,Array.getElem?_eq_none h] at hg
 have hg2:((w.alloc (.cells #[.pointer (some t)] 78)).alloc (.cells #[.pointer (some ⟨9,78,none⟩),.pointer (some ⟨w.heap.size,0,none⟩),.int .u64 150] 124)).cell? ⟨0,0,none⟩=some (.iface 170 (.agg #[.pointer (some ⟨9,25,none⟩)])):=by
  rw [World.cell?_alloc_lt _ _ ⟨0,0,none⟩ (Nat.lt_of_lt_of_le hlt (by simp)),World.cell?_alloc_lt _ _ ⟨0,0,none⟩ hlt]; exact hg
 have htl:t.block<w.heap.size:=by
  rcases Nat.lt_or_ge t.block w.heap.size with h | h
  ·exact h
  ·simp [World.cell?,Array.getElem?_eq_none h] at ht0
 have el:=A2g ⟨w.heap.size,0,none⟩ t (((w.alloc (.cells #[.pointer (some t)] 78)).alloc (.cells #[.pointer (some ⟨9,78,none⟩),.pointer (some ⟨w.heap.size,0,none⟩),.int .u64 150] 124)).alloc (.cells #[.pointer (some ⟨9,78,none⟩),.pointer (some ⟨w.heap.size,0,none⟩),.int .u64 150] 124)) (by rw [World.cell?_alloc_lt _ _ ⟨w.heap.size,0,none⟩ (by simp; omega)]; simp)
 have st:=A7j t ⟨w.heap.size+1+1+1,0,none⟩ e old ((((w.alloc (.cells #[.pointer (some t)] 78)).alloc (.cells #[.pointer (some ⟨9,78,none⟩),.pointer (some ⟨w.heap.size,0,none⟩),.int .u64 150] 124)).alloc (.cells #[.pointer (some ⟨9,78,none⟩),.pointer (some ⟨w.heap.size,0,none⟩),.int .u64 150] 124)).alloc (.cells #[.int .i64 e] 33))
  (by rw [World.cell?_alloc_at _ _ _ _ (by simp)]; rfl)
  (by rw [World.cell?_alloc_lt _ _ t (by simp; omega),World.cell?_alloc_lt _ _ t (by simp; omega),World.cell?_alloc_lt _ _ t (by simp; omega),World.cell?_alloc_lt _ _ t htl]; exact ht0)
  (by rw [World.frozen?_alloc_old _ _ t (by simp; omega),World.frozen?_alloc_old _ _ t (by simp; omega),World.frozen?_alloc_old _ _ t (by simp; omega),World.frozen?_alloc_old _ _ t (Nat.ne_of_lt htl)]; exact hf0)
 go_enter Tryz.func36,Tryz.ntmps36
 go_wp2
 refine wp_loop_rounds 1 ?_
 rw [rounds_succ]
 go_wp2
 go_ret
 exact ⟨rfl,rfl⟩
end
section
variable [AAE]
set_option maxRecDepth 100000
def AUp:AAm := .seq (.ops [po_ 2 (.mov (ci_ 0))] [0])
 (.seq (.ops [so_ 3 (.alloc (.val (.int .i64 ((0:Nat):Int))))] [0,3])
 (.seq (.block 0 (.seq (.ops [mv_ 5 0,po_ 6 (.eqN 1 (.t 5) (.c .nilIface) false),mv_ 4 6] [0,3,4])
 (.cond (.t 4)
 (.seq (.ops [po_ 2 (.mov (ci_ 0))] [2])
  (.ret))
 (.seq (.ops [mv_ 8 0,po_ 9 (.iface 78 (.t 3)),so_ 10 (.call 36 [.t 8,.t 9]),mv_ 7 10] [3,7])
  (.cond (.t 7)
  (.seq (.ops [po_ 11 (.load false 1 (.t 3)),mv_ 2 11] [2])
   (.ret))
  (.skip))))))
 (.seq (.ops [po_ 2 (.mov (.c (.int .i64 (-1))))] [2])
 (.ret))))
def AUK:List VR:=[.tmp 2]
theorem AZ9:Tryz.f11.body.bind (trC Tryz.prog Tryz.f11.ntmps)=some (er AUp):=by kernel_rfl
theorem A0l:trR Tryz.prog Tryz.f11.results.toList=some AUK:=by kernel_rfl
def AWG:=AAj AUp.eq_1
theorem AWk {K:TV→Prop} {e:Env} {H:List Ob}:res AUK e H K=res [.tmp 2] e H K:=AAi rfl
def AQG:=(aI_ @AWG @AWk)
def ASS:=ABp 12 Tryz.func11 AZ9 A0l rfl
def ALH:AAm := .seq (.ops [mv_ 13 4,mv_ 14 3,po_ 15 (.idxA 1 (.t 13) (.t 14)),⟨none,.s (.store 1 (.t 15) (.c (.int .u8 ((71:Nat):Int)))),none⟩] [3,4])
 (.seq (.ops [mv_ 16 4,mv_ 17 3,po_ 18 (.bin 3 .add (.t 17) (ci_ 1)),po_ 19 (.idxA 1 (.t 16) (.t 18)),⟨none,.s (.store 1 (.t 19) (.c (.int .u8 ((72:Nat):Int)))),none⟩] [3,4])
 (.seq (.ops [mv_ 20 4,mv_ 21 3,po_ 22 (.slV 1 (.t 20) none (some (.t 21))),mv_ 2 22] [2])
 (.ret)))
def AK5:AAm := .seq (.ops [mv_ 10 4,mv_ 11 0,so_ 12 (.copy 1 (.t 10) (.t 11))] [3,4])
 ALH
def AMh:AAm := .seq (.ops [mv_ 7 3,po_ 8 (.bin 3 .add (.t 7) (ci_ 2)),so_ 9 (.mks 1 1 (.val (.int .u8 ((0:Nat):Int))) (.t 8) (.t 8)),mv_ 4 9] [0,3,4])
 AK5
def AMe:AAm := .seq (.ops [mv_ 5 0,po_ 6 (.lenV (.t 5)),mv_ 3 6] [0,3])
 AMh
def ARi:AAm := .seq (.ops [po_ 2 (.mov (.c (.slice none 0 0)))] [0])
 AMe
def ARh:List VR:=[.tmp 2]
theorem AXc:Tryz.f17.body.bind (trC Tryz.prog Tryz.f17.ntmps)=some (er ARi):=by kernel_rfl
theorem AWj:trR Tryz.prog Tryz.f17.results.toList=some ARh:=by kernel_rfl
def AQ3:=AAj ALH.eq_1
def AQz:=AAj AK5.eq_1
def AQJ:=AAj AMh.eq_1
def AQl:=AAj AMe.eq_1
def ATF:=AAj ARi.eq_1
theorem AUa {K:TV→Prop} {e:Env} {H:List Ob}:res ARh e H K=res [.tmp 2] e H K:=AAi rfl
def AXj:=(aI_ (aI_ (aI_ @AQ3 @AQz) (aI_ @AQJ @AQl)) (aI_ @ATF @AUa))
def AVp:=ABp 23 Tryz.func17 AXc AWj rfl
def ALE:AAm := .seq (.seq (.ops [mv_ 36 8,mv_ 37 6,po_ 38 (.lenV (.t 37)),po_ 39 (.bin 3 .lss (.t 36) (.t 38))] [6,7,8,39])
 (.cond (.t 39)
 (.skip)
 (.exit 0)))
 (.seq (.block 1 (.ops [mv_ 42 6,mv_ 43 8,mv_ 44 6,mv_ 45 8,po_ 46 (.idxA 1 (.t 44) (.t 45)),po_ 47 (.load false 1 (.t 46)),po_ 48 (.bin 5 .xor (.t 47) (.c (.int .u8 ((85:Nat):Int)))),po_ 49 (.idxA 1 (.t 42) (.t 43)),⟨none,.s (.store 1 (.t 49) (.t 48)),none⟩] [6,7,8]))
 (.ops [mv_ 40 8,po_ 41 (.bin 3 .add (.t 40) (ci_ 1)),mv_ 8 41] [6,7,8]))
def ALt:AAm := .block 0 (.loop [6,7,8] ALE)
def AKR:AAm := .seq (.ops [mv_ 50 7,mv_ 4 50] [4])
 (.ret)
def ALJ:AAm := .seq (.seq (.ops [po_ 8 (.mov (ci_ 0))] [6,7,8])
 ALt)
 AKR
def ALc:AAm := .seq (.ops [mv_ 20 7,mv_ 21 20,⟨some 22,.p (.mov (.t 6)),some ⟨21,true⟩⟩,⟨some 23,.p (.mov (.t 5)),some ⟨21,true⟩⟩,⟨some 24,.p (.idxA 1 (.t 22) (.t 23)),some ⟨21,true⟩⟩,⟨some 25,.p (.load false 1 (.t 24)),some ⟨21,true⟩⟩,⟨some 26,.p (.bin 5 .eql (.t 25) (.c (.int .u8 ((71:Nat):Int)))),some ⟨21,true⟩⟩,po_ 27 (.pick (.t 21) (.t 26) (.c (.bool false))),mv_ 28 27,⟨some 29,.p (.mov (.t 6)),some ⟨28,true⟩⟩,⟨some 30,.p (.mov (.t 5)),some ⟨28,true⟩⟩,⟨some 31,.p (.bin 3 .add (.t 30) (ci_ 1)),some ⟨28,true⟩⟩,⟨some 32,.p (.idxA 1 (.t 29) (.t 31)),some ⟨28,true⟩⟩,⟨some 33,.p (.load false 1 (.t 32)),some ⟨28,true⟩⟩,⟨some 34,.p (.bin 5 .eql (.t 33) (.c (.int .u8 ((72:Nat):Int)))),some ⟨28,true⟩⟩,po_ 35 (.pick (.t 28) (.t 34) (.c (.bool false))),mv_ 7 35] [6,7])
 ALJ
def ALu:AAm := .seq (.ops [mv_ 15 6,mv_ 16 5,po_ 17 (.slV 1 (.t 15) none (some (.t 16))),mv_ 18 1,so_ 19 (.call 10 [.t 17,.t 18]),mv_ 7 19] [5,6,7])
 ALc
def ALi:AAm := .seq (.ops [mv_ 11 0,mv_ 12 5,po_ 13 (.bin 3 .add (.t 12) (ci_ 2)),po_ 14 (.slV 1 (.t 11) none (some (.t 13))),mv_ 6 14] [1,5,6])
 ALu
def ALb:AAm := .seq (.ops [mv_ 9 1,po_ 10 (.lenV (.t 9)),mv_ 5 10] [0,1,5])
 ALi
def AQ8:AAm := .seq (.ops [po_ 4 (.mov (.c (.bool false)))] [0,1])
 ALb
def ARm:List VR:=[.tmp 4]
theorem AWV:Tryz.f19.body.bind (trC Tryz.prog Tryz.f19.ntmps)=some (er AQ8):=by kernel_rfl
theorem AXv:trR Tryz.prog Tryz.f19.results.toList=some ARm:=by kernel_rfl
def AQ2:=AAj ALE.eq_1
def AP7:=AAj ALt.eq_1
def AQk:=AAj AKR.eq_1
def AQP:=AAj ALJ.eq_1
def AQI:=AAj ALc.eq_1
def AQZ:=AAj ALu.eq_1
def AQN:=AAj ALi.eq_1
def AQB:=AAj ALb.eq_1
def ATz:=AAj AQ8.eq_1
theorem AT9 {K:TV→Prop} {e:Env} {H:List Ob}:res ARm e H K=res [.tmp 4] e H K:=AAi rfl
def AHv:=(aI_ (aI_ (aI_ (aI_ @AQ2 @AP7) (aI_ @AQk @AQP)) (aI_ (aI_ @AQI @AQZ) (aI_ @AQN @AQB))) (aI_ @ATz @AT9))
def AV3:=ABp 51 Tryz.func19 AWV AXv rfl
def AM9:AAm := .seq (.block 1 (.seq (.draw 4 [mv_ 17 0,mv_ 18 5,po_ 19 (.idxA 1 (.t 17) (.t 18)),po_ 20 (.load false 1 (.t 19)),mv_ 21 1,mv_ 22 5,po_ 23 (.idxA 1 (.t 21) (.t 22)),po_ 24 (.load false 1 (.t 23)),po_ 25 (.bin 5 .neq (.t 20) (.t 24))] [0,1,5,25])
 (.cond (.t 25)
 (.seq (.ops [po_ 4 (.mov (.c (.bool false)))] [4])
  (.ret))
 (.skip))))
 (.ops [mv_ 15 5,po_ 16 (.bin 3 .add (.t 15) (ci_ 1)),mv_ 5 16] [0,1,5])
def ANi:AAm := .seq (.seq (.ops [mv_ 11 5,mv_ 12 0,po_ 13 (.lenV (.t 12)),po_ 14 (.bin 3 .lss (.t 11) (.t 13))] [0,1,5,14])
 (.cond (.t 14)
 (.skip)
 (.exit 0)))
 AM9
def AM8:AAm := .block 0 (.loop [0,1,5] ANi)
def AMX:AAm := .seq (.ops [po_ 4 (.mov (.c (.bool true)))] [4])
 (.ret)
def AM4:AAm := .seq (.seq (.ops [po_ 5 (.mov (ci_ 0))] [0,1,5])
 AM8)
 AMX
def AMY:AAm := .seq (.seq (.ops [mv_ 6 0,po_ 7 (.lenV (.t 6)),mv_ 8 1,po_ 9 (.lenV (.t 8)),po_ 10 (.bin 3 .neq (.t 7) (.t 9))] [0,1,10])
 (.cond (.t 10)
 (.seq (.ops [po_ 4 (.mov (.c (.bool false)))] [4])
  (.ret))
 (.skip)))
 AM4
def AS9:AAm := .seq (.ops [po_ 4 (.mov (.c (.bool false)))] [0,1])
 AMY
def ATu:List VR:=[.tmp 4]
theorem AXM:Tryz.f10.body.bind (trC Tryz.prog Tryz.f10.ntmps)=some (er AS9):=by kernel_rfl
theorem AYz:trR Tryz.prog Tryz.f10.results.toList=some ATu:=by kernel_rfl
def ARO:=AAj AM9.eq_1
def ARL:=AAj ANi.eq_1
def ARZ:=AAj AM8.eq_1
def AR8:=AAj AMX.eq_1
def ARN:=AAj AM4.eq_1
def AR9:=AAj AMY.eq_1
def AVJ:=AAj AS9.eq_1
theorem AUW {K:TV→Prop} {e:Env} {H:List Ob}:res ATu e H K=res [.tmp 4] e H K:=AAi rfl
def AGV:=(aI_ (aI_ (aI_ @ARO @ARL) (aI_ @ARZ @AR8)) (aI_ (aI_ @ARN @AR9) (aI_ @AVJ @AUW)))
def AV6:=ABp 26 Tryz.func10 AXM AYz rfl
end
section
open Go.RowKit
variable [AAE] [AA4]
theorem AKv.refl {F:Nat→Prop} {w:World} (h:∀ b,F b→b<w.heap.size):AKv F w F w:=⟨rfl,rfl,rfl,Nat.le_refl _,fun _ _=>rfl,fun _ h=>h,fun _ _ h=>h,h⟩
theorem AKv.alloc {F F':Nat→Prop} {w w':World} (h:AKv F w F' w') (o:Obj):AKv F w F' (w'.alloc o) :=
 ⟨h.os,h.tape,h.output,by have:=h.size; simp; omega,fun b hb=>(ABq w' o (Nat.lt_of_lt_of_le hb h.size)).trans (h.same b hb),h.keepF,h.oldF,fun b hb=>by have:=h.ltF b hb; simp; omega⟩
abbrev eno (n:Int):TV := .ifc 33 (i64 n)
theorem A3K {n:Int} {id ver:Nat} {p:List (Nat×Nat)} {x x':TV} {H:List Ob} {K:TV→List Ob→Prop} (ho:H[id]?=some (.obj ver x)) (hs2:AHW p x (i64 n)=some x') (hk:K (tb true) (H.set id (.obj ver x'))) :
  AAs Tryz.prog 36 [eno n,.ifc 78 (.op id ver p)] H K:=by
 intro β F w vs hs hv
 obtain ⟨u,us,rfl,h1,h2⟩:=AAZ.cons.1 hv
 obtain ⟨u2,us2,rfl,h3,h4⟩:=AAZ.cons.1 h2
 rw [AAZ.nil] at h4; subst h4
 -- the two arguments
 have e1:u = .iface 33 (.int .i64 n):=by
  rcases h1 with h | h | ⟨xs0,h,rfl⟩
  ·cases h
  ·cases h
  ·rw [AAq] at h
   obtain ⟨v,rfl,vs,h,rfl⟩:=h
   rw [AAq] at h
   obtain ⟨rfl,_⟩:=h
   rfl
 obtain ⟨b,o,hbo,rfl⟩:∃ b o,β id ver=some (b,o)∧u2 = .iface 78 (.pointer (some ⟨b,o+ABs p,none⟩)):=by
  rcases h3 with h | h | ⟨xs0,h,rfl⟩
  ·cases h
  ·cases h
  ·rw [AAq] at h
   obtain ⟨v,rfl,vs,h,rfl⟩:=h
   rw [AAq] at h
   obtain ⟨_,b,o,hb,rfl⟩:=h
   exact ⟨b,o,hb,rfl⟩
 subst e1
 have hgl:=hs.glob.at AA4.k
 have hg:w.cell? ⟨0,0,none⟩=some (.iface 170 (.agg #[.pointer (some ⟨9,25,none⟩)])):=hgl 0 _ rfl
 have hrow:∀ c w,AAq c w (i64 n) [.int .i64 n]:=fun c w=>by rw [AAq]; exact ⟨rfl,rfl⟩
 obtain ⟨_,_,ht⟩:=hs.store ho hbo hs2 (hrow _ _)
 obtain ⟨t1,t2⟩:=ht 0 (by simp)
 obtain ⟨old,hold⟩:=Option.isSome_iff_exists.1 t1
 refine (BaA n ⟨b,o+ABs p,none⟩ old w hg hold t2).mono ?_
 rintro e w' ⟨rfl,rfl⟩
 have hst:=((((AKv.refl (F:=F) hs.lt).alloc (.cells #[.pointer (some ⟨b,o+ABs p,none⟩)] 78)).alloc (.cells #[.pointer (some ⟨9,78,none⟩),.pointer (some ⟨w.heap.size,0,none⟩),.int .u64 150] 124)).alloc (.cells #[.pointer (some ⟨9,78,none⟩),.pointer (some ⟨w.heap.size,0,none⟩),.int .u64 150] 124)).alloc (.cells #[.int .i64 n] 33)
 obtain ⟨k1,k2,_⟩:=(hst.sim hs).store ho hbo hs2 (hrow _ _)
 exact ⟨_,tb true,β,_,F,rfl,hk,k1,hst.later.trans k2,Rep.of_val⟩
theorem BfC {n:Int}:AAR Tryz.prog 11 [eno n] (fun x=>x=i64 n):=by
 refine AAs.toPureV (ASS (by simp) ?_)
 simp -dsimp (disch:=first | assumption | omega) only [↓AAp,AAk,AAn,AAo,eq_self,Nat.reduceEqDiff,↓reduceIte,reduceCtorEq,↓AQG]
 refine A3K (x:=i64 ((0:Nat):Int)) (x':=i64 n) rfl (by rw [AMm]; rfl) ?_
 simp -dsimp (disch:=first | assumption | omega) only [↓AAp,AAk,AAn,AAo,eq_self,Nat.reduceEqDiff,↓reduceIte,reduceCtorEq,↓AQG]
theorem Bab:AAR Tryz.prog 11 [.val .nilIface] (fun x=>x=i64 ((0:Nat):Int)):=by
 refine AAs.toPureV (ASS (by simp) ?_)
 simp -dsimp (disch:=first | assumption | omega) only [↓AAp,AAk,AAn,AAo,eq_self,Nat.reduceEqDiff,↓reduceIte,reduceCtorEq,↓AQG]
end
section
open Go.RowKit
variable [AAE]
variable {P:Program}
def AYC (P:Program) (f:FuncId) (args:List TV) (R:TV→Prop) (RP:Value→Prop):Prop :=
 ∀ (β:Nat→Nat→Option (Nat×Nat)) (F:Nat→Prop) (w:World) (vs:List Value),((∀ b,F b→b<w.heap.size)∧AFv F w)→AAZ ⟨β,[],F⟩ w args vs →
  Calls P f vs.toArray w fun e w'=>∃ F',AKv F w F' w'∧((∃ v x,e = .returned v∧R x∧Rep ⟨β,[],fun b=>F' b∧w.heap.size≤b⟩ w' x v)∨∃ u,e = .panicked [{ v:=u,recovered:=false }]∧RP u)
theorem AYC.mono {f:FuncId} {args:List TV} {R R':TV→Prop} {RP RP':Value→Prop} (h:AYC P f args R RP) (hr:∀ x,R x→R' x) (hp:∀ u,RP u→RP' u):AYC P f args R' RP' :=
 fun β F w vs hF hv=>(h β F w vs hF hv).mono fun _ _ ⟨F',h1,h2⟩=>⟨F',h1,h2.imp (fun ⟨v,x,k1,k2,k3⟩=>⟨v,x,k1,hr _ k2,k3⟩) fun ⟨u,k1,k2⟩=>⟨u,k1,hp _ k2⟩⟩
def BaG (x x':TV):Prop:=∀ (c:Ctx) (w:World) (v:Value),A0O c w x v→A0O c w x' v
inductive AWR:List TV→List TV→Prop
 | nil:AWR [] []
 | cons {x x':TV} {xs xs':List TV}:BaG x x'→AWR xs xs'→AWR (x::xs) (x'::xs')
theorem AWR.rep {c:Ctx} {w:World} {xs xs':List TV} (h:AWR xs xs'):∀ {vs:List Value},AAZ c w xs vs→AAZ c w xs' vs:=by
 induction h with
 | nil=>exact fun h=>h
 | cons h1 h2 ih =>
  intro vs hv
  rw [AAZ.cons] at hv ⊢
  obtain ⟨u,us,rfl,k1,k2⟩:=hv
  exact ⟨u,us,rfl,h1 _ _ _ k1,ih k2⟩
theorem AZp {k:Nat}:BaG (.val (.slice none 0 0)) (.sl k []):=fun c w v h=>by
 have hv:v = .slice none 0 0:=by
  have h':Rep c w (.val (.slice none 0 0)) v := .inl h
  rw [Rep.val] at h'; exact h'
 subst hv
 refine .inr (.inr ⟨[.slice none 0 0],?_,rfl⟩)
 rw [AAq]
 exact ⟨by simp,.inl ⟨rfl,none,0,rfl,by omega⟩⟩
theorem AAR.argL {f:FuncId} {args args':List TV} {R:TV→Prop} (h:AAR P f args' R) (hc:AWR args args'):AAR P f args R :=
 fun β F w vs hF hv=>h β F w vs hF (hc.rep hv)
theorem AWR.tup {xs xs':List TV} (h:AWR xs xs'):∀ (c:Ctx) (w:World) (v:Value),Rep c w (.tup xs) v→Rep c w (.tup xs') v:=by
 rintro c w v ((h1 | h1 | ⟨us,h1,_⟩) | ⟨ys,vs,h1,h2,h3⟩)
 ·cases h1
 ·cases h1
 ·rw [AAq] at h1; exact h1.elim
 ·cases h1
  exact .inr ⟨xs',vs,rfl,h2,h.rep h3⟩
end
section
variable [AAE]
set_option maxRecDepth 100000
def AFQ:AAm := .seq (.seq (.ops [mv_ 5 1,po_ 6 (.lenV (.t 5)),po_ 7 (.bin 3 .eql (.t 6) (ci_ 0))] [0,1,7])
 (.cond (.t 7)
 (.seq (.ops [mv_ 8 0,so_ 9 (.appS 5 (.t 8) (.c (.string (str [48,48,48,48])))),mv_ 4 9] [4])
  (.ret))
 (.skip)))
 (.seq (.ops [mv_ 10 0,mv_ 11 1,po_ 12 (.lenV (.t 11)),po_ 13 (.bin 3 .add (.t 12) (ci_ 4)),so_ 14 (.call 86 [.t 13]),so_ 15 (.appS 5 (.t 10) (.t 14)),mv_ 16 1,so_ 17 (.app 1 1 5 (.t 15) (.t 16)),mv_ 4 17] [4])
 (.ret))
def AIy:AAm := .seq (.ops [po_ 4 (.mov (.c (.slice none 0 0)))] [0,1])
 AFQ
def AIb:List VR:=[.tmp 4]
theorem AQr:Tryz.f54.body.bind (trC Tryz.prog Tryz.f54.ntmps)=some (er AIy):=by kernel_rfl
theorem AQn:trR Tryz.prog Tryz.f54.results.toList=some AIb:=by kernel_rfl
def AKx:=AAj AFQ.eq_1
def ANu:=AAj AIy.eq_1
theorem ANR {K:TV→Prop} {e:Env} {H:List Ob}:res AIb e H K=res [.tmp 4] e H K:=AAi rfl
def AAK:=(aI_ (aI_ @AKx @ANu) @ANR)
def AHo:=ABp 18 Tryz.func54 AQr AQn rfl
def AJ3:AAm := .seq (.draw 12 [mv_ 3 0,po_ 4 (.bin 3 .shr (.t 3) (.c (.int .u64 ((12:Nat):Int)))),po_ 5 (.bin 3 .and (.t 4) (ci_ 15)),po_ 6 (.idxS (.c (.string (str [48,49,50,51,52,53,54,55,56,57,97,98,99,100,101,102]))) (.t 5)),mv_ 7 0,po_ 8 (.bin 3 .shr (.t 7) (.c (.int .u64 ((8:Nat):Int)))),po_ 9 (.bin 3 .and (.t 8) (ci_ 15)),po_ 10 (.idxS (.c (.string (str [48,49,50,51,52,53,54,55,56,57,97,98,99,100,101,102]))) (.t 9)),mv_ 11 0,po_ 12 (.bin 3 .shr (.t 11) (.c (.int .u64 ((4:Nat):Int)))),po_ 13 (.bin 3 .and (.t 12) (ci_ 15)),po_ 14 (.idxS (.c (.string (str [48,49,50,51,52,53,54,55,56,57,97,98,99,100,101,102]))) (.t 13)),mv_ 15 0,po_ 16 (.bin 3 .and (.t 15) (ci_ 15)),po_ 17 (.idxS (.c (.string (str [48,49,50,51,52,53,54,55,56,57,97,98,99,100,101,102]))) (.t 16)),⟨some 18,.s (.bslice 1 4 (.val (.int .u8 ((0:Nat):Int))) [⟨0,.t 6⟩,⟨1,.t 10⟩,⟨2,.t 14⟩,⟨3,.t 17⟩]),none⟩,po_ 19 (.b2s (.t 18)),mv_ 2 19] [2])
 (.ret)
def AOU:AAm := .seq (.ops [po_ 2 (.mov (.c (.string (str []))))] [0])
 AJ3
def AOT:List VR:=[.tmp 2]
theorem AVn:Tryz.f86.body.bind (trC Tryz.prog Tryz.f86.ntmps)=some (er AOU):=by kernel_rfl
theorem AU5:trR Tryz.prog Tryz.f86.results.toList=some AOT:=by kernel_rfl
def APp:=AAj AJ3.eq_1
def ASX:=AAj AOU.eq_1
theorem AS7 {K:TV→Prop} {e:Env} {H:List Ob}:res AOT e H K=res [.tmp 2] e H K:=AAi rfl
def AVU:=(aI_ (aI_ @APp @ASX) @AS7)
def ATO:=ABp 20 Tryz.func86 AVn AU5 rfl
def AMW:AAm := .seq (.seq (.ops [mv_ 23 4,po_ 24 (.eqN 1 (.t 23) (.c .nilIface) true),mv_ 25 24,⟨some 26,.p (.mov (.t 6)),some ⟨25,false⟩⟩,⟨some 27,.p (.conv .i64 (.t 26)),some ⟨25,false⟩⟩,⟨some 28,.s (.call 86 [.t 27]),some ⟨25,false⟩⟩,⟨some 29,.p (.mov (.t 5)),some ⟨25,false⟩⟩,⟨some 30,.p (.bin 9 .neq (.t 28) (.t 29)),some ⟨25,false⟩⟩,po_ 31 (.pick (.t 25) (.c (.bool true)) (.t 30)),mv_ 32 31,⟨some 33,.p (.mov (.t 6)),some ⟨32,false⟩⟩,⟨some 34,.p (.bin 190 .leq (.t 33) (.c (.int .u64 ((4:Nat):Int)))),some ⟨32,false⟩⟩,po_ 35 (.pick (.t 32) (.c (.bool true)) (.t 34)),mv_ 36 35,⟨some 37,.p (.mov (.t 6)),some ⟨36,false⟩⟩,⟨some 38,.p (.bin 190 .gtr (.t 37) (.c (.int .u64 ((1004:Nat):Int)))),some ⟨36,false⟩⟩,po_ 39 (.pick (.t 36) (.c (.bool true)) (.t 38)),mv_ 40 39,⟨some 41,.p (.mov (.t 6)),some ⟨40,false⟩⟩,⟨some 42,.p (.mov (.t 0)),some ⟨40,false⟩⟩,⟨some 43,.p (.lenV (.t 42)),some ⟨40,false⟩⟩,⟨some 44,.p (.conv .u64 (.t 43)),some ⟨40,false⟩⟩,⟨some 45,.p (.bin 190 .gtr (.t 41) (.t 44)),some ⟨40,false⟩⟩,po_ 46 (.pick (.t 40) (.c (.bool true)) (.t 45))] [0,6,46])
 (.cond (.t 46)
 (.seq (.ops [po_ 47 (.iface 33 (ci_ 110)),po_ 2 (.mov (.c (.slice none 0 0))),po_ 3 (.mov (.c (.slice none 0 0))),mv_ 4 47] [2,3,4])
  (.ret))
 (.skip)))
 (.seq (.draw 3 [mv_ 48 0,mv_ 49 6,po_ 50 (.slV 1 (.t 48) (some (ci_ 4)) (some (.t 49))),mv_ 51 0,mv_ 52 6,po_ 53 (.slV 1 (.t 51) (some (.t 52)) none),mv_ 2 50,mv_ 3 53,po_ 4 (.mov (.c .nilIface))] [2,3,4])
 (.ret))
def AMU:AAm := .seq (.ops [mv_ 19 5,so_ 20 (.call 103 [.t 19,.c (.int .i64 ((16:Nat):Int)),.c (.int .i64 ((16:Nat):Int))]),mv_ 18 20,po_ 21 (.ext 0 (.t 18)),po_ 22 (.ext 1 (.t 18)),mv_ 6 21,mv_ 4 22] [0,4,5,6])
 AMW
def AM5:AAm := .seq (.seq (.ops [mv_ 14 5,po_ 15 (.bin 9 .eql (.t 14) (.c (.string (str [48,48,48,48]))))] [0,5,15])
 (.cond (.t 15)
 (.seq (.draw 2 [mv_ 16 0,po_ 17 (.slV 1 (.t 16) (some (ci_ 4)) none),po_ 2 (.mov (.c (.slice none 0 0))),mv_ 3 17,po_ 4 (.mov (.c .nilIface))] [2,3,4])
  (.ret))
 (.skip)))
 AMU
def AM1:AAm := .seq (.ops [mv_ 11 0,po_ 12 (.slV 1 (.t 11) none (some (ci_ 4))),po_ 13 (.b2s (.t 12)),mv_ 5 13] [0,5])
 AM5
def ANh:AAm := .seq (.seq (.ops [mv_ 7 0,po_ 8 (.lenV (.t 7)),po_ 9 (.bin 3 .lss (.t 8) (ci_ 4))] [0,9])
 (.cond (.t 9)
 (.seq (.ops [po_ 10 (.iface 33 (ci_ 110)),po_ 2 (.mov (.c (.slice none 0 0))),po_ 3 (.mov (.c (.slice none 0 0))),mv_ 4 10] [2,3,4])
  (.ret))
 (.skip)))
 AM1
def AS8:AAm := .seq (.ops [po_ 2 (.mov (.c (.slice none 0 0))),po_ 3 (.mov (.c (.slice none 0 0))),po_ 4 (.mov (.c .nilIface))] [0])
 ANh
def ASB:List VR:=[.tmp 2,.tmp 3,.tmp 4]
theorem AYc:Tryz.f77.body.bind (trC Tryz.prog Tryz.f77.ntmps)=some (er AS8):=by kernel_rfl
theorem AYe:trR Tryz.prog Tryz.f77.results.toList=some ASB:=by kernel_rfl
def AJ7:=AAj AMW.eq_1
def ARP:=AAj AMU.eq_1
def AJS:=AAj AM5.eq_1
def AJ1:=AAj AM1.eq_1
def AFF:=AAj ANh.eq_1
def AJe:=AAj AS8.eq_1
theorem ABJ {K:TV→Prop} {e:Env} {H:List Ob}:res ASB e H K=res [.tmp 2,.tmp 3,.tmp 4] e H K:=AAi rfl
def AXp:=ABp 54 Tryz.func77 AYc AYe rfl
def ALh:AAm := .seq (.seq (.ops [mv_ 17 7,po_ 18 (.eqN 1 (.t 17) (.c .nilIface) true)] [4,5,6,7,18])
 (.cond (.t 18)
 (.seq (.ops [mv_ 19 7,po_ 2 (.mov (.c (.slice none 0 0))),mv_ 3 19] [2,3])
  (.ret))
 (.skip)))
 (.seq (.ops [mv_ 20 4,mv_ 21 5,so_ 22 (.call 81 [.t 21]),⟨some 23,.s (.bslice 1 1 (.val (.slice none 0 0)) [⟨0,.t 22⟩]),none⟩,so_ 24 (.app 1 24 23 (.t 20) (.t 23)),mv_ 4 24] [4,6])
 (.ops [mv_ 25 6,mv_ 0 25] [0,4]))
def ALm:AAm := .block 1 (.seq (.ops [mv_ 12 0,so_ 13 (.call 77 [.t 12]),mv_ 11 13,po_ 14 (.ext 0 (.t 11)),po_ 15 (.ext 1 (.t 11)),po_ 16 (.ext 2 (.t 11)),mv_ 5 14,mv_ 6 15,mv_ 7 16] [4,5,6,7])
 ALh)
def ALS:AAm := .seq (.seq (.ops [mv_ 8 0,po_ 9 (.lenV (.t 8)),po_ 10 (.bin 3 .gtr (.t 9) (ci_ 0))] [0,4,10])
 (.cond (.t 10)
 (.skip)
 (.exit 0)))
 ALm
def AK2:AAm := .seq (.ops [mv_ 26 4,mv_ 2 26,po_ 3 (.mov (.c .nilIface))] [2,3])
 (.ret)
def ALD:AAm := .seq (.block 0 (.own 4 1 (.loop [0,4] ALS)))
 AK2
def AK1:AAm := .seq (.ops [po_ 4 (.mov (.c (.slice none 0 0)))] [0,4])
 ALD
def ARC:AAm := .seq (.ops [po_ 2 (.mov (.c (.slice none 0 0))),po_ 3 (.mov (.c .nilIface))] [0])
 AK1
def ARs:List VR:=[.tmp 2,.tmp 3]
theorem AWT:Tryz.f94.body.bind (trC Tryz.prog Tryz.f94.ntmps)=some (er ARC):=by kernel_rfl
theorem AXl:trR Tryz.prog Tryz.f94.results.toList=some ARs:=by kernel_rfl
def AIk:=AAj ALh.eq_1
def AQY:=AAj ALm.eq_1
def AI0:=AAj ALS.eq_1
def AQh:=AAj AK2.eq_1
def AQL:=AAj ALD.eq_1
def APZ:=AAj AK1.eq_1
def ATM:=AAj ARC.eq_1
theorem AM2 {K:TV→Prop} {e:Env} {H:List Ob}:res ARs e H K=res [.tmp 2,.tmp 3] e H K:=AAi rfl
def AVq:=ABp 27 Tryz.func94 AWT AXl rfl
def ALe:AAm := .seq (.block 1 (.seq (.ops [po_ 21 (.idxA 1 (.t 17) (.t 19)),po_ 22 (.load false 1 (.t 21)),mv_ 8 22] [6,8,17,18,19])
 (.ops [mv_ 23 6,mv_ 24 8,po_ 25 (.b2s (.t 24)),so_ 26 (.call 79 [.t 25,.c (.string (str [10]))]),so_ 27 (.call 78 [.t 26,.c (.string (str [32]))]),⟨some 28,.s (.bslice 1 1 (.val (.slice none 0 0)) [⟨0,.t 27⟩]),none⟩,so_ 29 (.app 1 24 111 (.t 23) (.t 28)),mv_ 6 29] [6,17,18,19])))
 (.ops [po_ 30 (.bin 3 .add (.t 19) (ci_ 1)),mv_ 19 30] [6,17,18,19])
def ALG:AAm := .seq (.cond (.t 20)
 (.skip)
 (.exit 0))
 ALe
def AL6:AAm := .seq (.ops [po_ 20 (.bin 3 .lss (.t 19) (.t 18))] [6,17,18,19,20])
 ALG
def ALA:AAm := .block 0 (.own 6 1 (.loop [6,17,18,19] AL6))
def AMf:AAm := .seq (.ops [mv_ 31 6,mv_ 2 31,po_ 3 (.mov (.c .nilIface))] [2,3])
 (.ret)
def AL3:AAm := .seq (.seq (.ops [mv_ 17 4,po_ 18 (.lenV (.t 17)),po_ 19 (.mov (ci_ 0))] [6,17,18,19])
 ALA)
 AMf
def ALF:AAm := .seq (.ops [po_ 6 (.mov (.c (.slice none 0 0)))] [4,6])
 AL3
def ALC:AAm := .seq (.seq (.ops [mv_ 14 5,po_ 15 (.eqN 1 (.t 14) (.c .nilIface) true)] [4,5,15])
 (.cond (.t 15)
 (.seq (.ops [mv_ 16 5,po_ 2 (.mov (.c (.slice none 0 0))),mv_ 3 16] [2,3])
  (.ret))
 (.skip)))
 ALF
def ALP:AAm := .seq (.ops [mv_ 10 0,so_ 11 (.call 94 [.t 10]),mv_ 9 11,po_ 12 (.ext 0 (.t 9)),po_ 13 (.ext 1 (.t 9)),mv_ 4 12,mv_ 5 13] [4,5])
 ALC
def ARc:AAm := .seq (.ops [po_ 2 (.mov (.c (.slice none 0 0))),po_ 3 (.mov (.c .nilIface))] [0])
 ALP
def AQ6:List VR:=[.tmp 2,.tmp 3]
theorem AXs:Tryz.f64.body.bind (trC Tryz.prog Tryz.f64.ntmps)=some (er ARc):=by kernel_rfl
theorem AWW:trR Tryz.prog Tryz.f64.results.toList=some AQ6:=by kernel_rfl
def AIh:=AAj ALe.eq_1
def AEN:=AAj ALG.eq_1
def AET:=AAj AL6.eq_1
def AQm:=AAj ALA.eq_1
def AQo:=AAj AMf.eq_1
def AP2:=AAj AL3.eq_1
def APU:=AAj ALF.eq_1
def AIG:=AAj ALC.eq_1
def AQc:=AAj ALP.eq_1
def ATV:=AAj ARc.eq_1
theorem ANa {K:TV→Prop} {e:Env} {H:List Ob}:res AQ6 e H K=res [.tmp 2,.tmp 3] e H K:=AAi rfl
def AVP:=ABp 32 Tryz.func64 AXs AWW rfl
def ARv:AAm := .seq (.ops [po_ 6 (.mov (.c .nilIface))] [0,1,2])
 (.seq (.seq (.ops [mv_ 7 2,po_ 8 (.eqN 1 (.t 7) (.c .nilIface) true),mv_ 9 8,⟨some 10,.p (.mov (.t 0)),some ⟨9,false⟩⟩,⟨some 11,.p (.mov (.t 1)),some ⟨9,false⟩⟩,⟨some 12,.s (.call 96 [.t 10,.t 11]),some ⟨9,false⟩⟩,⟨some 13,.p (.un .not (.t 12)),some ⟨9,false⟩⟩,po_ 14 (.pick (.t 9) (.c (.bool true)) (.t 13))] [14])
 (.cond (.t 14)
 (.seq (.ops [po_ 15 (.iface 33 (ci_ 111)),mv_ 6 15] [6])
  (.ret))
 (.skip)))
 (.seq (.ops [po_ 6 (.mov (.c .nilIface))] [6])
 (.ret)))
def ARA:List VR:=[.tmp 6]
theorem AWb:Tryz.f66.body.bind (trC Tryz.prog Tryz.f66.ntmps)=some (er ARv):=by kernel_rfl
theorem AXu:trR Tryz.prog Tryz.f66.results.toList=some ARA:=by kernel_rfl
def AM3:=AAj ARv.eq_1
theorem AHI {K:TV→Prop} {e:Env} {H:List Ob}:res ARA e H K=res [.tmp 6] e H K:=AAi rfl
def AOh:=ABp 16 Tryz.func66 AWb AXu rfl
def AKm:AAm := .ops [mv_ 4 0,mv_ 5 0,po_ 6 (.nilc (.t 5)),po_ 7 (.fieldA 1 1 (.t 6)),po_ 8 (.load false 1 (.t 7)),mv_ 9 8,⟨some 10,.p (.mov (.t 1)),some ⟨9,false⟩⟩,⟨some 11,.p (.un .not (.t 10)),some ⟨9,false⟩⟩,po_ 12 (.pick (.t 9) (.c (.bool true)) (.t 11)),po_ 13 (.nilc (.t 4)),po_ 14 (.fieldA 1 1 (.t 13)),⟨none,.s (.store 1 (.t 14) (.t 12)),none⟩] []
def AJP:List VR:=[]
theorem ARU:Tryz.f27.body.bind (trC Tryz.prog Tryz.f27.ntmps)=some (er AKm):=by kernel_rfl
theorem ARS:trR Tryz.prog Tryz.f27.results.toList=some AJP:=by kernel_rfl
def APn:=AAj AKm.eq_1
theorem APi {K:TV→Prop} {e:Env} {H:List Ob}:res AJP e H K=res [] e H K:=AAi rfl
def AKa:=(aI_ @APn @APi)
def AQp:=ABp 15 Tryz.func27 ARU ARS rfl
def AMb:AAm := .sdraw 5 [mv_ 4 0,mv_ 5 0,po_ 6 (.nilc (.t 5)),po_ 7 (.fieldA 0 0 (.t 6)),po_ 8 (.load false 1 (.t 7)),mv_ 9 1,so_ 10 (.call 55 [.t 9,.c (.string (str [32]))]),po_ 11 (.bin 9 .add (.t 10) (.c (.string (str [10])))),so_ 12 (.s2b (.t 11)),so_ 13 (.call 54 [.t 8,.t 12]),po_ 14 (.nilc (.t 4)),po_ 15 (.fieldA 0 0 (.t 14)),⟨none,.s (.store 1 (.t 15) (.t 13)),none⟩] []
def AL0:List VR:=[]
theorem ASr:Tryz.f29.body.bind (trC Tryz.prog Tryz.f29.ntmps)=some (er AMb):=by kernel_rfl
theorem ASp:trR Tryz.prog Tryz.f29.results.toList=some AL0:=by kernel_rfl
def AQs:=AAj AMb.eq_1
theorem AP4 {K:TV→Prop} {e:Env} {H:List Ob}:res AL0 e H K=res [] e H K:=AAi rfl
def ATo:=(aI_ @AQs @AP4)
def AR3:=ABp 16 Tryz.func29 ASr ASp rfl
def AH0:AAm := .ops [mv_ 2 0,mv_ 3 0,po_ 4 (.nilc (.t 3)),po_ 5 (.fieldA 0 0 (.t 4)),po_ 6 (.load false 1 (.t 5)),so_ 7 (.appS 5 (.t 6) (.c (.string (str [48,48,48,48])))),po_ 8 (.nilc (.t 2)),po_ 9 (.fieldA 0 0 (.t 8)),⟨none,.s (.store 1 (.t 9) (.t 7)),none⟩] []
def AIL:List VR:=[]
theorem AQu:Tryz.f31.body.bind (trC Tryz.prog Tryz.f31.ntmps)=some (er AH0):=by kernel_rfl
theorem AQE:trR Tryz.prog Tryz.f31.results.toList=some AIL:=by kernel_rfl
def ANN:=AAj AH0.eq_1
theorem AN2 {K:TV→Prop} {e:Env} {H:List Ob}:res AIL e H K=res [] e H K:=AAi rfl
def AH7:=(aI_ @ANN @AN2)
def APm:=ABp 10 Tryz.func31 AQu AQE rfl
def AGS:AAm := .seq (.seq (.ops [mv_ 4 0,po_ 5 (.nilc (.t 4)),po_ 6 (.fieldA 1 1 (.t 5)),po_ 7 (.load false 1 (.t 6))] [0,7])
 (.cond (.t 7)
 (.seq (.ops [po_ 8 (.iface 33 (ci_ 111)),po_ 2 (.mov (.c (.slice none 0 0))),mv_ 3 8] [2,3])
  (.ret))
 (.skip)))
 (.seq (.ops [mv_ 9 0,po_ 10 (.nilc (.t 9)),po_ 11 (.fieldA 0 0 (.t 10)),po_ 12 (.load false 1 (.t 11)),mv_ 2 12,po_ 3 (.mov (.c .nilIface))] [2,3])
 (.ret))
def AKp:AAm := .seq (.ops [po_ 2 (.mov (.c (.slice none 0 0))),po_ 3 (.mov (.c .nilIface))] [0])
 AGS
def AJB:List VR:=[.tmp 2,.tmp 3]
theorem ARR:Tryz.f32.body.bind (trC Tryz.prog Tryz.f32.ntmps)=some (er AKp):=by kernel_rfl
theorem ARH:trR Tryz.prog Tryz.f32.results.toList=some AJB:=by kernel_rfl
def AKT:=AAj AGS.eq_1
def AOM:=AAj AKp.eq_1
theorem AOC {K:TV→Prop} {e:Env} {H:List Ob}:res AJB e H K=res [.tmp 2,.tmp 3] e H K:=AAi rfl
def AJM:=(aI_ (aI_ @AKT @AOM) @AOC)
def AQ1:=ABp 13 Tryz.func32 ARR ARH rfl
def AIp:AAm := .seq (.draw 12 [mv_ 3 0,po_ 4 (.bin 3 .quo (.t 3) (ci_ 4096)),po_ 5 (.bin 3 .rem (.t 4) (ci_ 16)),po_ 6 (.idxS (.c (.string (str [48,49,50,51,52,53,54,55,56,57,97,98,99,100,101,102]))) (.t 5)),mv_ 7 0,po_ 8 (.bin 3 .quo (.t 7) (ci_ 256)),po_ 9 (.bin 3 .rem (.t 8) (ci_ 16)),po_ 10 (.idxS (.c (.string (str [48,49,50,51,52,53,54,55,56,57,97,98,99,100,101,102]))) (.t 9)),mv_ 11 0,po_ 12 (.bin 3 .quo (.t 11) (ci_ 16)),po_ 13 (.bin 3 .rem (.t 12) (ci_ 16)),po_ 14 (.idxS (.c (.string (str [48,49,50,51,52,53,54,55,56,57,97,98,99,100,101,102]))) (.t 13)),mv_ 15 0,po_ 16 (.bin 3 .rem (.t 15) (ci_ 16)),po_ 17 (.idxS (.c (.string (str [48,49,50,51,52,53,54,55,56,57,97,98,99,100,101,102]))) (.t 16)),⟨some 18,.s (.bslice 1 4 (.val (.int .u8 ((0:Nat):Int))) [⟨0,.t 6⟩,⟨1,.t 10⟩,⟨2,.t 14⟩,⟨3,.t 17⟩]),none⟩,po_ 19 (.b2s (.t 18)),mv_ 2 19] [2])
 (.ret)
def AM6:AAm := .seq (.ops [po_ 2 (.mov (.c (.string (str []))))] [0])
 AIp
def AMZ:List VR:=[.tmp 2]
theorem ATU:Tryz.f90.body.bind (trC Tryz.prog Tryz.f90.ntmps)=some (er AM6):=by kernel_rfl
theorem AT7:trR Tryz.prog Tryz.f90.results.toList=some AMZ:=by kernel_rfl
def ANO:=AAj AIp.eq_1
def AR5:=AAj AM6.eq_1
theorem ARI {K:TV→Prop} {e:Env} {H:List Ob}:res AMZ e H K=res [.tmp 2] e H K:=AAi rfl
def ATW:=(aI_ (aI_ @ANO @AR5) @ARI)
def ASQ:=ABp 20 Tryz.func90 ATU AT7 rfl
def ALg:AAm := .seq (.seq (.ops [mv_ 3 0,po_ 4 (.lenV (.t 3)),po_ 5 (.bin 3 .eql (.t 4) (ci_ 0))] [0,5])
 (.cond (.t 5)
 (.seq (.ops [⟨some 6,.s (.bslice 1 4 (.val (.int .u8 ((0:Nat):Int))) [⟨0,.c (.int .u8 ((48:Nat):Int))⟩,⟨1,.c (.int .u8 ((48:Nat):Int))⟩,⟨2,.c (.int .u8 ((48:Nat):Int))⟩,⟨3,.c (.int .u8 ((48:Nat):Int))⟩]),none⟩,so_ 7 (.cvS (.t 6)),mv_ 2 7] [2])
  (.ret))
 (.skip)))
 (.seq (.ops [mv_ 8 0,po_ 9 (.lenV (.t 8)),po_ 10 (.bin 3 .add (.t 9) (ci_ 4)),so_ 11 (.call 90 [.t 10]),so_ 12 (.s2b (.t 11)),mv_ 13 0,so_ 14 (.app 1 1 5 (.t 12) (.t 13)),mv_ 2 14] [2])
 (.ret))
def ARw:AAm := .seq (.ops [po_ 2 (.mov (.c (.slice none 0 0)))] [0])
 ALg
def ARF:List VR:=[.tmp 2]
theorem AWh:Tryz.f58.body.bind (trC Tryz.prog Tryz.f58.ntmps)=some (er ARw):=by kernel_rfl
theorem AXq:trR Tryz.prog Tryz.f58.results.toList=some ARF:=by kernel_rfl
def AIA:=AAj ALg.eq_1
def AM7:=AAj ARw.eq_1
theorem AMV {K:TV→Prop} {e:Env} {H:List Ob}:res ARF e H K=res [.tmp 2] e H K:=AAi rfl
def AUQ:=ABp 15 Tryz.func58 AWh AXq rfl
def ALT:AAm := .seq (.seq (.ops [mv_ 25 0,po_ 26 (.lenV (.t 25)),mv_ 27 5,po_ 28 (.bin 3 .add (ci_ 4) (.t 27)),po_ 29 (.bin 3 .lss (.t 26) (.t 28))] [0,5,29])
 (.cond (.t 29)
 (.seq (.ops [mv_ 30 0,po_ 2 (.mov (.c (.slice none 0 0))),mv_ 3 30,po_ 4 (.mov (.c (.bool false)))] [2,3,4])
  (.ret))
 (.skip)))
 (.seq (.draw 5 [mv_ 31 0,mv_ 32 5,po_ 33 (.bin 3 .add (ci_ 4) (.t 32)),po_ 34 (.slV 1 (.t 31) (some (ci_ 4)) (some (.t 33))),mv_ 35 0,mv_ 36 5,po_ 37 (.bin 3 .add (ci_ 4) (.t 36)),po_ 38 (.slV 1 (.t 35) (some (.t 37)) none),mv_ 2 34,mv_ 3 38,po_ 4 (.mov (.c (.bool true)))] [2,3,4])
 (.ret))
def ALM:AAm := .cond (.t 24)
 ALT
 (.skip)
def AGO:AAm := .seq (.ops [mv_ 20 0,po_ 21 (.slV 1 (.t 20) none (some (ci_ 4))),po_ 22 (.b2s (.t 21)),mv_ 23 6,po_ 24 (.bin 9 .eql (.t 22) (.t 23))] [0,5,24])
 ALM
def ALp:AAm := .seq (.seq (.ops [mv_ 18 5,po_ 19 (.bin 3 .eql (.t 18) (ci_ 0))] [0,5,6,19])
 (.cond (.t 19)
 (.ops [po_ 6 (.mov (.c (.string (str [48,48,48,48]))))] [0,5,6])
 (.skip)))
 AGO
def AL9:AAm := .seq (.block 1 (.seq (.ops [mv_ 15 5,po_ 16 (.bin 3 .add (.t 15) (ci_ 4)),so_ 17 (.call 90 [.t 16]),mv_ 6 17] [0,5,6])
 ALp))
 (.ops [mv_ 13 5,po_ 14 (.bin 3 .add (.t 13) (ci_ 1)),mv_ 5 14] [0,5])
def AK7:AAm := .seq (.seq (.ops [mv_ 11 5,po_ 12 (.bin 3 .leq (.t 11) (ci_ 1000))] [0,5,12])
 (.cond (.t 12)
 (.skip)
 (.exit 0)))
 AL9
def AK6:AAm := .block 0 (.loop [0,5] AK7)
def AMi:AAm := .seq (.ops [mv_ 39 0,po_ 2 (.mov (.c (.slice none 0 0))),mv_ 3 39,po_ 4 (.mov (.c (.bool false)))] [2,3,4])
 (.ret)
def ALK:AAm := .seq (.seq (.ops [po_ 5 (.mov (ci_ 0))] [0,5])
 AK6)
 AMi
def AJH:AAm := .seq (.seq (.ops [mv_ 7 0,po_ 8 (.lenV (.t 7)),po_ 9 (.bin 3 .lss (.t 8) (ci_ 4))] [0,9])
 (.cond (.t 9)
 (.seq (.ops [mv_ 10 0,po_ 2 (.mov (.c (.slice none 0 0))),mv_ 3 10,po_ 4 (.mov (.c (.bool false)))] [2,3,4])
  (.ret))
 (.skip)))
 ALK
def ARp:AAm := .seq (.ops [po_ 2 (.mov (.c (.slice none 0 0))),po_ 3 (.mov (.c (.slice none 0 0))),po_ 4 (.mov (.c (.bool false)))] [0])
 AJH
def ARy:List VR:=[.tmp 2,.tmp 3,.tmp 4]
theorem AWf:Tryz.f82.body.bind (trC Tryz.prog Tryz.f82.ntmps)=some (er ARp):=by kernel_rfl
theorem AWs:trR Tryz.prog Tryz.f82.results.toList=some ARy:=by kernel_rfl
def AIO:=AAj ALT.eq_1
def AEy:=AAj ALM.eq_1
def AEH:=AAj AGO.eq_1
def AIz:=AAj ALp.eq_1
def AIj:=AAj AL9.eq_1
def AEL:=AAj AK7.eq_1
def AQV:=AAj AK6.eq_1
def AQK:=AAj AMi.eq_1
def AP8:=AAj ALK.eq_1
def AHq:=AAj AJH.eq_1
def ANe:=AAj ARp.eq_1
theorem ACB {K:TV→Prop} {e:Env} {H:List Ob}:res ARy e H K=res [.tmp 2,.tmp 3,.tmp 4] e H K:=AAi rfl
def AVM:=ABp 40 Tryz.func82 AWf AWs rfl
def AJE:AAm := .block 1 (.seq (.ops [mv_ 12 0,so_ 13 (.call 82 [.t 12]),mv_ 11 13,po_ 14 (.ext 0 (.t 11)),po_ 15 (.ext 1 (.t 11)),po_ 16 (.ext 2 (.t 11)),mv_ 5 14,mv_ 6 15,mv_ 7 16] [4,5,6,7])
 (.seq (.seq (.ops [mv_ 17 7,po_ 18 (.un .not (.t 17))] [4,5,6,18])
 (.cond (.t 18)
 (.seq (.ops [po_ 2 (.mov (.c (.slice none 0 0))),po_ 3 (.mov (.c (.bool false)))] [2,3])
  (.ret))
 (.skip)))
 (.seq (.ops [mv_ 19 4,mv_ 20 5,⟨some 21,.s (.bslice 1 1 (.val (.slice none 0 0)) [⟨0,.t 20⟩]),none⟩,so_ 22 (.app 1 24 23 (.t 19) (.t 21)),mv_ 4 22] [4,6])
 (.ops [mv_ 23 6,mv_ 0 23] [0,4]))))
def AKh:AAm := .seq (.seq (.ops [mv_ 8 0,po_ 9 (.lenV (.t 8)),po_ 10 (.bin 3 .gtr (.t 9) (ci_ 0))] [0,4,10])
 (.cond (.t 10)
 (.skip)
 (.exit 0)))
 AJE
def AJ9:AAm := .seq (.ops [mv_ 24 4,mv_ 2 24,po_ 3 (.mov (.c (.bool true)))] [2,3])
 (.ret)
def AJL:AAm := .seq (.block 0 (.own 4 1 (.loop [0,4] AKh)))
 AJ9
def AJX:AAm := .seq (.ops [po_ 4 (.mov (.c (.slice none 0 0)))] [0,4])
 AJL
def AOW:AAm := .seq (.ops [po_ 2 (.mov (.c (.slice none 0 0))),po_ 3 (.mov (.c (.bool false)))] [0])
 AJX
def AOA:List VR:=[.tmp 2,.tmp 3]
theorem AVc:Tryz.f67.body.bind (trC Tryz.prog Tryz.f67.ntmps)=some (er AOW):=by kernel_rfl
theorem AUR:trR Tryz.prog Tryz.f67.results.toList=some AOA:=by kernel_rfl
def APs:=AAj AJE.eq_1
def AHn:=AAj AKh.eq_1
def AO8:=AAj AJ9.eq_1
def AOO:=AAj AJL.eq_1
def APr:=AAj AJX.eq_1
def ATs:=AAj AOW.eq_1
theorem ALy {K:TV→Prop} {e:Env} {H:List Ob}:res AOA e H K=res [.tmp 2,.tmp 3] e H K:=AAi rfl
def ATD:=ABp 25 Tryz.func67 AVc AUR rfl
def AQ9:AAm := .seq (.ops [po_ 2 (.mov (.c (.slice none 0 0)))] [0])
 (.seq (.ops [mv_ 3 0,po_ 4 (.bin 9 .add (.t 3) (.c (.string (str [10])))),so_ 5 (.s2b (.t 4)),so_ 6 (.call 58 [.t 5]),mv_ 2 6] [2])
 (.ret))
def ARq:List VR:=[.tmp 2]
theorem AWd:Tryz.f34.body.bind (trC Tryz.prog Tryz.f34.ntmps)=some (er AQ9):=by kernel_rfl
theorem AXy:trR Tryz.prog Tryz.f34.results.toList=some ARq:=by kernel_rfl
def AUb:=AAj AQ9.eq_1
theorem ATA {K:TV→Prop} {e:Env} {H:List Ob}:res ARq e H K=res [.tmp 2] e H K:=AAi rfl
def AVh:=ABp 7 Tryz.func34 AWd AXy rfl
def AJU:AAm := .seq (.seq (.ops [mv_ 24 0,mv_ 25 5,po_ 26 (.idxA 1 (.t 24) (.t 25)),po_ 27 (.load false 1 (.t 26)),po_ 28 (.bin 5 .eql (.t 27) (.c (.int .u8 ((32:Nat):Int))))] [0,3,4,5,28])
 (.cond (.t 28)
 (.seq (.ops [mv_ 29 3,mv_ 30 4,⟨some 31,.s (.bslice 1 1 (.val (.string (str []))) [⟨0,.t 30⟩]),none⟩,so_ 32 (.app 1 16 9 (.t 29) (.t 31)),mv_ 3 32] [0,3,5])
  (.seq (.ops [po_ 4 (.mov (.c (.string (str []))))] [0,3,4,5])
  (.exit 1)))
 (.skip)))
 (.ops [mv_ 33 4,mv_ 34 0,mv_ 35 5,po_ 36 (.idxA 1 (.t 34) (.t 35)),po_ 37 (.load false 1 (.t 36)),⟨some 38,.s (.bslice 1 1 (.val (.int .u8 ((0:Nat):Int))) [⟨0,.t 37⟩]),none⟩,po_ 39 (.b2s (.t 38)),po_ 40 (.bin 9 .add (.t 33) (.t 39)),mv_ 4 40] [0,3,4,5])
def AKl:AAm := .seq (.block 1 (.seq (.seq (.ops [mv_ 12 0,mv_ 13 5,po_ 14 (.idxA 1 (.t 12) (.t 13)),po_ 15 (.load false 1 (.t 14)),po_ 16 (.bin 5 .eql (.t 15) (.c (.int .u8 ((10:Nat):Int)))),mv_ 17 16,⟨some 18,.p (.mov (.t 5)),some ⟨17,true⟩⟩,⟨some 19,.p (.bin 3 .add (.t 18) (ci_ 1)),some ⟨17,true⟩⟩,⟨some 20,.p (.mov (.t 0)),some ⟨17,true⟩⟩,⟨some 21,.p (.lenV (.t 20)),some ⟨17,true⟩⟩,⟨some 22,.p (.bin 3 .eql (.t 19) (.t 21)),some ⟨17,true⟩⟩,po_ 23 (.pick (.t 17) (.t 22) (.c (.bool false)))] [0,3,4,5,23])
 (.cond (.t 23)
 (.exit 0)
 (.skip)))
 AJU))
 (.ops [mv_ 10 5,po_ 11 (.bin 3 .add (.t 10) (ci_ 1)),mv_ 5 11] [0,3,4,5])
def AJR:AAm := .seq (.seq (.ops [mv_ 6 5,mv_ 7 0,po_ 8 (.lenV (.t 7)),po_ 9 (.bin 3 .lss (.t 6) (.t 8))] [0,3,4,5,9])
 (.cond (.t 9)
 (.skip)
 (.exit 0)))
 AKl
def AKq:AAm := .block 0 (.own 3 1 (.loop [0,3,4,5] AJR))
def AKk:AAm := .seq (.ops [mv_ 41 3,mv_ 42 4,⟨some 43,.s (.bslice 1 1 (.val (.string (str []))) [⟨0,.t 42⟩]),none⟩,so_ 44 (.app 1 16 9 (.t 41) (.t 43)),mv_ 2 44] [2])
 (.ret)
def AJD:AAm := .seq (.seq (.ops [po_ 5 (.mov (ci_ 0))] [0,3,4,5])
 AKq)
 AKk
def AKn:AAm := .seq (.ops [po_ 4 (.mov (.c (.string (str []))))] [0,3,4])
 AJD
def AJF:AAm := .seq (.ops [po_ 3 (.mov (.c (.slice none 0 0)))] [0,3])
 AKn
def AOw:AAm := .seq (.ops [po_ 2 (.mov (.c (.slice none 0 0)))] [0])
 AJF
def AOF:List VR:=[.tmp 2]
theorem AVf:Tryz.f68.body.bind (trC Tryz.prog Tryz.f68.ntmps)=some (er AOw):=by kernel_rfl
theorem AVy:trR Tryz.prog Tryz.f68.results.toList=some AOF:=by kernel_rfl
def ADT:=AAj AJU.eq_1
def ACF:=AAj AKl.eq_1
def ABL:=AAj AJR.eq_1
def AO2:=AAj AKq.eq_1
def AHj:=AAj AKk.eq_1
def AOS:=AAj AJD.eq_1
def AOZ:=AAj AKn.eq_1
def APg:=AAj AJF.eq_1
def ASZ:=AAj AOw.eq_1
theorem ALo {K:TV→Prop} {e:Env} {H:List Ob}:res AOF e H K=res [.tmp 2] e H K:=AAi rfl
def ATL:=ABp 45 Tryz.func68 AVf AVy rfl
end
section
open Go.RowKit
variable [AAE]
abbrev ANb:TV := .val (.slice none 0 0)
theorem BfP {n:Nat}:List.take 4 ((((((List.replicate 4 (TV.val (.int .u8 ((0:Nat):Int)))).set 0 (by8 (dig (n / 4096 % 16)))).set 1 (by8 (dig (n / 256 % 16)))).set 2 (by8 (dig (n / 16 % 16)))).set 3 (by8 (dig (n % 16)))))=(APS n).map by8:=by simp [APS]
theorem AOd (n:Nat) (hn:n≤5000000):AAR Tryz.prog 86 [i64 (n:Int)] (fun x=>x = .val (.string (str (APS n)))):=by
 refine AAs.toPureV (ATO (by simp) ?_)
 have a1:=ACZ (n / 4096 % 16) (by omega)
 have a2:=ACZ (n / 256 % 16) (by omega)
 have a3:=ACZ (n / 16 % 16) (by omega)
 have a4:=ACZ (n % 16) (by omega)
 simp -dsimp (disch:=first | assumption | omega) only [↓AAp,AAk,AAn,AAo,eq_self,Nat.reduceEqDiff,Nat.reducePow,↓reduceIte,reduceCtorEq,Nat.reduceLeDiff,↓AVU,A6M,←AYu,Bbp,a1,a2,a3,a4,BfP]
theorem AVj (n:Nat) (hn:n≤65535):AAR Tryz.prog 90 [i64 (n:Int)] (fun x=>x = .val (.string (str (APS n)))):=by
 refine AAs.toPureV (ASQ (by simp) ?_)
 have a1:=ACZ (n / 4096 % 16) (by omega)
 have a2:=ACZ (n / 256 % 16) (by omega)
 have a3:=ACZ (n / 16 % 16) (by omega)
 have a4:=ACZ (n % 16) (by omega)
 simp -dsimp (disch:=first | assumption | omega) only [↓AAp,AAk,AAn,AAo,eq_self,Nat.reduceEqDiff,↓reduceIte,reduceCtorEq,Nat.reduceLeDiff,↓ATW,A6M,←AYu,a1,a2,a3,a4,BfP]
def AGg (x:List UInt8):TV:=if x=[] then ANb else slB x
def Bb8 (b:List UInt8) (r:TV):Prop:=(∀ x s,x.length≤1000→AA7 x++s=b→r = .tup [AGg x,slB s,.val .nilIface])∧((∀ x s,x.length≤1000→AA7 x++s≠b)→r = .tup [ANb,ANb,eno 110])
variable [AAx] [AAz]
theorem BeA (b:List UInt8) (hb:b.length≤1000000):AAR Tryz.prog 77 [slB b] (Bb8 b):=by
 refine AAs.toPureV (AXp (by simp) ?_)
 have no:(∀ x s,x.length≤1000→AA7 x++s≠b)→Bb8 b (.tup [ANb,ANb,eno 110]):=fun h=>⟨fun x s hx e=>absurd e (h x s hx),fun _=>rfl⟩
 by_cases h4:4≤b.length
 case neg =>
  simp -dsimp (disch:=first | assumption | omega | (simp only [AAl];try omega)) only [↓AAp,AAk,AAn,AAo,eq_self,Nat.reduceEqDiff,↓reduceIte,reduceCtorEq,↓AJe,↓AFF,↓ABJ]
  exact no fun x s hx e=>by have:=(ABy e).2.2; omega
 have ht4:((b.map by8).take 4).length=4:=by simp; omega
 have htl:(b.take 4).length=4:=by simp; omega
 by_cases hz:b.take 4=AKJ
 ·have hz':(b.take 4=[48,48,48,48])=True:=eq_true hz
  simp -dsimp (disch:=first | assumption | omega | (simp only [AAl];try omega)) only [↓AAp,AAk,AAn,AAo,eq_self,Nat.reduceEqDiff,↓reduceIte,reduceCtorEq,hz',↓AJe,↓AFF,↓AJ1,↓AJS,↓ABJ]
  refine ⟨fun x s hx e => ?_,fun h=>absurd (AW5 hz) (h [] _ (by simp))⟩
  obtain ⟨rfl,rfl⟩:=AOR hx (by simp) (e.trans (AW5 hz).symm)
  rfl
 have hz':¬ b.take 4=[48,48,48,48]:=hz
 have hne:∀ x s,x.length≤1000→AA7 x++s=b→b.take 4=APS (x.length+4):=fun x s hx e=>by
  have h:=(ABy e).1
  unfold AR1 at h
  split at h
  ·exact absurd h hz
  ·exact h
 simp -dsimp (disch:=first | assumption | omega | (simp only [AAl];try omega)) only [↓AAp,AAk,AAn,AAo,eq_self,Nat.reduceEqDiff,↓reduceIte,reduceCtorEq,hz',↓AJe,↓AFF,↓AJ1,↓AJS,↓ARP]
 refine (AYl (b.take 4) (by omega)).calls rfl fun r hr => ?_
 cases hp:pX (b.take 4) with
 | none =>
  obtain ⟨m,_,rfl⟩:=hr.2 hp
  clear hr
  simp -dsimp (disch:=first | assumption | omega | (simp only [AAl];try omega)) only [↓AAp,AAk,AAn,AAo,eq_self,Nat.reduceEqDiff,↓reduceIte,reduceCtorEq,↓AJ7,↓ABJ]
  exact no fun x s hx e=>by rw [hne x s hx e,A2b (by omega)] at hp; cases hp
 | some n =>
  rw [hr.1 n hp]
  clear hr
  have hn:n<65536:=by
   unfold pX at hp
   split at hp
   ·rename_i h; rw [←Option.some.inj hp]; exact h.2.2
   ·cases hp
  have key:∀ x s,x.length≤1000→AA7 x++s=b→n=x.length+4:=fun x s hx e=>by
   rw [hne x s hx e,A2b (by omega)] at hp
   exact (Option.some.inj hp).symm
  have hx0:∀ x s,x.length≤1000→AA7 x++s=b→x≠[]:=fun x s hx e h0=>by
   subst h0
   exact hz (ABy e).1
  simp -dsimp (disch:=first | assumption | omega | (simp only [AAl];try omega)) only [↓AAp,AAk,AAn,AAo,eq_self,Nat.reduceEqDiff,↓reduceIte,reduceCtorEq,↓AJ7]
  refine (AOd n (by omega)).calls rfl fun r hr => ?_
  subst hr
  have hwb:IntKind.u64.wrap (b.length:Int)=(b.length:Int):=AQw (by omega)
  by_cases hcan:APS n=b.take 4
  case neg =>
   simp -dsimp (disch:=first | assumption | omega | (simp only [AAl];try omega)) only [↓AAp,AAk,AAn,AAo,eq_self,Nat.reduceEqDiff,↓reduceIte,reduceCtorEq,hcan,↓ABJ]
   exact no fun x s hx e=>hcan (by rw [key x s hx e]; exact (hne x s hx e).symm)
  by_cases hn4:n≤4
  ·simp -dsimp (disch:=first | assumption | omega | (simp only [AAl];try omega)) only [↓AAp,AAk,AAn,AAo,eq_self,Nat.reduceEqDiff,↓reduceIte,reduceCtorEq,hcan,hn4,↓ABJ]
   exact no fun x s hx e=>by have:=key x s hx e; have:=hx0 x s hx e; rw [ne_eq,←List.length_eq_zero_iff] at this; omega
  by_cases hnb:1004<n
  ·simp -dsimp (disch:=first | assumption | omega | (simp only [AAl];try omega)) only [↓AAp,AAk,AAn,AAo,eq_self,Nat.reduceEqDiff,↓reduceIte,reduceCtorEq,hcan,hn4,hnb,↓ABJ]
   exact no fun x s hx e=>by have:=key x s hx e; omega
  by_cases hnl:b.length<n
  ·simp -dsimp (disch:=first | assumption | omega | (simp only [AAl];try omega)) only [↓AAp,AAk,AAn,AAo,eq_self,Nat.reduceEqDiff,↓reduceIte,reduceCtorEq,hcan,hn4,hnb,hwb,hnl,↓ABJ]
   exact no fun x s hx e=>by have:=key x s hx e; have:=(ABy e).2.2; omega
  simp -dsimp (disch:=first | assumption | omega | (simp only [AAl];try omega)) only [↓AAp,AAk,AAn,AAo,eq_self,Nat.reduceEqDiff,↓reduceIte,reduceCtorEq,hcan,hn4,hnb,hwb,hnl,↓ABJ]
  have hlo:=A7h h4 (by omega) (by omega) (by omega) hcan.symm
  rw [List.drop_take] at hlo
  have hl4:(List.take (n - 4) (List.drop 4 b)).length=n - 4:=by simp; omega
  refine ⟨fun x s hx e => ?_,fun h=>absurd hlo (h _ _ (by omega))⟩
  obtain ⟨rfl,rfl⟩:=AOR hx (by omega) (e.trans hlo.symm)
  have hxn:List.take (n - 4) (List.drop 4 b)≠[]:=fun h=>by rw [h] at hl4; simp at hl4; omega
  unfold AGg
  rw [if_neg hxn]
end
section
variable [AAE]
set_option maxRecDepth 100000
def AOE:AAm := .seq (.ops [po_ 2 (.mov (.c (.slice none 0 0)))] [0])
 (.seq (.seq (.ops [mv_ 3 0,so_ 4 (.eqS (.t 3) false)] [0,4])
 (.cond (.t 4)
 (.seq (.ops [po_ 2 (.mov (.c (.slice none 0 0)))] [2])
  (.ret))
 (.skip)))
 (.seq (.ops [so_ 5 (.bslice 1 0 (.val (.int .u8 ((0:Nat):Int))) []),mv_ 6 0,so_ 7 (.app 1 1 5 (.t 5) (.t 6)),mv_ 2 7] [2])
 (.ret)))
def APK:List VR:=[.tmp 2]
theorem AVb:Tryz.f81.body.bind (trC Tryz.prog Tryz.f81.ntmps)=some (er AOE):=by kernel_rfl
theorem AU4:trR Tryz.prog Tryz.f81.results.toList=some APK:=by kernel_rfl
def ASm:=AAj AOE.eq_1
theorem ASM {K:TV→Prop} {e:Env} {H:List Ob}:res APK e H K=res [.tmp 2] e H K:=AAi rfl
def APG:=(aI_ @ASm @ASM)
def ANc:=ABp 8 Tryz.func81 AVb AU4 rfl
def AO7:AAm := .seq (.ops [po_ 4 (.mov (.c (.bool false)))] [0,1])
 (.seq (.ops [mv_ 5 0,po_ 6 (.b2s (.t 5)),mv_ 7 1,po_ 8 (.b2s (.t 7)),po_ 9 (.bin 9 .eql (.t 6) (.t 8)),mv_ 4 9] [4])
 (.ret))
def AOK:List VR:=[.tmp 4]
theorem AVV:Tryz.f96.body.bind (trC Tryz.prog Tryz.f96.ntmps)=some (er AO7):=by kernel_rfl
theorem AVS:trR Tryz.prog Tryz.f96.results.toList=some AOK:=by kernel_rfl
def ASN:=AAj AO7.eq_1
theorem AS0 {K:TV→Prop} {e:Env} {H:List Ob}:res AOK e H K=res [.tmp 4] e H K:=AAi rfl
def AU3:=(aI_ @ASN @AS0)
def ATK:=ABp 10 Tryz.func96 AVV AVS rfl
end
section
open Go.RowKit
variable [AAE]
theorem Bbi (l:List UInt8) (hlen:l.length≤1000000) (hn:l≠[]):AHk Tryz.prog 81 [slB l] (fun r=>r=slB l):=by
 refine AAs.toFreshV (ANc (by simp) ?_)
 have hn0:l.length≠0:=fun e=>hn (List.length_eq_zero_iff.1 e)
 have ht:(l.map by8).take l.length=l.map by8:=List.take_of_length_le (by simp)
 simp -dsimp (disch:=first | assumption | omega | (simp only [AAl];try omega)) only [↓AAp,AAk,AAn,AAo,eq_self,Nat.reduceEqDiff,↓reduceIte,reduceCtorEq,ht,↓APG]
theorem BaP:AAR Tryz.prog 81 [ANb] (fun r=>r=ANb):=by
 refine AAs.toPureV (ANc (by simp) ?_)
 simp -dsimp (disch:=first | assumption | omega | (simp only [AAl];try omega)) only [↓AAp,AAk,AAn,AAo,eq_self,↓reduceIte,reduceCtorEq,↓APG,Option.isNone_none]
theorem BcI (x:List UInt8) (hx:x.length≤1000):AAR Tryz.prog 81 [AGg x] (fun r=>r=AGg x):=by
 unfold AGg
 by_cases h:x=[]
 ·rw [if_pos h]; exact BaP
 ·rw [if_neg h]; exact (Bbi x (by omega) h).pure
def Bbn (b:List UInt8) (r:TV):Prop:=(∀ ls,AAG ls b→r = .tup [.sl 1 (ls.map AGg),.val .nilIface])∧((∀ ls,¬ AAG ls b)→r = .tup [ANb,eno 110])
variable [AAx] [AAz]
theorem Bbh (b:List UInt8) (hb:b.length≤1000000):AAR Tryz.prog 94 [slB b] (Bbn b):=by
 refine AAs.toPureV (AVq (by simp) ?_)
 have no:(∀ ls,¬ AAG ls b)→Bbn b (.tup [ANb,eno 110]):=fun h=>⟨fun x hx=>absurd hx (h x),fun _=>rfl⟩
 simp -dsimp (disch:=first | assumption | omega | (simp only [AAl];try omega)) only [↓AAp,AAk,AAn,AAo,eq_self,↓reduceIte,reduceCtorEq,↓ATM,↓APZ,↓AQL]
 refine ACS (fun q e H=>∃ (ls:List (List UInt8)) (rest:List UInt8) (k v cp:Nat),q=rest.length∧ls.length+rest.length≤1000000∧LI b ls rest∧H[k]?=some (.obj v (.arr ls.length 1 (ls.map AGg)))∧e=[(0,slB rest),(4,.os 1 k v [] 0 ls.length cp)]) b.length ?_ ?_
 ·exact ⟨[],b,0,0,0,rfl,by simpa using hb,⟨by simp,rfl⟩,rfl,rfl⟩
 rintro q e H ⟨ls,rest,k,v,cp,rfl,hrl,hI,hk,rfl⟩
 have hkl:=(List.getElem?_eq_some_iff.1 hk).1
 by_cases hr0:rest=[]
 ·subst hr0
  have hL:AAG ls b:=⟨hI.ok,by have:=hI.eq; simpa using this⟩
  have hkt:(ls.map AGg).take ls.length=ls.map AGg:=List.take_of_length_le (by simp)
  simp -dsimp (disch:=first | assumption | omega | (simp only [AAl];try omega)) only [↓AAp,AAk,AAn,AAo,eq_self,Nat.reduceLT,Nat.reduceEqDiff,↓reduceIte,reduceCtorEq,hk,hkt,↓AI0,↓AQh,↓AM2]
  exact ⟨fun ms hm=>by rw [ALx hm hL],fun h=>absurd hL (h ls)⟩
 have hr1:0<rest.length:=List.length_pos_iff.2 hr0
 simp -dsimp (disch:=first | assumption | omega | (simp only [AAl];try omega)) only [↓AAp,AAk,AAn,AAo,eq_self,Nat.reduceEqDiff,↓reduceIte,reduceCtorEq,↓AI0,↓AQY]
 refine (BeA rest (by omega)).calls rfl fun r hr => ?_
 by_cases hx:∃ x s,x.length≤1000∧AA7 x++s=rest
 case neg =>
  have hno:∀ x s,x.length≤1000→AA7 x++s≠rest:=fun x s h e=>hx ⟨x,s,h,e⟩
  rw [hr.2 hno]
  simp -dsimp (disch:=first | assumption | omega | (simp only [AAl];try omega)) only [↓AAp,AAk,AAn,AAo,eq_self,Nat.reduceEqDiff,↓reduceIte,reduceCtorEq,↓AIk,↓AM2]
  exact no (hI.no hr0 hno)
 obtain ⟨x,s,hx1,hx2⟩:=hx
 rw [hr.1 x s hx1 hx2]
 clear hr
 have hlen:=(ABy hx2).2.2
 have hct:=BcI x hx1
 have hst:=hI.step hx1 hx2
 have hp:ACx (AGg x)=true∧AAu (AGg x)=1∧lays (AGg x)=true∧ANn (AGg x)=false∧ABl (AGg x)=false:=by
  unfold AGg
  by_cases h:x=[]
  ·rw [if_pos h]; exact ⟨rfl,rfl,rfl,rfl,rfl⟩
  ·rw [if_neg h]; exact ⟨rfl,rfl,rfl,rfl,rfl⟩
 obtain ⟨p1,p2,p3,p4,p5⟩:=hp
 simp -dsimp (disch:=first | assumption | omega | (simp only [AAl];try omega)) only [↓AAp,AAk,AAn,AAo,eq_self,Nat.reduceEqDiff,↓reduceIte,reduceCtorEq,p5,↓AIk]
 refine hct.calls (by unfold AGg; split<;>rfl) fun r hr => ?_
 subst hr
 have hA:∀ T:List Ob,(H++T)[k]?=some (.obj v (.arr ls.length 1 (ls.map AGg))):=fun T=>by rw [List.getElem?_append_left hkl]; exact hk
 have hl1:ls.length≤1000000:=by omega
 have hkt:(ls.map AGg).take ls.length=ls.map AGg:=List.take_of_length_le (by simp)
 have h11:∀ y z:TV,List.take 1 ((List.replicate 1 z).set 0 y)=[y]:=fun y z=>rfl
 simp -dsimp (disch:=first | assumption | omega | (simp only [AAl];try omega)) only [↓AAp,AAk,AAn,AAo,eq_self,Nat.reduceEqDiff,↓reduceIte,reduceCtorEq,Nat.reduceLeDiff,p1,p2,p3,hA,hkt,h11]
 have hL:(ls++[x]).length=ls.length+1:=by simp
 refine AAC s.length (by omega) (by simp) ⟨ls++[x],s,k,v+1,ls.length+1,rfl,by omega,hst,?_,by rw [hL]; rfl⟩
 rw [List.getElem?_append_left (by simp; omega),List.getElem?_set_self hkl,hL,List.map_append]; rfl
end
section
open Go.RowKit
variable [AAE]
def A75 (b:List UInt8) (r:TV):Prop:=(∀ x s,x.length≤1000→AA7 x++s=b→r = .tup [slB x,slB s,tb true])∧((∀ x s,x.length≤1000→AA7 x++s≠b)→r = .tup [ANb,slB b,tb false])
theorem Bbr {b w:List UInt8} {n:Nat} {E:Env} {Q:VEx→Env→List Ob→Prop} (hb:b.length≤1000000) (h4:4≤b.length) (hn:n≤1000)
  (hyes:b.take 4=w→4+n≤b.length→Q .ret [(2,slB ((b.drop 4).take n)),(3,slB (b.drop (4+n))),(4,tb true)] [])
  (hbad:b.take 4=w→¬ 4+n≤b.length→Q .ret [(2,ANb),(3,slB b),(4,tb false)] [])
  (hnext:b.take 4≠w→Q .nor [(0,slB b),(5,i64 (n:Int)),(24,tb false)] []) :
  vwp Tryz.prog AGO Q ((0,slB b)::(5,i64 (n:Int))::(6,ts w)::E) []:=by
 have hs:4+n - 4=n:=by omega
 by_cases hw:b.take 4=w
 ·subst hw
  by_cases hl:4+n≤b.length
  ·have hl':¬ b.length<4+n:=by omega
   simp -dsimp (disch:=first | assumption | omega | (simp only [AAl];try omega)) only [↓AAp,AAk,AAn,AAo,eq_self,Nat.reduceEqDiff,↓reduceIte,reduceCtorEq,hl',hs,↓AEH,↓AEy,↓AIO]
   exact hyes rfl hl
  ·have hl':b.length<4+n:=by omega
   simp -dsimp (disch:=first | assumption | omega | (simp only [AAl];try omega)) only [↓AAp,AAk,AAn,AAo,eq_self,Nat.reduceEqDiff,↓reduceIte,reduceCtorEq,hl',↓AEH,↓AEy,↓AIO]
   exact hbad rfl hl
 ·simp -dsimp (disch:=first | assumption | omega | (simp only [AAl];try omega)) only [↓AAp,AAk,AAn,AAo,eq_self,Nat.reduceEqDiff,↓reduceIte,reduceCtorEq,hw,↓AEH,↓AEy]
  exact hnext hw
theorem Bbf (b:List UInt8) (hb:b.length≤1000000):AAR Tryz.prog 82 [slB b] (A75 b):=by
 refine AAs.toPureV (AVM (by simp) ?_)
 have no:(∀ x s,x.length≤1000→AA7 x++s≠b)→A75 b (.tup [ANb,slB b,tb false]):=fun h=>⟨fun x s hx e=>absurd e (h x s hx),fun _=>rfl⟩
 by_cases h4:4≤b.length
 case neg =>
  simp -dsimp (disch:=first | assumption | omega | (simp only [AAl];try omega)) only [↓AAp,AAk,AAn,AAo,eq_self,Nat.reduceEqDiff,↓reduceIte,reduceCtorEq,↓ANe,↓AHq,↓ACB]
  exact no fun x s hx e=>by have:=(ABy e).2.2; omega
 simp -dsimp (disch:=first | assumption | omega | (simp only [AAl];try omega)) only [↓AAp,AAk,AAn,AAo,eq_self,↓reduceIte,reduceCtorEq,↓ANe,↓AHq,↓AP8,↓AQV]
 refine ACS (fun q e H=>∃ n:Nat,q=1001 - n∧n≤1001∧(∀ x s,x.length≤1000→AA7 x++s=b→n≤x.length)∧H=[]∧e=[(0,slB b),(5,i64 (n:Int))]) 1001 ?_ ?_
 ·exact ⟨0,rfl,by omega,fun _ _ _ _=>Nat.zero_le _,rfl,rfl⟩
 rintro q e H ⟨n,rfl,hn,hle,rfl,rfl⟩
 by_cases h1000:n≤1000
 case neg =>
  simp -dsimp (disch:=first | assumption | omega | (simp only [AAl];try omega)) only [↓AAp,AAk,AAn,AAo,eq_self,Nat.reduceEqDiff,↓reduceIte,reduceCtorEq,↓AEL,↓AQK,↓ACB]
  exact no fun x s hx e=>by have:=hle x s hx e; omega
 have step:(∀ x s,x.length≤1000→AA7 x++s=b→x.length≠n)→∀ x s,x.length≤1000→AA7 x++s=b→n+1≤x.length:=fun h x s hx e=>by
  have:=hle x s hx e; have:=h x s hx e; omega
 have yes:b.take 4=APS (if n=0 then 0 else n+4)→4+n≤b.length→A75 b (.tup [slB ((b.drop 4).take n),slB (b.drop (4+n)),tb true]):=fun hw hl=>by
  have hxl:((b.drop 4).take n).length=n:=by simp; omega
  have hE:AA7 ((b.drop 4).take n)++b.drop (4+n)=b:=by
   rw [AVu]
   unfold AR1
   rw [hxl,←hw,List.append_assoc,←List.drop_drop,List.take_append_drop,List.take_append_drop]
  refine ⟨fun x s hx e => ?_,fun h=>absurd hE (h _ _ (by omega))⟩
  obtain ⟨rfl,rfl⟩:=AOR hx (by omega) (e.trans hE.symm)
  rfl
 by_cases h0:n=0
 ·subst h0
  simp -dsimp (disch:=first | assumption | omega | (simp only [AAl];try omega)) only [↓AAp,AAk,AAn,AAo,eq_self,Nat.reduceEqDiff,↓reduceIte,reduceCtorEq,↓AEL,↓AIj]
  refine (AVj 4 (by omega)).calls rfl fun r hr => ?_
  subst hr
  simp -dsimp (disch:=first | assumption | omega | (simp only [AAl];try omega)) only [↓AAp,AAk,AAn,AAo,eq_self,Nat.reduceEqDiff,↓reduceIte,reduceCtorEq,↓AIz]
  refine Bbr hb h4 h1000 (fun hw hl => ?_) (fun hw hl => ?_) (fun hw => ?_)
  ·simp -dsimp (disch:=first | assumption | omega | (simp only [AAl];try omega)) only [↓AAp,AAk,AAn,AAo,eq_self,Nat.reduceEqDiff,↓reduceIte,Nat.reduceAdd,↓ACB]
   exact yes hw hl
  ·simp -dsimp (disch:=first | assumption | omega | (simp only [AAl];try omega)) only [↓AAp,AAk,AAn,AAo,eq_self,Nat.reduceEqDiff,↓reduceIte,↓ACB]
   exact no fun x s hx e=>by
    have h1:=AU8 (AVI hx) (by omega) ((ABy e).1.symm.trans (show b.take 4=APS 0 from hw))
    have h2:=(ABy e).2.2
    unfold AR1 at h1; split at h1<;>omega
  ·simp -dsimp (disch:=first | assumption | omega | (simp only [AAl];try omega)) only [↓AAp,AAk,AAn,AAo,eq_self,↓reduceIte,reduceCtorEq]
   refine AAC (1001 - (0+1)) (by omega) (by simp) ⟨0+1,by omega,by omega,step fun x s hx e h=>hw ?_,rfl,rfl⟩
   rw [(ABy e).1]
   unfold AR1
   rw [if_pos h]; rfl
 ·rw [if_neg h0] at yes
  simp -dsimp (disch:=first | assumption | omega | (simp only [AAl];try omega)) only [↓AAp,AAk,AAn,AAo,eq_self,Nat.reduceEqDiff,↓reduceIte,reduceCtorEq,↓AEL,↓AIj]
  refine (AVj (n+4) (by omega)).calls rfl fun r hr => ?_
  subst hr
  simp -dsimp (disch:=first | assumption | omega | (simp only [AAl];try omega)) only [↓AAp,AAk,AAn,AAo,eq_self,Nat.reduceEqDiff,↓reduceIte,reduceCtorEq,h0,↓AIz]
  refine Bbr hb h4 h1000 (fun hw hl => ?_) (fun hw hl => ?_) (fun hw => ?_)
  ·simp -dsimp (disch:=first | assumption | omega | (simp only [AAl];try omega)) only [↓AAp,AAk,AAn,AAo,eq_self,Nat.reduceEqDiff,↓reduceIte,↓ACB]
   exact yes hw hl
  ·simp -dsimp (disch:=first | assumption | omega | (simp only [AAl];try omega)) only [↓AAp,AAk,AAn,AAo,eq_self,Nat.reduceEqDiff,↓reduceIte,↓ACB]
   exact no fun x s hx e=>by
    have h1:=AU8 (AVI hx) (by omega) ((ABy e).1.symm.trans hw)
    have h2:=(ABy e).2.2
    unfold AR1 at h1; split at h1<;>omega
  ·simp -dsimp (disch:=first | assumption | omega | (simp only [AAl];try omega)) only [↓AAp,AAk,AAn,AAo,eq_self,↓reduceIte,reduceCtorEq]
   refine AAC (1001 - (n+1)) (by omega) (by simp) ⟨n+1,by omega,by omega,step fun x s hx e h=>hw ?_,rfl,rfl⟩
   rw [(ABy e).1]
   unfold AR1
   rw [if_neg (by omega),h]
def A6I (b:List UInt8) (r:TV):Prop:=(∀ ls,AAG ls b→r = .tup [.sl 1 (ls.map slB),tb true])∧((∀ ls,¬ AAG ls b)→r = .tup [ANb,tb false])
theorem A8a (b:List UInt8) (hb:b.length≤1000000):AAR Tryz.prog 67 [slB b] (A6I b):=by
 refine AAs.toPureV (ATD (by simp) ?_)
 have no:(∀ ls,¬ AAG ls b)→A6I b (.tup [ANb,tb false]):=fun h=>⟨fun x hx=>absurd hx (h x),fun _=>rfl⟩
 simp -dsimp (disch:=first | assumption | omega | (simp only [AAl];try omega)) only [↓AAp,AAk,AAn,AAo,eq_self,↓reduceIte,reduceCtorEq,↓ATs,↓APr,↓AOO]
 refine ACS (fun q e H=>∃ (ls:List (List UInt8)) (rest:List UInt8) (k v cp:Nat),q=rest.length∧ls.length+rest.length≤1000000∧LI b ls rest∧H[k]?=some (.obj v (.arr ls.length 1 (ls.map slB)))∧e=[(0,slB rest),(4,.os 1 k v [] 0 ls.length cp)]) b.length ?_ ?_
 ·exact ⟨[],b,0,0,0,rfl,by simpa using hb,⟨by simp,rfl⟩,rfl,rfl⟩
 rintro q e H ⟨ls,rest,k,v,cp,rfl,hrl,hI,hk,rfl⟩
 have hkl:=(List.getElem?_eq_some_iff.1 hk).1
 have hkt:(ls.map slB).take ls.length=ls.map slB:=List.take_of_length_le (by simp)
 by_cases hr0:rest=[]
 ·subst hr0
  have hL:AAG ls b:=⟨hI.ok,by have:=hI.eq; simpa using this⟩
  simp -dsimp (disch:=first | assumption | omega | (simp only [AAl];try omega)) only [↓AAp,AAk,AAn,AAo,eq_self,Nat.reduceLT,Nat.reduceEqDiff,↓reduceIte,reduceCtorEq,hk,hkt,↓AHn,↓AO8,↓ALy]
  exact ⟨fun ms hm=>by rw [ALx hm hL],fun h=>absurd hL (h ls)⟩
 have hr1:0<rest.length:=List.length_pos_iff.2 hr0
 simp -dsimp (disch:=first | assumption | omega | (simp only [AAl];try omega)) only [↓AAp,AAk,AAn,AAo,eq_self,Nat.reduceEqDiff,↓reduceIte,reduceCtorEq,↓AHn,↓APs]
 refine (Bbf rest (by omega)).calls rfl fun r hr => ?_
 by_cases hx:∃ x s,x.length≤1000∧AA7 x++s=rest
 case neg =>
  have hno:∀ x s,x.length≤1000→AA7 x++s≠rest:=fun x s h e=>hx ⟨x,s,h,e⟩
  rw [hr.2 hno]
  simp -dsimp (disch:=first | assumption | omega | (simp only [AAl];try omega)) only [↓AAp,AAk,AAn,AAo,eq_self,Nat.reduceEqDiff,↓reduceIte,reduceCtorEq,↓ALy]
  exact no (hI.no hr0 hno)
 obtain ⟨x,s,hx1,hx2⟩:=hx
 rw [hr.1 x s hx1 hx2]
 clear hr
 have hlen:=(ABy hx2).2.2
 have hst:=hI.step hx1 hx2
 have hA:∀ T:List Ob,(H++T)[k]?=some (.obj v (.arr ls.length 1 (ls.map slB))):=fun T=>by rw [List.getElem?_append_left hkl]; exact hk
 have hl1:ls.length≤1000000:=by omega
 have h11:∀ y z:TV,List.take 1 ((List.replicate 1 z).set 0 y)=[y]:=fun y z=>rfl
 simp -dsimp (disch:=first | assumption | omega | (simp only [AAl];try omega)) only [↓AAp,AAk,AAn,AAo,eq_self,Nat.reduceEqDiff,↓reduceIte,reduceCtorEq,Nat.reduceLeDiff,hA,hkt,h11]
 have hL:(ls++[x]).length=ls.length+1:=by simp
 refine AAC s.length (by omega) (by simp) ⟨ls++[x],s,k,v+1,ls.length+1,rfl,by omega,hst,?_,by rw [hL]; rfl⟩
 rw [List.getElem?_append_left (by simp; omega),List.getElem?_set_self hkl,hL,List.map_append]; rfl
theorem A13:∀ l:List UInt8,AFH (l.map by8)=true
 | []=>rfl
 | b::l=>by rw [List.map_cons,AFH,A13 l]; rfl
end
section
open Go.RowKit
variable [AAE]
section
omit [AAE]
def spl:List UInt8→List UInt8→List (List UInt8)
 | w,[]=>[w]
 | w,b::l=>if b=32 then w::spl [] l else spl (w++[b]) l
def ACY (b:List UInt8):List UInt8:=if b.getLast?=some 10 then b.dropLast else b
def ACV (b:List UInt8):List (List UInt8):=spl [] (ACY b)
theorem A0Z {b:List UInt8} {i:Nat} (h:i<b.length) (hno:¬ (b[i]?=some 10∧i+1=b.length)) (hi:i≤(ACY b).length):i<(ACY b).length∧(ACY b)[i]?=b[i]?:=by
 unfold ACY at hi ⊢
 split
 ·rename_i h1
  rw [if_pos h1,List.length_dropLast] at hi
  have hlt:i<b.length - 1:=by
   rcases Nat.lt_or_ge i (b.length - 1) with h2 | h2
   ·exact h2
   ·exfalso
    refine hno ⟨?_,by omega⟩
    rw [List.getLast?_eq_getElem?] at h1
    rw [show i=b.length - 1 by omega]; exact h1
  refine ⟨by rw [List.length_dropLast]; exact hlt,?_⟩
  rw [List.getElem?_dropLast,if_pos hlt]
 ·exact ⟨h,rfl⟩
theorem A0f {b:List UInt8} {i:Nat} (h:b[i]?=some 10) (h1:i+1=b.length):(ACY b).length=i:=by
 unfold ACY
 rw [if_pos (by rw [List.getLast?_eq_getElem?,show b.length - 1=i by omega]; exact h),List.length_dropLast]; omega
theorem ASE (b:List UInt8):(ACY b).length≤b.length:=by
 unfold ACY
 split
 ·rw [List.length_dropLast]; omega
 ·exact Nat.le_refl _
end
theorem AWa {b:UInt8}:(∀ y:TV,y∈[TV.val (Value.int IntKind.u8 (b.toNat:Int))]→AY7 y)=True:=by
 refine eq_true ?_
 intro y hy
 obtain rfl:=List.mem_singleton.1 hy
 exact AYT b
theorem A9W (b:List UInt8) (hb:b.length≤1000000):AAR Tryz.prog 68 [slB b] (fun r=>r = .sl 1 ((ACV b).map ts)):=by
 refine AAs.toPureV (ATL (by simp) ?_)
 have h11:∀ y z:TV,(List.replicate 1 z).set 0 y=[y]:=fun y z=>rfl
 have h12:∀ y:TV,List.take 1 [y]=[y]:=fun y=>rfl
 simp -dsimp (disch:=first | assumption | omega | (simp only [AAl];try omega)) only [↓AAp,AAk,AAn,AAo,eq_self,Nat.reduceEqDiff,↓reduceIte,reduceCtorEq,↓ASZ,↓APg,↓AOZ,↓AOS,↓AO2]
 refine ACS (fun q e H=>∃ (i:Nat) (ws:List (List UInt8)) (w:List UInt8) (k v cp:Nat),q=b.length - i∧i≤(ACY b).length∧i≤b.length∧ws.length≤i∧w.length≤i∧ACV b=ws++spl w ((ACY b).drop i)∧H[k]?=some (.obj v (.arr ws.length 1 (ws.map ts)))∧e=[(0,slB b),(3,.os 1 k v [] 0 ws.length cp),(4,ts w),(5,i64 (i:Int))]) b.length ?_ ?_
 ·exact ⟨0,[],[],0,0,0,rfl,Nat.zero_le _,Nat.zero_le _,Nat.le_refl _,Nat.le_refl _,rfl,rfl,rfl⟩
 rintro q e H ⟨i,ws,w,k,v,cp,rfl,hit,hib,hwi,hwl,hsp,hk,rfl⟩
 have hkl:=(List.getElem?_eq_some_iff.1 hk).1
 have hkt:(ws.map ts).take ws.length=ws.map ts:=List.take_of_length_le (by simp)
 have hA:∀ T:List Ob,(H++T)[k]?=some (.obj v (.arr ws.length 1 (ws.map ts))):=fun T=>by rw [List.getElem?_append_left hkl]; exact hk
 have hws1:ws.length≤1000000:=by omega
 by_cases hil:i<b.length
 case neg =>
  have hd:(ACY b).drop i=[]:=List.drop_eq_nil_of_le (by have:=ASE b; omega)
  rw [hd] at hsp
  have hfin:ACV b=ws++[w]:=by rw [hsp]; rfl
  simp -dsimp (disch:=first | assumption | omega | (simp only [AAl];try omega)) only [↓AAp,AAk,AAn,AAo,eq_self,Nat.reduceEqDiff,↓reduceIte,reduceCtorEq,Nat.reduceLeDiff,hA,hkt,h11,↓ABL,↓AHj,↓ALo]
  have hLe:List.take (ws.length+1) (ws.map ts++[ts w])=(ws++[w]).map ts:=by rw [List.map_append]; exact List.take_of_length_le (by simp)
  rw [hLe,hfin]
 obtain ⟨c,hc⟩:∃ c,b[i]?=some c:=⟨_,List.getElem?_eq_getElem hil⟩
 have hc8:(b.map by8)[i]?=some (by8 c):=by rw [List.getElem?_map,hc]; rfl
 by_cases hend:c.toNat=10∧i+1=b.length
 ·obtain ⟨h10,hlast⟩:=hend
  have hd:(ACY b).drop i=[]:=List.drop_eq_nil_of_le (by rw [A0f (by rw [hc,show c=10 from UInt8.toNat_inj.1 h10]) hlast]; exact Nat.le_refl _)
  rw [hd] at hsp
  have hfin:ACV b=ws++[w]:=by rw [hsp]; rfl
  simp -dsimp (disch:=first | assumption | omega | (simp only [AAl];try omega)) only [↓AAp,AAk,AAn,AAo,eq_self,Nat.reduceEqDiff,↓reduceIte,reduceCtorEq,Nat.reduceLeDiff,hc8,h10,hlast,hA,hkt,h11,↓ABL,↓ACF,↓AHj,↓ALo]
  have hLe:List.take (ws.length+1) (ws.map ts++[ts w])=(ws++[w]).map ts:=by rw [List.map_append]; exact List.take_of_length_le (by simp)
  rw [hLe,hfin]
 obtain ⟨hti,htc⟩:=A0Z hil (fun h=>hend ⟨by rw [hc] at h; rw [Option.some.inj h.1]; rfl,h.2⟩) hit
 rw [hc] at htc
 have hdr:(ACY b).drop i=c::(ACY b).drop (i+1):=by
  rw [List.drop_eq_getElem_cons hti]
  rw [List.getElem?_eq_getElem hti] at htc
  rw [Option.some.inj htc]
 rw [hdr,spl] at hsp
 by_cases h32:c.toNat=32
 ·have hc32:c=32:=UInt8.toNat_inj.1 h32
  rw [if_pos hc32] at hsp
  have h10:¬ c.toNat=10:=by omega
  simp -dsimp (disch:=first | assumption | omega | (simp only [AAl];try omega)) only [↓AAp,AAk,AAn,AAo,eq_self,Nat.reduceEqDiff,↓reduceIte,reduceCtorEq,Nat.reduceLeDiff,hc8,h32,hA,hkt,h11,↓ABL,↓ACF,↓ADT]
  have hL:(ws++[w]).length=ws.length+1:=by simp
  refine AAC (b.length - (i+1)) (by omega) (by simp) ⟨i+1,ws++[w],[],k,v+1,ws.length+1,rfl,by omega,by omega,by omega,Nat.zero_le _,by rw [hsp]; simp,?_,by rw [hL]; rfl⟩
  rw [List.getElem?_append_left (by simp; omega),List.getElem?_set_self hkl,hL,List.map_append]; rfl
 ·have hc32:¬ c=32:=fun e=>h32 (by rw [e]; rfl)
  rw [if_neg hc32] at hsp
  have hwl2:w.length+[c].length≤9223372036854775807:=by simp; omega
  by_cases h10:c.toNat=10
  ·have hlast:¬ i+1=b.length:=fun e=>hend ⟨h10,e⟩
   simp -dsimp (disch:=first | assumption | omega | (simp only [AAl];try omega)) only [↓AAp,AAk,AAn,AAo,eq_self,Nat.reduceEqDiff,↓reduceIte,reduceCtorEq,Nat.reduceLeDiff,hc8,h10,hlast,h11,AXN,AWa,AZg,↓ABL,↓ACF,↓ADT]
   exact AAC (b.length - (i+1)) (by omega) (by simp) ⟨i+1,ws,w++[c],k,v,cp,rfl,by omega,by omega,by omega,by simp; omega,hsp,by rw [List.getElem?_append_left hkl]; exact hk,rfl⟩
  ·simp -dsimp (disch:=first | assumption | omega | (simp only [AAl];try omega)) only [↓AAp,AAk,AAn,AAo,eq_self,Nat.reduceEqDiff,↓reduceIte,reduceCtorEq,Nat.reduceLeDiff,hc8,h10,h32,h11,AXN,AWa,AZg,↓ABL,↓ACF,↓ADT]
   exact AAC (b.length - (i+1)) (by omega) (by simp) ⟨i+1,ws,w++[c],k,v,cp,rfl,by omega,by omega,by omega,by simp; omega,hsp,by rw [List.getElem?_append_left hkl]; exact hk,rfl⟩
end
section
variable [AAE]
set_option maxRecDepth 100000
def AKV:AAm := .seq (.ops [po_ 4 (.mov (.c (.slice none 0 0)))] [0,1])
 (.seq (.ops [mv_ 5 0,mv_ 6 1,so_ 7 (.call 104 [.t 5,.t 6,.c (.int .i64 ((0:Nat):Int)),.c (.int .i64 (-1))]),mv_ 4 7] [4])
 (.ret))
def ALZ:List VR:=[.tmp 4]
theorem ASz:Tryz.f78.body.bind (trC Tryz.prog Tryz.f78.ntmps)=some (er AKV):=by kernel_rfl
theorem ATq:trR Tryz.prog Tryz.f78.results.toList=some ALZ:=by kernel_rfl
def AQT:=AAj AKV.eq_1
theorem AP1 {K:TV→Prop} {e:Env} {H:List Ob}:res ALZ e H K=res [.tmp 4] e H K:=AAi rfl
def ALR:=(aI_ @AQT @AP1)
def ASb:=ABp 8 Tryz.func78 ASz ATq rfl
def AFE:AAm := .seq (.ops [mv_ 42 9,mv_ 43 10,mv_ 44 0,mv_ 45 11,mv_ 46 2,po_ 47 (.bin 3 .add (.t 45) (.t 46)),po_ 48 (.slS (.t 44) none (some (.t 47))),po_ 49 (.idxA 1 (.t 42) (.t 43)),⟨none,.s (.store 1 (.t 49) (.t 48)),none⟩] [0,1,2,3,9,10,11])
 (.seq (.ops [mv_ 50 0,mv_ 51 11,mv_ 52 1,po_ 53 (.lenS (.t 52)),po_ 54 (.bin 3 .add (.t 51) (.t 53)),po_ 55 (.slS (.t 50) (some (.t 54)) none),mv_ 0 55] [0,1,2,3,9,10])
 (.ops [mv_ 56 10,po_ 57 (.bin 3 .add (.t 56) (ci_ 1)),mv_ 10 57] [0,1,2,3,9,10]))
def AE2:AAm := .seq (.seq (.ops [mv_ 40 11,po_ 41 (.bin 3 .lss (.t 40) (ci_ 0))] [0,1,2,3,9,10,11,41])
 (.cond (.t 41)
 (.exit 0)
 (.skip)))
 AFE
def AFl:AAm := .block 1 (.seq (.ops [mv_ 37 0,mv_ 38 1,so_ 39 (.call 99 [.t 37,.t 38]),mv_ 11 39] [0,1,2,3,9,10,11])
 AE2)
def AFe:AAm := .seq (.seq (.ops [mv_ 34 10,mv_ 35 3,po_ 36 (.bin 3 .lss (.t 34) (.t 35))] [0,1,2,3,9,10,36])
 (.cond (.t 36)
 (.skip)
 (.exit 0)))
 AFl
def AE1:AAm := .seq (.ops [mv_ 58 9,mv_ 59 10,mv_ 60 0,po_ 61 (.idxA 1 (.t 58) (.t 59)),⟨none,.s (.store 1 (.t 61) (.t 60)),none⟩] [9,10])
 (.seq (.ops [mv_ 62 9,mv_ 63 10,po_ 64 (.bin 3 .add (.t 63) (ci_ 1)),po_ 65 (.slV 1 (.t 62) none (some (.t 64))),mv_ 8 65] [8])
 (.ret))
def AE5:AAm := .seq (.block 0 (.loop [0,1,2,3,9,10] AFe))
 AE1
def AE0:AAm := .seq (.ops [po_ 10 (.mov (ci_ 0))] [0,1,2,3,9,10])
 AE5
def AFw:AAm := .seq (.ops [mv_ 32 3,po_ 33 (.bin 3 .sub (.t 32) (ci_ 1)),mv_ 3 33] [0,1,2,3,9])
 AE0
def AE6:AAm := .seq (.ops [mv_ 30 3,so_ 31 (.mks 1 16 (.val (.string (str []))) (.t 30) (.t 30)),mv_ 9 31] [0,1,2,3,9])
 AFw
def AD8:AAm := .seq (.ops [mv_ 25 3,mv_ 26 0,po_ 27 (.lenS (.t 26)),po_ 28 (.bin 3 .add (.t 27) (ci_ 1)),po_ 29 (.min (.t 25) (.t 28)),mv_ 3 29] [0,1,2,3])
 AE6
def AEs:AAm := .seq (.seq (.ops [mv_ 19 3,po_ 20 (.bin 3 .lss (.t 19) (ci_ 0))] [0,1,2,3,20])
 (.cond (.t 20)
 (.ops [mv_ 21 0,mv_ 22 1,so_ 23 (.call 121 [.t 21,.t 22]),po_ 24 (.bin 3 .add (.t 23) (ci_ 1)),mv_ 3 24] [0,1,2,3])
 (.skip)))
 AD8
def AD9:AAm := .seq (.seq (.ops [mv_ 14 1,po_ 15 (.bin 9 .eql (.t 14) (.c (.string (str []))))] [0,1,2,3,15])
 (.cond (.t 15)
 (.seq (.ops [mv_ 16 0,mv_ 17 3,so_ 18 (.call 120 [.t 16,.t 17]),mv_ 8 18] [8])
  (.ret))
 (.skip)))
 AEs
def AEp:AAm := .seq (.seq (.ops [mv_ 12 3,po_ 13 (.bin 3 .eql (.t 12) (ci_ 0))] [0,1,2,3,13])
 (.cond (.t 13)
 (.seq (.ops [po_ 8 (.mov (.c (.slice none 0 0)))] [8])
  (.ret))
 (.skip)))
 AD9
def AHu:AAm := .seq (.ops [po_ 8 (.mov (.c (.slice none 0 0)))] [0,1,2,3])
 AEp
def AHg:List VR:=[.tmp 8]
theorem AOV:Tryz.f104.body.bind (trC Tryz.prog Tryz.f104.ntmps)=some (er AHu):=by kernel_rfl
theorem AOe:trR Tryz.prog Tryz.f104.results.toList=some AHg:=by kernel_rfl
def AI7:=AAj AFE.eq_1
def AJt:=AAj AE2.eq_1
def AJc:=AAj AFl.eq_1
def ADJ:=AAj AFe.eq_1
def AJp:=AAj AE1.eq_1
def AJu:=AAj AE5.eq_1
def AI8:=AAj AE0.eq_1
def AJs:=AAj AFw.eq_1
def AJm:=AAj AE6.eq_1
def AIH:=AAj AD8.eq_1
def AIE:=AAj AEs.eq_1
def AIg:=AAj AD9.eq_1
def AIU:=AAj AEp.eq_1
def AMF:=AAj AHu.eq_1
theorem AMP {K:TV→Prop} {e:Env} {H:List Ob}:res AHg e H K=res [.tmp 8] e H K:=AAi rfl
def AOa:=ABp 66 Tryz.func104 AOV AOe rfl
end
section
open Go.RowKit
variable [AAE]
section
omit [AAE]
def ixW (c:UInt8):List UInt8→Option Nat
 | []=>none
 | b::l=>if b=c then some 0 else (ixW c l).map (· + 1)
theorem AU2 (c:UInt8):∀ l:List UInt8,Lib.indexByte l c=(match ixW c l with | some i=>(i:Int) | none => -1):=by
 intro l
 induction l with
 | nil=>rfl
 | cons b l ih =>
  rw [Lib.indexByte,ixW]
  by_cases e:b=c
  ·simp [e]
  ·rw [if_neg (by simpa using e),if_neg e,ih]
   cases hc:ixW c l with
   | none=>simp
   | some i =>
    have:¬ ((i:Int) == -1)=true:=by simp
    simp only [Option.map_some]
    rw [if_neg this]; rfl
theorem A6S:∀ (l w:List UInt8),(∀ i,ixW 32 l=some i→i<l.length∧spl w l=(w++l.take i)::spl [] (l.drop (i+1))∧l.count 32=(l.drop (i+1)).count 32+1)∧(ixW 32 l=none→spl w l=[w++l]∧l.count 32=0)
 | [],w=>⟨fun i h=>(by cases h),fun _=>⟨(by simp [spl]),rfl⟩⟩
 | b::l,w=>by
  by_cases e:b=32
  ·subst e
   refine ⟨fun i h => ?_,fun h => ?_⟩
   ·rw [ixW,if_pos rfl] at h
    cases h
    exact ⟨by simp,by simp [spl],by simp⟩
   ·rw [ixW,if_pos rfl] at h; cases h
  ·obtain ⟨h1,h2⟩:=A6S l (w++[b])
   refine ⟨fun i h => ?_,fun h => ?_⟩
   ·rw [ixW,if_neg e] at h
    obtain ⟨j,hj,rfl⟩:=Option.map_eq_some_iff.1 h
    obtain ⟨a1,a2,a3⟩:=h1 j hj
    refine ⟨by simp; omega,?_,?_⟩
    ·rw [spl,if_neg e,a2]; simp
    ·rw [List.count_cons_of_ne (by simpa using e),a3]; rfl
   ·rw [ixW,if_neg e] at h
    obtain ⟨a1,a2⟩:=h2 (Option.map_eq_none_iff.1 h)
    refine ⟨by rw [spl,if_neg e,a1]; simp,by rw [List.count_cons_of_ne (by simpa using e),a2]⟩
end
theorem AAR.ofSameW {f:FuncId} {args:List Value} {r:Value} (h:∀ (F:Nat→Prop) w,AFv F w→Calls Tryz.prog f args.toArray w fun e w'=>e = .returned r∧w'=w):AAR Tryz.prog f (args.map .val) (fun x=>x = .val r):=by
 intro β F w vs hF hv
 have hvs:vs=args:=by
  clear h hF
  induction args generalizing vs with
  | nil=>rw [List.map_nil,AAZ.nil] at hv; exact hv
  | cons a args ih =>
   rw [List.map_cons] at hv
   obtain ⟨v,us,rfl,h1,h2⟩:=AAZ.cons.1 hv
   have:=Rep.val.1 (Or.inl h1:Rep _ _ _ _)
   rw [this,ih us h2]
 subst hvs
 refine (h F w hF.2).mono ?_
 rintro e w' ⟨rfl,rfl⟩
 exact ⟨_,_,F,rfl,rfl,Rep.of_val,⟨rfl,rfl,rfl,Nat.le_refl _,fun _ _=>rfl,fun _ h=>h,fun _ _ h=>h,hF.1⟩⟩
theorem A0C (l:List UInt8):(str l).data.toList=l:=by simp [str]
theorem A17 (s:List UInt8) (c:UInt8):AAR Tryz.prog 99 [ts s,ts [c]] (fun x=>x=i64 (Lib.indexByte s c)):=by
 have:=AAR.ofSameW (f:=99) (args:=[.string (str s),.string (str [c])]) (r := .int .i64 (Lib.indexByte s c)) fun F w _=>by
  have:=Tryz.strings_Index_one (str s) c w
  rw [A0C] at this; exact this
 exact this
theorem A1m (s:List UInt8) (c:UInt8):AAR Tryz.prog 121 [ts s,ts [c]] (fun x=>x=i64 ((s.count c:Nat):Int)):=by
 have:=AAR.ofSameW (f:=121) (args:=[.string (str s),.string (str [c])]) (r := .int .i64 ((s.count c:Nat):Int)) fun F w _=>by
  have:=Tryz.strings_Count_one (str s) c w
  rw [A0C] at this; exact this
 exact this
theorem A1t (s:List UInt8) (hs:s.length≤1000000):AAR Tryz.prog 79 [ts s,ts [10]] (fun x=>x=ts (Lib.trimSuffix s [10])):=by
 have:=AAR.ofSameW (f:=79) (args:=[.string (str s),.string (str [10])]) (r := .string (str (Lib.trimSuffix s [10]))) fun F w _=>by
  have:=Tryz.strings_TrimSuffix (str s) (str [10]) w (by show s.toArray.size≤_; simp; omega)
  rw [A0C,A0C] at this; exact this
 exact this
theorem A1h:∀ l:List (List UInt8),AFH (l.map ts)=true
 | []=>rfl
 | x::l=>by rw [List.map_cons,AFH,A1h l]; rfl
theorem A3h (s:List UInt8) (hs:s.length≤1000000):AHk Tryz.prog 104 [ts s,ts [32],i64 ((0:Nat):Int),i64 (-1)] (fun r=>r = .sl 1 ((spl [] s).map ts)):=by
 refine AAs.toFreshV (AOa (by simp) ?_)
 have hcl:s.count 32≤s.length:=List.count_le_length
 simp -dsimp (disch:=first | assumption | omega | (simp only [AAl];try omega)) only [↓AAp,AAk,AAn,AAo,eq_self,Nat.reduceEqDiff,↓reduceIte,Nat.reduceAdd,reduceCtorEq,↓AMF,↓AIU,↓AIg,↓AIE]
 refine (A1m s 32).calls rfl fun r hr => ?_
 subst hr
 simp -dsimp (disch:=first | assumption | omega | (simp only [AAl];try omega)) only [↓AAp,AAk,AAn,AAo,eq_self,Nat.reduceEqDiff,↓reduceIte,reduceCtorEq,Nat.reduceLeDiff,AAD,↓AIH,↓AJm,↓AJs,↓AI8,↓AJu]
 refine ACS (fun q e H=>∃ (i:Nat) (ws:List (List UInt8)) (rest:List UInt8),q=s.count 32 - i∧i≤s.count 32∧ws.length=i∧rest.length≤s.length∧rest.count 32=s.count 32 - i∧spl [] s=ws++spl [] rest∧H=[.obj 0 (.arr (s.count 32+1) 1 (ws.map ts++List.replicate (s.count 32+1 - i) (ts [])))]∧e=[(0,ts rest),(1,ts [32]),(2,i64 ((0:Nat):Int)),(3,i64 ((s.count 32:Nat):Int)),(9,.os 1 0 0 [] 0 (s.count 32+1) (s.count 32+1)),(10,i64 (i:Int))]) (s.count 32) ?_ ?_
 ·refine ⟨0,[],s,rfl,Nat.zero_le _,rfl,Nat.le_refl _,rfl,rfl,rfl,by simp [forget,get]⟩
 rintro q e H ⟨i,ws,rest,rfl,hi,hwl,hrl,hrc,hsp,rfl,rfl⟩
 obtain ⟨x1,x2⟩:=A6S rest []
 have hix:=AU2 32 rest
 have hwl':(ws.map ts).length=i:=by rw [List.length_map]; exact hwl
 obtain ⟨n,hn⟩:∃ n,s.count 32+1 - i=n+1:=⟨s.count 32 - i,by omega⟩
 have hget:(ws.map ts++List.replicate (s.count 32+1 - i) (ts []))[i]?=some (ts []):=by
  rw [List.getElem?_append_right (by omega),hwl',Nat.sub_self,hn]; rfl
 have hset:∀ c,(ws.map ts++List.replicate (s.count 32+1 - i) (ts [])).set i c=ws.map ts++(c::List.replicate n (ts [])):=fun c=>by
  rw [List.set_append_right _ _ (by omega),hwl',Nat.sub_self,hn]; rfl
 have hwd:AAu (ts [])=1:=rfl
 by_cases hil:i<s.count 32
 ·simp -dsimp (disch:=first | assumption | omega | (simp only [AAl];try omega)) only [↓AAp,AAk,AAn,AAo,eq_self,Nat.reduceEqDiff,↓reduceIte,reduceCtorEq,↓ADJ,↓AJc]
  refine (A17 rest 32).calls rfl fun r hr => ?_
  subst hr
  rw [hix]
  cases hm:ixW 32 rest with
  | none=>have:=(x2 hm).2; omega
  | some m =>
   obtain ⟨a1,a2,a3⟩:=x1 m hm
   simp only
   simp -dsimp (disch:=first | assumption | omega | (simp only [AAl];try omega)) only [↓AAp,AAk,AAn,AAo,eq_self,Nat.reduceEqDiff,↓reduceIte,reduceCtorEq,AAD,hget,hset,hwd,Nat.add_zero,↓AJt,↓AI7]
   refine AAC (s.count 32 - (i+1)) (by omega) (by simp) ⟨i+1,ws++[rest.take m],rest.drop (m+1),rfl,by omega,by simp; omega,by simp; omega,by omega,by rw [hsp,a2]; simp,?_,by simp [forget,get]⟩
   rw [show s.count 32+1 - (i+1)=n by omega,List.map_append,List.append_assoc]; rfl
 ·have hi2:i=s.count 32:=by omega
  simp -dsimp (disch:=first | assumption | omega | (simp only [AAl];try omega)) only [↓AAp,AAk,AAn,AAo,eq_self,Nat.reduceEqDiff,↓reduceIte,reduceCtorEq,Nat.reduceLeDiff,hget,hset,hwd,↓ADJ,↓AJp,↓AMP]
  have hnone:ixW 32 rest=none:=by
   cases hm:ixW 32 rest with
   | none=>rfl
   | some m=>have:=(x1 m hm).2.2; omega
  have hfin:spl [] s=ws++[rest]:=by rw [hsp,(x2 hnone).1]; rfl
  have htk:List.take (i+1) (ws.map ts++ts rest::List.replicate n (ts []))=(ws++[rest]).map ts:=by
   rw [List.map_append,show ws.map ts++ts rest::List.replicate n (ts [])=(ws.map ts++[ts rest])++List.replicate n (ts []) by simp,List.take_left' (by simp; omega)]; rfl
  rw [htk,hfin,if_pos (A1h _)]
  exact rfl
theorem A6R (s:List UInt8) (hs:s.length≤1000000):AAR Tryz.prog 78 [ts s,ts [32]] (fun r=>r = .sl 1 ((spl [] s).map ts)):=by
 refine AAs.toPureV (ASb (by simp) ?_)
 simp -dsimp (disch:=first | assumption | omega | (simp only [AAl];try omega)) only [↓AAp,AAk,AAn,AAo,eq_self,Nat.reduceEqDiff,↓reduceIte,Nat.reduceAdd,reduceCtorEq,↓ALR]
 refine (A3h s hs).pure.calls rfl fun r hr => ?_
 subst hr
 simp -dsimp (disch:=first | assumption | omega | (simp only [AAl];try omega)) only [↓AAp,AAk,AAn,AAo,eq_self,↓reduceIte,↓ALR]
end
section
open Go.RowKit
variable [AAE] [AAx] [AAz]
theorem AW8 (s:List UInt8):Lib.trimSuffix s [10]=ACY s:=by
 unfold Lib.trimSuffix ACY
 by_cases h:s.getLast?=some 10
 ·obtain ⟨l,rfl⟩:∃ l,s=l++[10]:=by
   rcases List.eq_nil_or_concat s with rfl | ⟨l,x,hx⟩
   ·cases h
   ·rw [List.concat_eq_append] at hx
    subst hx
    simp at h
    subst h
    exact ⟨l,rfl⟩
  simp [Lib.hasSuffix]
 ·rw [if_neg h,if_neg]
  intro hs
  apply h
  unfold Lib.hasSuffix at hs
  have:=List.isSuffixOf_iff_suffix.1 hs
  obtain ⟨t,rfl⟩:=this
  simp
abbrev AGv (x:List UInt8):TV := .sl 1 ((ACV x).map ts)
theorem A7t:(∀ y:TV,y∈([]:List TV)→AY7 y)=True:=eq_true (fun y h=>by cases h)
theorem A0t:(if (none:Option Addr).isNone=true then some ([]:List TV) else none)=some []:=by simp
def Bay (b:List UInt8) (r:TV):Prop:=(∀ ls,AAG ls b→r = .tup [.sl 1 (ls.map AGv),.val .nilIface])∧((∀ ls,¬ AAG ls b)→r = .tup [ANb,eno 110])
theorem Bak (b:List UInt8) (hb:b.length≤1000000):AAR Tryz.prog 64 [slB b] (Bay b):=by
 refine AAs.toPureV (AVP (by simp) ?_)
 simp -dsimp (disch:=first | assumption | omega | (simp only [AAl];try omega)) only [↓AAp,AAk,AAn,AAo,eq_self,↓reduceIte,reduceCtorEq,↓ATV,↓AQc]
 refine (Bbh b hb).calls rfl fun r hr => ?_
 by_cases h:∃ ls,AAG ls b
 case neg =>
  have hno:∀ ls,¬ AAG ls b:=fun ls k=>h ⟨ls,k⟩
  rw [hr.2 hno]
  simp -dsimp (disch:=first | assumption | omega | (simp only [AAl];try omega)) only [↓AAp,AAk,AAn,AAo,eq_self,Nat.reduceEqDiff,↓reduceIte,↓AIG,↓ANa]
  exact ⟨fun ls k=>absurd k (hno ls),fun _=>rfl⟩
 obtain ⟨ls,hls⟩:=h
 rw [hr.1 ls hls]
 clear hr
 have hlen:ls.length≤1000000:=by
  have h1:∀ l:List (List UInt8),l.length≤(l.flatMap AA7).length:=fun l=>by
   induction l with
   | nil=>simp
   | cons x l ih=>rw [List.flatMap_cons,List.length_append,ADK,List.length_cons]; omega
  have:=h1 ls
  rw [hls.2] at this
  omega
 have fin:Bay b (.tup [.sl 1 (ls.map AGv),.val .nilIface]):=⟨fun ms hm=>by rw [ALx hm hls],fun k=>absurd hls (k ls)⟩
 simp -dsimp (disch:=first | assumption | omega | (simp only [AAl];try omega)) only [↓AAp,AAk,AAn,AAo,eq_self,Nat.reduceEqDiff,↓reduceIte,↓AIG,↓APU,↓AP2,↓AQm]
 refine ACS (fun q e H=>∃ (i k v cp:Nat),q=ls.length - i∧i≤ls.length∧H[k]?=some (.obj v (.arr i 1 ((ls.take i).map AGv)))∧e=[(6,.os 1 k v [] 0 i cp),(17,.sl 1 (ls.map AGg)),(18,i64 (ls.length:Int)),(19,i64 (i:Int))]) ls.length ?_ ?_
 ·exact ⟨0,0,0,0,rfl,Nat.zero_le _,rfl,by simp [forget,get]⟩
 rintro q e H ⟨i,k,v,cp,rfl,hi,hk,rfl⟩
 have hkl:=(List.getElem?_eq_some_iff.1 hk).1
 have hwl:((ls.take i).map AGv).length=i:=by rw [List.length_map,List.length_take,Nat.min_eq_left hi]
 have hwt:((ls.take i).map AGv).take i=(ls.take i).map AGv:=List.take_of_length_le (by omega)
 by_cases hil:i<ls.length
 case neg =>
  have hi2:i=ls.length:=by omega
  have htt:ls.take i=ls:=List.take_of_length_le (by omega)
  rw [htt] at hwl hwt hk
  simp -dsimp (disch:=first | assumption | omega | (simp only [AAl];try omega)) only [↓AAp,AAk,AAn,AAo,eq_self,Nat.reduceEqDiff,↓reduceIte,hk,hwl,↓AET,↓AEN,↓AQo,↓ANa]
  exact fin
 have hg:ls[i]?=some ls[i]:=List.getElem?_eq_getElem hil
 have hgl:(ls.map AGg)[i]?=some (AGg ls[i]):=by rw [List.getElem?_map,hg]; rfl
 have hx1:=hls.1 _ (List.mem_of_getElem? hg)
 have hsn:(ls.take (i+1)).map AGv=(ls.take i).map AGv++[AGv ls[i]]:=by rw [List.take_succ_eq_append_getElem hil,List.map_append]; rfl
 generalize ls[i]=x at *
 have hA:∀ T:List Ob,(H++T)[k]?=some (.obj v (.arr i 1 ((ls.take i).map AGv))):=fun T=>by rw [List.getElem?_append_left hkl]; exact hk
 have h11:∀ y z:TV,List.take 1 ((List.replicate 1 z).set 0 y)=[y]:=fun y z=>rfl
 have htl:=ASE x
 by_cases hx:x=[]
 ·subst hx
  have hl0:AGg []=ANb:=rfl
  rw [hl0] at hgl
  simp -dsimp (disch:=first | assumption | omega | (simp only [AAl];try omega)) only [↓AAp,AAk,AAn,AAo,eq_self,Nat.reduceEqDiff,↓reduceIte,hgl,A0t,A7t,↓AET,↓AEN,↓AIh]
  refine (A1t [] (by omega)).calls rfl fun r hr => ?_
  subst hr
  rw [AW8]
  simp -dsimp (disch:=first | assumption | omega | (simp only [AAl];try omega)) only [↓AAp,AAk,AAn,AAo,eq_self,↓reduceIte]
  refine (A6R (ACY []) (by omega)).calls rfl fun r hr => ?_
  subst hr
  simp -dsimp (disch:=first | assumption | omega | (simp only [AAl];try omega)) only [↓AAp,AAk,AAn,AAo,eq_self,Nat.reduceEqDiff,↓reduceIte,Nat.reduceLeDiff,hA,hwl,h11]
  refine AAC (ls.length - (i+1)) (by omega) (by simp) ⟨i+1,k,v+1,i+1,rfl,by omega,?_,by simp [forget,get]⟩
  rw [List.getElem?_append_left (by simp; omega),List.getElem?_set_self hkl,hsn]; rfl
 ·have hl0:AGg x=slB x:=if_neg hx
  rw [hl0] at hgl
  simp -dsimp (disch:=first | assumption | omega | (simp only [AAl];try omega)) only [↓AAp,AAk,AAn,AAo,eq_self,Nat.reduceEqDiff,↓reduceIte,hgl,↓AET,↓AEN,↓AIh]
  refine (A1t x (by omega)).calls rfl fun r hr => ?_
  subst hr
  rw [AW8]
  simp -dsimp (disch:=first | assumption | omega | (simp only [AAl];try omega)) only [↓AAp,AAk,AAn,AAo,eq_self,↓reduceIte]
  refine (A6R (ACY x) (by omega)).calls rfl fun r hr => ?_
  subst hr
  simp -dsimp (disch:=first | assumption | omega | (simp only [AAl];try omega)) only [↓AAp,AAk,AAn,AAo,eq_self,Nat.reduceEqDiff,↓reduceIte,Nat.reduceLeDiff,hA,hwl,h11]
  refine AAC (ls.length - (i+1)) (by omega) (by simp) ⟨i+1,k,v+1,i+1,rfl,by omega,?_,by simp [forget,get]⟩
  rw [List.getElem?_append_left (by simp; omega),List.getElem?_set_self hkl,hsn]; rfl
end
section
open Go.RowKit
variable [AAE]
theorem AZd {c:Ctx} {w:World}:∀ {ws:List (List UInt8)} {vs:List Value},AAr c w (ws.map ts) vs→vs=ws.map fun x=>Value.string (str x)
 | [],vs,h=>by rw [List.map_nil,AAr] at h; exact h
 | x::ws,vs,h=>by
  rw [List.map_cons,AAr] at h
  obtain ⟨a,b,rfl,h1,h2⟩:=h
  rw [AAq] at h1
  rw [h1.1,AZd h2]; rfl
theorem Bdx (ws:List (List UInt8)) (hne:ws≠[]) (hlen:(Lib.join ws [32]).length≤4000000) (hn:ws.length≤1000000):AAR Tryz.prog 55 [.sl 1 (ws.map ts),ts [32]] (fun r=>r=ts (Lib.join ws [32])):=by
 intro β F w vs hF hv
 obtain ⟨v1,us,rfl,h1,hv⟩:=AAZ.cons.1 hv
 obtain ⟨v2,us,rfl,h2,hv⟩:=AAZ.cons.1 hv
 rw [AAZ.nil] at hv; subst hv
 obtain rfl:=Rep.val.1 (Or.inl h2:Rep _ _ _ _)
 obtain ⟨_,h | ⟨b,off,cap,xs,rfl,hcap,hcap2,hFb,hx,hcell⟩⟩:=Rep.sl (Or.inl h1:Rep _ _ _ _)
 ·exact absurd (List.map_eq_nil_iff.1 h.1) hne
 have hxs:=AZd hx
 subst hxs
 have hmap:(ws.map str).map (·.data.toList)=ws:=by
  rw [List.map_map]
  conv=>rhs; rw [←List.map_id ws]
  exact List.map_congr_left fun x _=>A0C x
 have hlen2:(ws.map ts).length=(ws.map str).length:=by simp
 have hj:Lib.join ((ws.map str).map (·.data.toList)) (str [32]).data.toList=Lib.join ws [32]:=by rw [hmap,A0C]
 rw [hlen2] at hcap ⊢
 have hc:=Tryz.strings_Join b off cap (ws.map str) (str [32]) w (fun j x hjx=>by
  rw [List.getElem?_map] at hjx
  obtain ⟨y,hy,rfl⟩:=Option.map_eq_some_iff.1 hjx
  exact hcell j _ (by rw [List.getElem?_map,hy]; rfl)) (hF.1 b hFb) (by simp; omega) hcap (by rw [hj]; omega)
 rw [hj] at hc
 refine hc.mono ?_
 rintro e w' ⟨rfl,hb⟩
 exact ⟨_,_,F,rfl,rfl,Rep.of_val,⟨hb.os,hb.tape,hb.output,hb.size,hb.block,fun _ h=>h,fun _ _ h=>h,fun b hb'=>Nat.lt_of_lt_of_le (hF.1 b hb') hb.size⟩⟩
end
section
open Go.RowKit
variable [AAE]
theorem AWl {α:Type} {l:List α} {n:Nat} (h:l.length≤n):l.take n=l:=List.take_of_length_le h
def ATE (H:List Ob) (r:TV) (l:List UInt8):Option Nat→Prop
 | none=>r=ANb∧l=[]
 | some j=>∃ v,r = .os 1 j v [] 0 l.length l.length∧H[j]?=some (.obj v (.arr l.length 1 (l.map by8)))
theorem ATE.tup {H:List Ob} {r:TV} {l:List UInt8} {J:Option Nat} (h:ATE H r l J):ABl r=false:=by
 cases J with
 | none=>obtain ⟨rfl,_⟩:=h; rfl
 | some j=>obtain ⟨v,rfl,_⟩:=h; rfl
def BcQ (J:Option Nat) (H H':List Ob):Prop:=H.length≤H'.length∧∀ i,i<H.length→J≠some i→H'[i]?=H[i]?
theorem bl4:bl (str [48,48,48,48])=AKJ:=AAD
theorem AYN {m:List UInt8} {J:Option Nat} {H:List Ob} {j v n:Nat} {cs:List TV} (hJ:J=some j) (hj:j<H.length) (hn:n=m.length) (hcs:cs=m.map by8) :
  ∃ j',ATE (H.set j (.obj v (.arr n 1 cs))) (.os 1 j v [] 0 n n) m (some j')∧BcQ J H (H.set j (.obj v (.arr n 1 cs)))∧(J=some j'∨H.length≤j'):=by
 subst hn hcs hJ
 exact ⟨j,⟨v,rfl,by simp [hj]⟩,⟨by simp,fun i hi hne=>List.getElem?_set_ne (fun e=>hne (by rw [e]))⟩,.inl rfl⟩
theorem AZi {m:List UInt8} {H:List Ob} {v n:Nat} {cs:List TV} (hn:n=m.length) (hcs:cs=m.map by8) :
  ∃ j',ATE (H++[.obj v (.arr n 1 cs)]) (.os 1 H.length v [] 0 n n) m (some j')∧BcQ none H (H++[.obj v (.arr n 1 cs)])∧(False∨H.length≤j'):=by
 subst hn hcs
 exact ⟨H.length,⟨v,rfl,by simp⟩,⟨by simp,fun i hi _=>List.getElem?_append_left hi⟩,.inr (Nat.le_refl _)⟩
set_option maxHeartbeats 1000000 in
theorem BcX {o:TV} {l line:List UInt8} {J:Option Nat} {H:List Ob} (h:ATE H o l J) (hl:l.length≤100000000000) (hn:line.length≤4000000) :
  AAs Tryz.prog 54 [o,slB line] H (fun x H'=>∃ j,ATE H' x (l++AA7 line) (some j)∧BcQ J H H'∧(J=some j∨H.length≤j)):=by
 refine AHo (by simp) ?_
 have h4:(APS (line.length+4)).length=4:=rfl
 have z4:AKJ.length=4:=rfl
 by_cases h0:line.length=0
 ·have hP:AA7 line=AKJ:=by unfold AA7; rw [if_pos h0]
  rw [hP]
  cases J with
  | none =>
   obtain ⟨rfl,rfl⟩:=h
   simp -dsimp (disch:=first | assumption | omega | (simp only [AAl];try omega)) only [↓AAp,AAk,AAn,AAo,eq_self,Nat.reduceEqDiff,↓reduceIte,Nat.reduceAdd,reduceCtorEq,Nat.reduceLeDiff,↓AAK,bl4,z4]
   exact AZi rfl rfl
  | some j =>
   obtain ⟨v,rfl,hj⟩:=h
   have hjl:j<H.length:=(List.getElem?_eq_some_iff.1 hj).1
   simp -dsimp (disch:=first | assumption | omega | (simp only [AAl];try omega)) only [↓AAp,AAk,AAn,AAo,eq_self,Nat.reduceEqDiff,↓reduceIte,Nat.reduceAdd,reduceCtorEq,Nat.reduceLeDiff,↓AAK,bl4,z4,hj]
   exact AYN rfl hjl (by rw [List.length_append,z4]) (by rw [List.map_append])
 ·have hP:AA7 line=APS (line.length+4)++line:=by unfold AA7; rw [if_neg h0]
  rw [hP]
  cases J with
  | none =>
   obtain ⟨rfl,rfl⟩:=h
   simp -dsimp (disch:=first | assumption | omega | (simp only [AAl];try omega)) only [↓AAp,AAk,AAn,AAo,eq_self,Nat.reduceEqDiff,↓reduceIte,Nat.reduceAdd,reduceCtorEq,↓AAK]
   refine (AOd (line.length+4) (by omega)).calls rfl ?_
   rintro _ rfl
   simp -dsimp (disch:=first | assumption | omega | (simp only [AAl];try omega)) only [↓AAp,AAk,AAn,AAo,eq_self,Nat.reduceEqDiff,↓reduceIte,Nat.reduceAdd,reduceCtorEq,Nat.reduceLeDiff,↓AAK,AAD,h4]
   exact AZi (by rw [List.length_append,h4]) (by rw [List.map_append])
  | some j =>
   obtain ⟨v,rfl,hj⟩:=h
   have hjl:j<H.length:=(List.getElem?_eq_some_iff.1 hj).1
   simp -dsimp (disch:=first | assumption | omega | (simp only [AAl];try omega)) only [↓AAp,AAk,AAn,AAo,eq_self,Nat.reduceEqDiff,↓reduceIte,Nat.reduceAdd,reduceCtorEq,↓AAK]
   refine (AOd (line.length+4) (by omega)).calls rfl ?_
   rintro _ rfl
   simp -dsimp (disch:=first | assumption | omega | (simp only [AAl];try omega)) only [↓AAp,AAk,AAn,AAo,eq_self,Nat.reduceEqDiff,↓reduceIte,reduceCtorEq,Nat.reduceLeDiff,↓AAK,AAD,h4,hj]
   refine AYN rfl hjl (by rw [List.length_append,List.length_append,h4]; omega) ?_
   rw [AWl (by simp [h4]),List.map_append,List.map_append,List.append_assoc]
set_option maxHeartbeats 1000000 in
theorem A5W {o:TV} {l line:List UInt8} {J:Option Nat} {H:List Ob} {id2 ver2:Nat} (h:ATE H o l J) (h2:H[id2]?=some (.obj ver2 (.arr line.length 1 (line.map by8)))) (hne:J≠some id2) (hl:l.length≤100000000000) (hn:line.length≤4000000) :
  AAs Tryz.prog 54 [o,.os 1 id2 ver2 [] 0 line.length line.length] H (fun x H'=>∃ j,ATE H' x (l++AA7 line) (some j)∧BcQ J H H'∧(J=some j∨H.length≤j)):=by
 refine AHo (by simp) ?_
 have hl2:id2<H.length:=(List.getElem?_eq_some_iff.1 h2).1
 have hlt:(line.map by8).take line.length=line.map by8:=List.take_of_length_le (by simp)
 have h2a:∀ T:List Ob,(H++T)[id2]?=some (.obj ver2 (.arr line.length 1 (line.map by8))):=fun T=>by rw [List.getElem?_append_left hl2]; exact h2
 have h4:(APS (line.length+4)).length=4:=rfl
 have z4:AKJ.length=4:=rfl
 by_cases h0:line.length=0
 ·have hP:AA7 line=AKJ:=by unfold AA7; rw [if_pos h0]
  rw [hP]
  cases J with
  | none =>
   obtain ⟨rfl,rfl⟩:=h
   simp -dsimp (disch:=first | assumption | omega | (simp only [AAl];try omega)) only [↓AAp,AAk,AAn,AAo,eq_self,Nat.reduceEqDiff,↓reduceIte,Nat.reduceAdd,reduceCtorEq,Nat.reduceLeDiff,↓AAK,bl4,z4]
   exact AZi rfl rfl
  | some j =>
   obtain ⟨v,rfl,hj⟩:=h
   have hjl:j<H.length:=(List.getElem?_eq_some_iff.1 hj).1
   have h2s:∀ o:Ob,(H.set j o)[id2]?=some (.obj ver2 (.arr line.length 1 (line.map by8))):=fun o=>by rw [List.getElem?_set_ne (fun e=>hne (by rw [e]))]; exact h2
   simp -dsimp (disch:=first | assumption | omega | (simp only [AAl];try omega)) only [↓AAp,AAk,AAn,AAo,eq_self,Nat.reduceEqDiff,↓reduceIte,Nat.reduceAdd,reduceCtorEq,Nat.reduceLeDiff,↓AAK,bl4,z4,hj]
   exact AYN rfl hjl (by rw [List.length_append,z4]) (by rw [List.map_append])
 ·have hP:AA7 line=APS (line.length+4)++line:=by unfold AA7; rw [if_neg h0]
  rw [hP]
  cases J with
  | none =>
   obtain ⟨rfl,rfl⟩:=h
   simp -dsimp (disch:=first | assumption | omega | (simp only [AAl];try omega)) only [↓AAp,AAk,AAn,AAo,eq_self,Nat.reduceEqDiff,↓reduceIte,Nat.reduceAdd,reduceCtorEq,↓AAK]
   refine (AOd (line.length+4) (by omega)).calls rfl ?_
   rintro _ rfl
   simp -dsimp (disch:=first | assumption | omega | (simp only [AAl];try omega)) only [↓AAp,AAk,AAn,AAo,eq_self,Nat.reduceEqDiff,↓reduceIte,Nat.reduceAdd,reduceCtorEq,Nat.reduceLeDiff,↓AAK,AAD,h4,h2a,hlt]
   exact AZi (by rw [List.length_append,h4]) (by rw [List.map_append])
  | some j =>
   obtain ⟨v,rfl,hj⟩:=h
   have hjl:j<H.length:=(List.getElem?_eq_some_iff.1 hj).1
   have h2s:∀ o:Ob,(H.set j o)[id2]?=some (.obj ver2 (.arr line.length 1 (line.map by8))):=fun o=>by rw [List.getElem?_set_ne (fun e=>hne (by rw [e]))]; exact h2
   simp -dsimp (disch:=first | assumption | omega | (simp only [AAl];try omega)) only [↓AAp,AAk,AAn,AAo,eq_self,Nat.reduceEqDiff,↓reduceIte,Nat.reduceAdd,reduceCtorEq,↓AAK]
   refine (AOd (line.length+4) (by omega)).calls rfl ?_
   rintro _ rfl
   simp -dsimp (disch:=first | assumption | omega | (simp only [AAl];try omega)) only [↓AAp,AAk,AAn,AAo,eq_self,Nat.reduceEqDiff,↓reduceIte,reduceCtorEq,Nat.reduceLeDiff,↓AAK,AAD,h4,hj,h2s,hlt]
   refine AYN rfl hjl (by rw [List.length_append,List.length_append,h4]; omega) ?_
   rw [AWl (by simp [h4]),List.map_append,List.map_append,List.append_assoc]
theorem A9N {H:List Ob} {N:Nat} {o:TV} {bad ok:Bool} {K:TV→List Ob→Prop} (hT:H[N]?=some (.obj 0 (.agg [o,tb bad]))) (ho:AAu o=1) (hk:K (.tup []) (H.set N (.obj 0 (.agg [o,tb (bad || !ok)])))) :
  AAs Tryz.prog 27 [.op N 0 [],tb ok] H K:=by
 refine AQp (by simp) ?_
 cases bad with
 | true =>
  simp -dsimp (disch:=first | assumption | omega | (simp only [AAl];try omega)) only [↓AAp,AAk,AAn,AAo,eq_self,Nat.reduceEqDiff,↓reduceIte,Nat.reduceAdd,reduceCtorEq,hT,ho,↓AKa]
  exact hk
 | false =>
  simp -dsimp (disch:=first | assumption | omega | (simp only [AAl];try omega)) only [↓AAp,AAk,AAn,AAo,eq_self,Nat.reduceEqDiff,↓reduceIte,Nat.reduceAdd,reduceCtorEq,hT,ho,↓AKa]
  exact hk
theorem Bgk {H:List Ob} {N:Nat} {o:TV} {l:List UInt8} {bad:Bool} {J:Option Nat} {id ver cp:Nat} {ws:List (List UInt8)} (hT:H[N]?=some (.obj 0 (.agg [o,tb bad]))) (hrow:ATE H o l J) (hws:H[id]?=some (.obj ver (.arr ws.length 1 (ws.map ts)))) (hne:ws≠[]) (hwn:ws.length≤1000000) (hj:(Lib.join ws [32]).length≤3000000) (hl:l.length≤100000000000) {K:TV→List Ob→Prop}
  (hk:∀ H' o' j,ATE H' o' (l++AA7 (Lib.join ws [32]++[10])) (some j)→H'[N]?=some (.obj 0 (.agg [o',tb bad]))→(∀ i,i<H.length→i≠N→J≠some i→H'[i]?=H[i]?)→H.length≤H'.length→(J=some j∨H.length≤j)→K (.tup []) H') :
  AAs Tryz.prog 29 [.op N 0 [],.os 1 id ver [] 0 ws.length cp] H K:=by
 refine AR3 (by simp) ?_
 have hwt:(ws.map ts).take ws.length=ws.map ts:=List.take_of_length_le (by simp)
 have htup:=hrow.tup
 have how:AAu o=1∧ANn o=false:=by
  cases J with
  | none=>obtain ⟨rfl,_⟩:=hrow; exact ⟨rfl,rfl⟩
  | some j=>obtain ⟨v,rfl,_⟩:=hrow; exact ⟨rfl,rfl⟩
 obtain ⟨o1,o2⟩:=how
 have hjl:(Lib.join ws [32]++[(10:UInt8)]).length≤4000000:=by simp; omega
 have hcat:ABW 9 BinOp.add (.string (str (Lib.join ws [32]))) (.string (str [10]))=some (.string (str (Lib.join ws [32]++[10]))):=AXN (by simp; omega)
 simp -dsimp (disch:=first | assumption | omega | (simp only [AAl];try omega)) only [↓AAp,AAk,AAn,AAo,eq_self,Nat.reduceEqDiff,Nat.reduceMod,↓reduceIte,Nat.reduceAdd,reduceCtorEq,hT,o1,o2,↓ATo]
 refine AAs.callsP ((Bdx ws hne (by omega) hwn).lends (args':=[.sl 1 (ws.map ts),ts [32]]) (by simp -dsimp (disch:=first | assumption | omega | (simp only [AAl];try omega)) only [AAn,AAo,eq_self,↓reduceIte,hws,hwt]) fun r hr=>⟨by rw [hr]; rfl,?_,?_⟩)
 case refine_2=>exact A09 (id:=N) (ver:=0) (p:=[(0,0)]) (by simp [get]) rfl AU1
 subst hr
 generalize Lib.join ws [32]++[(10:UInt8)]=x at *
 have hx9:x.length≤9223372036854775807:=by omega
 simp -dsimp (disch:=first | assumption | omega | (simp only [AAl];try omega)) only [↓AAp,AAk,AAn,AAo,eq_self,Nat.reduceEqDiff,↓reduceIte,reduceCtorEq,htup,hcat,AAD]
 have hNl:N<H.length:=(List.getElem?_eq_some_iff.1 hT).1
 have hJN:J≠some N:=by
  rintro rfl
  obtain ⟨v,_,h⟩:=hrow
  rw [hT] at h
  cases h
 have hJl:∀ j,J=some j→j<H.length:=by
  rintro j rfl
  obtain ⟨v,_,h⟩:=hrow
  exact (List.getElem?_eq_some_iff.1 h).1
 have hrow':∀ T:List Ob,ATE (H++T) o l J:=fun T=>by
  cases J with
  | none=>exact hrow
  | some j =>
   obtain ⟨v,h1,h2⟩:=hrow
   exact ⟨v,h1,by rw [List.getElem?_append_left (hJl j rfl)]; exact h2⟩
 refine AAs.callsP (AAs.mono (A5W (J:=J) (line:=x) (hrow' _) (by simp) (fun e=>Nat.lt_irrefl _ (hJl _ e)) hl (by omega)) ?_)
 rintro y H2 ⟨j,k1,k2,k3⟩
 have hTn:H2[N]?=some (.obj 0 (.agg [o,tb bad])):=by
  rw [k2.2 N (by simp; omega) hJN,List.getElem?_append_left hNl]; exact hT
 have h2l:H.length+1≤H2.length:=by have:=k2.1; simpa using this
 have hjN:j≠N:=by
  rcases k3 with h | h
  ·rintro rfl; exact hJN h
  ·simp at h; omega
 have hyw:AAu y=1∧ANn y=false∧ABl y=false∧lays y=true:=by
  obtain ⟨v,rfl,_⟩:=k1; exact ⟨rfl,rfl,rfl,rfl⟩
 obtain ⟨y1,y2,y3,y4⟩:=hyw
 refine ⟨?_,?_⟩
 ·simp -dsimp (disch:=first | assumption | omega | (simp only [AAl];try omega)) only [↓AAp,AAk,AAn,AAo,eq_self,Nat.reduceEqDiff,↓reduceIte,reduceCtorEq,hTn,y1,y4,o1]
  refine ⟨hk _ y j ?_ (List.getElem?_set_self (by omega)) (fun i hi hiN hJi => ?_) (by rw [List.length_set]; omega) ?_,AU1⟩
  ·obtain ⟨v,hy,hj2⟩:=k1
   exact ⟨v,hy,by rw [List.getElem?_set_ne (Ne.symm hjN)]; exact hj2⟩
  ·rw [List.getElem?_set_ne (Ne.symm hiN),k2.2 i (by simp; omega) hJi,List.getElem?_append_left hi]
  ·rcases k3 with h | h
   ·exact .inl h
   ·simp at h; exact .inr (by omega)
 ·refine A09 (id:=N) (ver:=0) (p:=[(0,0)]) (by simp [get]) ?_ AU1
  rw [hTn,List.getElem?_append_left hNl,hT]
end
section
open Go.RowKit
variable [AAE]
theorem A97 {H:List Ob} {N:Nat} {o:TV} {bad:Bool} {K:TV→List Ob→Prop} (hT:H[N]?=some (.obj 0 (.agg [o,tb bad]))) (ho:AAu o=1) (hag:ANn o=false) (htu:ABl o=false)
  (hk:K (.tup (if bad then [ANb,eno 111] else [o,.val .nilIface])) H) :
  AAs Tryz.prog 32 [.op N 0 []] H K:=by
 refine AQ1 (by simp) ?_
 cases bad with
 | true =>
  simp -dsimp (disch:=first | assumption | omega | (simp only [AAl];try omega)) only [↓AAp,AAk,AAn,AAo,eq_self,Nat.reduceEqDiff,↓reduceIte,Nat.reduceAdd,reduceCtorEq,hT,ho,↓AJM]
  exact hk
 | false =>
  simp -dsimp (disch:=first | assumption | omega | (simp only [AAl];try omega)) only [↓AAp,AAk,AAn,AAo,eq_self,Nat.reduceEqDiff,↓reduceIte,Nat.reduceAdd,reduceCtorEq,hT,ho,hag,htu,↓AJM]
  exact hk
theorem A7u {H:List Ob} {N:Nat} {o:TV} {l:List UInt8} {bad:Bool} {J:Option Nat} (hT:H[N]?=some (.obj 0 (.agg [o,tb bad]))) (hrow:ATE H o l J) (hl:l.length≤100000000000) {K:TV→List Ob→Prop}
  (hk:∀ H' o' j,ATE H' o' (l++AKJ) (some j)→H'[N]?=some (.obj 0 (.agg [o',tb bad]))→(∀ i,i<H.length→i≠N→J≠some i→H'[i]?=H[i]?)→H.length≤H'.length→(J=some j∨H.length≤j)→K (.tup []) H') :
  AAs Tryz.prog 31 [.op N 0 []] H K:=by
 refine APm (by simp) ?_
 have hNl:N<H.length:=(List.getElem?_eq_some_iff.1 hT).1
 have z4:AKJ.length=4:=rfl
 cases J with
 | none =>
  obtain ⟨rfl,rfl⟩:=hrow
  have hA:∀ T:List Ob,(H++T)[N]?=some (.obj 0 (.agg [ANb,tb bad])):=fun T=>by rw [List.getElem?_append_left hNl]; exact hT
  simp -dsimp (disch:=first | assumption | omega | (simp only [AAl];try omega)) only [↓AAp,AAk,AAn,AAo,eq_self,Nat.reduceEqDiff,↓reduceIte,reduceCtorEq,Nat.reduceLeDiff,hT,hA,bl4,z4,↓AH7]
  refine hk _ _ H.length ⟨1,rfl,?_⟩ ?_ (fun i hi hiN _ => ?_) (by simp) (.inr (Nat.le_refl _))
  ·rw [List.getElem?_append_right (by simp)]; simp [z4]
  ·rw [List.getElem?_append_left (by simpa using hNl),List.getElem?_set_self hNl]; rfl
  ·rw [List.getElem?_append_left (by simpa using hi),List.getElem?_set_ne (Ne.symm hiN)]
 | some j =>
  obtain ⟨v,rfl,hj⟩:=hrow
  have hjN:j≠N:=by rintro rfl; rw [hT] at hj; cases hj
  have hjl:j<H.length:=(List.getElem?_eq_some_iff.1 hj).1
  have hS:∀ o:Ob,(H.set j o)[N]?=some (.obj 0 (.agg [.os 1 j v [] 0 l.length l.length,tb bad])):=fun o=>by rw [List.getElem?_set_ne hjN]; exact hT
  have hlt:(l.map by8).take l.length=l.map by8:=List.take_of_length_le (by simp)
  simp -dsimp (disch:=first | assumption | omega | (simp only [AAl];try omega)) only [↓AAp,AAk,AAn,AAo,eq_self,Nat.reduceEqDiff,↓reduceIte,reduceCtorEq,Nat.reduceLeDiff,hT,hj,hS,hlt,bl4,z4,↓AH7]
  have hL:(l++AKJ).length=l.length+4:=by simp [z4]
  refine hk _ _ j ⟨v+1,rfl,?_⟩ ?_ (fun i hi hiN hji => ?_) (by simp) (.inl rfl)
  ·rw [List.getElem?_set_ne (Ne.symm hjN),List.getElem?_set_self hjl,hL,List.map_append]
  ·rw [List.getElem?_set_self (by simpa using hNl),hL]
  ·rw [List.getElem?_set_ne (Ne.symm hiN),List.getElem?_set_ne (fun e=>hji (by rw [e]))]
end
section
open Go.RowKit
variable [AAE]
theorem A6T {K:TV→Prop} [Tg K] (x:TV) (h:K x):vex K:=⟨x,h⟩
theorem A6V (n:Nat) (h:n<16):AAR Tryz.prog 59 [.val (.int .u8 (n:Int))] (fun r=>r=by8 (dig n)):=by
 refine AAs.toPureV (AU7 (by simp) ?_)
 by_cases h1:n<10
 ·simp -dsimp (disch:=first | assumption | omega) only [↓AAp,AAk,AAn,AAo,eq_self,↓reduceIte,reduceCtorEq,↓ALz,AUw]
  have e:(48+n) % 256=48+n:=by omega
  rw [e,AZz (by omega)]
  unfold dig; rw [if_pos h1]
 ·simp -dsimp (disch:=first | assumption | omega) only [↓AAp,AAk,AAn,AAo,eq_self,↓reduceIte,reduceCtorEq,↓ALz,AUw]
  have e:(97+n) % 256=97+n:=by omega
  rw [e]
  simp -dsimp (disch:=first | assumption | omega) only [↓AAp,AAk,AAn,AAo,eq_self,↓reduceIte,↓ALz,AUt]
  have e2:97+n - 10=87+n:=by omega
  rw [e2,AZz (by omega)]
  unfold dig; rw [if_neg h1]
theorem Bej {x:UInt8}:ABW 5 .quo (.int .u8 (x.toNat:Int)) (.int .u8 ((16:Nat):Int))=some (.int .u8 ((x.toNat / 16:Nat):Int)):=Bbx (by omega) (by have:=x.toNat_lt; omega)
theorem Bgu {a b:TV}:((List.replicate 2 (TV.val (Value.int IntKind.u8 ((0:Nat):Int)))).set 0 a).set 1 b=[a,b]:=by simp [List.replicate]
theorem A76 (l:List UInt8) (hl:l.length=20):AAR Tryz.prog 35 [.arr 20 1 (l.map by8)] (fun r=>r = .val (.string (str (ABt l)))):=by
 refine AAs.toPureV (AXO (by simp) ?_)
 simp -dsimp (disch:=first | assumption | omega) only [↓AAp,AAk,AAn,AAo,eq_self,Nat.reduceEqDiff,↓reduceIte,↓AQi]
 refine ACS (fun q e H=>∃ (i v:Nat),q=20 - i∧i≤20∧e=[(1,.op 0 0 []),(3,.os 1 1 v [] 0 (2*i) (2*i)),(4,i64 (i:Int))] ∧
  H=[.obj 0 (.arr 20 1 (l.map by8)),.obj v (.arr (2*i) 1 ((ABt (l.take i)).map by8))]) 20 ?_ ?_
 ·exact ⟨0,0,by simp,by simp,rfl,by simp [ABt]⟩
 ·rintro q e H ⟨i,v,rfl,hi,rfl,rfl⟩
  by_cases h:i<20
  ·have hg:l[i]?=some l[i]:=List.getElem?_eq_getElem (by omega)
   have hsucc:=List.take_succ_eq_append_getElem (l:=l) (i:=i) (by omega)
   have hsn:=AUG (l.take i) l[i]
   rw [←hsucc] at hsn
   have hlen:(ABt (l.take i)).length=2*i:=by rw [AEX,List.length_take]; omega
   generalize hr2:ABt (l.take (i+1))=r2 at *
   generalize ABt (l.take i)=r at *
   generalize l[i]=c at *
   have hc:=c.toNat_lt
   have htk:(r.map by8).take (2*i)=r.map by8:=List.take_of_length_le (by simp [hlen])
   have htk2:r.take (2*i)=r:=List.take_of_length_le (by omega)
   simp -dsimp (disch:=first | assumption | omega) only [↓AAp,AAk,AAn,AAo,eq_self,Nat.reduceEqDiff,↓reduceIte,↓AQi,hg,Bej]
   refine A6T (by8 (dig (c.toNat / 16))) ⟨(A6V _ (by omega)).calls rfl (fun x hx=>⟨hx,rfl⟩),?_⟩
   simp -dsimp (disch:=first | assumption | omega) only [↓AAp,AAk,AAn,AAo,eq_self,Nat.reduceEqDiff,↓reduceIte,hg]
   refine (A6V _ (by omega)).calls rfl ?_
   rintro x rfl
   have t2:[by8 (dig (c.toNat / 16)),by8 (dig (c.toNat % 16))].take 2=[by8 (dig (c.toNat / 16)),by8 (dig (c.toNat % 16))]:=rfl
   simp -dsimp (disch:=first | assumption | omega) only [↓AAp,AAk,AAn,AAo,eq_self,Nat.reduceEqDiff,↓reduceIte,Nat.reduceAdd,Nat.reduceLeDiff,Bgu,htk,t2]
   refine A1N (20 - (i+1)) 2 (by omega) (by simp) rfl (by simp [ANg,AXw,AE7]) ⟨i+1,v+1,rfl,by omega,?_,?_⟩
   ·have:2*(i+1)=2*i+2:=by omega
    rw [this]; rfl
   ·have:2*(i+1)=2*i+2:=by omega
    rw [this,hr2,hsn]; simp
  ·have hi2:i=20:=by omega
   subst hi2
   have htl:l.take 20=l:=List.take_of_length_le (by omega)
   have hlen:(ABt l).length=40:=by rw [AEX]; omega
   rw [htl]
   have htk:((ABt l).map by8).take (2*20)=(ABt l).map by8:=List.take_of_length_le (by simp [hlen])
   have htk2:(ABt l).take (2*20)=ABt l:=List.take_of_length_le (by omega)
   simp -dsimp (disch:=first | assumption | omega) only [↓AAp,AAk,AAn,AAo,eq_self,Nat.reduceLT,Nat.reduceEqDiff,Nat.reduceMul,↓reduceIte,↓AQi,htk]
end
section
open Go.RowKit
variable [AAE]
def hv (c:UInt8):Nat:=if 48≤c.toNat∧c.toNat≤57 then c.toNat - 48 else if 97≤c.toNat∧c.toNat≤102 then c.toNat - 87 else 16
theorem A5G:∀ n,n<256→Lib.indexByte ASF (UInt8.ofNat n)=if hv (UInt8.ofNat n)<16 then (hv (UInt8.ofNat n):Int) else -1:=by decide +kernel
theorem BbE (c:UInt8):Lib.indexByte ASF c=if hv c<16 then (hv c:Int) else -1:=by
 have h:=A5G c.toNat c.toNat_lt
 rwa [UInt8.ofNat_toNat] at h
theorem AZo:∀ n,n<16→hv (dig n)=n:=by decide
def AD7:List UInt8→List UInt8
 | a::b::l=>UInt8.ofNat (hv a*16+hv b)::AD7 l
 | _=>[]
def AFG (s:List UInt8):Bool:=decide (s.length=40) && s.all fun c=>decide (hv c<16)
theorem ADF:∀ {n:Nat} {s:List UInt8},s.length=2*n→(AD7 s).length=n
 | 0,s,h=>by rw [List.length_eq_zero_iff.1 (by omega:s.length=0)]; rfl
 | n+1,[],h=>by simp at h
 | n+1,[a],h=>by simp at h; omega
 | n+1,a::b::s,h=>by
  rw [AD7,List.length_cons,ADF (n:=n) (by simp at h; omega)]
theorem AQS:∀ {n:Nat} {s:List UInt8} {a b:UInt8},s.length=2*n→AD7 (s++[a,b])=AD7 s++[UInt8.ofNat (hv a*16+hv b)]
 | 0,s,a,b,h=>by rw [List.length_eq_zero_iff.1 (by omega:s.length=0)]; rfl
 | n+1,[],a,b,h=>by simp at h
 | n+1,[x],a,b,h=>by simp at h; omega
 | n+1,x::y::s,a,b,h=>by
  rw [List.cons_append,List.cons_append,AD7,AD7,AQS (n:=n) (by simp at h; omega),List.cons_append]
theorem AZr {s:List UInt8} {i:Nat} (h:2*i+1<s.length):s.take (2*(i+1))=s.take (2*i)++[s[2*i],s[2*i+1]]:=by
 have e:2*(i+1)=2*i+1+1:=by omega
 rw [e,List.take_succ_eq_append_getElem h,List.take_succ_eq_append_getElem (by omega),List.append_assoc]; rfl
def zer (n:Nat):List UInt8:=List.replicate n 0
theorem AXb:(zer 20).map by8=List.replicate 20 (TV.val (.int .u8 ((0:Nat):Int))):=by simp [zer,by8]
def ADB (s:List UInt8):List UInt8:=if AFG s then AD7 s else zer 20
theorem AZw {l:List UInt8} {n:Nat} {b:UInt8} (h:0<n):((l++zer n).map by8).set l.length (by8 b)=((l++[b])++zer (n - 1)).map by8:=by
 obtain ⟨m,rfl⟩:∃ m,n=m+1:=⟨n - 1,by omega⟩
 rw [←List.map_set,List.set_append_right _ _ (Nat.le_refl _),Nat.sub_self,Nat.add_sub_cancel]
 simp [zer,List.replicate_succ]
theorem A62 (l:List UInt8) (c:UInt8):AAR Tryz.prog 95 [.val (.string (str l)),by8 c] (fun x=>x = .val (.int .i64 (Lib.indexByte l c))):=by
 refine AAs.toPureV (AML (by simp) ?_)
 simp -dsimp (disch:=first | assumption | omega) only [↓AAp,AAk,AAn,AAo,eq_self,Nat.reduceEqDiff,↓reduceIte,Nat.reduceAdd,reduceCtorEq,↓AGF]
 refine (AX8 l c).calls rfl ?_
 rintro x rfl
 simp -dsimp (disch:=first | assumption | omega) only [↓AAp,AAk,AAn,AAo,eq_self,↓reduceIte,↓AGF]
theorem Bgi {a b:Nat} (ha:a<16) (hb:b<16):a*2 ^ 4 ||| b=a*16+b:=by
 have h:=Nat.two_pow_add_eq_or_of_lt (i:=4) (b:=b) (by omega) a
 rw [Nat.mul_comm] at h
 rw [←h]
theorem AIm {s:List UInt8} (h:s.length=40):AFG s=true↔∀ c∈s,hv c<16:=by
 unfold AFG
 rw [Bool.and_eq_true,List.all_eq_true]
 simp [h]
theorem A94 (s:List UInt8) (hs:s.length≤1000000):AAR Tryz.prog 65 [.val (.string (str s))] (fun r=>r = .tup [.arr 20 1 ((ADB s).map by8),if AFG s then .val .nilIface else eno 12]):=by
 refine AAs.toPureV (ASC (by simp) ?_)
 by_cases h40:s.length=40
 case neg =>
  have hok:AFG s=false:=by unfold AFG; rw [Bool.and_eq_false_iff]; left; simpa using h40
  unfold ADB
  rw [hok,if_neg (by simp),if_neg (by simp),AXb]
  simp -dsimp (disch:=first | assumption | omega) only [↓AAp,AAk,AAn,AAo,eq_self,Nat.reduceEqDiff,↓reduceIte,reduceCtorEq,↓ACz,AEC]
  rfl
 simp -dsimp (disch:=first | assumption | omega) only [↓AAp,AAk,AAn,AAo,eq_self,Nat.reduceEqDiff,↓reduceIte,reduceCtorEq,↓ACz,AEC]
 refine ACS (fun q e H=>∃ i:Nat,q=20 - i∧i≤20∧(∀ c∈s.take (2*i),hv c<16)∧e=[(0,.val (.string (str s))),(2,.op 0 0 []),(4,.op 1 0 []),(13,i64 (i:Int))] ∧
  H=[.obj 0 (.arr 20 1 ((zer 20).map by8)),.obj 0 (.arr 20 1 ((AD7 (s.take (2*i))++zer (20 - i)).map by8))]) 20 ?_ ?_
 ·exact ⟨0,by simp,by simp,by simp,rfl,rfl⟩
 ·rintro q e H ⟨i,rfl,hi,hall,rfl,rfl⟩
  by_cases h:i<20
  ·have h1:2*i<s.length:=by omega
   have h2:2*i+1<s.length:=by omega
   have hg1:s[2*i]?=some s[2*i]:=List.getElem?_eq_getElem h1
   have hg2:s[2*i+1]?=some s[2*i+1]:=List.getElem?_eq_getElem h2
   have htw:=AZr h2
   have hpl:(AD7 (s.take (2*i))).length=i:=ADF (by rw [List.length_take]; omega)
   have hps:=AQS (n:=i) (s:=s.take (2*i)) (a:=s[2*i]) (b:=s[2*i+1]) (by rw [List.length_take]; omega)
   rw [←htw] at hps
   have hm1:=List.getElem_mem h1
   have hm2:=List.getElem_mem h2
   have hmem:∀ c∈s.take (2*(i+1)),c∈s.take (2*i)∨c=s[2*i]∨c=s[2*i+1]:=by
    intro c hc
    rw [htw,List.mem_append] at hc
    rcases hc with hc | hc
    ·exact .inl hc
    ·simp only [List.mem_cons,List.not_mem_nil,or_false] at hc; exact .inr hc
   generalize s[2*i]=a at *
   generalize s[2*i+1]=b at *
   generalize hP:AD7 (s.take (2*i))=P at *
   have hsf:=AZw (l:=P) (n:=20 - i) (b:=UInt8.ofNat (hv a*16+hv b)) (by omega)
   rw [hpl] at hsf
   have hget:(P++zer (20 - i))[i]?=some 0:=by
    rw [List.getElem?_append_right (by omega),hpl,Nat.sub_self]
    unfold zer; rw [List.getElem?_replicate,if_pos (by omega)]
   have hlp:(P++zer (20 - i)).length=20:=by rw [List.length_append,hpl,zer,List.length_replicate]; omega
   simp -dsimp (disch:=first | assumption | omega) only [↓AAp,AAk,AAn,AAo,eq_self,Nat.reduceEqDiff,↓reduceIte,reduceCtorEq,↓ACz,AEC,hg1]
   refine A6T (.val (.int .i64 (Lib.indexByte ASF a))) ⟨(A62 ASF a).calls rfl (fun x hx=>⟨hx,rfl⟩),?_⟩
   rw [BbE a]
   simp -dsimp (disch:=first | assumption | omega) only [↓AAp,AAk,AAn,AAo,eq_self,Nat.reduceEqDiff,↓reduceIte,reduceCtorEq,AEC,hg2]
   refine (A62 ASF b).calls rfl ?_
   rintro x rfl
   rw [BbE b]
   by_cases ha:hv a<16
   ·rw [if_pos ha]
    by_cases hb:hv b<16
    ·rw [if_pos hb]
     have ho:=Bgi ha hb
     simp -dsimp (disch:=first | assumption | omega) only [↓AAp,AAk,AAn,AAo,eq_self,Nat.reduceEqDiff,Nat.reducePow,↓reduceIte,Nat.reduceAdd,reduceCtorEq,ho,hget,hsf]
     refine AAC (20 - (i+1)) (by omega) (by simp) ⟨i+1,rfl,by omega,fun c hc => ?_,rfl,?_⟩
     ·rcases hmem c hc with hc | rfl | rfl
      ·exact hall c hc
      ·exact ha
      ·exact hb
     ·rw [hps,show 20 - (i+1)=20 - i - 1 from by omega]
    ·rw [if_neg hb]
     have hok:AFG s=false:=by
      cases hq:AFG s with
      | false=>rfl
      | true=>exact absurd ((AIm h40).1 hq b hm2) hb
     unfold ADB
     rw [hok,if_neg (by simp),if_neg (by simp),AXb]
     simp -dsimp (disch:=first | assumption | omega) only [↓AAp,AAk,AAn,AAo,eq_self,Nat.reduceEqDiff,↓reduceIte,reduceCtorEq,↓ACz]
     rfl
   ·rw [if_neg ha]
    have hok:AFG s=false:=by
     cases hq:AFG s with
     | false=>rfl
     | true=>exact absurd ((AIm h40).1 hq a hm1) ha
    unfold ADB
    rw [hok,if_neg (by simp),if_neg (by simp),AXb]
    simp -dsimp (disch:=first | assumption | omega) only [↓AAp,AAk,AAn,AAo,eq_self,Nat.reduceEqDiff,↓reduceIte,reduceCtorEq,↓ACz]
    rfl
  ·have hi2:i=20:=by omega
   subst hi2
   have htl:s.take (2*20)=s:=List.take_of_length_le (by omega)
   rw [htl] at hall
   have hok:AFG s=true:=(AIm h40).2 hall
   have hpl:(AD7 s).length=20:=ADF (by omega)
   unfold ADB
   rw [hok,if_pos rfl,if_pos rfl,htl]
   simp -dsimp (disch:=first | assumption | omega) only [↓AAp,AAk,AAn,AAo,eq_self,Nat.reduceLT,Nat.reduceEqDiff,Nat.reduceSub,↓reduceIte,reduceCtorEq,↓ACz]
   simp [zer]
def APo:List UInt8→List UInt8
 | a::b::l=>UInt8.ofNat (hv a*16+hv b)::APo l
 | [a]=>[UInt8.ofNat (hv a)]
 | []=>[]
theorem AJw:∀ {n:Nat} {s:List UInt8},s.length=2*n→APo s=AD7 s
 | 0,s,h=>by rw [List.length_eq_zero_iff.1 (by omega:s.length=0)]; rfl
 | n+1,[],h=>by simp at h
 | n+1,[a],h=>by simp at h; omega
 | n+1,a::b::s,h=>by rw [APo,AD7,AJw (n:=n) (by simp at h; omega)]
theorem AP0:∀ {n:Nat} {s:List UInt8} {a:UInt8},s.length=2*n→APo (s++[a])=AD7 s++[UInt8.ofNat (hv a)]
 | 0,s,a,h=>by rw [List.length_eq_zero_iff.1 (by omega:s.length=0)]; rfl
 | n+1,[],a,h=>by simp at h
 | n+1,[x],a,h=>by simp at h; omega
 | n+1,x::y::s,a,h=>by rw [List.cons_append,List.cons_append,APo,AD7,AP0 (n:=n) (by simp at h; omega),List.cons_append]
theorem A2L {s:List UInt8} {c:UInt8} (h40:s.length=40) (hm:c∈s) (hc:¬ hv c<16):AFG s=false:=by
 cases hq:AFG s with
 | false=>rfl
 | true=>exact absurd ((AIm h40).1 hq c hm) hc
theorem Bbd {c:UInt8} (h1:48≤c.toNat) (h2:c.toNat≤57):hv c=c.toNat - 48:=by unfold hv; rw [if_pos ⟨h1,h2⟩]
theorem BbI {c:UInt8} (h1:97≤c.toNat) (h2:c.toNat≤102):hv c=c.toNat - 87:=by unfold hv; rw [if_neg (by omega),if_pos ⟨h1,h2⟩]
theorem BbP {c:UInt8} (h1:¬ (48≤c.toNat∧c.toNat≤57)) (h2:¬ (97≤c.toNat∧c.toNat≤102)):hv c=16:=by unfold hv; rw [if_neg h1,if_neg h2]
theorem A23 {s:List UInt8} {i:Nat} (h40:s.length=40) (h:i<40) (hall:∀ c∈s.take i,hv c<16) {n:Nat} (hn:hv s[i]=n) (hn16:n<16) :
  ∃ old:UInt8,(APo (s.take i)++zer (20 - (i+1) / 2))[i / 2]?=some old∧((APo (s.take i)++zer (20 - (i+1) / 2)).map by8).set (i / 2) (.val (.int .u8 (((old.toNat*16 % 256+n) % 256:Nat):Int)))=(APo (s.take (i+1))++zer (20 - (i+1+1) / 2)).map by8:=by
 have hsucc:=List.take_succ_eq_append_getElem (l:=s) (i:=i) (by omega)
 rcases Nat.mod_two_eq_zero_or_one i with hp | hp
 ·obtain ⟨k,rfl⟩:∃ k,i=2*k:=⟨i / 2,by omega⟩
  have hl:(s.take (2*k)).length=2*k:=by rw [List.length_take]; omega
  have hpl:(AD7 (s.take (2*k))).length=k:=ADF hl
  have e1:20 - (2*k+1) / 2=20 - k:=by omega
  have e2:2*k / 2=k:=by omega
  have e3:20 - (2*k+1+1) / 2=20 - k - 1:=by omega
  rw [AJw hl,hsucc,AP0 hl,e1,e2,e3,hn]
  refine ⟨0,?_,?_⟩
  ·rw [List.getElem?_append_right (by omega),hpl,Nat.sub_self]
   unfold zer; rw [List.getElem?_replicate,if_pos (by omega)]
  ·have hsf:=AZw (l:=AD7 (s.take (2*k))) (n:=20 - k) (b:=UInt8.ofNat n) (by omega)
   rw [hpl] at hsf
   have e4:((0:UInt8).toNat*16 % 256+n) % 256=n:=by
    have:(0:UInt8).toNat=0:=rfl
    rw [this]; omega
   rw [e4,AZz (by omega),hsf]
 ·obtain ⟨k,rfl⟩:∃ k,i=2*k+1:=⟨i / 2,by omega⟩
  have hl0:(s.take (2*k)).length=2*k:=by rw [List.length_take]; omega
  have hpl0:(AD7 (s.take (2*k))).length=k:=ADF hl0
  have ht0:=List.take_succ_eq_append_getElem (l:=s) (i:=2*k) (by omega)
  have hl:(s.take (2*(k+1))).length=2*(k+1):=by rw [List.length_take]; omega
  have htw:=AZr (s:=s) (i:=k) (by omega)
  have hm:s[2*k]∈s.take (2*k+1):=by rw [ht0]; exact List.mem_append_right _ (List.mem_singleton.2 rfl)
  have hx:=hall _ hm
  have e1:20 - (2*k+1+1) / 2=19 - k:=by omega
  have e2:(2*k+1) / 2=k:=by omega
  have e3:20 - (2*k+1+1+1) / 2=19 - k:=by omega
  have e5:s.take (2*k+1+1)=s.take (2*(k+1)):=rfl
  rw [e5,AJw hl,htw,AQS hl0,ht0,AP0 hl0,e1,e2,e3,hn]
  refine ⟨UInt8.ofNat (hv s[2*k]),?_,?_⟩
  ·rw [List.getElem?_append_left (by simp; omega),List.getElem?_append_right (by omega),hpl0,Nat.sub_self]; rfl
  ·have e4:((UInt8.ofNat (hv s[2*k])).toNat*16 % 256+n) % 256=hv s[2*k]*16+n:=by
    rw [UInt8.toNat_ofNat',Nat.mod_eq_of_lt (show hv s[2*k]<2 ^ 8 by omega)]; omega
   rw [e4,AZz (by omega),←List.map_set]
   congr 1
   rw [List.append_assoc,List.set_append_right _ _ (by omega),hpl0,Nat.sub_self,List.append_assoc]
   rfl
theorem Bf9 {i:Nat} (h:i≤40):ABW 3 .quo (.int .i64 (i:Int)) (.int .i64 ((2:Nat):Int))=some (.int .i64 ((i / 2:Nat):Int)):=A6J (by omega) (by omega)
theorem A16 (s:List UInt8) (hs:s.length≤1000000):AAR Tryz.prog 69 [.val (.string (str s))] (fun r=>r = .tup [.arr 20 1 ((ADB s).map by8),tb (AFG s)]):=by
 refine AAs.toPureV (AV0 (by simp) ?_)
 by_cases h40:s.length=40
 case neg =>
  have hok:AFG s=false:=by unfold AFG; rw [Bool.and_eq_false_iff]; left; simpa using h40
  unfold ADB
  rw [hok,if_neg (by simp),AXb]
  simp -dsimp (disch:=first | assumption | omega) only [↓AAp,AAk,AAn,AAo,eq_self,Nat.reduceEqDiff,↓reduceIte,reduceCtorEq,↓ACp,AEC]
  rfl
 simp -dsimp (disch:=first | assumption | omega) only [↓AAp,AAk,AAn,AAo,eq_self,Nat.reduceEqDiff,↓reduceIte,reduceCtorEq,↓ACp,AEC]
 refine ACS (fun q e H=>∃ i:Nat,q=40 - i∧i≤40∧(∀ c∈s.take i,hv c<16)∧e=[(0,.val (.string (str s))),(2,.op 0 0 []),(4,.op 1 0 []),(5,i64 (i:Int))] ∧
  H=[.obj 0 (.arr 20 1 ((zer 20).map by8)),.obj 0 (.arr 20 1 ((APo (s.take i)++zer (20 - (i+1) / 2)).map by8))]) 40 ?_ ?_
 ·exact ⟨0,by simp,by simp,by simp,rfl,rfl⟩
 ·rintro q e H ⟨i,rfl,hi,hall,rfl,rfl⟩
  by_cases h:i<40
  ·have hg1:s[i]?=some s[i]:=List.getElem?_eq_getElem (by omega)
   have hsucc:=List.take_succ_eq_append_getElem (l:=s) (i:=i) (by omega)
   have hm:=List.getElem_mem (l:=s) (n:=i) (by omega)
   have hall2:hv s[i]<16→∀ c∈s.take (i+1),hv c<16:=by
    intro hx c hc
    rw [hsucc,List.mem_append,List.mem_singleton] at hc
    rcases hc with hc | rfl
    ·exact hall c hc
    ·exact hx
   have hst:=fun n=>A23 h40 h hall (n:=n)
   have hbad:=fun hc=>A2L h40 hm hc
   have hd2:=Bf9 (i:=i) (by omega)
   have hlt:=s[i].toNat_lt
   have hl2:i / 2<20:=by omega
   generalize s[i]=c at *
   by_cases h1:48≤c.toNat∧c.toNat≤57
   ·obtain ⟨h1,h2⟩:=h1
    have hc:=Bbd h1 h2
    obtain ⟨old,g1,g2⟩:=hst _ hc (by omega)
    have hol:=old.toNat_lt
    simp -dsimp (disch:=first | assumption | omega) only [↓AAp,AAk,AAn,AAo,eq_self,Nat.reduceEqDiff,↓reduceIte,Nat.reduceAdd,reduceCtorEq,↓ACp,AEC,hg1,AUt,hd2,A6N,AUw,g1,g2]
    exact AAC (40 - (i+1)) (by omega) (by simp) ⟨i+1,rfl,by omega,hall2 (by omega),rfl,rfl⟩
   ·by_cases h3:97≤c.toNat∧c.toNat≤102
    ·obtain ⟨h3,h4⟩:=h3
     have hc:=BbI h3 h4
     obtain ⟨old,g1,g2⟩:=hst _ hc (by omega)
     have e9:(c.toNat - 97+10) % 256=c.toNat - 87:=by omega
     simp -dsimp (disch:=first | assumption | omega) only [↓AAp,AAk,AAn,AAo,eq_self,Nat.reduceEqDiff,↓reduceIte,Nat.reduceAdd,reduceCtorEq,↓ACp,AEC,hg1,AUt,hd2,A6N,AUw,e9,g1,g2]
     exact AAC (40 - (i+1)) (by omega) (by simp) ⟨i+1,rfl,by omega,hall2 (by omega),rfl,rfl⟩
    ·have hc:=BbP h1 h3
     have hok:=hbad (by omega)
     unfold ADB
     rw [hok,if_neg (by simp),AXb]
     rcases (by omega:c.toNat<48∨(57<c.toNat∧c.toNat<97)∨102<c.toNat) with h5 | ⟨h5,h6⟩ | h5
     ·simp -dsimp (disch:=first | assumption | omega) only [↓AAp,AAk,AAn,AAo,eq_self,Nat.reduceEqDiff,↓reduceIte,reduceCtorEq,↓ACp,AEC,hg1]
      rfl
     ·simp -dsimp (disch:=first | assumption | omega) only [↓AAp,AAk,AAn,AAo,eq_self,Nat.reduceEqDiff,↓reduceIte,reduceCtorEq,↓ACp,AEC,hg1]
      rfl
     ·simp -dsimp (disch:=first | assumption | omega) only [↓AAp,AAk,AAn,AAo,eq_self,Nat.reduceEqDiff,↓reduceIte,reduceCtorEq,↓ACp,AEC,hg1]
      rfl
  ·have hi2:i=40:=by omega
   subst hi2
   have htl:s.take 40=s:=List.take_of_length_le (by omega)
   rw [htl] at hall
   have hok:AFG s=true:=(AIm h40).2 hall
   have hpl:(AD7 s).length=20:=ADF (by omega)
   unfold ADB
   rw [hok,if_pos rfl,htl,AJw (n:=20) (by omega)]
   simp -dsimp (disch:=first | assumption | omega) only [↓AAp,AAk,AAn,AAo,eq_self,Nat.reduceLT,Nat.reduceEqDiff,Nat.reduceSub,Nat.reduceDiv,↓reduceIte,Nat.reduceAdd,reduceCtorEq,↓ACp]
   simp [zer,tb]
end
section
open Go.RowKit
variable [AAE]
def A6O (s:List UInt8):Prop:=∀ c∈s,c≠32
theorem AYX:∀ {s w r:List UInt8},A6O s→spl w (s++32::r)=(w++s)::spl [] r
 | [],w,r,_=>by rw [List.nil_append,spl,if_pos rfl,List.append_nil]
 | c::s,w,r,h=>by
  rw [List.cons_append,spl,if_neg (h c (by simp)),AYX (fun x hx=>h x (by simp [hx])),List.append_assoc]; rfl
theorem AY4:∀ {s w:List UInt8},A6O s→spl w s=[w++s]
 | [],w,_=>by rw [spl,List.append_nil]
 | c::s,w,h=>by
  rw [spl,if_neg (h c (by simp)),AY4 (fun x hx=>h x (by simp [hx])),List.append_assoc]; rfl
theorem ASi {a b:List UInt8} {l:List (List UInt8)}:Lib.join (a::b::l) [32]=a++32::Lib.join (b::l) [32]:=by
 simp [Lib.join,List.intercalate]
theorem ASf {a:List UInt8}:Lib.join [a] [32]=a:=by simp [Lib.join,List.intercalate]
theorem AYO:∀ {ws:List (List UInt8)},ws≠[]→(∀ w∈ws,A6O w)→spl [] (Lib.join ws [32])=ws
 | [],h,_=>absurd rfl h
 | [a],_,h=>by rw [ASf,AY4 (h a (by simp)),List.nil_append]
 | a::b::l,_,h=>by
  rw [ASi,AYX (h a (by simp)),AYO (by simp) (fun w hw=>h w (by simp [hw])),List.nil_append]
theorem AYp (s:List UInt8):ACY (s++[10])=s:=by simp [ACY]
def AL8 (ws:List (List UInt8)):List UInt8:=Lib.join ws [32]++[10]
theorem AZQ {ws:List (List UInt8)} (hne:ws≠[]) (h:∀ w∈ws,A6O w):ACV (AL8 ws)=ws:=by
 unfold ACV AL8
 rw [AYp,AYO hne h]
def AGm (wss:List (List (List UInt8))):List UInt8:=wss.flatMap fun ws=>AA7 (AL8 ws)
theorem AYS {a b:List (List (List UInt8))}:AGm (a++b)=AGm a++AGm b:=by simp [AGm]
theorem ASh {ws:List (List UInt8)}:AGm [ws]=AA7 (AL8 ws):=by simp [AGm]
theorem A2v {wss:List (List (List UInt8))} (h:∀ ws∈wss,(AL8 ws).length≤1000):AAG (wss.map AL8) (AGm wss) :=
 ⟨fun x hx=>by obtain ⟨ws,hw,rfl⟩:=List.mem_map.1 hx; exact h ws hw,by rw [AGm,List.flatMap_map]⟩
theorem AAG.app {l m:List (List UInt8)} {a b:List UInt8} (h:AAG l a) (k:AAG m b):AAG (l++m) (a++b) :=
 ⟨fun x hx=>(List.mem_append.1 hx).elim (h.1 x) (k.1 x),by rw [List.flatMap_append,h.2,k.2]⟩
theorem AZW:AAG [[]] AKJ:=⟨by simp,rfl⟩
theorem AYH {wss:List (List (List UInt8))} (h:∀ ws∈wss,ws≠[]∧∀ w∈ws,A6O w):(wss.map AL8).map ACV=wss:=by
 rw [List.map_map]
 conv=>rhs; rw [←List.map_id wss]
 exact List.map_congr_left fun ws hw=>AZQ (h ws hw).1 (h ws hw).2
theorem A2k:∀ n,n<16→dig n≠32:=by decide
theorem A73 (l:List UInt8):A6O (ABt l):=fun c hc=>by
 unfold ABt at hc
 obtain ⟨x,_,hx⟩:=List.mem_flatMap.1 hc
 have:=x.toNat_lt
 simp only [List.mem_cons,List.mem_nil_iff,or_false] at hx
 rcases hx with rfl | rfl
 ·exact A2k _ (by omega)
 ·exact A2k _ (by omega)
theorem A4j {l:List UInt8} (h:l.length=20):AFG (ABt l)=true∧AD7 (ABt l)=l:=by
 have h2:∀ l:List UInt8,AD7 (ABt l)=l∧∀ c∈ABt l,hv c<16:=fun l=>by
  induction l with
  | nil=>exact ⟨rfl,by simp [ABt]⟩
  | cons x l ih =>
   have hx:=x.toNat_lt
   have e:ABt (x::l)=dig (x.toNat / 16)::dig (x.toNat % 16)::ABt l:=by simp [ABt]
   rw [e]
   refine ⟨?_,fun c hc => ?_⟩
   ·rw [AD7,ih.1,AZo _ (by omega),AZo _ (by omega)]
    congr 1
    apply UInt8.toNat_inj.1
    rw [UInt8.toNat_ofNat']
    omega
   ·simp only [List.mem_cons] at hc
    rcases hc with rfl | rfl | hc
    ·rw [AZo _ (by omega)]; omega
    ·rw [AZo _ (by omega)]; omega
    ·exact ih.2 c hc
 have hl:(ABt l).length=40:=by rw [AEX]; omega
 exact ⟨(AIm hl).2 (h2 l).2,(h2 l).1⟩
end
section
open Go.RowKit
variable [AAE]
def TSt (H:List Ob) (l:List UInt8) (ok:Prop) (n:Nat):Prop:=∃ (o:TV) (m:List UInt8) (bad:Bool) (J:Option Nat),H[1]?=some (.obj 0 (.agg [o,tb bad]))∧ATE H o m J∧J≠some 0∧(bad=false↔ok)∧(ok→m=l)∧m.length≤n
theorem TSt.iff {H:List Ob} {l:List UInt8} {ok ok':Prop} {n:Nat} (h:TSt H l ok n) (e:ok↔ok'):TSt H l ok' n:=by
 obtain ⟨o,m,bad,J,h1,h2,h3,h4,h5,h6⟩:=h
 exact ⟨o,m,bad,J,h1,h2,h3,h4.trans e,fun k=>h5 (e.2 k),h6⟩
theorem TSt.le {H:List Ob} {l:List UInt8} {ok:Prop} {n n':Nat} (h:TSt H l ok n) (e:n≤n'):TSt H l ok n':=by
 obtain ⟨o,m,bad,J,h1,h2,h3,h4,h5,h6⟩:=h
 exact ⟨o,m,bad,J,h1,h2,h3,h4,h5,by omega⟩
theorem ATE.lt {H:List Ob} {o:TV} {l:List UInt8} {j:Nat} (h:ATE H o l (some j)):j<H.length:=by
 obtain ⟨v,_,h⟩:=h
 exact (List.getElem?_eq_some_iff.1 h).1
theorem ATE.same {H H':List Ob} {o:TV} {l:List UInt8} {J:Option Nat} (h:ATE H o l J) (k:∀ j,J=some j→H'[j]?=H[j]?):ATE H' o l J:=by
 cases J with
 | none=>exact h
 | some j =>
  obtain ⟨v,h1,h2⟩:=h
  exact ⟨v,h1,by rw [k j rfl]; exact h2⟩
theorem TSt.lt {H:List Ob} {l:List UInt8} {ok:Prop} {n:Nat} (h:TSt H l ok n):1<H.length:=by
 obtain ⟨o,m,bad,J,h1,_⟩:=h
 exact (List.getElem?_eq_some_iff.1 h1).1
theorem TSt.grow {H:List Ob} {l:List UInt8} {ok:Prop} {n:Nat} (h:TSt H l ok n) (T:List Ob):TSt (H++T) l ok n:=by
 have hl:=h.lt
 obtain ⟨o,m,bad,J,h1,h2,h3,h4,h5,h6⟩:=h
 refine ⟨o,m,bad,J,by rw [List.getElem?_append_left hl]; exact h1,h2.same fun j e => ?_,h3,h4,h5,h6⟩
 subst e
 exact List.getElem?_append_left h2.lt
theorem ATE.one {H:List Ob} {o:TV} {l:List UInt8} {J:Option Nat} (h:ATE H o l J):AAu o=1∧ANn o=false∧ABl o=false:=by
 cases J with
 | none=>obtain ⟨rfl,_⟩:=h; exact ⟨rfl,rfl,rfl⟩
 | some j=>obtain ⟨v,rfl,_⟩:=h; exact ⟨rfl,rfl,rfl⟩
theorem TSt.new {o:Ob}:TSt [o,.obj 0 (.agg [ANb,tb false])] [] True 0:=⟨ANb,[],false,none,rfl,⟨rfl,rfl⟩,by simp,by simp,fun _=>rfl,by simp⟩
theorem A8i {H:List Ob} {l:List UInt8} {ok:Prop} {n:Nat} {b:Bool} {K:TV→List Ob→Prop} (h:TSt H l ok n) (hk:∀ H',TSt H' l (ok∧b=true) n→(∀ i,i≠1→H'[i]?=H[i]?)→H'.length=H.length→K (.tup []) H') :
  AAs Tryz.prog 27 [.op 1 0 [],tb b] H K:=by
 have hl:=h.lt
 obtain ⟨o,m,bad,J,h1,h2,h3,h4,h5,h6⟩:=h
 have hJ1:J≠some 1:=by rintro rfl; obtain ⟨v,_,h⟩:=h2; rw [h1] at h; cases h
 refine A9N h1 h2.one.1 (hk _ ⟨o,m,_,J,List.getElem?_set_self hl,h2.same fun j e=>List.getElem?_set_ne (fun k=>hJ1 (by rw [e,k])),h3,?_,fun k=>h5 k.1,h6⟩ (fun i hi=>List.getElem?_set_ne (Ne.symm hi)) (by simp))
 cases bad<;>cases b<;>simp_all
theorem Bfx {H:List Ob} {l:List UInt8} {ok:Prop} {n id ver cp:Nat} {ws:List (List UInt8)} {K:TV→List Ob→Prop} (h:TSt H l ok n) (hws:H[id]?=some (.obj ver (.arr ws.length 1 (ws.map ts)))) (hne:ws≠[]) (hwn:ws.length≤1000000) (hj:(Lib.join ws [32]).length≤3000000) (hn:n≤100000000000)
  (hk:∀ H',TSt H' (l++AA7 (AL8 ws)) ok (n+3000015)→H'[0]?=H[0]?→H.length≤H'.length→K (.tup []) H') :
  AAs Tryz.prog 29 [.op 1 0 [],.os 1 id ver [] 0 ws.length cp] H K:=by
 have hl:=h.lt
 obtain ⟨o,m,bad,J,h1,h2,h3,h4,h5,h6⟩:=h
 refine Bgk h1 h2 hws hne hwn hj (by omega) fun H' o' j k1 k2 k3 k4 k5=>hk H' ⟨o',_,bad,some j,k2,k1,?_,h4,fun k=>by rw [h5 k]; rfl,?_⟩ (k3 0 (by omega) (by omega) h3) k4
 ·rintro e
  rw [Option.some.inj e] at k5
  rcases k5 with e | e
  ·exact h3 e
  ·omega
 ·rw [List.length_append,ADK,List.length_append,List.length_singleton]; omega
theorem BaM {H:List Ob} {l:List UInt8} {ok:Prop} {n:Nat} {K:TV→List Ob→Prop} (h:TSt H l ok n) (hn:n≤100000000000)
  (hk:∀ H',TSt H' (l++AKJ) ok (n+4)→H'[0]?=H[0]?→H.length≤H'.length→K (.tup []) H') :
  AAs Tryz.prog 31 [.op 1 0 []] H K:=by
 have hl:=h.lt
 obtain ⟨o,m,bad,J,h1,h2,h3,h4,h5,h6⟩:=h
 refine A7u h1 h2 (by omega) fun H' o' j k1 k2 k3 k4 k5=>hk H' ⟨o',_,bad,some j,k2,k1,?_,h4,fun k=>by rw [h5 k],?_⟩ (k3 0 (by omega) (by omega) h3) k4
 ·rintro e
  rw [Option.some.inj e] at k5
  rcases k5 with e | e
  ·exact h3 e
  ·omega
 ·rw [List.length_append]; show m.length+4≤n+4; omega
def AYP (H:List Ob) (l:List UInt8) (ok:Prop) (x y:TV):Prop:=(ok∧(∃ j v,x = .os 1 j v [] 0 l.length l.length∧H[j]?=some (.obj v (.arr l.length 1 (l.map by8))))∧y = .val .nilIface)∨(¬ ok∧x=ANb∧y=eno 111)
theorem Ben {H:List Ob} {l:List UInt8} {ok:Prop} {n:Nat} {K:TV→List Ob→Prop} (h:TSt H l ok n) (hl:l≠[])
  (hk:∀ x y,AYP H l ok x y→K (.tup [x,y]) H) :
  AAs Tryz.prog 32 [.op 1 0 []] H K:=by
 obtain ⟨o,m,bad,J,h1,h2,h3,h4,h5,h6⟩:=h
 have:=h2.one
 refine A97 h1 this.1 this.2.1 this.2.2 ?_
 cases bad with
 | true=>exact hk _ _ (.inr ⟨(fun k=>Bool.noConfusion (h4.2 k)),rfl,rfl⟩)
 | false =>
  have hok:=h4.1 rfl
  obtain rfl:=h5 hok
  cases J with
  | none=>exact absurd h2.2 hl
  | some j =>
   obtain ⟨v,rfl,hj⟩:=h2
   exact hk _ _ (.inl ⟨hok,⟨j,v,rfl,hj⟩,rfl⟩)
end
section
variable [AAE]
set_option maxRecDepth 100000
def AHt:AAm := .seq (.ops [po_ 4 (.mov (.c .nilFunc))] [0,1])
 (.seq (.ops [mv_ 5 0,mv_ 6 1,so_ 7 (.call 102 [.t 5,.t 6,.c (.int .i64 ((0:Nat):Int))]),mv_ 4 7] [4])
 (.ret))
def AHe:List VR:=[.tmp 4]
theorem AO0:Tryz.f76.body.bind (trC Tryz.prog Tryz.f76.ntmps)=some (er AHt):=by kernel_rfl
theorem APj:trR Tryz.prog Tryz.f76.results.toList=some AHe:=by kernel_rfl
def AMM:=AAj AHt.eq_1
theorem AMz {K:TV→Prop} {e:Env} {H:List Ob}:res AHe e H K=res [.tmp 4] e H K:=AAi rfl
def AHw:=(aI_ @AMM @AMz)
def AN4:=ABp 8 Tryz.func76 AO0 APj rfl
def AHB:AAm := .seq (.ops [so_ 3 (.box (.t 0)),so_ 4 (.box (.t 1)),so_ 5 (.box (.t 2)),po_ 6 (.mov (.c .nilFunc))] [3,4,5])
 (.seq (.ops [po_ 7 (.mkf (.func 117) [] [.t 4,.t 3,.t 5]),mv_ 6 7] [6])
 (.ret))
def AHm:List VR:=[.tmp 6]
theorem APM:Tryz.f102.body.bind (trC Tryz.prog Tryz.f102.ntmps)=some (er AHB):=by kernel_rfl
theorem AOy:trR Tryz.prog Tryz.f102.results.toList=some AHm:=by kernel_rfl
def AMG:=AAj AHB.eq_1
theorem AMC {K:TV→Prop} {e:Env} {H:List Ob}:res AHm e H K=res [.tmp 6] e H K:=AAi rfl
def APq:=(aI_ @AMG @AMC)
def ANV:=ABp 8 Tryz.func102 APM AOy rfl
def ADW:AAm := .block 1 (.seq (.ops [po_ 16 (.load false 1 (.t 2)),so_ 17 (.call 118 [.t 16]),mv_ 15 17,po_ 18 (.ext 0 (.t 15)),po_ 19 (.ext 1 (.t 15)),mv_ 5 18,mv_ 6 19] [0,2,6])
 (.seq (.seq (.ops [mv_ 20 0,po_ 21 (.load false 1 (.t 2)),mv_ 22 6,po_ 23 (.slS (.t 21) none (some (.t 22))),so_ 24 (.callv (.t 20) [.t 23]),po_ 25 (.un .not (.t 24))] [0,2,6,25])
 (.cond (.t 25)
 (.ret)
 (.skip)))
 (.ops [po_ 26 (.load false 1 (.t 2)),mv_ 27 6,po_ 28 (.slS (.t 26) (some (.t 27)) none),⟨none,.s (.store 1 (.t 2) (.t 28)),none⟩] [0,2])))
def ADP:AAm := .seq (.seq (.ops [po_ 12 (.load false 1 (.t 2)),po_ 13 (.lenS (.t 12)),po_ 14 (.bin 3 .gtr (.t 13) (ci_ 0))] [0,2,14])
 (.cond (.t 14)
 (.skip)
 (.exit 0)))
 ADW
def AD4:AAm := .ret
def ADR:AAm := .seq (.block 0 (.loop [0,2] ADP))
 AD4
def ADQ:AAm := .cond (.t 11)
 ADR
 (.skip)
def ADC:AAm := .seq (.ops [po_ 34 (.load false 1 (.t 2)),mv_ 35 7,po_ 36 (.load false 1 (.t 3)),po_ 37 (.bin 3 .add (.t 35) (.t 36)),po_ 38 (.slS (.t 34) none (some (.t 37))),mv_ 8 38] [0,1,2,3,7,8])
 (.seq (.seq (.ops [mv_ 39 0,mv_ 40 8,so_ 41 (.callv (.t 39) [.t 40]),po_ 42 (.un .not (.t 41))] [0,1,2,3,7,42])
 (.cond (.t 42)
 (.ret)
 (.skip)))
 (.ops [po_ 43 (.load false 1 (.t 2)),mv_ 44 7,po_ 45 (.load false 1 (.t 1)),po_ 46 (.lenS (.t 45)),po_ 47 (.bin 3 .add (.t 44) (.t 46)),po_ 48 (.slS (.t 43) (some (.t 47)) none),⟨none,.s (.store 1 (.t 2) (.t 48)),none⟩] [0,1,2,3]))
def ADv:AAm := .seq (.seq (.ops [mv_ 32 7,po_ 33 (.bin 3 .lss (.t 32) (ci_ 0))] [0,1,2,3,7,33])
 (.cond (.t 33)
 (.exit 2)
 (.skip)))
 ADC
def ADu:AAm := .block 3 (.seq (.ops [po_ 29 (.load false 1 (.t 2)),po_ 30 (.load false 1 (.t 1)),so_ 31 (.call 99 [.t 29,.t 30]),mv_ 7 31] [0,1,2,3,7])
 ADv)
def ADU:AAm := .ops [mv_ 49 0,po_ 50 (.load false 1 (.t 2)),so_ 51 (.callv (.t 49) [.t 50])] []
def ADb:AAm := .seq (.block 2 (.loop [0,1,2,3] ADu))
 ADU
def AF4:AAm := .seq (.seq (.ops [po_ 9 (.load false 1 (.t 1)),po_ 10 (.lenS (.t 9)),po_ 11 (.bin 3 .eql (.t 10) (ci_ 0))] [0,1,2,3,11])
 ADQ)
 ADb
def AFT:List VR:=[]
theorem AMx:Tryz.f117.body.bind (trC Tryz.prog Tryz.f117.ntmps)=some (er AF4):=by kernel_rfl
theorem AME:trR Tryz.prog Tryz.f117.results.toList=some AFT:=by kernel_rfl
def AHO:=AAj ADW.eq_1
def AHH:=AAj ADP.eq_1
def AHG:=AAj AD4.eq_1
def AHQ:=AAj ADR.eq_1
def AHD:=AAj ADQ.eq_1
def AHK:=AAj ADC.eq_1
def AHJ:=AAj ADv.eq_1
def AHR:=AAj ADu.eq_1
def AHP:=AAj ADU.eq_1
def AG6:=AAj ADb.eq_1
def AKz:=AAj AF4.eq_1
theorem AKA {K:TV→Prop} {e:Env} {H:List Ob}:res AFT e H K=res [] e H K:=AAi rfl
def ABh:=(aI_ (aI_ (aI_ (aI_ @AHO @AHH) (aI_ @AHG @AHQ)) (aI_ (aI_ @AHD @AHK) (aI_ @AHJ @AHR))) (aI_ (aI_ @AHP @AG6) (aI_ @AKz @AKA)))
def AK8:=ABp 52 Tryz.func117 AMx AME rfl
end
section
open Go.RowKit
variable [AAE]
theorem AAR.ofBelow {f:FuncId} {args:List Value} {r:Value} (h:∀ (F:Nat→Prop) w,AFv F w→Calls Tryz.prog f args.toArray w fun e w'=>e = .returned r∧Below w.heap.size w w'):AAR Tryz.prog f (args.map .val) (fun x=>x = .val r):=by
 intro β F w vs hF hv
 have hvs:vs=args:=by
  clear h hF
  induction args generalizing vs with
  | nil=>rw [List.map_nil,AAZ.nil] at hv; exact hv
  | cons a args ih =>
   rw [List.map_cons] at hv
   obtain ⟨v,us,rfl,h1,h2⟩:=AAZ.cons.1 hv
   have:=Rep.val.1 (Or.inl h1:Rep _ _ _ _)
   rw [this,ih us h2]
 subst hvs
 refine (h F w hF.2).mono ?_
 rintro e w' ⟨rfl,hb⟩
 exact ⟨_,_,F,rfl,rfl,Rep.of_val,⟨hb.os,hb.tape,hb.output,hb.size,hb.block,fun _ h=>h,fun _ _ h=>h,fun b hb'=>Nat.lt_of_lt_of_le (hF.1 b hb') hb.size⟩⟩
theorem AIJ {B:Nat} (w:World):Below B w w:=⟨rfl,rfl,rfl,Nat.le_refl _,fun _ _=>rfl⟩
theorem A6Z (l:List UInt8):(str l).data.toList=l:=by simp [str]
theorem AH5 (s p:List UInt8) (hs:s.length≤9223372036854775807):AAR Tryz.prog 71 [ts s,ts p] (fun x=>x=tb (Lib.hasSuffix s p)):=by
 have h:=AAR.ofBelow (f:=71) (args:=[.string (str s),.string (str p)]) (r := .bool (Lib.hasSuffix s p)) (fun F w _=>by
  have h1:=Tryz.strings_HasSuffix (str s) (str p) w (by simpa [str,ByteArray.size] using hs)
  rw [A6Z,A6Z] at h1
  refine h1.mono ?_
  rintro e w' ⟨rfl,rfl⟩
  exact ⟨rfl,AIJ _⟩)
 exact h
section
variable [AA3]
end
end
section
open Go.RowKit
variable [AAE]
def ABo (c:UInt8):List UInt8→List (List UInt8)
 | []=>[[]]
 | b::l=>if b=c then []::ABo c l else match ABo c l with
  | []=>[[b]]
  | p::ps=>(b::p)::ps
theorem ASJ (c:UInt8):∀ l:List UInt8,(Lib.indexByte l c = -1∧c∉l∧ABo c l=[l])∨∃ k:Nat,Lib.indexByte l c=(k:Int)∧k<l.length∧l[k]?=some c∧c∉l.take k∧ABo c l=l.take k::ABo c (l.drop (k+1))
 | [] => .inl ⟨rfl,by simp,rfl⟩
 | b::l=>by
  by_cases h:b=c
  ·subst h
   refine .inr ⟨0,by simp [Lib.indexByte],by simp,rfl,by simp,by simp [ABo]⟩
  ·rcases ASJ c l with ⟨h1,h2,h3⟩ | ⟨k,h1,h2,h3,h4,h5⟩
   ·refine .inl ⟨by simp [Lib.indexByte,h,h1],by simp [h2,Ne.symm h],by rw [ABo,if_neg h,h3]⟩
   ·refine .inr ⟨k+1,?_,by simp; omega,by simpa using h3,by simp [h4,Ne.symm h],by rw [ABo,if_neg h,h5]; simp⟩
    have:¬ ((k:Int) = -1):=by omega
    simp [Lib.indexByte,h,h1,this]
theorem A03 (s:List UInt8) (c:UInt8):AAR Tryz.prog 99 [ts s,ts [c]] (fun x=>x=i64 (Lib.indexByte s c)):=by
 have h:=AAR.ofBelow (f:=99) (args:=[.string (str s),.string (str [c])]) (r := .int .i64 (Lib.indexByte s c)) (fun F w _=>by
  have h1:=Tryz.strings_Index_one (str s) c w
  rw [A6Z] at h1
  refine h1.mono ?_
  rintro e w' ⟨rfl,rfl⟩
  exact ⟨rfl,AIJ _⟩)
 exact h
theorem AZP {c:UInt8} {I:List UInt8→List Ob→Prop} {J E:List Ob→Prop} {id sp sid sv L:Nat} {r0:List UInt8} {H0:List Ob}
  (hI:∀ r H,I r H→L≤H.length∧r.length≤9223372036854775800∧H[sid]?=some (.obj 0 (ts r))∧H[sp]?=some (.obj 0 (ts [c]))∧H[sv]?=some (.obj 0 (i64 ((0:Nat):Int))))
  (hy:∀ r H k,I r H→k<r.length→ABo c r=r.take k::ABo c (r.drop (k+1))→AJN Tryz.prog id 0 [ts (r.take k)] H (fun y H'=>(y = .val (.bool true)∧H'[sid]?=some (.obj 0 (ts r))∧H'[sp]?=some (.obj 0 (ts [c]))∧I (r.drop (k+1)) (H'.set sid (.obj 0 (ts (r.drop (k+1))))))∨(y = .val (.bool false)∧J H')))
  (hend:∀ r H,I r H→ABo c r=[r]→AJN Tryz.prog id 0 [ts r] H (fun y H'=>E H'))
  (h0:I r0 H0) (hL:H0.length=L):AAs Tryz.prog 117 [.yl id 0,.op sp 0 [],.op sid 0 [],.op sv 0 []] H0 (fun _ H'=>E H'∨J H'):=by
 refine AK8 (by simp) ?_
 obtain ⟨_,_,_,q2,_⟩:=hI r0 H0 h0
 simp -dsimp (disch:=first | assumption | omega) only [↓AAp,AAk,AAn,AAo,eq_self,Nat.reduceEqDiff,↓reduceIte,Nat.reduceAdd,reduceCtorEq,↓ABh,q2,AAD]
 refine ACS (fun m e H=>∃ r,m=r.length∧e=[(0,.yl id 0),(1,.op sp 0 []),(2,.op sid 0 []),(3,.op sv 0 [])]∧I r H) r0.length ?_ ?_
 ·exact ⟨r0,rfl,rfl,h0⟩
 ·rintro n e H ⟨r,rfl,rfl,hr⟩
  obtain ⟨h1,h2,h3,h4,h5⟩:=hI r H hr
  simp -dsimp (disch:=first | assumption | omega) only [↓AAp,AAk,AAn,AAo,eq_self,Nat.reduceEqDiff,↓reduceIte,reduceCtorEq,↓ABh,h3,h4]
  refine (A03 r c).calls rfl ?_
  rintro _ rfl
  rcases ASJ c r with ⟨k1,k2,k3⟩ | ⟨k,k1,k2,k3,k4,k5⟩
  ·rw [k1]
   simp -dsimp (disch:=first | assumption | omega) only [↓AAp,AAk,AAn,AAo,eq_self,Nat.reduceEqDiff,↓reduceIte,reduceCtorEq,↓ABh,h3]
   refine AJN.mono (hend r H hr k3) ?_
   rintro y H' hE
   simp -dsimp (disch:=first | assumption | omega) only [↓AAp,AAk,AAn,↓ABh]
   exact .inl hE
  ·rw [k1]
   simp -dsimp (disch:=first | assumption | omega) only [↓AAp,AAk,AAn,AAo,eq_self,Nat.reduceEqDiff,↓reduceIte,reduceCtorEq,↓ABh,h3,h5,AAD]
   refine AJN.mono (hy r H k hr k2 k5) ?_
   rintro y H' (⟨rfl,g1,g2,g3⟩ | ⟨rfl,hJ⟩)
   ·simp -dsimp (disch:=first | assumption | omega) only [↓AAp,AAk,AAn,AAo,eq_self,Nat.reduceEqDiff,↓reduceIte,reduceCtorEq,g1,g2,AAD]
    exact AAC (r.length - (k+1)) (by omega) (by rw [hL]; exact (hI _ _ g3).1) ⟨r.drop (k+1),by simp,rfl,g3⟩
   ·simp -dsimp (disch:=first | assumption | omega) only [↓AAp,AAk,AAn,AAo,eq_self,Nat.reduceEqDiff,↓reduceIte,reduceCtorEq,↓ABh]
    exact .inr hJ
end
section
open Go.RowKit
variable [AAE]
theorem A7l (l:List UInt8):(str l).size=l.length:=by show l.toArray.size=_; simp
theorem A7Y (l:List UInt8) (k:Nat) (c:UInt8) (hk:l[k]?=some c) (hc:c.toNat<128):(Utf8.decode (str l) k).1=c.toNat∧(Utf8.decode (str l) k).2=1:=by
 obtain ⟨hl,rfl⟩:=List.getElem?_eq_some_iff.1 hk
 have h:k<(str l).size:=by rw [A7l]; exact hl
 have e:((str l)[k]'h)=l[k]:=rfl
 have:=decode_ascii (str l) k h (by rw [e]; exact hc)
 rw [this,e]; exact ⟨rfl,rfl⟩
end
section
open Go.RowKit
variable [AAE]
theorem A48 (l:List UInt8) (k:Nat) (c:UInt8) (hk:l[k]?=some c) (hc:128≤c.toNat):128≤(Utf8.decode (str l) k).1∧(Utf8.decode (str l) k).1≤1114111∧1≤(Utf8.decode (str l) k).2:=by
 obtain ⟨hl,rfl⟩:=List.getElem?_eq_some_iff.1 hk
 have h:k<(str l).size:=by rw [A7l]; exact hl
 have e:((str l)[k]'h)=l[k]:=rfl
 obtain ⟨h1,h2⟩:=decode_high (str l) k h (by rw [e]; exact hc)
 exact ⟨h1,Lib.rune_le _ _,h2⟩
end
section
open Go.RowKit
variable [AAE]
theorem AYh {c:UInt8} {l:List UInt8} (h:c∉l):ABo c l=[l]:=by
 induction l with
 | nil=>rfl
 | cons b l ih=>rw [ABo,if_neg (fun e=>h (by simp [e])),ih (fun e=>h (by simp [e]))]
theorem AXR {c:UInt8} {l:List UInt8} {k:Nat} (h:l[k]?=some c) (hn:c∉l.take k):ABo c l=l.take k::ABo c (l.drop (k+1)):=by
 induction l generalizing k with
 | nil=>simp at h
 | cons b l ih =>
  cases k with
  | zero=>simp at h; simp [ABo,h]
  | succ k =>
   rw [List.getElem?_cons_succ] at h
   rw [List.take_succ_cons] at hn
   rw [ABo,if_neg (fun e=>hn (by simp [e])),ih h (fun e=>hn (by simp [e]))]; rfl
theorem A1L (s:List UInt8) (c:UInt8) (H:List Ob):AAs Tryz.prog 76 [ts s,ts [c]] H (fun x H'=>x = .fn (.func 117) [] [.op (H.length+1) 0 [],.op H.length 0 [],.op (H.length+2) 0 []]∧H'=H++[.obj 0 (ts s),.obj 0 (ts [c]),.obj 0 (i64 ((0:Nat):Int))]):=by
 refine AN4 (by simp) ?_
 simp -dsimp (disch:=first | assumption | omega) only [↓AAp,AAk,AAn,AAo,eq_self,Nat.reduceEqDiff,↓reduceIte,Nat.reduceAdd,reduceCtorEq,↓AHw]
 refine ANV (by simp) ?_
 simp -dsimp (disch:=first | assumption | omega) only [↓AAp,AAk,AAn,AAo,eq_self,Nat.reduceEqDiff,↓reduceIte,Nat.reduceAdd,reduceCtorEq,↓APq,↓AHw,List.append_assoc]
end
section
open Go.RowKit
variable [AAE]
section
omit [AAE]
def A33 (a b:UInt8) (s:List UInt8):Prop:=∃ j:Nat,s[j]?=some a∧s[j+1]?=some b
theorem A2G {a b c:UInt8} {s:List UInt8}:A33 a b (c::s)↔(c=a∧s[0]?=some b)∨A33 a b s:=by
 constructor
 ·rintro ⟨j,h1,h2⟩
  cases j with
  | zero=>simp at h1 h2; exact .inl ⟨h1,by simpa using h2⟩
  | succ j=>exact .inr ⟨j,by simpa using h1,by simpa using h2⟩
 ·rintro (⟨rfl,h⟩ | ⟨j,h1,h2⟩)
  ·exact ⟨0,rfl,by simpa using h⟩
  ·exact ⟨j+1,by simpa using h1,by simpa using h2⟩
theorem AWe (a b:UInt8):∀ s:List UInt8,0≤Lib.index s [a,b]↔A33 a b s
 | []=>by simp [Lib.index,A33]
 | c::l=>by
  have ih:=AWe a b l
  have hg:=Lib.index_ge l [a,b]
  rw [A2G,←ih,Lib.index]
  have hp:([a,b].isPrefixOf (c::l))=true↔(c=a∧l[0]?=some b):=by
   cases l with
   | nil=>simp [List.isPrefixOf]
   | cons d l=>simp only [List.isPrefixOf,Bool.and_true,Bool.and_eq_true,beq_iff_eq,List.getElem?_cons_zero,Option.some.injEq]; exact ⟨fun h=>⟨h.1.symm,h.2.symm⟩,fun h=>⟨h.1.symm,h.2.symm⟩⟩
  by_cases h:([a,b].isPrefixOf (c::l))=true
  ·rw [if_pos h]; exact ⟨fun _ => .inl (hp.1 h),fun _=>Int.le_refl 0⟩
  ·rw [if_neg h]
   have h':¬ (c=a∧l[0]?=some b):=fun k=>h (hp.2 k)
   simp only [h',false_or]
   by_cases h2:(Lib.index l [a,b] == -1)=true
   ·rw [if_pos h2]
    have h3:Lib.index l [a,b] = -1:=by simpa using h2
    rw [h3]
   ·rw [if_neg h2]
    have h3:Lib.index l [a,b] ≠ -1:=fun e=>h2 (by rw [e]; rfl)
    omega
theorem AHh (a b:UInt8) (s:List UInt8):Lib.contains s [a,b]=true↔A33 a b s:=by
 unfold Lib.contains; rw [decide_eq_true_eq]; exact AWe a b s
def AMH (c:UInt8):Bool:=decide (33≤c.toNat∧c.toNat≤126∧c∉[(126:UInt8),94,58,63,42,91,92])
def ABN (p:List UInt8):Bool:=decide (p≠[]∧p[0]?≠some 46∧¬ (5≤p.length∧p.drop (p.length - 5)=[46,108,111,99,107]))
def A0M (s:List UInt8):Prop:=s=[72,69,65,68]∨(s.length≤60∧s.take 5=[114,101,102,115,47]∧s[s.length - 1]?≠some 46∧¬ A33 46 46 s∧¬ A33 64 123 s∧(∀ c∈s,AMH c=true)∧(ABo 47 s).all ABN=true)
theorem ASn (p:List UInt8):Lib.hasSuffix p [46,108,111,99,107]=true↔(5≤p.length∧p.drop (p.length - 5)=[46,108,111,99,107]):=by
 unfold Lib.hasSuffix
 rw [List.isSuffixOf_iff_suffix]
 constructor
 ·rintro ⟨t,rfl⟩
  simp
 ·rintro ⟨h1,h2⟩
  exact ⟨p.take (p.length - 5),by rw [←h2]; exact List.take_append_drop _ _⟩
theorem AUH (p:List UInt8) (c:UInt8):Lib.hasSuffix p [c]=true↔p[p.length - 1]?=some c:=by
 unfold Lib.hasSuffix
 rw [List.isSuffixOf_iff_suffix]
 constructor
 ·rintro ⟨t,rfl⟩
  simp
 ·intro h
  obtain ⟨hl,rfl⟩:=List.getElem?_eq_some_iff.1 h
  refine ⟨p.take (p.length - 1),?_⟩
  have e:p≠[]:=by intro e; subst e; simp at hl
  have h2:p.drop (p.length - 1)=[p[p.length - 1]]:=by
   rw [List.drop_eq_getElem_cons hl,List.drop_eq_nil_of_le (by omega)]
  rw [←h2]; exact List.take_append_drop _ _
theorem ASv (p:List UInt8):Lib.hasPrefix p [114,101,102,115,47]=true↔p.take 5=[114,101,102,115,47]:=by
 unfold Lib.hasPrefix
 rw [List.isPrefixOf_iff_prefix,List.prefix_iff_eq_take]
 exact eq_comm
theorem A5p {s:List UInt8} (h:s.length<6):¬ ((s.take 5=[114,101,102,115,47])∧(ABo 47 s).all ABN=true):=by
 rintro ⟨h1,h2⟩
 rw [List.take_of_length_le (by omega)] at h1
 subst h1
 revert h2
 decide
end
end
section
open Go.RowKit
variable [AAE]
theorem APv {s:List UInt8} (h:A0M s):s.length≤60∧A6O s:=by
 rcases h with rfl | h
 ·exact ⟨by decide,fun c hc=>by simp at hc; rcases hc with rfl | rfl | rfl | rfl<;>decide⟩
 ·refine ⟨h.1,fun c hc e => ?_⟩
  have:=h.2.2.2.2.2.1 c hc
  subst e
  revert this; decide
theorem A8B {s:List UInt8} (h:A0M s):s≠[]:=by
 rintro rfl
 rcases h with h | h
 ·cases h
 ·have:=h.2.1; cases this
abbrev A3v:=List UInt8×List UInt8
def ATx (r:A3v):TV := .agg [ts r.1,.arr 20 1 (r.2.map by8)]
structure AL2 where
 head:List UInt8
 refs:List A3v
def ATR:List UInt8:=[104,101,97,100]
def AI5 (r:A3v):List (List UInt8):=[ABt r.2,r.1]
def ABR (h:List UInt8):List (List (List UInt8)):=if h=[] then [] else [[ATR,h]]
def AGZ (o:AL2):List (List (List UInt8)):=ABR o.head++o.refs.map AI5
def AHl (o:AL2):List UInt8:=AGm (AGZ o)++AKJ
def ATN (l:List A3v) (i:Nat):Prop:=∀ r,l[i]?=some r→A0M r.1∧(i=0∨∃ q,l[i - 1]?=some q∧Op.bytesLess q.1 r.1=true)
def ASI (h:List UInt8):Prop:=h≠[]→A0M h
def ADo (o:AL2):Prop:=ASI o.head∧o.refs.length≤500∧(∀ i,i<o.refs.length→ATN o.refs i)
def AGt (o:AL2):Prop:=∀ r∈o.refs,r.2.length=20
theorem APl {a b:List UInt8}:AL8 [a,b]=a++32::b++[10]:=by
 unfold AL8
 rw [ASi,ASf]
theorem ASs {o:AL2} (h:ADo o) (h20:AGt o):∀ ws∈AGZ o,(ws≠[]∧∀ w∈ws,A6O w)∧(AL8 ws).length≤1000:=by
 intro ws hw
 unfold AGZ at hw
 rcases List.mem_append.1 hw with hw | hw
 ·unfold ABR at hw
  split at hw
  ·cases hw
  ·rename_i h0
   rw [List.mem_singleton] at hw; subst hw
   have:=APv (h.1 h0)
   refine ⟨⟨by simp,fun w hw => ?_⟩,?_⟩
   ·simp only [List.mem_cons,List.mem_nil_iff,or_false] at hw
    rcases hw with rfl | rfl
    ·intro c hc; revert c; decide
    ·exact this.2
   ·rw [APl]; simp [ATR]; omega
 ·obtain ⟨r,hr,rfl⟩:=List.mem_map.1 hw
  obtain ⟨i,hi,hir⟩:=List.getElem_of_mem hr
  have hp:=(h.2.2 i hi r (by rw [List.getElem?_eq_getElem hi,hir])).1
  have:=APv hp
  have hl:=h20 r hr
  refine ⟨⟨by simp [AI5],fun w hw => ?_⟩,?_⟩
  ·simp only [AI5,List.mem_cons,List.mem_nil_iff,or_false] at hw
   rcases hw with rfl | rfl
   ·exact A73 _
   ·exact this.2
  ·unfold AI5; rw [APl]; simp [AEX]; omega
theorem AWY {o:AL2} (h:ADo o) (h20:AGt o):AAG ((AGZ o).map AL8++[[]]) (AHl o) :=
 (A2v fun ws hw=>(ASs h h20 ws hw).2).app AZW
def AGk (doc:Bool) (o:AL2) (w:List (List UInt8)):AL2:=match w with
 | [a,b]=>if AFG a=true then ⟨o.head,o.refs++[(b,AD7 a)]⟩ else if doc=true∧a≠ATR then o else ⟨b,o.refs⟩
 | _=>o
def AKj (doc:Bool) (ls:List (List UInt8)):AL2:=(ls.map ACV).foldl (AGk doc) ⟨[],[]⟩
theorem AYU {doc:Bool}:∀ {l:List A3v} {o:AL2},(∀ r∈l,r.2.length=20)→(l.map AI5).foldl (AGk doc) o=⟨o.head,o.refs++l⟩
 | [],o,_=>by simp
 | r::l,o,h=>by
  have:=A4j (h r (by simp))
  rw [List.map_cons,List.foldl_cons,AYU (fun x hx=>h x (by simp [hx]))]
  unfold AI5 AGk
  simp only [this.1,this.2,if_true,List.append_assoc,List.cons_append,List.nil_append]
theorem A5R {doc:Bool} {o:AL2} (h:ADo o) (h20:AGt o):AKj doc ((AGZ o).map AL8++[[]])=o:=by
 unfold AKj
 rw [List.map_append,AYH (fun ws hw=>(ASs h h20 ws hw).1),List.foldl_append]
 have e1:(AGZ o).foldl (AGk doc) ⟨[],[]⟩=o:=by
  unfold AGZ
  rw [List.foldl_append,AYU h20]
  obtain ⟨hd,rs⟩:=o
  unfold ABR
  by_cases h0:hd=[]
  ·subst h0; simp
  ·have hx:AFG ATR=false:=rfl
   simp [h0,AGk,hx]
 rw [e1]
 rfl
theorem A2D {doc:Bool} {ls:List (List UInt8)}:AGt (AKj doc ls):=by
 unfold AKj
 have:∀ (wss:List (List (List UInt8))) (o:AL2),AGt o→AGt (wss.foldl (AGk doc) o):=fun wss=>by
  induction wss with
  | nil=>exact fun o h=>h
  | cons w wss ih =>
   intro o h
   rw [List.foldl_cons]
   refine ih _ ?_
   unfold AGk
   split
   ·rename_i a b
    split
    ·rename_i hx
     intro r hr
     rcases List.mem_append.1 hr with hr | hr
     ·exact h r hr
     ·rw [List.mem_singleton] at hr
      subst hr
      have h40:a.length=40:=by unfold AFG at hx; simp at hx; exact hx.1
      exact ADF (n:=20) h40
    ·split<;>exact h
   ·exact h
 exact this _ _ (fun r hr=>by cases hr)
theorem AMt {doc:Bool} {ls:List (List UInt8)} {b:List UInt8} {o:AL2} (hl:AAG ls b) (h1:ADo o) (h2:AGt o) (e:AHl o=b):AKj doc ls=o:=by
 subst e
 rw [ALx hl (AWY h1 h2),A5R h1 h2]
theorem AZm {b:List UInt8} (hl:∀ ls,¬ AAG ls b):∀ o,ADo o→AGt o→AHl o≠b:=fun o h1 h2 e=>hl _ (e▸AWY h1 h2)
end
section
variable [AAE]
set_option maxRecDepth 100000
def AKg:AAm := .ops [mv_ 3 30] [2,3]
def AJ8:AAm := .block 1 (.seq (.ops [mv_ 31 3,po_ 32 (.bin 9 .eql (.t 31) (.c (.string (str [])))),mv_ 33 32,⟨some 34,.p (.mov (.t 3)),some ⟨33,false⟩⟩,⟨some 35,.p (.idxS (.t 34) (ci_ 0)),some ⟨33,false⟩⟩,⟨some 36,.p (.bin 5 .eql (.t 35) (.c (.int .u8 ((46:Nat):Int)))),some ⟨33,false⟩⟩,po_ 37 (.pick (.t 33) (.c (.bool true)) (.t 36)),mv_ 38 37,⟨some 39,.p (.mov (.t 3)),some ⟨38,false⟩⟩,⟨some 40,.s (.call 71 [.t 39,.c (.string (str [46,108,111,99,107]))]),some ⟨38,false⟩⟩,po_ 41 (.pick (.t 38) (.c (.bool true)) (.t 40))] [2,41])
 (.cond (.t 41)
 (.seq (.ops [⟨none,.s (.store 1 (.t 2) (.c (.bool false))),none⟩] [])
  (.ret))
 (.skip)))
def AKi:AAm := .block 0 (.rfunc (.t 29) [30] AKg AJ8)
def AJQ:AAm := .seq (.ops [⟨none,.s (.store 1 (.t 2) (.c (.bool true))),none⟩] [2])
 (.ret)
def AKt:AAm := .seq (.seq (.ops [mv_ 28 0,so_ 29 (.call 76 [.t 28,.c (.string (str [47]))])] [2,29])
 AKi)
 AJQ
def AKc:AAm := .seq (.seq (.ops [mv_ 26 0,so_ 27 (.call 73 [.t 26,.c (.func (.func 74) #[] #[])])] [0,2,27])
 (.cond (.t 27)
 (.seq (.ops [⟨none,.s (.store 1 (.t 2) (.c (.bool false))),none⟩] [2])
  (.ret))
 (.skip)))
 AKt
def AJO:AAm := .seq (.seq (.ops [mv_ 6 0,po_ 7 (.lenS (.t 6)),po_ 8 (.bin 3 .gtr (.t 7) (ci_ 60)),mv_ 9 8,⟨some 10,.p (.mov (.t 0)),some ⟨9,false⟩⟩,⟨some 11,.s (.call 70 [.t 10,.c (.string (str [114,101,102,115,47]))]),some ⟨9,false⟩⟩,⟨some 12,.p (.un .not (.t 11)),some ⟨9,false⟩⟩,po_ 13 (.pick (.t 9) (.c (.bool true)) (.t 12)),mv_ 14 13,⟨some 15,.p (.mov (.t 0)),some ⟨14,false⟩⟩,⟨some 16,.s (.call 71 [.t 15,.c (.string (str [46]))]),some ⟨14,false⟩⟩,po_ 17 (.pick (.t 14) (.c (.bool true)) (.t 16)),mv_ 18 17,⟨some 19,.p (.mov (.t 0)),some ⟨18,false⟩⟩,⟨some 20,.s (.call 72 [.t 19,.c (.string (str [46,46]))]),some ⟨18,false⟩⟩,po_ 21 (.pick (.t 18) (.c (.bool true)) (.t 20)),mv_ 22 21,⟨some 23,.p (.mov (.t 0)),some ⟨22,false⟩⟩,⟨some 24,.s (.call 72 [.t 23,.c (.string (str [64,123]))]),some ⟨22,false⟩⟩,po_ 25 (.pick (.t 22) (.c (.bool true)) (.t 24))] [0,2,25])
 (.cond (.t 25)
 (.seq (.ops [⟨none,.s (.store 1 (.t 2) (.c (.bool false))),none⟩] [2])
  (.ret))
 (.skip)))
 AKc
def AJz:AAm := .seq (.seq (.ops [mv_ 4 0,po_ 5 (.bin 9 .eql (.t 4) (.c (.string (str [72,69,65,68]))))] [0,2,5])
 (.cond (.t 5)
 (.seq (.ops [⟨none,.s (.store 1 (.t 2) (.c (.bool true))),none⟩] [2])
  (.ret))
 (.skip)))
 AJO
def AOi:AAm := .seq (.ops [so_ 2 (.alloc (.val (.bool false)))] [0,2])
 AJz
def AOf:List VR:=[.cell 2 false 1]
theorem AUU:Tryz.f40.body.bind (trC Tryz.prog Tryz.f40.ntmps)=some (er AOi):=by kernel_rfl
theorem AVz:trR Tryz.prog Tryz.f40.results.toList=some AOf:=by kernel_rfl
def AO6:=AAj AKg.eq_1
def AOx:=AAj AJ8.eq_1
def APt:=AAj AKi.eq_1
def APP:=AAj AJQ.eq_1
def AO4:=AAj AKt.eq_1
def AOY:=AAj AKc.eq_1
def AO9:=AAj AJO.eq_1
def AOG:=AAj AJz.eq_1
def AS5:=AAj AOi.eq_1
theorem AS3 {K:TV→Prop} {e:Env} {H:List Ob}:res AOf e H K=res [.cell 2 false 1] e H K:=AAi rfl
def AAA:=(aI_ (aI_ (aI_ (aI_ @AO6 @AOx) (aI_ @APt @APP)) (aI_ (aI_ @AO4 @AOY) (aI_ @AO9 @AOG))) (aI_ @AS5 @AS3))
def ATB:=ABp 42 Tryz.func40 AUU AVz rfl
def ALW:AAm := .seq (.ops [po_ 2 (.mov (.c (.bool false)))] [0])
 (.seq (.ops [mv_ 3 0,po_ 4 (.bin 21 .lss (.t 3) (.c (.int .i32 ((33:Nat):Int)))),mv_ 5 4,⟨some 6,.p (.mov (.t 0)),some ⟨5,false⟩⟩,⟨some 7,.p (.bin 21 .gtr (.t 6) (.c (.int .i32 ((126:Nat):Int)))),some ⟨5,false⟩⟩,po_ 8 (.pick (.t 5) (.c (.bool true)) (.t 7)),mv_ 9 8,⟨some 10,.p (.mov (.t 0)),some ⟨9,false⟩⟩,⟨some 11,.s (.call 75 [.c (.string (str [126,94,58,63,42,91,92])),.t 10]),some ⟨9,false⟩⟩,po_ 12 (.pick (.t 9) (.c (.bool true)) (.t 11)),mv_ 2 12] [2])
 (.ret))
def AKY:List VR:=[.tmp 2]
theorem AS6:Tryz.f74.body.bind (trC Tryz.prog Tryz.f74.ntmps)=some (er ALW):=by kernel_rfl
theorem ATl:trR Tryz.prog Tryz.f74.results.toList=some AKY:=by kernel_rfl
def APV:=AAj ALW.eq_1
theorem AQa {K:TV→Prop} {e:Env} {H:List Ob}:res AKY e H K=res [.tmp 2] e H K:=AAi rfl
def AD2:=(aI_ @APV @AQa)
def AR2:=ABp 13 Tryz.func74 AS6 ATl rfl
def AKr:AAm := .seq (.seq (.ops [mv_ 47 6,po_ 48 (.bin 3 .eql (.t 47) (ci_ 0)),mv_ 49 48,⟨some 50,.p (.mov (.t 0)),some ⟨49,false⟩⟩,⟨some 51,.p (.mov (.t 4)),some ⟨49,false⟩⟩,⟨some 52,.p (.idxS (.t 50) (.t 51)),some ⟨49,false⟩⟩,⟨some 53,.p (.bin 5 .eql (.t 52) (.c (.int .u8 ((46:Nat):Int)))),some ⟨49,false⟩⟩,po_ 54 (.pick (.t 49) (.c (.bool true)) (.t 53)),mv_ 55 54,⟨some 56,.p (.mov (.t 6)),some ⟨55,false⟩⟩,⟨some 57,.p (.bin 3 .geq (.t 56) (ci_ 5)),some ⟨55,false⟩⟩,⟨some 58,.p (.mov (.t 57)),some ⟨55,false⟩⟩,⟨some 59,.p (.mov (.t 0)),some ⟨58,true⟩⟩,⟨some 60,.p (.mov (.t 5)),some ⟨58,true⟩⟩,⟨some 61,.p (.bin 3 .sub (.t 60) (ci_ 5)),some ⟨58,true⟩⟩,⟨some 62,.p (.mov (.t 5)),some ⟨58,true⟩⟩,⟨some 63,.p (.slS (.t 59) (some (.t 61)) (some (.t 62))),some ⟨58,true⟩⟩,⟨some 64,.p (.bin 9 .eql (.t 63) (.c (.string (str [46,108,111,99,107])))),some ⟨58,true⟩⟩,⟨some 65,.p (.pick (.t 58) (.t 64) (.c (.bool false))),some ⟨55,false⟩⟩,po_ 66 (.pick (.t 55) (.c (.bool true)) (.t 65))] [0,3,5,66])
 (.cond (.t 66)
 (.seq (.ops [po_ 2 (.mov (.c (.bool false)))] [2])
  (.ret))
 (.skip)))
 (.seq (.ops [mv_ 67 5,po_ 68 (.bin 3 .add (.t 67) (ci_ 1)),mv_ 4 68] [0,3,4,5])
 (.exit 1))
def AJW:AAm := .seq (.ops [mv_ 44 5,mv_ 45 4,po_ 46 (.bin 3 .sub (.t 44) (.t 45)),mv_ 6 46] [0,3,4,5,6])
 AKr
def AJ2:AAm := .cond (.t 43)
 AJW
 (.skip)
def AJC:AAm := .seq (.ops [mv_ 106 5,po_ 107 (.bin 3 .gtr (.t 106) (ci_ 0)),mv_ 108 107,⟨some 109,.p (.mov (.t 7)),some ⟨108,true⟩⟩,⟨some 110,.p (.bin 5 .eql (.t 109) (.c (.int .u8 ((46:Nat):Int)))),some ⟨108,true⟩⟩,⟨some 111,.p (.mov (.t 110)),some ⟨108,true⟩⟩,⟨some 112,.p (.mov (.t 0)),some ⟨111,true⟩⟩,⟨some 113,.p (.mov (.t 5)),some ⟨111,true⟩⟩,⟨some 114,.p (.bin 3 .sub (.t 113) (ci_ 1)),some ⟨111,true⟩⟩,⟨some 115,.p (.idxS (.t 112) (.t 114)),some ⟨111,true⟩⟩,⟨some 116,.p (.bin 5 .eql (.t 115) (.c (.int .u8 ((46:Nat):Int)))),some ⟨111,true⟩⟩,⟨some 117,.p (.pick (.t 111) (.t 116) (.c (.bool false))),some ⟨108,true⟩⟩,⟨some 118,.p (.mov (.t 117)),some ⟨108,true⟩⟩,⟨some 119,.p (.mov (.t 7)),some ⟨118,false⟩⟩,⟨some 120,.p (.bin 5 .eql (.t 119) (.c (.int .u8 ((123:Nat):Int)))),some ⟨118,false⟩⟩,⟨some 121,.p (.mov (.t 120)),some ⟨118,false⟩⟩,⟨some 122,.p (.mov (.t 0)),some ⟨121,true⟩⟩,⟨some 123,.p (.mov (.t 5)),some ⟨121,true⟩⟩,⟨some 124,.p (.bin 3 .sub (.t 123) (ci_ 1)),some ⟨121,true⟩⟩,⟨some 125,.p (.idxS (.t 122) (.t 124)),some ⟨121,true⟩⟩,⟨some 126,.p (.bin 5 .eql (.t 125) (.c (.int .u8 ((64:Nat):Int)))),some ⟨121,true⟩⟩,⟨some 127,.p (.pick (.t 121) (.t 126) (.c (.bool false))),some ⟨118,false⟩⟩,⟨some 128,.p (.pick (.t 118) (.c (.bool true)) (.t 127)),some ⟨108,true⟩⟩,po_ 129 (.pick (.t 108) (.t 128) (.c (.bool false)))] [0,3,4,5,129])
 (.cond (.t 129)
 (.seq (.ops [po_ 2 (.mov (.c (.bool false)))] [2])
  (.ret))
 (.skip))
def AJ4:AAm := .seq (.seq (.ops [mv_ 72 7,po_ 73 (.bin 5 .lss (.t 72) (.c (.int .u8 ((33:Nat):Int)))),mv_ 74 73,⟨some 75,.p (.mov (.t 7)),some ⟨74,false⟩⟩,⟨some 76,.p (.bin 5 .gtr (.t 75) (.c (.int .u8 ((126:Nat):Int)))),some ⟨74,false⟩⟩,po_ 77 (.pick (.t 74) (.c (.bool true)) (.t 76)),mv_ 78 77,⟨some 79,.p (.mov (.t 7)),some ⟨78,false⟩⟩,⟨some 80,.p (.bin 5 .eql (.t 79) (.c (.int .u8 ((126:Nat):Int)))),some ⟨78,false⟩⟩,po_ 81 (.pick (.t 78) (.c (.bool true)) (.t 80)),mv_ 82 81,⟨some 83,.p (.mov (.t 7)),some ⟨82,false⟩⟩,⟨some 84,.p (.bin 5 .eql (.t 83) (.c (.int .u8 ((94:Nat):Int)))),some ⟨82,false⟩⟩,po_ 85 (.pick (.t 82) (.c (.bool true)) (.t 84)),mv_ 86 85,⟨some 87,.p (.mov (.t 7)),some ⟨86,false⟩⟩,⟨some 88,.p (.bin 5 .eql (.t 87) (.c (.int .u8 ((58:Nat):Int)))),some ⟨86,false⟩⟩,po_ 89 (.pick (.t 86) (.c (.bool true)) (.t 88)),mv_ 90 89,⟨some 91,.p (.mov (.t 7)),some ⟨90,false⟩⟩,⟨some 92,.p (.bin 5 .eql (.t 91) (.c (.int .u8 ((63:Nat):Int)))),some ⟨90,false⟩⟩,po_ 93 (.pick (.t 90) (.c (.bool true)) (.t 92)),mv_ 94 93,⟨some 95,.p (.mov (.t 7)),some ⟨94,false⟩⟩,⟨some 96,.p (.bin 5 .eql (.t 95) (.c (.int .u8 ((42:Nat):Int)))),some ⟨94,false⟩⟩,po_ 97 (.pick (.t 94) (.c (.bool true)) (.t 96)),mv_ 98 97,⟨some 99,.p (.mov (.t 7)),some ⟨98,false⟩⟩,⟨some 100,.p (.bin 5 .eql (.t 99) (.c (.int .u8 ((91:Nat):Int)))),some ⟨98,false⟩⟩,po_ 101 (.pick (.t 98) (.c (.bool true)) (.t 100)),mv_ 102 101,⟨some 103,.p (.mov (.t 7)),some ⟨102,false⟩⟩,⟨some 104,.p (.bin 5 .eql (.t 103) (.c (.int .u8 ((92:Nat):Int)))),some ⟨102,false⟩⟩,po_ 105 (.pick (.t 102) (.c (.bool true)) (.t 104))] [0,3,4,5,7,105])
 (.cond (.t 105)
 (.seq (.ops [po_ 2 (.mov (.c (.bool false)))] [2])
  (.ret))
 (.skip)))
 AJC
def AJ0:AAm := .seq (.ops [mv_ 69 0,mv_ 70 5,po_ 71 (.idxS (.t 69) (.t 70)),mv_ 7 71] [0,3,4,5,7])
 AJ4
def AKo:AAm := .seq (.block 1 (.seq (.seq (.ops [mv_ 35 5,mv_ 36 3,po_ 37 (.bin 3 .eql (.t 35) (.t 36)),mv_ 38 37,⟨some 39,.p (.mov (.t 0)),some ⟨38,false⟩⟩,⟨some 40,.p (.mov (.t 5)),some ⟨38,false⟩⟩,⟨some 41,.p (.idxS (.t 39) (.t 40)),some ⟨38,false⟩⟩,⟨some 42,.p (.bin 5 .eql (.t 41) (.c (.int .u8 ((47:Nat):Int)))),some ⟨38,false⟩⟩,po_ 43 (.pick (.t 38) (.c (.bool true)) (.t 42))] [0,3,4,5,43])
 AJ2)
 AJ0))
 (.ops [mv_ 33 5,po_ 34 (.bin 3 .add (.t 33) (ci_ 1)),mv_ 5 34] [0,3,4,5])
def AJY:AAm := .seq (.seq (.ops [mv_ 30 5,mv_ 31 3,po_ 32 (.bin 3 .leq (.t 30) (.t 31))] [0,3,4,5,32])
 (.cond (.t 32)
 (.skip)
 (.exit 0)))
 AKo
def AJ5:AAm := .block 0 (.loop [0,3,4,5] AJY)
def AIK:AAm := .seq (.ops [po_ 2 (.mov (.c (.bool true)))] [2])
 (.ret)
def AIF:AAm := .seq (.seq (.ops [po_ 5 (.mov (ci_ 0))] [0,3,4,5])
 AJ5)
 AIK
def AIl:AAm := .seq (.ops [po_ 4 (.mov (ci_ 0))] [0,3,4])
 AIF
def AI4:AAm := .seq (.seq (.ops [mv_ 12 3,po_ 13 (.bin 3 .gtr (.t 12) (ci_ 60)),mv_ 14 13,⟨some 15,.p (.mov (.t 3)),some ⟨14,false⟩⟩,⟨some 16,.p (.bin 3 .lss (.t 15) (ci_ 6)),some ⟨14,false⟩⟩,po_ 17 (.pick (.t 14) (.c (.bool true)) (.t 16)),mv_ 18 17,⟨some 19,.p (.mov (.t 0)),some ⟨18,false⟩⟩,⟨some 20,.p (.slS (.t 19) none (some (ci_ 5))),some ⟨18,false⟩⟩,⟨some 21,.p (.bin 9 .neq (.t 20) (.c (.string (str [114,101,102,115,47])))),some ⟨18,false⟩⟩,po_ 22 (.pick (.t 18) (.c (.bool true)) (.t 21)),mv_ 23 22,⟨some 24,.p (.mov (.t 0)),some ⟨23,false⟩⟩,⟨some 25,.p (.mov (.t 3)),some ⟨23,false⟩⟩,⟨some 26,.p (.bin 3 .sub (.t 25) (ci_ 1)),some ⟨23,false⟩⟩,⟨some 27,.p (.idxS (.t 24) (.t 26)),some ⟨23,false⟩⟩,⟨some 28,.p (.bin 5 .eql (.t 27) (.c (.int .u8 ((46:Nat):Int)))),some ⟨23,false⟩⟩,po_ 29 (.pick (.t 23) (.c (.bool true)) (.t 28))] [0,3,29])
 (.cond (.t 29)
 (.seq (.ops [po_ 2 (.mov (.c (.bool false)))] [2])
  (.ret))
 (.skip)))
 AIl
def AIM:AAm := .seq (.ops [mv_ 10 0,po_ 11 (.lenS (.t 10)),mv_ 3 11] [0,3])
 AI4
def AHZ:AAm := .seq (.seq (.ops [mv_ 8 0,po_ 9 (.bin 9 .eql (.t 8) (.c (.string (str [72,69,65,68]))))] [0,9])
 (.cond (.t 9)
 (.seq (.ops [po_ 2 (.mov (.c (.bool true)))] [2])
  (.ret))
 (.skip)))
 AIM
def AOB:AAm := .seq (.ops [po_ 2 (.mov (.c (.bool false)))] [0])
 AHZ
def AOD:List VR:=[.tmp 2]
theorem AUP:Tryz.f41.body.bind (trC Tryz.prog Tryz.f41.ntmps)=some (er AOB):=by kernel_rfl
theorem AUZ:trR Tryz.prog Tryz.f41.results.toList=some AOD:=by kernel_rfl
def AO1:=AAj AKr.eq_1
def AOg:=AAj AJW.eq_1
def AOz:=AAj AJ2.eq_1
def AOk:=AAj AJC.eq_1
def AOu:=AAj AJ4.eq_1
def APQ:=AAj AJ0.eq_1
def AOr:=AAj AKo.eq_1
def AOl:=AAj AJY.eq_1
def APh:=AAj AJ5.eq_1
def ANH:=AAj AIK.eq_1
def ANX:=AAj AIF.eq_1
def ANr:=AAj AIl.eq_1
def ANC:=AAj AI4.eq_1
def ANq:=AAj AIM.eq_1
def ANM:=AAj AHZ.eq_1
def AS4:=AAj AOB.eq_1
theorem ASH {K:TV→Prop} {e:Env} {H:List Ob}:res AOD e H K=res [.tmp 2] e H K:=AAi rfl
def AAw:=(aI_ (aI_ (aI_ (aI_ (aI_ @AO1 @AOg) (aI_ @AOz @AOk)) (aI_ (aI_ @AOu @APQ) (aI_ @AOr @AOl))) (aI_ (aI_ (aI_ @APh @ANH) (aI_ @ANX @ANr)) (aI_ (aI_ @ANC @ANq) (aI_ @ANM @AS4)))) @ASH)
def AT6:=ABp 130 Tryz.func41 AUP AUZ rfl
def AEd:AAm := .seq (.ops [po_ 4 (.mov (.c (.bool false)))] [0,1])
 (.seq (.ops [mv_ 5 0,mv_ 6 1,so_ 7 (.call 100 [.t 5,.t 6]),po_ 8 (.bin 3 .geq (.t 7) (ci_ 0)),mv_ 4 8] [4])
 (.ret))
def AEn:List VR:=[.tmp 4]
theorem AKw:Tryz.f73.body.bind (trC Tryz.prog Tryz.f73.ntmps)=some (er AEd):=by kernel_rfl
theorem AKH:trR Tryz.prog Tryz.f73.results.toList=some AEn:=by kernel_rfl
def AIf:=AAj AEd.eq_1
theorem AIV {K:TV→Prop} {e:Env} {H:List Ob}:res AEn e H K=res [.tmp 4] e H K:=AAi rfl
def AEr:=(aI_ @AIf @AIV)
def AJl:=ABp 9 Tryz.func73 AKw AKH rfl
def AGM:AAm := .seq (.ops [po_ 4 (.mov (ci_ 0))] [0,1])
 (.seq (.ops [mv_ 5 0,mv_ 6 1,so_ 7 (.call 113 [.t 5,.t 6,.c (.bool true)]),mv_ 4 7] [4])
 (.ret))
def AGU:List VR:=[.tmp 4]
theorem ANA:Tryz.f100.body.bind (trC Tryz.prog Tryz.f100.ntmps)=some (er AGM):=by kernel_rfl
theorem AN0:trR Tryz.prog Tryz.f100.results.toList=some AGU:=by kernel_rfl
def ALj:=AAj AGM.eq_1
theorem AL5 {K:TV→Prop} {e:Env} {H:List Ob}:res AGU e H K=res [.tmp 4] e H K:=AAi rfl
def AGx:=(aI_ @ALj @AL5)
def AMS:=ABp 8 Tryz.func100 ANA AN0 rfl
def AEo:AAm := .seq (.ops [so_ 11 (.nxtS (.t 10)),po_ 12 (.ext 0 (.t 11))] [1,2,10,11,12])
 (.seq (.cond (.t 12)
 (.skip)
 (.exit 0))
 (.block 1 (.seq (.ops [po_ 13 (.ext 1 (.t 11)),po_ 14 (.ext 2 (.t 11)),mv_ 7 13,mv_ 8 14] [1,2,7,8,10])
 (.seq (.ops [mv_ 15 1,mv_ 16 8,so_ 17 (.callv (.t 15) [.t 16]),mv_ 18 2,po_ 19 (.eqB (.t 17) (.t 18) false)] [1,2,7,10,19])
 (.cond (.t 19)
 (.seq (.ops [mv_ 20 7,mv_ 6 20] [6])
  (.ret))
 (.skip))))))
def AEb:AAm := .block 0 (.loop [1,2,10] AEo)
def AEt:AAm := .seq (.ops [po_ 6 (.mov (.c (.int .i64 (-1))))] [6])
 (.ret)
def AEe:AAm := .seq (.seq (.ops [mv_ 9 0,so_ 10 (.rngS (.t 9))] [1,2,10])
 AEb)
 AEt
def AGB:AAm := .seq (.ops [po_ 6 (.mov (ci_ 0))] [0,1,2])
 AEe
def AG3:List VR:=[.tmp 6]
theorem ANW:Tryz.f113.body.bind (trC Tryz.prog Tryz.f113.ntmps)=some (er AGB):=by kernel_rfl
theorem ANZ:trR Tryz.prog Tryz.f113.results.toList=some AG3:=by kernel_rfl
def AIu:=AAj AEo.eq_1
def AHV:=AAj AEb.eq_1
def AHU:=AAj AEt.eq_1
def AIC:=AAj AEe.eq_1
def AK4:=AAj AGB.eq_1
theorem ALV {K:TV→Prop} {e:Env} {H:List Ob}:res AG3 e H K=res [.tmp 6] e H K:=AAi rfl
def ACs:=(aI_ (aI_ (aI_ @AIu @AHV) (aI_ @AHU @AIC)) (aI_ @AK4 @ALV))
def AMw:=ABp 21 Tryz.func113 ANW ANZ rfl
end
section
open Go.RowKit
class ADH [AAE]:Prop where
 k:∃ m,AEf 1=some (.one (.int .i64 m))
variable [AAE]
theorem A0I (s p:List UInt8):AAR Tryz.prog 70 [ts s,ts p] (fun x=>x=tb (Lib.hasPrefix s p)):=by
 have h:=AAR.ofBelow (f:=70) (args:=[.string (str s),.string (str p)]) (r := .bool (Lib.hasPrefix s p)) (fun F w _=>by
  have h1:=Tryz.strings_HasPrefix (str s) (str p) w
  rw [A6Z,A6Z] at h1
  refine h1.mono ?_
  rintro e w' ⟨rfl,rfl⟩
  exact ⟨rfl,AIJ _⟩)
 exact h
theorem AVe (s:List UInt8) (c:UInt8) (hc:c.toNat<128):AAR Tryz.prog 75 [ts s,.val (.int .i32 ((c.toNat:Nat):Int))] (fun x=>x=tb (decide (c∈s))):=by
 have h:=AAR.ofBelow (f:=75) (args:=[.string (str s),.int .i32 c.toNat]) (r := .bool (decide (c∈s))) (fun F w _=>by
  have h1:=Tryz.strings_ContainsRune_ascii (str s) c.toNat w (by omega) (by omega)
  have e2:((c.toNat:Int)).toNat.toUInt8=c:=by rw [Int.toNat_natCast]; simp
  have e3:decide (0≤Lib.indexByte s c)=decide (c∈s):=by
   rcases ASJ c s with ⟨h1,h2,_⟩ | ⟨k,h1,h2,h3,_⟩
   ·rw [h1]; simp [h2]
   ·rw [h1]; simp [List.mem_of_getElem? h3]
  rw [A6Z,e2,e3] at h1
  refine h1.mono ?_
  rintro e w' ⟨rfl,rfl⟩
  exact ⟨rfl,AIJ _⟩)
 exact h
theorem AWZ [ADH] (s p:List UInt8) (hs:s.length≤4000000):AAR Tryz.prog 72 [ts s,ts p] (fun x=>x=tb (Lib.contains s p)):=by
 have h:=AAR.ofBelow (f:=72) (args:=[.string (str s),.string (str p)]) (r := .bool (Lib.contains s p)) (fun F w hg=>by
  obtain ⟨m,hm⟩:=ADH.k
  obtain ⟨_,t,fr,hh⟩:=hg _ _ hm
  have h1:=Tryz.strings_Contains (str s) (str p) m w (by rw [A7l]; omega) (by simp [World.cell?,hh,GV.cells])
  rw [A6Z,A6Z] at h1
  refine h1.mono ?_
  rintro e w' ⟨rfl,rfl⟩
  exact ⟨rfl,AIJ _⟩)
 exact h
def A4n (r:Int):Bool:=decide (r<33∨126<r∨UInt8.ofNat r.toNat∈[(126:UInt8),94,58,63,42,91,92])
theorem A9M (r:Int) (h0:0≤r) (h1:r≤1114111):AAR Tryz.prog 74 [.val (.int .i32 r)] (fun x=>x=tb (A4n r)):=by
 refine AAs.toPureV (AR2 (by simp) ?_)
 by_cases h2:r<33
 ·simp -dsimp (disch:=first | assumption | omega) only [↓AAp,AAk,AAn,AAo,eq_self,Nat.reduceEqDiff,↓reduceIte,reduceCtorEq,↓AD2]
  simp [A4n,h2]
 by_cases h3:126<r
 ·simp -dsimp (disch:=first | assumption | omega) only [↓AAp,AAk,AAn,AAo,eq_self,Nat.reduceEqDiff,↓reduceIte,reduceCtorEq,↓AD2]
  simp [A4n,h3]
 simp -dsimp (disch:=first | assumption | omega) only [↓AAp,AAk,AAn,AAo,eq_self,Nat.reduceEqDiff,↓reduceIte,reduceCtorEq,↓AD2]
 have e:(r:Int)=(((UInt8.ofNat r.toNat).toNat:Nat):Int):=by rw [UInt8.toNat_ofNat',Nat.mod_eq_of_lt (by omega)]; omega
 rw [e]
 refine (AVe [126,94,58,63,42,91,92] (UInt8.ofNat r.toNat) (by omega)).calls rfl ?_
 rintro _ rfl
 simp -dsimp (disch:=first | assumption | omega) only [↓AAp,AAk,AAn,AAo,eq_self,Nat.reduceEqDiff,↓reduceIte,↓AD2]
 have:A4n ((UInt8.ofNat r.toNat).toNat:Int)=decide (UInt8.ofNat r.toNat∈[(126:UInt8),94,58,63,42,91,92]):=by
  rw [←e]; unfold A4n; congr 1; simp only [h2,h3,false_or]
 rw [this]
theorem A3e (c:UInt8):A4n ((c.toNat:Nat):Int) = !AMH c:=by
 unfold A4n AMH
 rw [Int.toNat_natCast,UInt8.ofNat_toNat,←decide_not]
 congr 1
 simp only [Decidable.not_and_iff_not_or_not,Decidable.not_not]
 apply propext
 constructor
 ·rintro (h | h | h)
  ·left; omega
  ·right; left; omega
  ·right; right; exact h
 ·rintro (h | h | h)
  ·left; omega
  ·right; left; omega
  ·right; right; exact h
theorem A9S:(false == true)=false:=rfl
theorem A0w (s:List UInt8) (hs:s.length≤1000):AAR Tryz.prog 113 [ts s,.val (.func (.func 74) #[] #[]),tb true] (fun x=>∃ i:Int,x=i64 i∧(0≤i↔¬ ∀ c∈s,AMH c=true)):=by
 refine AAs.toPureV (AMw (by simp) ?_)
 simp -dsimp (disch:=first | assumption | omega) only [↓AAp,AAk,AAn,AAo,eq_self,Nat.reduceEqDiff,↓reduceIte,Nat.reduceAdd,reduceCtorEq,↓ACs,AAD]
 refine ACS (fun q e H=>∃ pos:Nat,q=s.length - pos∧(∀ j x,j<pos→s[j]?=some x→AMH x=true)∧e=[(1,.val (.func (.func 74) #[] #[])),(2,tb true),(10,.op 0 0 [])]∧H=[.sit s pos]) s.length ?_ ?_
 ·exact ⟨0,rfl,fun j x h=>by omega,rfl,rfl⟩
 ·rintro q e H ⟨pos,rfl,hno,rfl,rfl⟩
  by_cases hp:pos<s.length
  ·obtain ⟨c,hc⟩:∃ c,s[pos]?=some c:=⟨_,List.getElem?_eq_getElem hp⟩
   by_cases h7:c.toNat<128
   ·obtain ⟨d1,d2⟩:=A7Y s pos c hc h7
    simp -dsimp (disch:=first | assumption | omega) only [↓AAp,AAk,AAn,AAo,eq_self,Nat.reduceEqDiff,↓reduceIte,↓ACs,d1,d2]
    refine ⟨by kernel_rfl,?_⟩
    refine (A9M ((c.toNat:Nat):Int) (by omega) (by omega)).calls rfl ?_
    rintro _ rfl
    rw [A3e]
    cases hgc:AMH c with
    | false =>
     simp -dsimp (disch:=first | assumption | omega) only [↓AAp,AAk,AAn,AAo,eq_self,Nat.reduceEqDiff,↓reduceIte]
     exact ⟨_,rfl,fun _ hall=>(by rw [hall c (List.mem_of_getElem? hc)] at hgc; cases hgc),fun _=>by omega⟩
    | true =>
     simp -dsimp (disch:=first | assumption | omega) only [↓AAp,AAk,AAn,AAo,eq_self,Nat.reduceEqDiff,↓reduceIte,A9S]
     refine AAC (s.length - (pos+1)) (by omega) (by simp) ⟨pos+1,rfl,fun j x hj hx => ?_,rfl,rfl⟩
     by_cases e:j=pos
     ·subst e; rw [hc] at hx; cases hx; exact hgc
     ·exact hno j x (by omega) hx
   ·obtain ⟨d1,d2,d3⟩:=A48 s pos c hc (by omega)
    simp -dsimp (disch:=first | assumption | omega) only [↓AAp,AAk,AAn,AAo,eq_self,Nat.reduceEqDiff,↓reduceIte,↓ACs]
    generalize (Utf8.decode (str s) pos).1=r at *
    generalize (Utf8.decode (str s) pos).2=k at *
    refine ⟨by kernel_rfl,?_⟩
    refine (A9M (r:Int) (by omega) (by omega)).calls rfl ?_
    rintro _ rfl
    have e:A4n (r:Int)=true:=by unfold A4n; rw [decide_eq_true_eq]; right; left; omega
    rw [e]
    simp -dsimp (disch:=first | assumption | omega) only [↓AAp,AAk,AAn,AAo,eq_self,Nat.reduceEqDiff,↓reduceIte]
    refine ⟨_,rfl,fun _ hall => ?_,fun _=>by omega⟩
    have:=hall c (List.mem_of_getElem? hc)
    unfold AMH at this
    rw [decide_eq_true_eq] at this
    omega
  ·simp -dsimp (disch:=first | assumption | omega) only [↓AAp,AAk,AAn,AAo,eq_self,Nat.reduceEqDiff,↓reduceIte,↓ACs]
   refine ⟨-1,rfl,fun h=>by omega,fun h=>absurd (fun c hc => ?_) h⟩
   obtain ⟨j,hj,rfl⟩:=List.mem_iff_getElem.1 hc
   exact hno j _ (by omega) (List.getElem?_eq_getElem hj)
theorem AVO (s:List UInt8) (hs:s.length≤1000):AAR Tryz.prog 73 [ts s,.val (.func (.func 74) #[] #[])] (fun x=>∃ b,x=tb b∧(b=true↔¬ ∀ c∈s,AMH c=true)):=by
 refine AAs.toPureV (AJl (by simp) ?_)
 simp -dsimp (disch:=first | assumption | omega) only [↓AAp,AAk,AAn,AAo,eq_self,Nat.reduceEqDiff,↓reduceIte,Nat.reduceAdd,reduceCtorEq,↓AEr]
 refine AMS (by simp) ?_
 simp -dsimp (disch:=first | assumption | omega) only [↓AAp,AAk,AAn,AAo,eq_self,Nat.reduceEqDiff,↓reduceIte,Nat.reduceAdd,reduceCtorEq,↓AGx]
 refine (A0w s hs).calls rfl ?_
 rintro _ ⟨i,rfl,hi⟩
 simp -dsimp (disch:=first | assumption | omega) only [↓AAp,AAk,AAn,AAo,eq_self,↓reduceIte,↓AGx,↓AEr]
 exact ⟨_,rfl,by rw [decide_eq_true_eq]; exact hi⟩
end
end Go.Proofs.YtnikbdnebdmmiaaGreatDoor
