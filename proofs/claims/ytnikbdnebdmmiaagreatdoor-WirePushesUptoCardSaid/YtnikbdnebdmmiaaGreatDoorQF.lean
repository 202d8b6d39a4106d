/- What the proof of WirePushesUptoCard stands on (texts merged; names shortened by a program): part 6. -/
import Derived.Test.YtnikbdnebdmmiaaGreatDoorQE
import Derived.Test.YtnikbdnebdmmiaaGreatDoorProg
import Derived.KernelRfl
import Derived.Lib.Bytealg
import Derived.WalkKit
import Derived.Test.YtnikbdnebdmmiaaGreatDoorQD
import Derived.LaidEql
import Derived.Stop.Asserts
import Derived.RowKitTokens
import Derived.Laws.RangeAny
import Derived.Lib.TrimU
import Derived.Lib.Strings
set_option linter.defProp false
set_option linter.unusedSectionVars false
set_option linter.unusedSimpArgs false
set_option linter.unusedVariables false
namespace Go.Proofs.YtnikbdnebdmmiaaGreatDoor
section
open Go.RowKit
variable [AyT]
theorem AW7 {a a' b b':TV} (ha:AyL a=1) (ha':AyL a'=1) (hb:AyL b=1) (hb':AyL b'=1) (hn:AAS a'=false):∀ {p:List (Nat×Nat)} {x x':TV},AEo p x=some (.agg [a,b])→AG6 p x (.agg [a',b])=some x' →
  AEo (p++[(1,1)]) x'=some b∧∃ x'',AG6 (p++[(1,1)]) x' b'=some x''∧AG6 p x (.agg [a',b'])=some x''
 | [],x,x',hg,hs=>by
  rw [ASX] at hg; cases hg
  have w1:AyL (.agg [a',b])=AyL (.agg [a,b]):=by simp [AyL,Azk,ha,ha',hb]
  have w2:AyL (.agg [a',b'])=AyL (.agg [a,b]):=by simp [AyL,Azk,ha,ha',hb,hb']
  rw [AKG,if_pos w1] at hs; cases hs
  rw [AKG,if_pos w2,List.nil_append,AQh,AN1]
  have h1:Azk ([a',b].take 1)=1:=by simp [Azk,ha']
  rw [if_pos h1,if_pos h1]
  refine ⟨by simp [ASX],_,?_,rfl⟩
  simp [AKG,hb,hb']
 | (i,d)::p,x,x',hg,hs=>by
  cases x with
  | agg cs =>
   rw [AQh] at hg
   rw [AN1] at hs
   split at hg
   ·rename_i hw
    rw [if_pos hw] at hs
    cases hc:cs[i]? with
    | none=>rw [hc] at hg; cases hg
    | some c =>
     rw [hc] at hg hs
     have hg':AEo p c=some (.agg [a,b]):=hg
     have hs':((AG6 p c (.agg [a',b])).map fun c'=>TV.agg (cs.set i c'))=some x':=hs
     obtain ⟨c',h1,rfl⟩:=Option.map_eq_some_iff.1 hs'
     obtain ⟨g1,c'',g2,g3⟩:=AW7 ha ha' hb hb' hn hg' h1
     have hi:i<cs.length:=(List.getElem?_eq_some_iff.1 hc).1
     have hti:(cs.set i c').take i=cs.take i:=by rw [List.take_set_of_le (Nat.le_refl _)]
     refine ⟨?_,.agg (cs.set i c''),?_,?_⟩
     ·rw [List.cons_append,AQh,hti,if_pos hw,List.getElem?_set_self hi]; exact g1
     ·rw [List.cons_append,AN1,hti,if_pos hw,List.getElem?_set_self hi]
      show (AG6 (p++[(1,1)]) c' b').map _=_
      rw [g2]; simp
     ·rw [AN1,if_pos hw,hc]
      show (AG6 p c (.agg [a',b'])).map _=_
      rw [g3]; rfl
   ·cases hg
  | arr n k cs =>
   rw [AXc] at hs
   split at hs
   ·rename_i h
    have:=h.2
    simp [AAS,AzQ,hn] at this
   ·cases hs
  | _=>cases hg
structure Bld (H:List Ob) (id ver:Nat) (p:List (Nat×Nat)) (j v:Nat) (x:TV) (l:List UInt8):Prop where
 ob:H[id]?=some (.obj ver x)
 fields:∃ a,AQF id ver p a∧AEo p x=some (.agg [a,.os 1 j v [] 0 l.length l.length])
 row:H[j]?=some (.bld v 5 l)
 ne:id≠j
 fact:∃ (q:Nat) (T:TypeId) (m:Nat),H[q]?=some (Ob.fact id ver T m)∧AWS T m (AzN p)
theorem AKH {id ver:Nat} {p:List (Nat×Nat)} {a:TV} (h:AQF id ver p a):AyL a=1:=by rcases h with rfl | rfl<;>rfl
end
section
variable [AyT]
set_option maxRecDepth 100000
def AAN:AyD := .seq (.ops [mv_ 5 0,so_ 6 (.call 89 [.t 5])] [0,1])
 (.seq (.ops [mv_ 7 0,mv_ 8 0,po_ 9 (.nilc (.t 8)),po_ 10 (.fieldA 1 1 (.t 9)),po_ 11 (.load false 1 (.t 10)),mv_ 12 1,⟨some 13,.s (.bslice 1 1 (.val (.int .u8 ((0:Nat):Int))) [⟨0,.t 12⟩]),none⟩,so_ 14 (.app 1 1 5 (.t 11) (.t 13)),po_ 15 (.nilc (.t 7)),po_ 16 (.fieldA 1 1 (.t 15)),⟨none,.s (.store 1 (.t 16) (.t 14)),none⟩] [])
 (.seq (.ops [po_ 4 (.mov (.c .nilIface))] [4])
 (.ret)))
def ABc:AyD := .seq (.ops [po_ 4 (.mov (.c .nilIface))] [0,1])
 AAN
def ABb:List VR:=[.tmp 4]
theorem AEX:Tryz.f56.body.bind (trC Tryz.prog Tryz.f56.ntmps)=some (er ABc):=by kernel_rfl
theorem AFf:trR Tryz.prog Tryz.f56.results.toList=some ABb:=by kernel_rfl
def ACv:=AyA AAN.eq_1
def AD4:=AyA ABc.eq_1
theorem AD3 {K:TV→Prop} {e:Env} {H:List Ob}:res ABb e H K=res [.tmp 4] e H K:=Ayz rfl
def ABg:=(aI_ (aI_ @ACv @AD4) @AD3)
def AEw:=AzJ 17 Tryz.func56 AEX AFf rfl
end
section
open Go.RowKit
variable [AyT]
theorem ASp {id ver j v:Nat} {p:List (Nat×Nat)} {x x':TV} {l:List UInt8} {c:UInt8} {H:List Ob} {K:TV→List Ob→Prop} (hB:Bld H id ver p j v x l) (hlen:l.length+1≤140737488355328)
  (hs:AG6 p x (.agg [.op id ver p,.os 1 j v [] 0 l.length l.length])=some x') (hk:∀ x'',AG6 p x (.agg [.op id ver p,.os 1 j (v+1) [] 0 (l++[c]).length (l++[c]).length])=some x''→K (.val .nilIface) ((H.set id (.obj ver x'')).set j (.bld (v+1) 5 (l++[c]))++[.obj 0 (.arr 1 1 [by8 c])])) :
  AyJ Tryz.prog 56 [.op id ver p,by8 c] H K:=by
 obtain ⟨ho,⟨a,ha,hg⟩,hj,hne,q,T,m,hq,hT⟩:=hB
 refine AEw (by simp) ?_
 simp -dsimp (disch:=first | assumption | omega) only [↓AyG,AyB,AyE,AyF,eq_self,Nat.reduceEqDiff,↓reduceIte,Nat.reduceAdd,reduceCtorEq,↓ABg]
 refine AYt ho hg rfl ha hq hT hs rfl ?_
 have hid:id<H.length:=(List.getElem?_eq_some_iff.1 ho).1
 have hjl:j<H.length:=(List.getElem?_eq_some_iff.1 hj).1
 obtain ⟨g1,x'',g2,g3⟩:=AW7 (b' := .os 1 j (v+1) [] 0 (l++[c]).length (l++[c]).length) (AKH ha) (by rfl) (by rfl) (by rfl) (by rfl) hg hs
 have hll:(H.set id (.obj ver x')).length=H.length:=by simp
 have b1:∀ {G:List Ob} {o g:Ob} {i:Nat},G[i]?=some o→(G++[g])[i]?=some o:=fun h=>by rw [List.getElem?_append_left (List.getElem?_eq_some_iff.1 h).1]; exact h
 have f0:(H.set id (.obj ver x')++[Ob.obj 0 (.arr 1 1 [by8 c])])[H.length]?=some (.obj 0 (.arr 1 1 [by8 c])):=by
  rw [←hll,List.getElem?_append_right (Nat.le_refl _)]; simp
 have f1:(H.set id (.obj ver x'))[id]?=some (.obj ver x'):=by simp [hid]
 have f2:(H.set id (.obj ver x')++[Ob.obj 0 (.arr 1 1 [by8 c])])[j]?=some (.bld v 5 l):=b1 (by rw [List.getElem?_set_ne hne]; exact hj)
 have f5:(H.set id (.obj ver x')++[Ob.obj 0 (.arr 1 1 [by8 c])]).set j (.bld (v+1) 5 (l++[c]))=(H.set id (.obj ver x')).set j (.bld (v+1) 5 (l++[c]))++[Ob.obj 0 (.arr 1 1 [by8 c])]:=by
  rw [List.set_append_left _ _ (by rw [hll]; exact hjl)]
 have f3:((H.set id (.obj ver x')).set j (.bld (v+1) 5 (l++[c]))++[Ob.obj 0 (.arr 1 1 [by8 c])])[id]?=some (.obj ver x'):=b1 (by rw [List.getElem?_set_ne (Ne.symm hne)]; exact f1)
 have f4:((H.set id (.obj ver x')).set j (.bld (v+1) 5 (l++[c]))++[Ob.obj 0 (.arr 1 1 [by8 c])]).set id (.obj ver x'')=(H.set id (.obj ver x'')).set j (.bld (v+1) 5 (l++[c]))++[Ob.obj 0 (.arr 1 1 [by8 c])]:=by
  rw [List.set_append_left _ _ (by simpa using hid),List.set_comm _ _ hne,List.set_set,List.set_comm _ _ hne.symm]
 have one:(List.replicate 1 (TV.val (Value.int IntKind.u8 ((0:Nat):Int)))).set 0 (by8 c)=[by8 c]:=by simp
 have tk1:[by8 c].take 1=[by8 c]:=by simp
 have tkl:l.take l.length=l:=List.take_length
 have e1:(l++[c]).length=l.length+1:=by simp
 rw [e1] at g2
 have hk':=hk x'' g3
 simp -dsimp (disch:=first | assumption | omega) only [↓AyG,AyB,AyE,AyF,eq_self,Nat.reduceEqDiff,↓reduceIte,reduceCtorEq,Nat.reduceLeDiff,↓ABg,f0,f1,f2,f3,f4,f5,g1,g2,one,tk1]
 exact hk'
end
section
open Go.RowKit
variable [AyT]
set_option maxHeartbeats 2000000 in
set_option maxRecDepth 100000 in
theorem AS0 (s:ByteArray) (cv:Int) (w:World) :
  Calls Tryz.prog 111 #[.string s,.int .u8 cv] w fun e w'=>e = .returned (.int .i64 (Lib.indexByte s.data.toList cv.toNat.toUInt8))∧w'=w:=by
 go_enter Tryz.func111,Tryz.ntmps111
 go_wp2
 rw [run_callFunc_extern Tryz.func132 (by kernel_rfl) (by kernel_rfl) (by kernel_rfl) (e:=Extern.BytealgIndexByte.indexByte) (by kernel_rfl),Lib.run_indexByteString s cv w]
 simp only [Result.andThen]
 rw [Oper.upon_value]
 go_wp2
 go_ret
 exact ⟨rfl,rfl⟩
theorem Azg.ofCalls {f:FuncId} {args:List Value} {r:Value} (h:∀ w,Calls Tryz.prog f args.toArray w fun e w'=>e = .returned r∧w'=w):Azg Tryz.prog f (args.map .val) (fun x=>x = .val r):=by
 intro β F w vs hF hv
 have hvs:vs=args:=by
  clear h hF
  induction args generalizing vs with
  | nil=>rw [List.map_nil,Azi.nil] at hv; exact hv
  | cons a args ih =>
   rw [List.map_cons] at hv
   obtain ⟨v,us,rfl,h1,h2⟩:=Azi.cons.1 hv
   have:=Rep.val.1 (Or.inl h1:Rep _ _ _ _)
   rw [this,ih us h2]
 subst hvs
 refine (h w).mono ?_
 rintro e w' ⟨rfl,rfl⟩
 exact ⟨_,_,F,rfl,rfl,Rep.of_val,⟨rfl,rfl,rfl,Nat.le_refl _,fun _ _=>rfl,fun _ h=>h,fun _ _ h=>h,hF.1⟩⟩
theorem AVJ (l:List UInt8) (c:UInt8):Azg Tryz.prog 111 [.val (.string (str l)),by8 c] (fun x=>x = .val (.int .i64 (Lib.indexByte l c))):=by
 have h:=Azg.ofCalls (f:=111) (args:=[.string (str l),.int .u8 c.toNat]) (r := .int .i64 (Lib.indexByte l c)) (fun w=>by
  have h1:=AS0 (str l) c.toNat w
  have e1:(str l).data.toList=l:=by simp [str]
  have e2:((c.toNat:Int)).toNat.toUInt8=c:=by rw [Int.toNat_natCast]; simp
  rw [e1,e2] at h1; exact h1)
 exact h
end
section
open Go.RowKit
variable [AyT]
def dig (n:Nat):UInt8:=UInt8.ofNat (if n<10 then 48+n else 87+n)
def Azl (l:List UInt8):List UInt8:=l.flatMap fun x=>[dig (x.toNat / 16),dig (x.toNat % 16)]
def AQv:List UInt8:=[48,49,50,51,52,53,54,55,56,57,97,98,99,100,101,102]
theorem ABp:∀ n,n<16→AQv[n]?=some (dig n):=by decide
theorem A9j (n:Nat):n &&& 15=n % 16:=Nat.and_two_pow_sub_one_eq_mod n 4
theorem AB9 (l:List UInt8):(Azl l).length=2*l.length:=by
 induction l with
 | nil=>rfl
 | cons x l ih =>
  have e:Azl (x::l)=dig (x.toNat / 16)::dig (x.toNat % 16)::Azl l:=rfl
  rw [e,List.length_cons,List.length_cons,List.length_cons,ih]; omega
theorem ASs (l:List UInt8) (x:UInt8):Azl (l++[x])=Azl l++[dig (x.toNat / 16)]++[dig (x.toNat % 16)]:=by simp [Azl]
theorem AWz:AQv=[48,49,50,51,52,53,54,55,56,57,97,98,99,100,101,102]:=rfl
set_option maxRecDepth 100000 in
theorem BcJ:AWS 116 2 0:=⟨by decide,by kernel_rfl⟩
theorem ADb {l:List UInt8}:bl (str l)=l:=by simp [bl,str]
theorem Bdo {l:List UInt8} {n:Nat} {arr a:TV} {v:Nat} {G:List Ob} (hn:n=l.length) (ha:AQF 1 0 [] a):Bld ([.obj 0 arr,.obj 0 (.agg [a,.os 1 3 v [] 0 n n]),.fact 1 0 116 2,.bld v 5 l]++G) 1 0 [] 3 v (.agg [a,.os 1 3 v [] 0 n n]) l :=
 hn ▸   ⟨rfl,⟨a,ha,rfl⟩,rfl,by decide,⟨2,_,_,rfl,BcJ⟩⟩
theorem BaR {a b c:TV} (ha:AyL a=1) (hb:AyL b=1):AG6 [] (.agg [a,b]) (.agg [.op 1 0 [],c])=if AyL c=1 then some (.agg [.op 1 0 [],c]) else none:=by
 rw [AKG]
 have e:AyL (.agg [a,b])=2:=by simp [AyL,Azk,ha,hb]
 have e2:AyL (.agg [.op 1 0 [],c])=1+AyL c:=by simp [AyL,Azk]
 rw [e,e2]
 by_cases h:AyL c=1
 ·rw [if_pos h,if_pos (by omega)]
 ·rw [if_neg h,if_neg (by omega)]
theorem Bd5 {x:UInt8}:AAL 5 .shr (.int .u8 (x.toNat:Int)) (.int .u64 ((4:Nat):Int))=some (.int .u8 ((x.toNat / 16:Nat):Int)):=A8F (by have:=x.toNat_lt; omega) (by omega)
theorem BdT {x:UInt8}:AAL 5 .and (.int .u8 (x.toNat:Int)) (.int .u8 ((15:Nat):Int))=some (.int .u8 ((x.toNat % 16:Nat):Int)):=by rw [A81 (by have:=x.toNat_lt; omega) (by omega),A9j]
theorem Bde (l:List UInt8) (hl:l.length=20):Azg Tryz.prog 30 [.arr 20 1 (l.map by8)] (fun r=>r = .val (.string (str (Azl l)))):=by
 refine AyJ.toPureV (ATv (by simp) ?_)
 simp -dsimp (disch:=first | assumption | omega) only [↓AyG,AyB,AyE,AyF,eq_self,Nat.reduceEqDiff,↓reduceIte,Nat.reduceAdd,↓AKb]
 refine ABj (fun q e H=>∃ (i v:Nat) (a:TV),q=20 - i∧i≤20∧AQF 1 0 [] a∧e=[(3,.op 1 0 []),(6,.arr 20 1 (l.map by8)),(7,i64 (i:Int))] ∧
  H=[.obj 0 (.arr 20 1 (l.map by8)),.obj 0 (.agg [a,.os 1 3 v [] 0 (Azl (l.take i)).length (Azl (l.take i)).length]),.fact 1 0 116 2,.bld v 5 (Azl (l.take i))]) 20 ?_ ?_
 ·exact ⟨0,0,_,by simp,by simp,.inl rfl,rfl,by simp [Azl]⟩
 ·rintro q e H ⟨i,v,a,rfl,hi,ha,rfl,rfl⟩
  by_cases h:i<20
  ·have hg:l[i]?=some l[i]:=List.getElem?_eq_getElem (by omega)
   have hsucc:=List.take_succ_eq_append_getElem (l:=l) (i:=i) (by omega)
   have hsn:=ASs (l.take i) l[i]
   rw [←hsucc] at hsn
   have hlen:(Azl (l.take i)).length=2*i:=by rw [AB9,List.length_take]; omega
   generalize hr2:Azl (l.take (i+1))=r2 at *
   generalize Azl (l.take i)=r at *
   generalize l[i]=c at *
   have hc:=c.toNat_lt
   have t1:=ABp (c.toNat / 16) (by omega)
   have t2:=ABp (c.toNat % 16) (by omega)
   rw [AWz] at t1 t2
   simp -dsimp (disch:=first | assumption | omega) only [↓AyG,AyB,AyE,AyF,eq_self,Nat.reduceEqDiff,↓reduceIte,↓AKb,hg,Bd5,t1,ADb]
   refine ASp (Bdo (l:=r) (G:=[]) rfl ha) (by omega) (by rw [BaR (AKH ha) rfl]; rfl) (fun x2 h2 => ?_)
   rw [BaR (AKH ha) rfl] at h2
   obtain rfl:=Option.some.inj h2
   simp -dsimp (disch:=first | assumption | omega) only [↓AyG,AyB,AyE,AyF,eq_self,Nat.reduceEqDiff,↓reduceIte,BdT,t2,ADb]
   refine ASp (Bdo (l:=r++[dig (c.toNat / 16)]) (G:=[_]) (by simp) (.inr rfl)) (by simp; omega) (by rw [BaR rfl rfl]; rfl) (fun x2 h2 => ?_)
   rw [BaR rfl rfl] at h2
   obtain rfl:=Option.some.inj h2
   simp -dsimp (disch:=first | assumption | omega) only [↓AyG,AyB,AyE,AyF,eq_self,Nat.reduceEqDiff,↓reduceIte,Nat.reduceAdd]
   rw [←hsn]
   exact A0f (20 - (i+1)) 4 (by omega) (by simp) rfl rfl ⟨i+1,v+1+1,_,rfl,by omega,.inr rfl,rfl,by rw [hr2,hsn]; simp⟩
  ·have hi2:i=20:=by omega
   subst hi2
   have htl:l.take 20=l:=List.take_of_length_le (by omega)
   rw [htl]
   have hl2:(Azl l).length=40:=by rw [AB9]; omega
   have hw:=AKH ha
   have hb:=A5c
   simp -dsimp (disch:=first | assumption | omega) only [↓AyG,AyB,AyE,AyF,eq_self,Nat.reduceLT,Nat.reduceEqDiff,↓reduceIte,↓AKb,hb]
end
section
open Go.RowKit
variable [AyT]
section
omit [AyT]
def AN2 (n:Nat):List UInt8:=[dig (n / 4096 % 16),dig (n / 256 % 16),dig (n / 16 % 16),dig (n % 16)]
def ADX:List UInt8:=[48,48,48,48]
def Azq (l:List UInt8):List UInt8:=if l.length=0 then ADX else AN2 (l.length+4)++l
theorem APz:∀ n,n<16→xv (dig n)=n:=by decide
theorem AXt (n:Nat):(AN2 n).length=4:=rfl
theorem ATc {n:Nat} (h:n<65536):AUE 0 (AN2 n)=n:=by
 unfold AN2
 simp only [AUE]
 rw [APz _ (by omega),APz _ (by omega),APz _ (by omega),APz _ (by omega)]
 omega
theorem AZK {n:Nat} (h:n<65536):pX (AN2 n)=some n:=by
 unfold pX
 have ha:(AN2 n).all isX=true:=by
  unfold AN2 isX
  simp [APz _ (show n / 4096 % 16<16 by omega),APz _ (show n / 256 % 16<16 by omega),APz _ (show n / 16 % 16<16 by omega),APz _ (show n % 16<16 by omega)]
  omega
 rw [ATc h,if_pos ⟨by simp [AN2],ha,h⟩]
theorem ASS {n m:Nat} (hn:n<65536) (hm:m<65536) (e:AN2 n=AN2 m):n=m:=by
 rw [←ATc hn,e,ATc hm]
def APL (l:List UInt8):Nat:=if l.length=0 then 0 else l.length+4
theorem AS1 (l:List UInt8):Azq l=AN2 (APL l)++l:=by
 unfold Azq APL
 split
 ·rename_i h
  rw [List.eq_nil_of_length_eq_zero h]; rfl
 ·rfl
theorem AMU (l:List UInt8):(Azq l).length=4+l.length:=by rw [AS1,List.length_append]; rfl
theorem AzI {x s b:List UInt8} (h:Azq x++s=b):b.take 4=AN2 (APL x)∧b.drop 4=x++s∧b.length=4+x.length+s.length:=by
 subst h
 rw [AS1,List.append_assoc]
 exact ⟨List.take_left' rfl,List.drop_left' rfl,by simp [AXt]; omega⟩
theorem ATN {x:List UInt8} (h:x.length≤1000):APL x<65536:=by unfold APL; split<;>omega
theorem AEy {x y r s:List UInt8} (hx:x.length≤1000) (hy:y.length≤1000) (h:Azq x++r=Azq y++s):x=y∧r=s:=by
 obtain ⟨a1,a2,a3⟩:=AzI h
 obtain ⟨b1,b2,b3⟩:=AzI (rfl:Azq y++s=Azq y++s)
 rw [a1] at b1
 have e:=ASS (ATN hx) (ATN hy) b1
 have hl:x.length=y.length:=by unfold APL at e; split at e<;>split at e<;>omega
 rw [a2] at b2
 exact List.append_inj b2 hl
theorem A7k {b:List UInt8} {n:Nat} (h4:4≤b.length) (hn:4<n) (hn2:n≤1004) (hl:n≤b.length) (ht:b.take 4=AN2 n):Azq ((b.take n).drop 4)++b.drop n=b:=by
 have hln:((b.take n).drop 4).length=n - 4:=by simp; omega
 unfold Azq
 rw [if_neg (by omega),hln,show n - 4+4=n by omega,←ht,List.append_assoc]
 have e1:(b.take n).take 4=b.take 4:=by rw [List.take_take,Nat.min_eq_left (by omega)]
 rw [←List.append_assoc,←e1,List.take_append_drop,List.take_append_drop]
theorem AUD {b:List UInt8} (ht:b.take 4=ADX):Azq []++b.drop 4=b:=by
 have:Azq []=ADX:=rfl
 rw [this,←ht,List.take_append_drop]
structure LI (b:List UInt8) (ls:List (List UInt8)) (rest:List UInt8):Prop where
 ok:∀ x∈ls,x.length≤1000
 eq:ls.flatMap Azq++rest=b
end
end
section
open Go.RowKit Go.Extern.Stop Go.Stop Go.Extern
variable [AyT]
theorem AV6 (t:Addr) (w:World):(ReflectliteValue.unpack (.iface 78 (.pointer (some t)))).run Tryz.prog w
  = .ok (.agg #[.pointer (some ⟨9,78,none⟩),.pointer (some ⟨w.heap.size,0,none⟩),.int .u64 150]) (w.alloc (.cells #[.pointer (some t)] 78)):=by kernel_rfl
theorem A1O (a:Addr) (w:World):(ReflectliteValue.methodAny (ReflectliteValue.valueError "reflectlite.Value.Type" 0) (fun t _ _ _=>ReflectliteType.toType t) #[.agg #[.pointer (some ⟨9,78,none⟩),.pointer (some a),.int .u64 150]]).run Tryz.prog w
  = .ok (.iface 170 (.agg #[.pointer (some ⟨9,78,none⟩)])) w:=by kernel_rfl
theorem AT5 (h:Value) (w:World):(Go.method 364 170 (.agg #[h]) "Kind").run Tryz.prog w = .ok (163,h) w:=by kernel_rfl
theorem A2Z (w:World):((ReflectliteType.abiMethod fun t=>(fun a:Nat=>Value.int IntKind.u8 (a:Int)) <$> Rtype.kind t) #[.pointer (some ⟨9,78,none⟩)]).run Tryz.prog w = .ok (.int .u8 22) w:=by kernel_rfl
theorem A3v (w:World):((ReflectliteType.abiMethod fun t=>(fun a:Nat=>Value.int IntKind.u8 (a:Int)) <$> Rtype.kind t) #[.pointer (some ⟨9,33,none⟩)]).run Tryz.prog w = .ok (.int .u8 2) w:=by kernel_rfl
theorem rlm (z:Sem Value) (f:TypeId→Addr→Nat→Nat→Sem Value) (v:Value) :
  ReflectliteValue.method z f #[v]=(do match ← ReflectliteValue.parts v with | none=>z | some (t,a,fl)=>f t a fl (fl % 32)):=rfl
theorem AUG (a:Addr) (w:World):(ReflectliteValue.parts (.agg #[.pointer (some ⟨9,78,none⟩),.pointer (some a),.int .u64 150])).run Tryz.prog w = .ok (some (78,a,150)) w:=by kernel_rfl
theorem A0R (a p:Addr) (W:World) (ha:W.cell? a=some (.pointer (some p))) :
  (ReflectliteValue.method (ReflectliteValue.valueError "reflectlite.Value.IsNil" 0) ReflectliteValue.isNil #[.agg #[.pointer (some ⟨9,78,none⟩),.pointer (some a),.int .u64 150]]).run Tryz.prog W = .ok (.bool false) W:=by
 rw [rlm]
 simp only [Sem.run_bind,AUG,Result.andThen]
 simp [ReflectliteValue.isNil,loadVar,isAgg,underlying,Tryz.underlying78,ha,Result.andThen]
theorem AVv (h:Value) (w:World):(Go.method 364 170 (.agg #[h]) "Elem").run Tryz.prog w = .ok (174,.agg #[h]) w:=by kernel_rfl
theorem ANz (h:Value) (w:World):(Go.method 364 170 (.agg #[h]) "Implements").run Tryz.prog w = .ok (175,.agg #[h]) w:=by kernel_rfl
theorem AK6 (h:Value) (w:World):(Go.method 364 170 (.agg #[h]) "AssignableTo").run Tryz.prog w = .ok (172,.agg #[h]) w:=by kernel_rfl
theorem A1r (w:World):(ReflectliteType.method ReflectliteType.elem #[.agg #[.pointer (some ⟨9,78,none⟩)]]).run Tryz.prog w = .ok (.iface 170 (.agg #[.pointer (some ⟨9,33,none⟩)])) w:=by kernel_rfl
theorem ARz (w:World):(ReflectliteType.relation "Implements" ReflectliteType.implements_ #[.agg #[.pointer (some ⟨9,33,none⟩)],.iface 170 (.agg #[.pointer (some ⟨9,25,none⟩)])]).run Tryz.prog w = .ok (.bool true) w:=by kernel_rfl
theorem AYm (v:Value) (w:World):(ReflectliteType.typeOf #[.iface 33 v]).run Tryz.prog w = .ok (.iface 170 (.agg #[.pointer (some ⟨9,33,none⟩)])) w:=by kernel_rfl
theorem AR3 (w:World):(ReflectliteType.relation "AssignableTo" ReflectliteType.assignableTo #[.agg #[.pointer (some ⟨9,33,none⟩)],.iface 170 (.agg #[.pointer (some ⟨9,33,none⟩)])]).run Tryz.prog w = .ok (.bool true) w:=by kernel_rfl
theorem AWr (e:Int) (w:World):(ReflectliteValue.unpack (.iface 33 (.int .i64 e))).run Tryz.prog w
  = .ok (.agg #[.pointer (some ⟨9,33,none⟩),.pointer (some ⟨w.heap.size,0,none⟩),.int .u64 130]) (w.alloc (.cells #[.int .i64 e] 33)):=by kernel_rfl
theorem AYp (w:World):(Rtype.elem? 78).run Tryz.prog w = .ok (some 33) w:=by kernel_rfl
theorem A93 (p:Addr) (w:World):(ReflectliteValue.mk 33 p ReflectliteValue.flagAddr).run Tryz.prog w = .ok (.agg #[.pointer (some ⟨9,33,none⟩),.pointer (some p),.int .u64 386]) w:=by kernel_rfl
theorem A0N (a p:Addr) (W:World) (ha:W.cell? a=some (.pointer (some p))) :
  (ReflectliteValue.method (ReflectliteValue.valueError "reflectlite.Value.Elem" 0) ReflectliteValue.elem #[.agg #[.pointer (some ⟨9,78,none⟩),.pointer (some a),.int .u64 150]]).run Tryz.prog W
   = .ok (.agg #[.pointer (some ⟨9,33,none⟩),.pointer (some p),.int .u64 386]) W:=by
 rw [rlm]
 simp only [Sem.run_bind,AUG,Result.andThen]
 simp [ReflectliteValue.elem,loadVar,isAgg,underlying,Tryz.underlying78,ha,Result.andThen,AYp,A93]
theorem rls (v x:Value):ReflectliteValue.set #[v,x]=(do
  let (some (dst,a,fl),some (src,b,_)):=(←ReflectliteValue.parts v,←ReflectliteValue.parts x)
   | unsupported (.noEntry "extern/(internal/reflectlite.Value).Set.zeroValue")
  if fl / ReflectliteValue.flagAddr % 2 == 0 then unsupported (.noEntry "extern/(internal/reflectlite.Value).Set.unaddressable")
  let val ← loadVar src b
  if ← Rtype.directlyAssignable dst src then storeVar dst a val
  else if ← Rtype.implements dst src then
   if (←Rtype.kind src) == 20 then
    match val with
    | .nilIface=>unsupported (.noEntry "extern/reflectlite: a nil value of one interface type handed on as a value of another")
    | _=>storeVar dst a val
   else storeVar dst a (.iface src val)
  else panicString ("reflectlite.Set: value of type " ++ (←Rtype.spelt src) ++ " is not assignable to type " ++ (←Rtype.spelt dst))
  pure (.tuple #[])):=rfl
theorem AXS (a:Addr) (w:World):(ReflectliteValue.parts (.agg #[.pointer (some ⟨9,33,none⟩),.pointer (some a),.int .u64 386])).run Tryz.prog w = .ok (some (33,a,386)) w:=by kernel_rfl
theorem AZI (a:Addr) (w:World):(ReflectliteValue.parts (.agg #[.pointer (some ⟨9,33,none⟩),.pointer (some a),.int .u64 130])).run Tryz.prog w = .ok (some (33,a,130)) w:=by kernel_rfl
theorem AXN (w:World):(Rtype.directlyAssignable 33 33).run Tryz.prog w = .ok true w:=by kernel_rfl
theorem A5A (ta b:Addr) (e:Int) (old:Value) (W:World) (hb:W.cell? b=some (.int .i64 e)) (ht:W.cell? ta=some old) (hf:W.frozen? ta=false) :
  (ReflectliteValue.set #[.agg #[.pointer (some ⟨9,33,none⟩),.pointer (some ta),.int .u64 386],.agg #[.pointer (some ⟨9,33,none⟩),.pointer (some b),.int .u64 130]]).run Tryz.prog W
   = .ok (.tuple #[]) (W.setCell ta (.int .i64 e)):=by
 rw [rls]
 simp only [Sem.run_bind,AXS,AZI,Result.andThen]
 simp [ReflectliteValue.flagAddr,loadVar,isAgg,underlying,Tryz.underlying33,hb,Result.andThen,AXN,storeVar,Value.cells,storeCells,Addr.add]
 rw [run_store Tryz.prog W ta _ _ (by rfl)]
 simp [ht,hf]
set_option maxHeartbeats 4000000 in
theorem A8N (e:Int) (t:Addr) (old:Value) (w:World) (hg:w.cell? ⟨0,0,none⟩=some (.iface 170 (.agg #[.pointer (some ⟨9,25,none⟩)]))) (ht0:w.cell? t=some old) (hf0:w.frozen? t=false) :
  Calls Tryz.prog 36 #[.iface 33 (.int .i64 e),.iface 78 (.pointer (some t))] w fun ev w'=>ev = .returned (.bool true)∧w'=((((w.alloc (.cells #[.pointer (some t)] 78)).alloc (.cells #[.pointer (some ⟨9,78,none⟩),.pointer (some ⟨w.heap.size,0,none⟩),.int .u64 150] 124)).alloc (.cells #[.pointer (some ⟨9,78,none⟩),.pointer (some ⟨w.heap.size,0,none⟩),.int .u64 150] 124)).alloc (.cells #[.int .i64 e] 33)).setCell t (.int .i64 e):=by
 have h6:=@run_callFunc_extern Tryz.prog 60 _ (fun args=>ReflectliteValue.unpack (args.getD 0 (.tuple #[]))) Tryz.func60 (by kernel_rfl) (by kernel_rfl) (by kernel_rfl) (by kernel_rfl)
 have h7:=@run_callFunc_extern Tryz.prog 61 _ (ReflectliteValue.methodAny (ReflectliteValue.valueError "reflectlite.Value.Type" 0) (fun t _ _ _=>ReflectliteType.toType t)) Tryz.func61 (by kernel_rfl) (by kernel_rfl) (by kernel_rfl) (by kernel_rfl)
 have h8:=@run_callFunc_extern Tryz.prog 62 _ (ReflectliteValue.method (ReflectliteValue.valueError "reflectlite.Value.IsNil" 0) ReflectliteValue.isNil) Tryz.func62 (by kernel_rfl) (by kernel_rfl) (by kernel_rfl) (by kernel_rfl)
 have h27:=@run_callFunc_extern Tryz.prog 163 _ (ReflectliteType.abiMethod fun t=>do pure (.int .u8 (←Rtype.kind t))) Tryz.func163 (by kernel_rfl) (by kernel_rfl) (by kernel_rfl) (by kernel_rfl)
 have h37:=@run_callFunc_extern Tryz.prog 174 _ (ReflectliteType.method ReflectliteType.elem) Tryz.func174 (by kernel_rfl) (by kernel_rfl) (by kernel_rfl) (by kernel_rfl)
 have h38:=@run_callFunc_extern Tryz.prog 175 _ (ReflectliteType.relation "Implements" ReflectliteType.implements_) Tryz.func175 (by kernel_rfl) (by kernel_rfl) (by kernel_rfl) (by kernel_rfl)
 have h10:=@run_callFunc_extern Tryz.prog 91 _ ReflectliteType.typeOf Tryz.func91 (by kernel_rfl) (by kernel_rfl) (by kernel_rfl) (by kernel_rfl)
 have h35:=@run_callFunc_extern Tryz.prog 172 _ (ReflectliteType.relation "AssignableTo" ReflectliteType.assignableTo) Tryz.func172 (by kernel_rfl) (by kernel_rfl) (by kernel_rfl) (by kernel_rfl)
 have h11:=@run_callFunc_extern Tryz.prog 92 _ (ReflectliteValue.method (ReflectliteValue.valueError "reflectlite.Value.Elem" 0) ReflectliteValue.elem) Tryz.func92 (by kernel_rfl) (by kernel_rfl) (by kernel_rfl) (by kernel_rfl)
 have h12:=@run_callFunc_extern Tryz.prog 93 _ ReflectliteValue.set Tryz.func93 (by kernel_rfl) (by kernel_rfl) (by kernel_rfl) (by kernel_rfl)
 have tO:=AYm
 have mA:=AK6
 have a25:=AR3
 have v25:=AWr
 have f6:=AV6
 have f7:=A1O
 have mK:=AT5
 have mE:=AVv
 have mI:=ANz
 have k27:=A2Z
 have k25:=A3v
 have e27:=A1r
 have i25:=ARz
 have n8:=A0R ⟨w.heap.size,0,none⟩ t ((w.alloc (.cells #[.pointer (some t)] 78)).alloc (.cells #[.pointer (some ⟨9,78,none⟩),.pointer (some ⟨w.heap.size,0,none⟩),.int .u64 150] 124)) (by simp)
 have hlt:0<w.heap.size:=by
  rcases Nat.lt_or_ge 0 w.heap.size with h | h
  ·exact h
  ·simp [World.cell?,Array.getElem?_eq_none h] at hg
 have hg2:((w.alloc (.cells #[.pointer (some t)] 78)).alloc (.cells #[.pointer (some ⟨9,78,none⟩),.pointer (some ⟨w.heap.size,0,none⟩),.int .u64 150] 124)).cell? ⟨0,0,none⟩=some (.iface 170 (.agg #[.pointer (some ⟨9,25,none⟩)])):=by
  rw [World.cell?_alloc_lt _ _ ⟨0,0,none⟩ (Nat.lt_of_lt_of_le hlt (by simp)),World.cell?_alloc_lt _ _ ⟨0,0,none⟩ hlt]; exact hg
 have htl:t.block<w.heap.size:=by
  rcases Nat.lt_or_ge t.block w.heap.size with h | h
  ·exact h
  ·simp [World.cell?,Array.getElem?_eq_none h] at ht0
 have el:=A0N ⟨w.heap.size,0,none⟩ t (((w.alloc (.cells #[.pointer (some t)] 78)).alloc (.cells #[.pointer (some ⟨9,78,none⟩),.pointer (some ⟨w.heap.size,0,none⟩),.int .u64 150] 124)).alloc (.cells #[.pointer (some ⟨9,78,none⟩),.pointer (some ⟨w.heap.size,0,none⟩),.int .u64 150] 124)) (by rw [World.cell?_alloc_lt _ _ ⟨w.heap.size,0,none⟩ (by simp; omega)]; simp)
 have st:=A5A t ⟨w.heap.size+1+1+1,0,none⟩ e old ((((w.alloc (.cells #[.pointer (some t)] 78)).alloc (.cells #[.pointer (some ⟨9,78,none⟩),.pointer (some ⟨w.heap.size,0,none⟩),.int .u64 150] 124)).alloc (.cells #[.pointer (some ⟨9,78,none⟩),.pointer (some ⟨w.heap.size,0,none⟩),.int .u64 150] 124)).alloc (.cells #[.int .i64 e] 33))
  (by rw [World.cell?_alloc_at _ _ _ _ (by simp)]; rfl)
  (by rw [World.cell?_alloc_lt _ _ t (by simp; omega),World.cell?_alloc_lt _ _ t (by simp; omega),World.cell?_alloc_lt _ _ t (by simp; omega),World.cell?_alloc_lt _ _ t htl]; exact ht0)
  (by rw [World.frozen?_alloc_old _ _ t (by simp; omega),World.frozen?_alloc_old _ _ t (by simp; omega),World.frozen?_alloc_old _ _ t (by simp; omega),World.frozen?_alloc_old _ _ t (Nat.ne_of_lt htl)]; exact hf0)
 go_enter Tryz.func36,Tryz.ntmps36
 go_wp2
 refine wp_loop_rounds 1 ?_
 rw [rounds_succ]
 go_wp2
 go_ret
 exact ⟨rfl,rfl⟩
end
section
variable [AyT]
set_option maxRecDepth 100000
def ASm:AyD := .seq (.ops [po_ 2 (.mov (ci_ 0))] [0])
 (.seq (.ops [so_ 3 (.alloc (.val (.int .i64 ((0:Nat):Int))))] [0,3])
 (.seq (.block 0 (.seq (.ops [mv_ 5 0,po_ 6 (.eqN 1 (.t 5) (.c .nilIface) false),mv_ 4 6] [0,3,4])
 (.cond (.t 4)
 (.seq (.ops [po_ 2 (.mov (ci_ 0))] [2])
  (.ret))
 (.seq (.ops [mv_ 8 0,po_ 9 (.iface 78 (.t 3)),so_ 10 (.call 36 [.t 8,.t 9]),mv_ 7 10] [3,7])
  (.cond (.t 7)
  (.seq (.ops [po_ 11 (.load false 1 (.t 3)),mv_ 2 11] [2])
   (.ret))
  (.skip))))))
 (.seq (.ops [po_ 2 (.mov (.c (.int .i64 (-1))))] [2])
 (.ret))))
def ASA:List VR:=[.tmp 2]
theorem AXJ:Tryz.f11.body.bind (trC Tryz.prog Tryz.f11.ntmps)=some (er ASm):=by kernel_rfl
theorem AX5:trR Tryz.prog Tryz.f11.results.toList=some ASA:=by kernel_rfl
def AUf:=AyA ASm.eq_1
theorem AVh {K:TV→Prop} {e:Env} {H:List Ob}:res ASA e H K=res [.tmp 2] e H K:=Ayz rfl
def AN5:=(aI_ @AUf @AVh)
def ARo:=AzJ 12 Tryz.func11 AXJ AX5 rfl
def AJf:AyD := .seq (.ops [mv_ 13 4,mv_ 14 3,po_ 15 (.idxA 1 (.t 13) (.t 14)),⟨none,.s (.store 1 (.t 15) (.c (.int .u8 ((71:Nat):Int)))),none⟩] [3,4])
 (.seq (.ops [mv_ 16 4,mv_ 17 3,po_ 18 (.bin 3 .add (.t 17) (ci_ 1)),po_ 19 (.idxA 1 (.t 16) (.t 18)),⟨none,.s (.store 1 (.t 19) (.c (.int .u8 ((72:Nat):Int)))),none⟩] [3,4])
 (.seq (.ops [mv_ 20 4,mv_ 21 3,po_ 22 (.slV 1 (.t 20) none (some (.t 21))),mv_ 2 22] [2])
 (.ret)))
def AKd:AyD := .seq (.ops [mv_ 10 4,mv_ 11 0,so_ 12 (.copy 1 (.t 10) (.t 11))] [3,4])
 AJf
def AJA:AyD := .seq (.ops [mv_ 7 3,po_ 8 (.bin 3 .add (.t 7) (ci_ 2)),so_ 9 (.mks 1 1 (.val (.int .u8 ((0:Nat):Int))) (.t 8) (.t 8)),mv_ 4 9] [0,3,4])
 AKd
def AJJ:AyD := .seq (.ops [mv_ 5 0,po_ 6 (.lenV (.t 5)),mv_ 3 6] [0,3])
 AJA
def APf:AyD := .seq (.ops [po_ 2 (.mov (.c (.slice none 0 0)))] [0])
 AJJ
def APv:List VR:=[.tmp 2]
theorem AVa:Tryz.f17.body.bind (trC Tryz.prog Tryz.f17.ntmps)=some (er APf):=by kernel_rfl
theorem AU4:trR Tryz.prog Tryz.f17.results.toList=some APv:=by kernel_rfl
def AOa:=AyA AJf.eq_1
def AOw:=AyA AKd.eq_1
def AOr:=AyA AJA.eq_1
def AO0:=AyA AJJ.eq_1
def ARx:=AyA APf.eq_1
theorem ARw {K:TV→Prop} {e:Env} {H:List Ob}:res APv e H K=res [.tmp 2] e H K:=Ayz rfl
def AUh:=(aI_ (aI_ (aI_ @AOa @AOw) (aI_ @AOr @AO0)) (aI_ @ARx @ARw))
def ATs:=AzJ 23 Tryz.func17 AVa AU4 rfl
def AJ1:AyD := .seq (.seq (.ops [mv_ 36 8,mv_ 37 6,po_ 38 (.lenV (.t 37)),po_ 39 (.bin 3 .lss (.t 36) (.t 38))] [6,7,8,39])
 (.cond (.t 39)
 (.skip)
 (.exit 0)))
 (.seq (.block 1 (.ops [mv_ 42 6,mv_ 43 8,mv_ 44 6,mv_ 45 8,po_ 46 (.idxA 1 (.t 44) (.t 45)),po_ 47 (.load false 1 (.t 46)),po_ 48 (.bin 5 .xor (.t 47) (.c (.int .u8 ((85:Nat):Int)))),po_ 49 (.idxA 1 (.t 42) (.t 43)),⟨none,.s (.store 1 (.t 49) (.t 48)),none⟩] [6,7,8]))
 (.ops [mv_ 40 8,po_ 41 (.bin 3 .add (.t 40) (ci_ 1)),mv_ 8 41] [6,7,8]))
def AJK:AyD := .block 0 (.loop [6,7,8] AJ1)
def AJ9:AyD := .seq (.ops [mv_ 50 7,mv_ 4 50] [4])
 (.ret)
def AJe:AyD := .seq (.seq (.ops [po_ 8 (.mov (ci_ 0))] [6,7,8])
 AJK)
 AJ9
def AJ2:AyD := .seq (.ops [mv_ 20 7,mv_ 21 20,⟨some 22,.p (.mov (.t 6)),some ⟨21,true⟩⟩,⟨some 23,.p (.mov (.t 5)),some ⟨21,true⟩⟩,⟨some 24,.p (.idxA 1 (.t 22) (.t 23)),some ⟨21,true⟩⟩,⟨some 25,.p (.load false 1 (.t 24)),some ⟨21,true⟩⟩,⟨some 26,.p (.bin 5 .eql (.t 25) (.c (.int .u8 ((71:Nat):Int)))),some ⟨21,true⟩⟩,po_ 27 (.pick (.t 21) (.t 26) (.c (.bool false))),mv_ 28 27,⟨some 29,.p (.mov (.t 6)),some ⟨28,true⟩⟩,⟨some 30,.p (.mov (.t 5)),some ⟨28,true⟩⟩,⟨some 31,.p (.bin 3 .add (.t 30) (ci_ 1)),some ⟨28,true⟩⟩,⟨some 32,.p (.idxA 1 (.t 29) (.t 31)),some ⟨28,true⟩⟩,⟨some 33,.p (.load false 1 (.t 32)),some ⟨28,true⟩⟩,⟨some 34,.p (.bin 5 .eql (.t 33) (.c (.int .u8 ((72:Nat):Int)))),some ⟨28,true⟩⟩,po_ 35 (.pick (.t 28) (.t 34) (.c (.bool false))),mv_ 7 35] [6,7])
 AJe
def AJV:AyD := .seq (.ops [mv_ 15 6,mv_ 16 5,po_ 17 (.slV 1 (.t 15) none (some (.t 16))),mv_ 18 1,so_ 19 (.call 10 [.t 17,.t 18]),mv_ 7 19] [5,6,7])
 AJ2
def AKy:AyD := .seq (.ops [mv_ 11 0,mv_ 12 5,po_ 13 (.bin 3 .add (.t 12) (ci_ 2)),po_ 14 (.slV 1 (.t 11) none (some (.t 13))),mv_ 6 14] [1,5,6])
 AJV
def AJ0:AyD := .seq (.ops [mv_ 9 1,po_ 10 (.lenV (.t 9)),mv_ 5 10] [0,1,5])
 AKy
def APb:AyD := .seq (.ops [po_ 4 (.mov (.c (.bool false)))] [0,1])
 AJ0
def APF:List VR:=[.tmp 4]
theorem AUe:Tryz.f19.body.bind (trC Tryz.prog Tryz.f19.ntmps)=some (er APb):=by kernel_rfl
theorem AVc:trR Tryz.prog Tryz.f19.results.toList=some APF:=by kernel_rfl
def AOM:=AyA AJ1.eq_1
def AOK:=AyA AJK.eq_1
def AOi:=AyA AJ9.eq_1
def AON:=AyA AJe.eq_1
def AOX:=AyA AJ2.eq_1
def AO6:=AyA AJV.eq_1
def AOv:=AyA AKy.eq_1
def AOL:=AyA AJ0.eq_1
def ARu:=AyA APb.eq_1
theorem ARN {K:TV→Prop} {e:Env} {H:List Ob}:res APF e H K=res [.tmp 4] e H K:=Ayz rfl
def AFE:=(aI_ (aI_ (aI_ (aI_ @AOM @AOK) (aI_ @AOi @AON)) (aI_ (aI_ @AOX @AO6) (aI_ @AOv @AOL))) (aI_ @ARu @ARN))
def ASO:=AzJ 51 Tryz.func19 AUe AVc rfl
def ALG:AyD := .seq (.block 1 (.seq (.draw 4 [mv_ 17 0,mv_ 18 5,po_ 19 (.idxA 1 (.t 17) (.t 18)),po_ 20 (.load false 1 (.t 19)),mv_ 21 1,mv_ 22 5,po_ 23 (.idxA 1 (.t 21) (.t 22)),po_ 24 (.load false 1 (.t 23)),po_ 25 (.bin 5 .neq (.t 20) (.t 24))] [0,1,5,25])
 (.cond (.t 25)
 (.seq (.ops [po_ 4 (.mov (.c (.bool false)))] [4])
  (.ret))
 (.skip))))
 (.ops [mv_ 15 5,po_ 16 (.bin 3 .add (.t 15) (ci_ 1)),mv_ 5 16] [0,1,5])
def ALE:AyD := .seq (.seq (.ops [mv_ 11 5,mv_ 12 0,po_ 13 (.lenV (.t 12)),po_ 14 (.bin 3 .lss (.t 11) (.t 13))] [0,1,5,14])
 (.cond (.t 14)
 (.skip)
 (.exit 0)))
 ALG
def ALl:AyD := .block 0 (.loop [0,1,5] ALE)
def ALA:AyD := .seq (.ops [po_ 4 (.mov (.c (.bool true)))] [4])
 (.ret)
def ALn:AyD := .seq (.seq (.ops [po_ 5 (.mov (ci_ 0))] [0,1,5])
 ALl)
 ALA
def ALq:AyD := .seq (.seq (.ops [mv_ 6 0,po_ 7 (.lenV (.t 6)),mv_ 8 1,po_ 9 (.lenV (.t 8)),po_ 10 (.bin 3 .neq (.t 7) (.t 9))] [0,1,10])
 (.cond (.t 10)
 (.seq (.ops [po_ 4 (.mov (.c (.bool false)))] [4])
  (.ret))
 (.skip)))
 ALn
def ARj:AyD := .seq (.ops [po_ 4 (.mov (.c (.bool false)))] [0,1])
 ALq
def AQz:List VR:=[.tmp 4]
theorem AVE:Tryz.f10.body.bind (trC Tryz.prog Tryz.f10.ntmps)=some (er ARj):=by kernel_rfl
theorem AWt:trR Tryz.prog Tryz.f10.results.toList=some AQz:=by kernel_rfl
def APS:=AyA ALG.eq_1
def APO:=AyA ALE.eq_1
def APQ:=AyA ALl.eq_1
def APM:=AyA ALA.eq_1
def APP:=AyA ALn.eq_1
def APU:=AyA ALq.eq_1
def ATy:=AyA ARj.eq_1
theorem ATf {K:TV→Prop} {e:Env} {H:List Ob}:res AQz e H K=res [.tmp 4] e H K:=Ayz rfl
def AFl:=(aI_ (aI_ (aI_ @APS @APO) (aI_ @APQ @APM)) (aI_ (aI_ @APP @APU) (aI_ @ATy @ATf)))
def AUa:=AzJ 26 Tryz.func10 AVE AWt rfl
end
section
open Go.RowKit
variable [AyT] [AzH]
theorem AIV.refl {F:Nat→Prop} {w:World} (h:∀ b,F b→b<w.heap.size):AIV F w F w:=⟨rfl,rfl,rfl,Nat.le_refl _,fun _ _=>rfl,fun _ h=>h,fun _ _ h=>h,h⟩
theorem AIV.alloc {F F':Nat→Prop} {w w':World} (h:AIV F w F' w') (o:Obj):AIV F w F' (w'.alloc o) :=
 ⟨h.os,h.tape,h.output,by have:=h.size; simp; omega,fun b hb=>(AzM w' o (Nat.lt_of_lt_of_le hb h.size)).trans (h.same b hb),h.keepF,h.oldF,fun b hb=>by have:=h.ltF b hb; simp; omega⟩
abbrev eno (n:Int):TV := .ifc 33 (i64 n)
theorem A2g {n:Int} {id ver:Nat} {p:List (Nat×Nat)} {x x':TV} {H:List Ob} {K:TV→List Ob→Prop} (ho:H[id]?=some (.obj ver x)) (hs2:AG6 p x (i64 n)=some x') (hk:K (tb true) (H.set id (.obj ver x'))) :
  AyJ Tryz.prog 36 [eno n,.ifc 78 (.op id ver p)] H K:=by
 intro β F w vs hs hv
 obtain ⟨u,us,rfl,h1,h2⟩:=Azi.cons.1 hv
 obtain ⟨u2,us2,rfl,h3,h4⟩:=Azi.cons.1 h2
 rw [Azi.nil] at h4; subst h4
 -- the two arguments
 have e1:u = .iface 33 (.int .i64 n):=by
  rcases h1 with h | h | ⟨xs0,h,rfl⟩
  ·cases h
  ·cases h
  ·rw [AyH] at h
   obtain ⟨v,rfl,vs,h,rfl⟩:=h
   rw [AyH] at h
   obtain ⟨rfl,_⟩:=h
   rfl
 obtain ⟨b,o,hbo,rfl⟩:∃ b o,β id ver=some (b,o)∧u2 = .iface 78 (.pointer (some ⟨b,o+AzN p,none⟩)):=by
  rcases h3 with h | h | ⟨xs0,h,rfl⟩
  ·cases h
  ·cases h
  ·rw [AyH] at h
   obtain ⟨v,rfl,vs,h,rfl⟩:=h
   rw [AyH] at h
   obtain ⟨_,b,o,hb,rfl⟩:=h
   exact ⟨b,o,hb,rfl⟩
 subst e1
 have hgl:=hs.glob.at AzH.k
 have hg:w.cell? ⟨0,0,none⟩=some (.iface 170 (.agg #[.pointer (some ⟨9,25,none⟩)])):=hgl 0 _ rfl
 have hrow:∀ c w,AyH c w (i64 n) [.int .i64 n]:=fun c w=>by rw [AyH]; exact ⟨rfl,rfl⟩
 obtain ⟨_,_,ht⟩:=hs.store ho hbo hs2 (hrow _ _)
 obtain ⟨t1,t2⟩:=ht 0 (by simp)
 obtain ⟨old,hold⟩:=Option.isSome_iff_exists.1 t1
 refine (A8N n ⟨b,o+AzN p,none⟩ old w hg hold t2).mono ?_
 rintro e w' ⟨rfl,rfl⟩
 have hst:=((((AIV.refl (F:=F) hs.lt).alloc (.cells #[.pointer (some ⟨b,o+AzN p,none⟩)] 78)).alloc (.cells #[.pointer (some ⟨9,78,none⟩),.pointer (some ⟨w.heap.size,0,none⟩),.int .u64 150] 124)).alloc (.cells #[.pointer (some ⟨9,78,none⟩),.pointer (some ⟨w.heap.size,0,none⟩),.int .u64 150] 124)).alloc (.cells #[.int .i64 n] 33)
 obtain ⟨k1,k2,_⟩:=(hst.sim hs).store ho hbo hs2 (hrow _ _)
 exact ⟨_,tb true,β,_,F,rfl,hk,k1,hst.later.trans k2,Rep.of_val⟩
theorem Bdt {n:Int}:Azg Tryz.prog 11 [eno n] (fun x=>x=i64 n):=by
 refine AyJ.toPureV (ARo (by simp) ?_)
 simp -dsimp (disch:=first | assumption | omega) only [↓AyG,AyB,AyE,AyF,eq_self,Nat.reduceEqDiff,↓reduceIte,reduceCtorEq,↓AN5]
 refine A2g (x:=i64 ((0:Nat):Int)) (x':=i64 n) rfl (by rw [AKG]; rfl) ?_
 simp -dsimp (disch:=first | assumption | omega) only [↓AyG,AyB,AyE,AyF,eq_self,Nat.reduceEqDiff,↓reduceIte,reduceCtorEq,↓AN5]
theorem A74:Azg Tryz.prog 11 [.val .nilIface] (fun x=>x=i64 ((0:Nat):Int)):=by
 refine AyJ.toPureV (ARo (by simp) ?_)
 simp -dsimp (disch:=first | assumption | omega) only [↓AyG,AyB,AyE,AyF,eq_self,Nat.reduceEqDiff,↓reduceIte,reduceCtorEq,↓AN5]
end
section
open Go.RowKit
variable [AyT]
variable {P:Program}
def AVK (P:Program) (f:FuncId) (args:List TV) (R:TV→Prop) (RP:Value→Prop):Prop :=
 ∀ (β:Nat→Nat→Option (Nat×Nat)) (F:Nat→Prop) (w:World) (vs:List Value),((∀ b,F b→b<w.heap.size)∧ADO F w)→Azi ⟨β,[],F⟩ w args vs →
  Calls P f vs.toArray w fun e w'=>∃ F',AIV F w F' w'∧((∃ v x,e = .returned v∧R x∧Rep ⟨β,[],fun b=>F' b∧w.heap.size≤b⟩ w' x v)∨∃ u,e = .panicked [{ v:=u,recovered:=false }]∧RP u)
theorem AVK.mono {f:FuncId} {args:List TV} {R R':TV→Prop} {RP RP':Value→Prop} (h:AVK P f args R RP) (hr:∀ x,R x→R' x) (hp:∀ u,RP u→RP' u):AVK P f args R' RP' :=
 fun β F w vs hF hv=>(h β F w vs hF hv).mono fun _ _ ⟨F',h1,h2⟩=>⟨F',h1,h2.imp (fun ⟨v,x,k1,k2,k3⟩=>⟨v,x,k1,hr _ k2,k3⟩) fun ⟨u,k1,k2⟩=>⟨u,k1,hp _ k2⟩⟩
def AYk (x x':TV):Prop:=∀ (c:Ctx) (w:World) (v:Value),AYD c w x v→AYD c w x' v
inductive ASV:List TV→List TV→Prop
 | nil:ASV [] []
 | cons {x x':TV} {xs xs':List TV}:AYk x x'→ASV xs xs'→ASV (x::xs) (x'::xs')
theorem AYk.refl {x:TV}:AYk x x:=fun _ _ _ h=>h
theorem ASV.rep {c:Ctx} {w:World} {xs xs':List TV} (h:ASV xs xs'):∀ {vs:List Value},Azi c w xs vs→Azi c w xs' vs:=by
 induction h with
 | nil=>exact fun h=>h
 | cons h1 h2 ih =>
  intro vs hv
  rw [Azi.cons] at hv ⊢
  obtain ⟨u,us,rfl,k1,k2⟩:=hv
  exact ⟨u,us,rfl,h1 _ _ _ k1,ih k2⟩
theorem AKB {k:Nat}:AYk (.val (.slice none 0 0)) (.sl k []):=fun c w v h=>by
 have hv:v = .slice none 0 0:=by
  have h':Rep c w (.val (.slice none 0 0)) v := .inl h
  rw [Rep.val] at h'; exact h'
 subst hv
 refine .inr (.inr ⟨[.slice none 0 0],?_,rfl⟩)
 rw [AyH]
 exact ⟨by simp,.inl ⟨rfl,none,0,rfl,by omega⟩⟩
theorem Azg.argL {f:FuncId} {args args':List TV} {R:TV→Prop} (h:Azg P f args' R) (hc:ASV args args'):Azg P f args R :=
 fun β F w vs hF hv=>h β F w vs hF (hc.rep hv)
theorem ASV.tup {xs xs':List TV} (h:ASV xs xs'):∀ (c:Ctx) (w:World) (v:Value),Rep c w (.tup xs) v→Rep c w (.tup xs') v:=by
 rintro c w v ((h1 | h1 | ⟨us,h1,_⟩) | ⟨ys,vs,h1,h2,h3⟩)
 ·cases h1
 ·cases h1
 ·rw [AyH] at h1; exact h1.elim
 ·cases h1
  exact .inr ⟨xs',vs,rfl,h2,h.rep h3⟩
end
section
variable [AyT]
set_option maxRecDepth 100000
def AD5:AyD := .seq (.seq (.ops [mv_ 5 1,po_ 6 (.lenV (.t 5)),po_ 7 (.bin 3 .eql (.t 6) (ci_ 0))] [0,1,7])
 (.cond (.t 7)
 (.seq (.ops [mv_ 8 0,so_ 9 (.appS 5 (.t 8) (.c (.string (str [48,48,48,48])))),mv_ 4 9] [4])
  (.ret))
 (.skip)))
 (.seq (.ops [mv_ 10 0,mv_ 11 1,po_ 12 (.lenV (.t 11)),po_ 13 (.bin 3 .add (.t 12) (ci_ 4)),so_ 14 (.call 86 [.t 13]),so_ 15 (.appS 5 (.t 10) (.t 14)),mv_ 16 1,so_ 17 (.app 1 1 5 (.t 15) (.t 16)),mv_ 4 17] [4])
 (.ret))
def AGC:AyD := .seq (.ops [po_ 4 (.mov (.c (.slice none 0 0)))] [0,1])
 AD5
def AG3:List VR:=[.tmp 4]
theorem AOu:Tryz.f54.body.bind (trC Tryz.prog Tryz.f54.ntmps)=some (er AGC):=by kernel_rfl
theorem AOm:trR Tryz.prog Tryz.f54.results.toList=some AG3:=by kernel_rfl
def AI4:=AyA AD5.eq_1
def AL9:=AyA AGC.eq_1
theorem ALT {K:TV→Prop} {e:Env} {H:List Ob}:res AG3 e H K=res [.tmp 4] e H K:=Ayz rfl
def Ay1:=(aI_ (aI_ @AI4 @AL9) @ALT)
def AFV:=AzJ 18 Tryz.func54 AOu AOm rfl
def AIJ:AyD := .seq (.draw 12 [mv_ 3 0,po_ 4 (.bin 3 .shr (.t 3) (.c (.int .u64 ((12:Nat):Int)))),po_ 5 (.bin 3 .and (.t 4) (ci_ 15)),po_ 6 (.idxS (.c (.string (str [48,49,50,51,52,53,54,55,56,57,97,98,99,100,101,102]))) (.t 5)),mv_ 7 0,po_ 8 (.bin 3 .shr (.t 7) (.c (.int .u64 ((8:Nat):Int)))),po_ 9 (.bin 3 .and (.t 8) (ci_ 15)),po_ 10 (.idxS (.c (.string (str [48,49,50,51,52,53,54,55,56,57,97,98,99,100,101,102]))) (.t 9)),mv_ 11 0,po_ 12 (.bin 3 .shr (.t 11) (.c (.int .u64 ((4:Nat):Int)))),po_ 13 (.bin 3 .and (.t 12) (ci_ 15)),po_ 14 (.idxS (.c (.string (str [48,49,50,51,52,53,54,55,56,57,97,98,99,100,101,102]))) (.t 13)),mv_ 15 0,po_ 16 (.bin 3 .and (.t 15) (ci_ 15)),po_ 17 (.idxS (.c (.string (str [48,49,50,51,52,53,54,55,56,57,97,98,99,100,101,102]))) (.t 16)),⟨some 18,.s (.bslice 1 4 (.val (.int .u8 ((0:Nat):Int))) [⟨0,.t 6⟩,⟨1,.t 10⟩,⟨2,.t 14⟩,⟨3,.t 17⟩]),none⟩,po_ 19 (.b2s (.t 18)),mv_ 2 19] [2])
 (.ret)
def ANq:AyD := .seq (.ops [po_ 2 (.mov (.c (.string (str []))))] [0])
 AIJ
def AMx:List VR:=[.tmp 2]
theorem ATt:Tryz.f86.body.bind (trC Tryz.prog Tryz.f86.ntmps)=some (er ANq):=by kernel_rfl
theorem ATe:trR Tryz.prog Tryz.f86.results.toList=some AMx:=by kernel_rfl
def ANe:=AyA AIJ.eq_1
def AQy:=AyA ANq.eq_1
theorem AQI {K:TV→Prop} {e:Env} {H:List Ob}:res AMx e H K=res [.tmp 2] e H K:=Ayz rfl
def ATF:=(aI_ (aI_ @ANe @AQy) @AQI)
def ARB:=AzJ 20 Tryz.func86 ATt ATe rfl
def ALC:AyD := .seq (.seq (.ops [mv_ 23 4,po_ 24 (.eqN 1 (.t 23) (.c .nilIface) true),mv_ 25 24,⟨some 26,.p (.mov (.t 6)),some ⟨25,false⟩⟩,⟨some 27,.p (.conv .i64 (.t 26)),some ⟨25,false⟩⟩,⟨some 28,.s (.call 86 [.t 27]),some ⟨25,false⟩⟩,⟨some 29,.p (.mov (.t 5)),some ⟨25,false⟩⟩,⟨some 30,.p (.bin 9 .neq (.t 28) (.t 29)),some ⟨25,false⟩⟩,po_ 31 (.pick (.t 25) (.c (.bool true)) (.t 30)),mv_ 32 31,⟨some 33,.p (.mov (.t 6)),some ⟨32,false⟩⟩,⟨some 34,.p (.bin 190 .leq (.t 33) (.c (.int .u64 ((4:Nat):Int)))),some ⟨32,false⟩⟩,po_ 35 (.pick (.t 32) (.c (.bool true)) (.t 34)),mv_ 36 35,⟨some 37,.p (.mov (.t 6)),some ⟨36,false⟩⟩,⟨some 38,.p (.bin 190 .gtr (.t 37) (.c (.int .u64 ((1004:Nat):Int)))),some ⟨36,false⟩⟩,po_ 39 (.pick (.t 36) (.c (.bool true)) (.t 38)),mv_ 40 39,⟨some 41,.p (.mov (.t 6)),some ⟨40,false⟩⟩,⟨some 42,.p (.mov (.t 0)),some ⟨40,false⟩⟩,⟨some 43,.p (.lenV (.t 42)),some ⟨40,false⟩⟩,⟨some 44,.p (.conv .u64 (.t 43)),some ⟨40,false⟩⟩,⟨some 45,.p (.bin 190 .gtr (.t 41) (.t 44)),some ⟨40,false⟩⟩,po_ 46 (.pick (.t 40) (.c (.bool true)) (.t 45))] [0,6,46])
 (.cond (.t 46)
 (.seq (.ops [po_ 47 (.iface 33 (ci_ 110)),po_ 2 (.mov (.c (.slice none 0 0))),po_ 3 (.mov (.c (.slice none 0 0))),mv_ 4 47] [2,3,4])
  (.ret))
 (.skip)))
 (.seq (.draw 3 [mv_ 48 0,mv_ 49 6,po_ 50 (.slV 1 (.t 48) (some (ci_ 4)) (some (.t 49))),mv_ 51 0,mv_ 52 6,po_ 53 (.slV 1 (.t 51) (some (.t 52)) none),mv_ 2 50,mv_ 3 53,po_ 4 (.mov (.c .nilIface))] [2,3,4])
 (.ret))
def ALB:AyD := .seq (.ops [mv_ 19 5,so_ 20 (.call 103 [.t 19,.c (.int .i64 ((16:Nat):Int)),.c (.int .i64 ((16:Nat):Int))]),mv_ 18 20,po_ 21 (.ext 0 (.t 18)),po_ 22 (.ext 1 (.t 18)),mv_ 6 21,mv_ 4 22] [0,4,5,6])
 ALC
def ALt:AyD := .seq (.seq (.ops [mv_ 14 5,po_ 15 (.bin 9 .eql (.t 14) (.c (.string (str [48,48,48,48]))))] [0,5,15])
 (.cond (.t 15)
 (.seq (.draw 2 [mv_ 16 0,po_ 17 (.slV 1 (.t 16) (some (ci_ 4)) none),po_ 2 (.mov (.c (.slice none 0 0))),mv_ 3 17,po_ 4 (.mov (.c .nilIface))] [2,3,4])
  (.ret))
 (.skip)))
 ALB
def ALz:AyD := .seq (.ops [mv_ 11 0,po_ 12 (.slV 1 (.t 11) none (some (ci_ 4))),po_ 13 (.b2s (.t 12)),mv_ 5 13] [0,5])
 ALt
def ALr:AyD := .seq (.seq (.ops [mv_ 7 0,po_ 8 (.lenV (.t 7)),po_ 9 (.bin 3 .lss (.t 8) (ci_ 4))] [0,9])
 (.cond (.t 9)
 (.seq (.ops [po_ 10 (.iface 33 (ci_ 110)),po_ 2 (.mov (.c (.slice none 0 0))),po_ 3 (.mov (.c (.slice none 0 0))),mv_ 4 10] [2,3,4])
  (.ret))
 (.skip)))
 ALz
def ARc:AyD := .seq (.ops [po_ 2 (.mov (.c (.slice none 0 0))),po_ 3 (.mov (.c (.slice none 0 0))),po_ 4 (.mov (.c .nilIface))] [0])
 ALr
def AQV:List VR:=[.tmp 2,.tmp 3,.tmp 4]
theorem AV3:Tryz.f77.body.bind (trC Tryz.prog Tryz.f77.ntmps)=some (er ARc):=by kernel_rfl
theorem AVW:trR Tryz.prog Tryz.f77.results.toList=some AQV:=by kernel_rfl
def AIj:=AyA ALC.eq_1
def AP0:=AyA ALB.eq_1
def AIo:=AyA ALt.eq_1
def AIv:=AyA ALz.eq_1
def ADY:=AyA ALr.eq_1
def AHQ:=AyA ARc.eq_1
theorem Az5 {K:TV→Prop} {e:Env} {H:List Ob}:res AQV e H K=res [.tmp 2,.tmp 3,.tmp 4] e H K:=Ayz rfl
def AU8:=AzJ 54 Tryz.func77 AV3 AVW rfl
def APt:AyD := .seq (.ops [po_ 6 (.mov (.c .nilIface))] [0,1,2])
 (.seq (.seq (.ops [mv_ 7 2,po_ 8 (.eqN 1 (.t 7) (.c .nilIface) true),mv_ 9 8,⟨some 10,.p (.mov (.t 0)),some ⟨9,false⟩⟩,⟨some 11,.p (.mov (.t 1)),some ⟨9,false⟩⟩,⟨some 12,.s (.call 96 [.t 10,.t 11]),some ⟨9,false⟩⟩,⟨some 13,.p (.un .not (.t 12)),some ⟨9,false⟩⟩,po_ 14 (.pick (.t 9) (.c (.bool true)) (.t 13))] [14])
 (.cond (.t 14)
 (.seq (.ops [po_ 15 (.iface 33 (ci_ 111)),mv_ 6 15] [6])
  (.ret))
 (.skip)))
 (.seq (.ops [po_ 6 (.mov (.c .nilIface))] [6])
 (.ret)))
def APp:List VR:=[.tmp 6]
theorem AVr:Tryz.f66.body.bind (trC Tryz.prog Tryz.f66.ntmps)=some (er APt):=by kernel_rfl
theorem AU1:trR Tryz.prog Tryz.f66.results.toList=some APp:=by kernel_rfl
def ALo:=AyA APt.eq_1
theorem AGo {K:TV→Prop} {e:Env} {H:List Ob}:res APp e H K=res [.tmp 6] e H K:=Ayz rfl
def ANJ:=AzJ 16 Tryz.func66 AVr AU1 rfl
def AIe:AyD := .ops [mv_ 4 0,mv_ 5 0,po_ 6 (.nilc (.t 5)),po_ 7 (.fieldA 1 1 (.t 6)),po_ 8 (.load false 1 (.t 7)),mv_ 9 8,⟨some 10,.p (.mov (.t 1)),some ⟨9,false⟩⟩,⟨some 11,.p (.un .not (.t 10)),some ⟨9,false⟩⟩,po_ 12 (.pick (.t 9) (.c (.bool true)) (.t 11)),po_ 13 (.nilc (.t 4)),po_ 14 (.fieldA 1 1 (.t 13)),⟨none,.s (.store 1 (.t 14) (.t 12)),none⟩] []
def AIs:List VR:=[]
theorem APY:Tryz.f27.body.bind (trC Tryz.prog Tryz.f27.ntmps)=some (er AIe):=by kernel_rfl
theorem APT:trR Tryz.prog Tryz.f27.results.toList=some AIs:=by kernel_rfl
def ANa:=AyA AIe.eq_1
theorem AMV {K:TV→Prop} {e:Env} {H:List Ob}:res AIs e H K=res [] e H K:=Ayz rfl
def AIy:=(aI_ @ANa @AMV)
def AOc:=AzJ 15 Tryz.func27 APY APT rfl
def AJ8:AyD := .sdraw 5 [mv_ 4 0,mv_ 5 0,po_ 6 (.nilc (.t 5)),po_ 7 (.fieldA 0 0 (.t 6)),po_ 8 (.load false 1 (.t 7)),mv_ 9 1,so_ 10 (.call 55 [.t 9,.c (.string (str [32]))]),po_ 11 (.bin 9 .add (.t 10) (.c (.string (str [10])))),so_ 12 (.s2b (.t 11)),so_ 13 (.call 54 [.t 8,.t 12]),po_ 14 (.nilc (.t 4)),po_ 15 (.fieldA 0 0 (.t 14)),⟨none,.s (.store 1 (.t 15) (.t 13)),none⟩] []
def AJg:List VR:=[]
theorem AQH:Tryz.f29.body.bind (trC Tryz.prog Tryz.f29.ntmps)=some (er AJ8):=by kernel_rfl
theorem AQ1:trR Tryz.prog Tryz.f29.results.toList=some AJg:=by kernel_rfl
def AOI:=AyA AJ8.eq_1
theorem AO9 {K:TV→Prop} {e:Env} {H:List Ob}:res AJg e H K=res [] e H K:=Ayz rfl
def ARm:=(aI_ @AOI @AO9)
def AP2:=AzJ 16 Tryz.func29 AQH AQ1 rfl
def AGT:AyD := .ops [mv_ 2 0,mv_ 3 0,po_ 4 (.nilc (.t 3)),po_ 5 (.fieldA 0 0 (.t 4)),po_ 6 (.load false 1 (.t 5)),so_ 7 (.appS 5 (.t 6) (.c (.string (str [48,48,48,48])))),po_ 8 (.nilc (.t 2)),po_ 9 (.fieldA 0 0 (.t 8)),⟨none,.s (.store 1 (.t 9) (.t 7)),none⟩] []
def AHw:List VR:=[]
theorem AOU:Tryz.f31.body.bind (trC Tryz.prog Tryz.f31.ntmps)=some (er AGT):=by kernel_rfl
theorem AN6:trR Tryz.prog Tryz.f31.results.toList=some AHw:=by kernel_rfl
def AMr:=AyA AGT.eq_1
theorem AMj {K:TV→Prop} {e:Env} {H:List Ob}:res AHw e H K=res [] e H K:=Ayz rfl
def AHC:=(aI_ @AMr @AMj)
def ANx:=AzJ 10 Tryz.func31 AOU AN6 rfl
def AFa:AyD := .seq (.seq (.ops [mv_ 4 0,po_ 5 (.nilc (.t 4)),po_ 6 (.fieldA 1 1 (.t 5)),po_ 7 (.load false 1 (.t 6))] [0,7])
 (.cond (.t 7)
 (.seq (.ops [po_ 8 (.iface 33 (ci_ 111)),po_ 2 (.mov (.c (.slice none 0 0))),mv_ 3 8] [2,3])
  (.ret))
 (.skip)))
 (.seq (.ops [mv_ 9 0,po_ 10 (.nilc (.t 9)),po_ 11 (.fieldA 0 0 (.t 10)),po_ 12 (.load false 1 (.t 11)),mv_ 2 12,po_ 3 (.mov (.c .nilIface))] [2,3])
 (.ret))
def AId:AyD := .seq (.ops [po_ 2 (.mov (.c (.slice none 0 0))),po_ 3 (.mov (.c .nilIface))] [0])
 AFa
def AIO:List VR:=[.tmp 2,.tmp 3]
theorem AP6:Tryz.f32.body.bind (trC Tryz.prog Tryz.f32.ntmps)=some (er AId):=by kernel_rfl
theorem AP4:trR Tryz.prog Tryz.f32.results.toList=some AIO:=by kernel_rfl
def AJo:=AyA AFa.eq_1
def ANW:=AyA AId.eq_1
theorem ANN {K:TV→Prop} {e:Env} {H:List Ob}:res AIO e H K=res [.tmp 2,.tmp 3] e H K:=Ayz rfl
def AIn:=(aI_ (aI_ @AJo @ANW) @ANN)
def AOd:=AzJ 13 Tryz.func32 AP6 AP4 rfl
def AHv:AyD := .seq (.draw 12 [mv_ 3 0,po_ 4 (.bin 3 .quo (.t 3) (ci_ 4096)),po_ 5 (.bin 3 .rem (.t 4) (ci_ 16)),po_ 6 (.idxS (.c (.string (str [48,49,50,51,52,53,54,55,56,57,97,98,99,100,101,102]))) (.t 5)),mv_ 7 0,po_ 8 (.bin 3 .quo (.t 7) (ci_ 256)),po_ 9 (.bin 3 .rem (.t 8) (ci_ 16)),po_ 10 (.idxS (.c (.string (str [48,49,50,51,52,53,54,55,56,57,97,98,99,100,101,102]))) (.t 9)),mv_ 11 0,po_ 12 (.bin 3 .quo (.t 11) (ci_ 16)),po_ 13 (.bin 3 .rem (.t 12) (ci_ 16)),po_ 14 (.idxS (.c (.string (str [48,49,50,51,52,53,54,55,56,57,97,98,99,100,101,102]))) (.t 13)),mv_ 15 0,po_ 16 (.bin 3 .rem (.t 15) (ci_ 16)),po_ 17 (.idxS (.c (.string (str [48,49,50,51,52,53,54,55,56,57,97,98,99,100,101,102]))) (.t 16)),⟨some 18,.s (.bslice 1 4 (.val (.int .u8 ((0:Nat):Int))) [⟨0,.t 6⟩,⟨1,.t 10⟩,⟨2,.t 14⟩,⟨3,.t 17⟩]),none⟩,po_ 19 (.b2s (.t 18)),mv_ 2 19] [2])
 (.ret)
def ALx:AyD := .seq (.ops [po_ 2 (.mov (.c (.string (str []))))] [0])
 AHv
def ALF:List VR:=[.tmp 2]
theorem ARY:Tryz.f90.body.bind (trC Tryz.prog Tryz.f90.ntmps)=some (er ALx):=by kernel_rfl
theorem ARF:trR Tryz.prog Tryz.f90.results.toList=some ALF:=by kernel_rfl
def AMk:=AyA AHv.eq_1
def APK:=AyA ALx.eq_1
theorem APW {K:TV→Prop} {e:Env} {H:List Ob}:res ALF e H K=res [.tmp 2] e H K:=Ayz rfl
def AR6:=(aI_ (aI_ @AMk @APK) @APW)
def AQ7:=AzJ 20 Tryz.func90 ARY ARF rfl
def AKm:AyD := .seq (.seq (.ops [mv_ 3 0,po_ 4 (.lenV (.t 3)),po_ 5 (.bin 3 .eql (.t 4) (ci_ 0))] [0,5])
 (.cond (.t 5)
 (.seq (.ops [⟨some 6,.s (.bslice 1 4 (.val (.int .u8 ((0:Nat):Int))) [⟨0,.c (.int .u8 ((48:Nat):Int))⟩,⟨1,.c (.int .u8 ((48:Nat):Int))⟩,⟨2,.c (.int .u8 ((48:Nat):Int))⟩,⟨3,.c (.int .u8 ((48:Nat):Int))⟩]),none⟩,so_ 7 (.cvS (.t 6)),mv_ 2 7] [2])
  (.ret))
 (.skip)))
 (.seq (.ops [mv_ 8 0,po_ 9 (.lenV (.t 8)),po_ 10 (.bin 3 .add (.t 9) (ci_ 4)),so_ 11 (.call 90 [.t 10]),so_ 12 (.s2b (.t 11)),mv_ 13 0,so_ 14 (.app 1 1 5 (.t 12) (.t 13)),mv_ 2 14] [2])
 (.ret))
def APm:AyD := .seq (.ops [po_ 2 (.mov (.c (.slice none 0 0)))] [0])
 AKm
def APx:List VR:=[.tmp 2]
theorem AUy:Tryz.f58.body.bind (trC Tryz.prog Tryz.f58.ntmps)=some (er APm):=by kernel_rfl
theorem AUL:trR Tryz.prog Tryz.f58.results.toList=some APx:=by kernel_rfl
def AGY:=AyA AKm.eq_1
def ALv:=AyA APm.eq_1
theorem ALm {K:TV→Prop} {e:Env} {H:List Ob}:res APx e H K=res [.tmp 2] e H K:=Ayz rfl
def ATd:=AzJ 15 Tryz.func58 AUy AUL rfl
def AKA:AyD := .seq (.seq (.ops [mv_ 25 0,po_ 26 (.lenV (.t 25)),mv_ 27 5,po_ 28 (.bin 3 .add (ci_ 4) (.t 27)),po_ 29 (.bin 3 .lss (.t 26) (.t 28))] [0,5,29])
 (.cond (.t 29)
 (.seq (.ops [mv_ 30 0,po_ 2 (.mov (.c (.slice none 0 0))),mv_ 3 30,po_ 4 (.mov (.c (.bool false)))] [2,3,4])
  (.ret))
 (.skip)))
 (.seq (.draw 5 [mv_ 31 0,mv_ 32 5,po_ 33 (.bin 3 .add (ci_ 4) (.t 32)),po_ 34 (.slV 1 (.t 31) (some (ci_ 4)) (some (.t 33))),mv_ 35 0,mv_ 36 5,po_ 37 (.bin 3 .add (ci_ 4) (.t 36)),po_ 38 (.slV 1 (.t 35) (some (.t 37)) none),mv_ 2 34,mv_ 3 38,po_ 4 (.mov (.c (.bool true)))] [2,3,4])
 (.ret))
def AJO:AyD := .cond (.t 24)
 AKA
 (.skip)
def AFg:AyD := .seq (.ops [mv_ 20 0,po_ 21 (.slV 1 (.t 20) none (some (ci_ 4))),po_ 22 (.b2s (.t 21)),mv_ 23 6,po_ 24 (.bin 9 .eql (.t 22) (.t 23))] [0,5,24])
 AJO
def AJu:AyD := .seq (.seq (.ops [mv_ 18 5,po_ 19 (.bin 3 .eql (.t 18) (ci_ 0))] [0,5,6,19])
 (.cond (.t 19)
 (.ops [po_ 6 (.mov (.c (.string (str [48,48,48,48]))))] [0,5,6])
 (.skip)))
 AFg
def AKt:AyD := .seq (.block 1 (.seq (.ops [mv_ 15 5,po_ 16 (.bin 3 .add (.t 15) (ci_ 4)),so_ 17 (.call 90 [.t 16]),mv_ 6 17] [0,5,6])
 AJu))
 (.ops [mv_ 13 5,po_ 14 (.bin 3 .add (.t 13) (ci_ 1)),mv_ 5 14] [0,5])
def AJG:AyD := .seq (.seq (.ops [mv_ 11 5,po_ 12 (.bin 3 .leq (.t 11) (ci_ 1000))] [0,5,12])
 (.cond (.t 12)
 (.skip)
 (.exit 0)))
 AKt
def AKl:AyD := .block 0 (.loop [0,5] AJG)
def AJj:AyD := .seq (.ops [mv_ 39 0,po_ 2 (.mov (.c (.slice none 0 0))),mv_ 3 39,po_ 4 (.mov (.c (.bool false)))] [2,3,4])
 (.ret)
def AJB:AyD := .seq (.seq (.ops [po_ 5 (.mov (ci_ 0))] [0,5])
 AKl)
 AJj
def AIw:AyD := .seq (.seq (.ops [mv_ 7 0,po_ 8 (.lenV (.t 7)),po_ 9 (.bin 3 .lss (.t 8) (ci_ 4))] [0,9])
 (.cond (.t 9)
 (.seq (.ops [mv_ 10 0,po_ 2 (.mov (.c (.slice none 0 0))),mv_ 3 10,po_ 4 (.mov (.c (.bool false)))] [2,3,4])
  (.ret))
 (.skip)))
 AJB
def APG:AyD := .seq (.ops [po_ 2 (.mov (.c (.slice none 0 0))),po_ 3 (.mov (.c (.slice none 0 0))),po_ 4 (.mov (.c (.bool false)))] [0])
 AIw
def APB:List VR:=[.tmp 2,.tmp 3,.tmp 4]
theorem AUJ:Tryz.f82.body.bind (trC Tryz.prog Tryz.f82.ntmps)=some (er APG):=by kernel_rfl
theorem AUl:trR Tryz.prog Tryz.f82.results.toList=some APB:=by kernel_rfl
def AGE:=AyA AKA.eq_1
def AC1:=AyA AJO.eq_1
def AC5:=AyA AFg.eq_1
def AHd:=AyA AJu.eq_1
def AGG:=AyA AKt.eq_1
def AC7:=AyA AJG.eq_1
def AOS:=AyA AKl.eq_1
def AN9:=AyA AJj.eq_1
def AOf:=AyA AJB.eq_1
def AFY:=AyA AIw.eq_1
def ALk:=AyA APG.eq_1
theorem AA2 {K:TV→Prop} {e:Env} {H:List Ob}:res APB e H K=res [.tmp 2,.tmp 3,.tmp 4] e H K:=Ayz rfl
def ATh:=AzJ 40 Tryz.func82 AUJ AUl rfl
def APn:AyD := .seq (.ops [po_ 2 (.mov (.c (.slice none 0 0)))] [0])
 (.seq (.ops [mv_ 3 0,po_ 4 (.bin 9 .add (.t 3) (.c (.string (str [10])))),so_ 5 (.s2b (.t 4)),so_ 6 (.call 58 [.t 5]),mv_ 2 6] [2])
 (.ret))
def APi:List VR:=[.tmp 2]
theorem AT8:Tryz.f34.body.bind (trC Tryz.prog Tryz.f34.ntmps)=some (er APn):=by kernel_rfl
theorem AUw:trR Tryz.prog Tryz.f34.results.toList=some APi:=by kernel_rfl
def ARR:=AyA APn.eq_1
theorem ARX {K:TV→Prop} {e:Env} {H:List Ob}:res APi e H K=res [.tmp 2] e H K:=Ayz rfl
def ATO:=AzJ 7 Tryz.func34 AT8 AUw rfl
def AIb:AyD := .seq (.seq (.ops [mv_ 24 0,mv_ 25 5,po_ 26 (.idxA 1 (.t 24) (.t 25)),po_ 27 (.load false 1 (.t 26)),po_ 28 (.bin 5 .eql (.t 27) (.c (.int .u8 ((32:Nat):Int))))] [0,3,4,5,28])
 (.cond (.t 28)
 (.seq (.ops [mv_ 29 3,mv_ 30 4,⟨some 31,.s (.bslice 1 1 (.val (.string (str []))) [⟨0,.t 30⟩]),none⟩,so_ 32 (.app 1 16 9 (.t 29) (.t 31)),mv_ 3 32] [0,3,5])
  (.seq (.ops [po_ 4 (.mov (.c (.string (str []))))] [0,3,4,5])
  (.exit 1)))
 (.skip)))
 (.ops [mv_ 33 4,mv_ 34 0,mv_ 35 5,po_ 36 (.idxA 1 (.t 34) (.t 35)),po_ 37 (.load false 1 (.t 36)),⟨some 38,.s (.bslice 1 1 (.val (.int .u8 ((0:Nat):Int))) [⟨0,.t 37⟩]),none⟩,po_ 39 (.b2s (.t 38)),po_ 40 (.bin 9 .add (.t 33) (.t 39)),mv_ 4 40] [0,3,4,5])
def AH4:AyD := .seq (.block 1 (.seq (.seq (.ops [mv_ 12 0,mv_ 13 5,po_ 14 (.idxA 1 (.t 12) (.t 13)),po_ 15 (.load false 1 (.t 14)),po_ 16 (.bin 5 .eql (.t 15) (.c (.int .u8 ((10:Nat):Int)))),mv_ 17 16,⟨some 18,.p (.mov (.t 5)),some ⟨17,true⟩⟩,⟨some 19,.p (.bin 3 .add (.t 18) (ci_ 1)),some ⟨17,true⟩⟩,⟨some 20,.p (.mov (.t 0)),some ⟨17,true⟩⟩,⟨some 21,.p (.lenV (.t 20)),some ⟨17,true⟩⟩,⟨some 22,.p (.bin 3 .eql (.t 19) (.t 21)),some ⟨17,true⟩⟩,po_ 23 (.pick (.t 17) (.t 22) (.c (.bool false)))] [0,3,4,5,23])
 (.cond (.t 23)
 (.exit 0)
 (.skip)))
 AIb))
 (.ops [mv_ 10 5,po_ 11 (.bin 3 .add (.t 10) (ci_ 1)),mv_ 5 11] [0,3,4,5])
def AIK:AyD := .seq (.seq (.ops [mv_ 6 5,mv_ 7 0,po_ 8 (.lenV (.t 7)),po_ 9 (.bin 3 .lss (.t 6) (.t 8))] [0,3,4,5,9])
 (.cond (.t 9)
 (.skip)
 (.exit 0)))
 AH4
def AII:AyD := .block 0 (.own 3 1 (.loop [0,3,4,5] AIK))
def AIf:AyD := .seq (.ops [mv_ 41 3,mv_ 42 4,⟨some 43,.s (.bslice 1 1 (.val (.string (str []))) [⟨0,.t 42⟩]),none⟩,so_ 44 (.app 1 16 9 (.t 41) (.t 43)),mv_ 2 44] [2])
 (.ret)
def AH7:AyD := .seq (.seq (.ops [po_ 5 (.mov (ci_ 0))] [0,3,4,5])
 AII)
 AIf
def AIh:AyD := .seq (.ops [po_ 4 (.mov (.c (.string (str []))))] [0,3,4])
 AH7
def AH3:AyD := .seq (.ops [po_ 3 (.mov (.c (.slice none 0 0)))] [0,3])
 AIh
def ANZ:AyD := .seq (.ops [po_ 2 (.mov (.c (.slice none 0 0)))] [0])
 AH3
def AMw:List VR:=[.tmp 2]
theorem ATW:Tryz.f68.body.bind (trC Tryz.prog Tryz.f68.ntmps)=some (er ANZ):=by kernel_rfl
theorem ATw:trR Tryz.prog Tryz.f68.results.toList=some AMw:=by kernel_rfl
def AB6:=AyA AIb.eq_1
def AA8:=AyA AH4.eq_1
def Az1:=AyA AIK.eq_1
def ANl:=AyA AII.eq_1
def AF4:=AyA AIf.eq_1
def AN0:=AyA AH7.eq_1
def AMT:=AyA AIh.eq_1
def ANB:=AyA AH3.eq_1
def AQx:=AyA ANZ.eq_1
theorem AJl {K:TV→Prop} {e:Env} {H:List Ob}:res AMw e H K=res [.tmp 2] e H K:=Ayz rfl
def ARr:=AzJ 45 Tryz.func68 ATW ATw rfl
end
section
open Go.RowKit
variable [AyT]
abbrev AEC:TV := .val (.slice none 0 0)
theorem BdE {n:Nat}:List.take 4 ((((((List.replicate 4 (TV.val (.int .u8 ((0:Nat):Int)))).set 0 (by8 (dig (n / 4096 % 16)))).set 1 (by8 (dig (n / 256 % 16)))).set 2 (by8 (dig (n / 16 % 16)))).set 3 (by8 (dig (n % 16)))))=(AN2 n).map by8:=by simp [AN2]
theorem AMG (n:Nat) (hn:n≤5000000):Azg Tryz.prog 86 [i64 (n:Int)] (fun x=>x = .val (.string (str (AN2 n)))):=by
 refine AyJ.toPureV (ARB (by simp) ?_)
 have a1:=ABp (n / 4096 % 16) (by omega)
 have a2:=ABp (n / 256 % 16) (by omega)
 have a3:=ABp (n / 16 % 16) (by omega)
 have a4:=ABp (n % 16) (by omega)
 simp -dsimp (disch:=first | assumption | omega) only [↓AyG,AyB,AyE,AyF,eq_self,Nat.reduceEqDiff,Nat.reducePow,↓reduceIte,reduceCtorEq,Nat.reduceLeDiff,↓ATF,A4N,←AWz,A9j,a1,a2,a3,a4,BdE]
theorem AT3 (n:Nat) (hn:n≤65535):Azg Tryz.prog 90 [i64 (n:Int)] (fun x=>x = .val (.string (str (AN2 n)))):=by
 refine AyJ.toPureV (AQ7 (by simp) ?_)
 have a1:=ABp (n / 4096 % 16) (by omega)
 have a2:=ABp (n / 256 % 16) (by omega)
 have a3:=ABp (n / 16 % 16) (by omega)
 have a4:=ABp (n % 16) (by omega)
 simp -dsimp (disch:=first | assumption | omega) only [↓AyG,AyB,AyE,AyF,eq_self,Nat.reduceEqDiff,↓reduceIte,reduceCtorEq,Nat.reduceLeDiff,↓AR6,A4N,←AWz,a1,a2,a3,a4,BdE]
def AXE (x:List UInt8):TV:=if x=[] then AEC else slB x
def A9N (b:List UInt8) (r:TV):Prop:=(∀ x s,x.length≤1000→Azq x++s=b→r = .tup [AXE x,slB s,.val .nilIface])∧((∀ x s,x.length≤1000→Azq x++s≠b)→r = .tup [AEC,AEC,eno 110])
variable [AyO] [AyQ]
theorem A8g (b:List UInt8) (hb:b.length≤1000000):Azg Tryz.prog 77 [slB b] (A9N b):=by
 refine AyJ.toPureV (AU8 (by simp) ?_)
 have no:(∀ x s,x.length≤1000→Azq x++s≠b)→A9N b (.tup [AEC,AEC,eno 110]):=fun h=>⟨fun x s hx e=>absurd e (h x s hx),fun _=>rfl⟩
 by_cases h4:4≤b.length
 case neg =>
  simp -dsimp (disch:=first | assumption | omega | (simp only [AyC];try omega)) only [↓AyG,AyB,AyE,AyF,eq_self,Nat.reduceEqDiff,↓reduceIte,reduceCtorEq,↓AHQ,↓ADY,↓Az5]
  exact no fun x s hx e=>by have:=(AzI e).2.2; omega
 have ht4:((b.map by8).take 4).length=4:=by simp; omega
 have htl:(b.take 4).length=4:=by simp; omega
 by_cases hz:b.take 4=ADX
 ·have hz':(b.take 4=[48,48,48,48])=True:=eq_true hz
  simp -dsimp (disch:=first | assumption | omega | (simp only [AyC];try omega)) only [↓AyG,AyB,AyE,AyF,eq_self,Nat.reduceEqDiff,↓reduceIte,reduceCtorEq,hz',↓AHQ,↓ADY,↓AIv,↓AIo,↓Az5]
  refine ⟨fun x s hx e => ?_,fun h=>absurd (AUD hz) (h [] _ (by simp))⟩
  obtain ⟨rfl,rfl⟩:=AEy hx (by simp) (e.trans (AUD hz).symm)
  rfl
 have hz':¬ b.take 4=[48,48,48,48]:=hz
 have hne:∀ x s,x.length≤1000→Azq x++s=b→b.take 4=AN2 (x.length+4):=fun x s hx e=>by
  have h:=(AzI e).1
  unfold APL at h
  split at h
  ·exact absurd h hz
  ·exact h
 simp -dsimp (disch:=first | assumption | omega | (simp only [AyC];try omega)) only [↓AyG,AyB,AyE,AyF,eq_self,Nat.reduceEqDiff,↓reduceIte,reduceCtorEq,hz',↓AHQ,↓ADY,↓AIv,↓AIo,↓AP0]
 refine (AWj (b.take 4) (by omega)).calls rfl fun r hr => ?_
 cases hp:pX (b.take 4) with
 | none =>
  obtain ⟨m,_,rfl⟩:=hr.2 hp
  clear hr
  simp -dsimp (disch:=first | assumption | omega | (simp only [AyC];try omega)) only [↓AyG,AyB,AyE,AyF,eq_self,Nat.reduceEqDiff,↓reduceIte,reduceCtorEq,↓AIj,↓Az5]
  exact no fun x s hx e=>by rw [hne x s hx e,AZK (by omega)] at hp; cases hp
 | some n =>
  rw [hr.1 n hp]
  clear hr
  have hn:n<65536:=by
   unfold pX at hp
   split at hp
   ·rename_i h; rw [←Option.some.inj hp]; exact h.2.2
   ·cases hp
  have key:∀ x s,x.length≤1000→Azq x++s=b→n=x.length+4:=fun x s hx e=>by
   rw [hne x s hx e,AZK (by omega)] at hp
   exact (Option.some.inj hp).symm
  have hx0:∀ x s,x.length≤1000→Azq x++s=b→x≠[]:=fun x s hx e h0=>by
   subst h0
   exact hz (AzI e).1
  simp -dsimp (disch:=first | assumption | omega | (simp only [AyC];try omega)) only [↓AyG,AyB,AyE,AyF,eq_self,Nat.reduceEqDiff,↓reduceIte,reduceCtorEq,↓AIj]
  refine (AMG n (by omega)).calls rfl fun r hr => ?_
  subst hr
  have hwb:IntKind.u64.wrap (b.length:Int)=(b.length:Int):=AOe (by omega)
  by_cases hcan:AN2 n=b.take 4
  case neg =>
   simp -dsimp (disch:=first | assumption | omega | (simp only [AyC];try omega)) only [↓AyG,AyB,AyE,AyF,eq_self,Nat.reduceEqDiff,↓reduceIte,reduceCtorEq,hcan,↓Az5]
   exact no fun x s hx e=>hcan (by rw [key x s hx e]; exact (hne x s hx e).symm)
  by_cases hn4:n≤4
  ·simp -dsimp (disch:=first | assumption | omega | (simp only [AyC];try omega)) only [↓AyG,AyB,AyE,AyF,eq_self,Nat.reduceEqDiff,↓reduceIte,reduceCtorEq,hcan,hn4,↓Az5]
   exact no fun x s hx e=>by have:=key x s hx e; have:=hx0 x s hx e; rw [ne_eq,←List.length_eq_zero_iff] at this; omega
  by_cases hnb:1004<n
  ·simp -dsimp (disch:=first | assumption | omega | (simp only [AyC];try omega)) only [↓AyG,AyB,AyE,AyF,eq_self,Nat.reduceEqDiff,↓reduceIte,reduceCtorEq,hcan,hn4,hnb,↓Az5]
   exact no fun x s hx e=>by have:=key x s hx e; omega
  by_cases hnl:b.length<n
  ·simp -dsimp (disch:=first | assumption | omega | (simp only [AyC];try omega)) only [↓AyG,AyB,AyE,AyF,eq_self,Nat.reduceEqDiff,↓reduceIte,reduceCtorEq,hcan,hn4,hnb,hwb,hnl,↓Az5]
   exact no fun x s hx e=>by have:=key x s hx e; have:=(AzI e).2.2; omega
  simp -dsimp (disch:=first | assumption | omega | (simp only [AyC];try omega)) only [↓AyG,AyB,AyE,AyF,eq_self,Nat.reduceEqDiff,↓reduceIte,reduceCtorEq,hcan,hn4,hnb,hwb,hnl,↓Az5]
  have hlo:=A7k h4 (by omega) (by omega) (by omega) hcan.symm
  rw [List.drop_take] at hlo
  have hl4:(List.take (n - 4) (List.drop 4 b)).length=n - 4:=by simp; omega
  refine ⟨fun x s hx e => ?_,fun h=>absurd hlo (h _ _ (by omega))⟩
  obtain ⟨rfl,rfl⟩:=AEy hx (by omega) (e.trans hlo.symm)
  have hxn:List.take (n - 4) (List.drop 4 b)≠[]:=fun h=>by rw [h] at hl4; simp at hl4; omega
  unfold AXE
  rw [if_neg hxn]
end
section
variable [AyT]
set_option maxRecDepth 100000
def ANC:AyD := .seq (.ops [po_ 2 (.mov (.c (.slice none 0 0)))] [0])
 (.seq (.seq (.ops [mv_ 3 0,so_ 4 (.eqS (.t 3) false)] [0,4])
 (.cond (.t 4)
 (.seq (.ops [po_ 2 (.mov (.c (.slice none 0 0)))] [2])
  (.ret))
 (.skip)))
 (.seq (.ops [so_ 5 (.bslice 1 0 (.val (.int .u8 ((0:Nat):Int))) []),mv_ 6 0,so_ 7 (.app 1 1 5 (.t 5) (.t 6)),mv_ 2 7] [2])
 (.ret)))
def AMy:List VR:=[.tmp 2]
theorem AST:Tryz.f81.body.bind (trC Tryz.prog Tryz.f81.ntmps)=some (er ANC):=by kernel_rfl
theorem ASY:trR Tryz.prog Tryz.f81.results.toList=some AMy:=by kernel_rfl
def AQT:=AyA ANC.eq_1
theorem ARg {K:TV→Prop} {e:Env} {H:List Ob}:res AMy e H K=res [.tmp 2] e H K:=Ayz rfl
def AEt:=(aI_ @AQT @ARg)
def ARt:=AzJ 8 Tryz.func81 AST ASY rfl
def ANM:AyD := .seq (.ops [po_ 4 (.mov (.c (.bool false)))] [0,1])
 (.seq (.ops [mv_ 5 0,po_ 6 (.b2s (.t 5)),mv_ 7 1,po_ 8 (.b2s (.t 7)),po_ 9 (.bin 9 .eql (.t 6) (.t 8)),mv_ 4 9] [4])
 (.ret))
def AM4:List VR:=[.tmp 4]
theorem ATL:Tryz.f96.body.bind (trC Tryz.prog Tryz.f96.ntmps)=some (er ANM):=by kernel_rfl
theorem ASU:trR Tryz.prog Tryz.f96.results.toList=some AM4:=by kernel_rfl
def AQq:=AyA ANM.eq_1
theorem AQM {K:TV→Prop} {e:Env} {H:List Ob}:res AM4 e H K=res [.tmp 4] e H K:=Ayz rfl
def ATR:=(aI_ @AQq @AQM)
def ARy:=AzJ 10 Tryz.func96 ATL ASU rfl
end
section
open Go.RowKit
variable [AyT]
variable [AyO] [AyQ]
end
section
open Go.RowKit
variable [AyT]
def A6n (b:List UInt8) (r:TV):Prop:=(∀ x s,x.length≤1000→Azq x++s=b→r = .tup [slB x,slB s,tb true])∧((∀ x s,x.length≤1000→Azq x++s≠b)→r = .tup [AEC,slB b,tb false])
theorem A8K {b w:List UInt8} {n:Nat} {E:Env} {Q:VEx→Env→List Ob→Prop} (hb:b.length≤1000000) (h4:4≤b.length) (hn:n≤1000)
  (hyes:b.take 4=w→4+n≤b.length→Q .ret [(2,slB ((b.drop 4).take n)),(3,slB (b.drop (4+n))),(4,tb true)] [])
  (hbad:b.take 4=w→¬ 4+n≤b.length→Q .ret [(2,AEC),(3,slB b),(4,tb false)] [])
  (hnext:b.take 4≠w→Q .nor [(0,slB b),(5,i64 (n:Int)),(24,tb false)] []) :
  vwp Tryz.prog AFg Q ((0,slB b)::(5,i64 (n:Int))::(6,ts w)::E) []:=by
 have hs:4+n - 4=n:=by omega
 by_cases hw:b.take 4=w
 ·subst hw
  by_cases hl:4+n≤b.length
  ·have hl':¬ b.length<4+n:=by omega
   simp -dsimp (disch:=first | assumption | omega | (simp only [AyC];try omega)) only [↓AyG,AyB,AyE,AyF,eq_self,Nat.reduceEqDiff,↓reduceIte,reduceCtorEq,hl',hs,↓AC5,↓AC1,↓AGE]
   exact hyes rfl hl
  ·have hl':b.length<4+n:=by omega
   simp -dsimp (disch:=first | assumption | omega | (simp only [AyC];try omega)) only [↓AyG,AyB,AyE,AyF,eq_self,Nat.reduceEqDiff,↓reduceIte,reduceCtorEq,hl',↓AC5,↓AC1,↓AGE]
   exact hbad rfl hl
 ·simp -dsimp (disch:=first | assumption | omega | (simp only [AyC];try omega)) only [↓AyG,AyB,AyE,AyF,eq_self,Nat.reduceEqDiff,↓reduceIte,reduceCtorEq,hw,↓AC5,↓AC1]
  exact hnext hw
theorem A8L (b:List UInt8) (hb:b.length≤1000000):Azg Tryz.prog 82 [slB b] (A6n b):=by
 refine AyJ.toPureV (ATh (by simp) ?_)
 have no:(∀ x s,x.length≤1000→Azq x++s≠b)→A6n b (.tup [AEC,slB b,tb false]):=fun h=>⟨fun x s hx e=>absurd e (h x s hx),fun _=>rfl⟩
 by_cases h4:4≤b.length
 case neg =>
  simp -dsimp (disch:=first | assumption | omega | (simp only [AyC];try omega)) only [↓AyG,AyB,AyE,AyF,eq_self,Nat.reduceEqDiff,↓reduceIte,reduceCtorEq,↓ALk,↓AFY,↓AA2]
  exact no fun x s hx e=>by have:=(AzI e).2.2; omega
 simp -dsimp (disch:=first | assumption | omega | (simp only [AyC];try omega)) only [↓AyG,AyB,AyE,AyF,eq_self,↓reduceIte,reduceCtorEq,↓ALk,↓AFY,↓AOf,↓AOS]
 refine ABj (fun q e H=>∃ n:Nat,q=1001 - n∧n≤1001∧(∀ x s,x.length≤1000→Azq x++s=b→n≤x.length)∧H=[]∧e=[(0,slB b),(5,i64 (n:Int))]) 1001 ?_ ?_
 ·exact ⟨0,rfl,by omega,fun _ _ _ _=>Nat.zero_le _,rfl,rfl⟩
 rintro q e H ⟨n,rfl,hn,hle,rfl,rfl⟩
 by_cases h1000:n≤1000
 case neg =>
  simp -dsimp (disch:=first | assumption | omega | (simp only [AyC];try omega)) only [↓AyG,AyB,AyE,AyF,eq_self,Nat.reduceEqDiff,↓reduceIte,reduceCtorEq,↓AC7,↓AN9,↓AA2]
  exact no fun x s hx e=>by have:=hle x s hx e; omega
 have step:(∀ x s,x.length≤1000→Azq x++s=b→x.length≠n)→∀ x s,x.length≤1000→Azq x++s=b→n+1≤x.length:=fun h x s hx e=>by
  have:=hle x s hx e; have:=h x s hx e; omega
 have yes:b.take 4=AN2 (if n=0 then 0 else n+4)→4+n≤b.length→A6n b (.tup [slB ((b.drop 4).take n),slB (b.drop (4+n)),tb true]):=fun hw hl=>by
  have hxl:((b.drop 4).take n).length=n:=by simp; omega
  have hE:Azq ((b.drop 4).take n)++b.drop (4+n)=b:=by
   rw [AS1]
   unfold APL
   rw [hxl,←hw,List.append_assoc,←List.drop_drop,List.take_append_drop,List.take_append_drop]
  refine ⟨fun x s hx e => ?_,fun h=>absurd hE (h _ _ (by omega))⟩
  obtain ⟨rfl,rfl⟩:=AEy hx (by omega) (e.trans hE.symm)
  rfl
 by_cases h0:n=0
 ·subst h0
  simp -dsimp (disch:=first | assumption | omega | (simp only [AyC];try omega)) only [↓AyG,AyB,AyE,AyF,eq_self,Nat.reduceEqDiff,↓reduceIte,reduceCtorEq,↓AC7,↓AGG]
  refine (AT3 4 (by omega)).calls rfl fun r hr => ?_
  subst hr
  simp -dsimp (disch:=first | assumption | omega | (simp only [AyC];try omega)) only [↓AyG,AyB,AyE,AyF,eq_self,Nat.reduceEqDiff,↓reduceIte,reduceCtorEq,↓AHd]
  refine A8K hb h4 h1000 (fun hw hl => ?_) (fun hw hl => ?_) (fun hw => ?_)
  ·simp -dsimp (disch:=first | assumption | omega | (simp only [AyC];try omega)) only [↓AyG,AyB,AyE,AyF,eq_self,Nat.reduceEqDiff,↓reduceIte,Nat.reduceAdd,↓AA2]
   exact yes hw hl
  ·simp -dsimp (disch:=first | assumption | omega | (simp only [AyC];try omega)) only [↓AyG,AyB,AyE,AyF,eq_self,Nat.reduceEqDiff,↓reduceIte,↓AA2]
   exact no fun x s hx e=>by
    have h1:=ASS (ATN hx) (by omega) ((AzI e).1.symm.trans (show b.take 4=AN2 0 from hw))
    have h2:=(AzI e).2.2
    unfold APL at h1; split at h1<;>omega
  ·simp -dsimp (disch:=first | assumption | omega | (simp only [AyC];try omega)) only [↓AyG,AyB,AyE,AyF,eq_self,↓reduceIte,reduceCtorEq]
   refine AyW (1001 - (0+1)) (by omega) (by simp) ⟨0+1,by omega,by omega,step fun x s hx e h=>hw ?_,rfl,rfl⟩
   rw [(AzI e).1]
   unfold APL
   rw [if_pos h]; rfl
 ·rw [if_neg h0] at yes
  simp -dsimp (disch:=first | assumption | omega | (simp only [AyC];try omega)) only [↓AyG,AyB,AyE,AyF,eq_self,Nat.reduceEqDiff,↓reduceIte,reduceCtorEq,↓AC7,↓AGG]
  refine (AT3 (n+4) (by omega)).calls rfl fun r hr => ?_
  subst hr
  simp -dsimp (disch:=first | assumption | omega | (simp only [AyC];try omega)) only [↓AyG,AyB,AyE,AyF,eq_self,Nat.reduceEqDiff,↓reduceIte,reduceCtorEq,h0,↓AHd]
  refine A8K hb h4 h1000 (fun hw hl => ?_) (fun hw hl => ?_) (fun hw => ?_)
  ·simp -dsimp (disch:=first | assumption | omega | (simp only [AyC];try omega)) only [↓AyG,AyB,AyE,AyF,eq_self,Nat.reduceEqDiff,↓reduceIte,↓AA2]
   exact yes hw hl
  ·simp -dsimp (disch:=first | assumption | omega | (simp only [AyC];try omega)) only [↓AyG,AyB,AyE,AyF,eq_self,Nat.reduceEqDiff,↓reduceIte,↓AA2]
   exact no fun x s hx e=>by
    have h1:=ASS (ATN hx) (by omega) ((AzI e).1.symm.trans hw)
    have h2:=(AzI e).2.2
    unfold APL at h1; split at h1<;>omega
  ·simp -dsimp (disch:=first | assumption | omega | (simp only [AyC];try omega)) only [↓AyG,AyB,AyE,AyF,eq_self,↓reduceIte,reduceCtorEq]
   refine AyW (1001 - (n+1)) (by omega) (by simp) ⟨n+1,by omega,by omega,step fun x s hx e h=>hw ?_,rfl,rfl⟩
   rw [(AzI e).1]
   unfold APL
   rw [if_neg (by omega),h]
theorem AYF:∀ l:List UInt8,ADZ (l.map by8)=true
 | []=>rfl
 | b::l=>by rw [List.map_cons,ADZ,AYF l]; rfl
end
section
open Go.RowKit
variable [AyT]
section
omit [AyT]
def spl:List UInt8→List UInt8→List (List UInt8)
 | w,[]=>[w]
 | w,b::l=>if b=32 then w::spl [] l else spl (w++[b]) l
def ABo (b:List UInt8):List UInt8:=if b.getLast?=some 10 then b.dropLast else b
def ACw (b:List UInt8):List (List UInt8):=spl [] (ABo b)
theorem A0b {b:List UInt8} {i:Nat} (h:i<b.length) (hno:¬ (b[i]?=some 10∧i+1=b.length)) (hi:i≤(ABo b).length):i<(ABo b).length∧(ABo b)[i]?=b[i]?:=by
 unfold ABo at hi ⊢
 split
 ·rename_i h1
  rw [if_pos h1,List.length_dropLast] at hi
  have hlt:i<b.length - 1:=by
   rcases Nat.lt_or_ge i (b.length - 1) with h2 | h2
   ·exact h2
   ·exfalso
    refine hno ⟨?_,by omega⟩
    rw [List.getLast?_eq_getElem?] at h1
    rw [show i=b.length - 1 by omega]; exact h1
  refine ⟨by rw [List.length_dropLast]; exact hlt,?_⟩
  rw [List.getElem?_dropLast,if_pos hlt]
 ·exact ⟨h,rfl⟩
theorem AX3 {b:List UInt8} {i:Nat} (h:b[i]?=some 10) (h1:i+1=b.length):(ABo b).length=i:=by
 unfold ABo
 rw [if_pos (by rw [List.getLast?_eq_getElem?,show b.length - 1=i by omega]; exact h),List.length_dropLast]; omega
theorem AQP (b:List UInt8):(ABo b).length≤b.length:=by
 unfold ABo
 split
 ·rw [List.length_dropLast]; omega
 ·exact Nat.le_refl _
end
theorem AUK {b:UInt8}:(∀ y:TV,y∈[TV.val (Value.int IntKind.u8 (b.toNat:Int))]→AYo y)=True:=by
 refine eq_true ?_
 intro y hy
 obtain rfl:=List.mem_singleton.1 hy
 exact AWG b
theorem Bah (b:List UInt8) (hb:b.length≤1000000):Azg Tryz.prog 68 [slB b] (fun r=>r = .sl 1 ((ACw b).map ts)):=by
 refine AyJ.toPureV (ARr (by simp) ?_)
 have h11:∀ y z:TV,(List.replicate 1 z).set 0 y=[y]:=fun y z=>rfl
 have h12:∀ y:TV,List.take 1 [y]=[y]:=fun y=>rfl
 simp -dsimp (disch:=first | assumption | omega | (simp only [AyC];try omega)) only [↓AyG,AyB,AyE,AyF,eq_self,Nat.reduceEqDiff,↓reduceIte,reduceCtorEq,↓AQx,↓ANB,↓AMT,↓AN0,↓ANl]
 refine ABj (fun q e H=>∃ (i:Nat) (ws:List (List UInt8)) (w:List UInt8) (k v cp:Nat),q=b.length - i∧i≤(ABo b).length∧i≤b.length∧ws.length≤i∧w.length≤i∧ACw b=ws++spl w ((ABo b).drop i)∧H[k]?=some (.obj v (.arr ws.length 1 (ws.map ts)))∧e=[(0,slB b),(3,.os 1 k v [] 0 ws.length cp),(4,ts w),(5,i64 (i:Int))]) b.length ?_ ?_
 ·exact ⟨0,[],[],0,0,0,rfl,Nat.zero_le _,Nat.zero_le _,Nat.le_refl _,Nat.le_refl _,rfl,rfl,rfl⟩
 rintro q e H ⟨i,ws,w,k,v,cp,rfl,hit,hib,hwi,hwl,hsp,hk,rfl⟩
 have hkl:=(List.getElem?_eq_some_iff.1 hk).1
 have hkt:(ws.map ts).take ws.length=ws.map ts:=List.take_of_length_le (by simp)
 have hA:∀ T:List Ob,(H++T)[k]?=some (.obj v (.arr ws.length 1 (ws.map ts))):=fun T=>by rw [List.getElem?_append_left hkl]; exact hk
 have hws1:ws.length≤1000000:=by omega
 by_cases hil:i<b.length
 case neg =>
  have hd:(ABo b).drop i=[]:=List.drop_eq_nil_of_le (by have:=AQP b; omega)
  rw [hd] at hsp
  have hfin:ACw b=ws++[w]:=by rw [hsp]; rfl
  simp -dsimp (disch:=first | assumption | omega | (simp only [AyC];try omega)) only [↓AyG,AyB,AyE,AyF,eq_self,Nat.reduceEqDiff,↓reduceIte,reduceCtorEq,Nat.reduceLeDiff,hA,hkt,h11,↓Az1,↓AF4,↓AJl]
  have hLe:List.take (ws.length+1) (ws.map ts++[ts w])=(ws++[w]).map ts:=by rw [List.map_append]; exact List.take_of_length_le (by simp)
  rw [hLe,hfin]
 obtain ⟨c,hc⟩:∃ c,b[i]?=some c:=⟨_,List.getElem?_eq_getElem hil⟩
 have hc8:(b.map by8)[i]?=some (by8 c):=by rw [List.getElem?_map,hc]; rfl
 by_cases hend:c.toNat=10∧i+1=b.length
 ·obtain ⟨h10,hlast⟩:=hend
  have hd:(ABo b).drop i=[]:=List.drop_eq_nil_of_le (by rw [AX3 (by rw [hc,show c=10 from UInt8.toNat_inj.1 h10]) hlast]; exact Nat.le_refl _)
  rw [hd] at hsp
  have hfin:ACw b=ws++[w]:=by rw [hsp]; rfl
  simp -dsimp (disch:=first | assumption | omega | (simp only [AyC];try omega)) only [↓AyG,AyB,AyE,AyF,eq_self,Nat.reduceEqDiff,↓reduceIte,reduceCtorEq,Nat.reduceLeDiff,hc8,h10,hlast,hA,hkt,h11,↓Az1,↓AA8,↓AF4,↓AJl]
  have hLe:List.take (ws.length+1) (ws.map ts++[ts w])=(ws++[w]).map ts:=by rw [List.map_append]; exact List.take_of_length_le (by simp)
  rw [hLe,hfin]
 obtain ⟨hti,htc⟩:=A0b hil (fun h=>hend ⟨by rw [hc] at h; rw [Option.some.inj h.1]; rfl,h.2⟩) hit
 rw [hc] at htc
 have hdr:(ABo b).drop i=c::(ABo b).drop (i+1):=by
  rw [List.drop_eq_getElem_cons hti]
  rw [List.getElem?_eq_getElem hti] at htc
  rw [Option.some.inj htc]
 rw [hdr,spl] at hsp
 by_cases h32:c.toNat=32
 ·have hc32:c=32:=UInt8.toNat_inj.1 h32
  rw [if_pos hc32] at hsp
  have h10:¬ c.toNat=10:=by omega
  simp -dsimp (disch:=first | assumption | omega | (simp only [AyC];try omega)) only [↓AyG,AyB,AyE,AyF,eq_self,Nat.reduceEqDiff,↓reduceIte,reduceCtorEq,Nat.reduceLeDiff,hc8,h32,hA,hkt,h11,↓Az1,↓AA8,↓AB6]
  have hL:(ws++[w]).length=ws.length+1:=by simp
  refine AyW (b.length - (i+1)) (by omega) (by simp) ⟨i+1,ws++[w],[],k,v+1,ws.length+1,rfl,by omega,by omega,by omega,Nat.zero_le _,by rw [hsp]; simp,?_,by rw [hL]; rfl⟩
  rw [List.getElem?_append_left (by simp; omega),List.getElem?_set_self hkl,hL,List.map_append]; rfl
 ·have hc32:¬ c=32:=fun e=>h32 (by rw [e]; rfl)
  rw [if_neg hc32] at hsp
  have hwl2:w.length+[c].length≤9223372036854775807:=by simp; omega
  by_cases h10:c.toNat=10
  ·have hlast:¬ i+1=b.length:=fun e=>hend ⟨h10,e⟩
   simp -dsimp (disch:=first | assumption | omega | (simp only [AyC];try omega)) only [↓AyG,AyB,AyE,AyF,eq_self,Nat.reduceEqDiff,↓reduceIte,reduceCtorEq,Nat.reduceLeDiff,hc8,h10,hlast,h11,AT7,AUK,AWN,↓Az1,↓AA8,↓AB6]
   exact AyW (b.length - (i+1)) (by omega) (by simp) ⟨i+1,ws,w++[c],k,v,cp,rfl,by omega,by omega,by omega,by simp; omega,hsp,by rw [List.getElem?_append_left hkl]; exact hk,rfl⟩
  ·simp -dsimp (disch:=first | assumption | omega | (simp only [AyC];try omega)) only [↓AyG,AyB,AyE,AyF,eq_self,Nat.reduceEqDiff,↓reduceIte,reduceCtorEq,Nat.reduceLeDiff,hc8,h10,h32,h11,AT7,AUK,AWN,↓Az1,↓AA8,↓AB6]
   exact AyW (b.length - (i+1)) (by omega) (by simp) ⟨i+1,ws,w++[c],k,v,cp,rfl,by omega,by omega,by omega,by simp; omega,hsp,by rw [List.getElem?_append_left hkl]; exact hk,rfl⟩
end
section
variable [AyT]
set_option maxRecDepth 100000
def AJW:AyD := .seq (.ops [po_ 4 (.mov (.c (.slice none 0 0)))] [0,1])
 (.seq (.ops [mv_ 5 0,mv_ 6 1,so_ 7 (.call 104 [.t 5,.t 6,.c (.int .i64 ((0:Nat):Int)),.c (.int .i64 (-1))]),mv_ 4 7] [4])
 (.ret))
def AKk:List VR:=[.tmp 4]
theorem AQA:Tryz.f78.body.bind (trC Tryz.prog Tryz.f78.ntmps)=some (er AJW):=by kernel_rfl
theorem AQk:trR Tryz.prog Tryz.f78.results.toList=some AKk:=by kernel_rfl
def AOb:=AyA AJW.eq_1
theorem AOg {K:TV→Prop} {e:Env} {H:List Ob}:res AKk e H K=res [.tmp 4] e H K:=Ayz rfl
def AKw:=(aI_ @AOb @AOg)
def AP1:=AzJ 8 Tryz.func78 AQA AQk rfl
def ADK:AyD := .seq (.ops [mv_ 42 9,mv_ 43 10,mv_ 44 0,mv_ 45 11,mv_ 46 2,po_ 47 (.bin 3 .add (.t 45) (.t 46)),po_ 48 (.slS (.t 44) none (some (.t 47))),po_ 49 (.idxA 1 (.t 42) (.t 43)),⟨none,.s (.store 1 (.t 49) (.t 48)),none⟩] [0,1,2,3,9,10,11])
 (.seq (.ops [mv_ 50 0,mv_ 51 11,mv_ 52 1,po_ 53 (.lenS (.t 52)),po_ 54 (.bin 3 .add (.t 51) (.t 53)),po_ 55 (.slS (.t 50) (some (.t 54)) none),mv_ 0 55] [0,1,2,3,9,10])
 (.ops [mv_ 56 10,po_ 57 (.bin 3 .add (.t 56) (ci_ 1)),mv_ 10 57] [0,1,2,3,9,10]))
def ADl:AyD := .seq (.seq (.ops [mv_ 40 11,po_ 41 (.bin 3 .lss (.t 40) (ci_ 0))] [0,1,2,3,9,10,11,41])
 (.cond (.t 41)
 (.exit 0)
 (.skip)))
 ADK
def ADn:AyD := .block 1 (.seq (.ops [mv_ 37 0,mv_ 38 1,so_ 39 (.call 99 [.t 37,.t 38]),mv_ 11 39] [0,1,2,3,9,10,11])
 ADl)
def ADj:AyD := .seq (.seq (.ops [mv_ 34 10,mv_ 35 3,po_ 36 (.bin 3 .lss (.t 34) (.t 35))] [0,1,2,3,9,10,36])
 (.cond (.t 36)
 (.skip)
 (.exit 0)))
 ADn
def ADs:AyD := .seq (.ops [mv_ 58 9,mv_ 59 10,mv_ 60 0,po_ 61 (.idxA 1 (.t 58) (.t 59)),⟨none,.s (.store 1 (.t 61) (.t 60)),none⟩] [9,10])
 (.seq (.ops [mv_ 62 9,mv_ 63 10,po_ 64 (.bin 3 .add (.t 63) (ci_ 1)),po_ 65 (.slV 1 (.t 62) none (some (.t 64))),mv_ 8 65] [8])
 (.ret))
def ADT:AyD := .seq (.block 0 (.loop [0,1,2,3,9,10] ADj))
 ADs
def ADJ:AyD := .seq (.ops [po_ 10 (.mov (ci_ 0))] [0,1,2,3,9,10])
 ADT
def ADy:AyD := .seq (.ops [mv_ 32 3,po_ 33 (.bin 3 .sub (.t 32) (ci_ 1)),mv_ 3 33] [0,1,2,3,9])
 ADJ
def ADw:AyD := .seq (.ops [mv_ 30 3,so_ 31 (.mks 1 16 (.val (.string (str []))) (.t 30) (.t 30)),mv_ 9 31] [0,1,2,3,9])
 ADy
def ACQ:AyD := .seq (.ops [mv_ 25 3,mv_ 26 0,po_ 27 (.lenS (.t 26)),po_ 28 (.bin 3 .add (.t 27) (ci_ 1)),po_ 29 (.min (.t 25) (.t 28)),mv_ 3 29] [0,1,2,3])
 ADw
def ACI:AyD := .seq (.seq (.ops [mv_ 19 3,po_ 20 (.bin 3 .lss (.t 19) (ci_ 0))] [0,1,2,3,20])
 (.cond (.t 20)
 (.ops [mv_ 21 0,mv_ 22 1,so_ 23 (.call 121 [.t 21,.t 22]),po_ 24 (.bin 3 .add (.t 23) (ci_ 1)),mv_ 3 24] [0,1,2,3])
 (.skip)))
 ACQ
def ACN:AyD := .seq (.seq (.ops [mv_ 14 1,po_ 15 (.bin 9 .eql (.t 14) (.c (.string (str []))))] [0,1,2,3,15])
 (.cond (.t 15)
 (.seq (.ops [mv_ 16 0,mv_ 17 3,so_ 18 (.call 120 [.t 16,.t 17]),mv_ 8 18] [8])
  (.ret))
 (.skip)))
 ACI
def ACy:AyD := .seq (.seq (.ops [mv_ 12 3,po_ 13 (.bin 3 .eql (.t 12) (ci_ 0))] [0,1,2,3,13])
 (.cond (.t 13)
 (.seq (.ops [po_ 8 (.mov (.c (.slice none 0 0)))] [8])
  (.ret))
 (.skip)))
 ACN
def AGc:AyD := .seq (.ops [po_ 8 (.mov (.c (.slice none 0 0)))] [0,1,2,3])
 ACy
def AF5:List VR:=[.tmp 8]
theorem ANX:Tryz.f104.body.bind (trC Tryz.prog Tryz.f104.ntmps)=some (er AGc):=by kernel_rfl
theorem ANf:trR Tryz.prog Tryz.f104.results.toList=some AF5:=by kernel_rfl
def AHR:=AyA ADK.eq_1
def AHY:=AyA ADl.eq_1
def AHM:=AyA ADn.eq_1
def ACo:=AyA ADj.eq_1
def AHW:=AyA ADs.eq_1
def AH2:=AyA ADT.eq_1
def AHF:=AyA ADJ.eq_1
def AH1:=AyA ADy.eq_1
def AHJ:=AyA ADw.eq_1
def AHu:=AyA ACQ.eq_1
def AHl:=AyA ACI.eq_1
def AHj:=AyA ACN.eq_1
def AGM:=AyA ACy.eq_1
def AKQ:=AyA AGc.eq_1
theorem AK8 {K:TV→Prop} {e:Env} {H:List Ob}:res AF5 e H K=res [.tmp 8] e H K:=Ayz rfl
def ALP:=AzJ 66 Tryz.func104 ANX ANf rfl
end
section
open Go.RowKit
variable [AyT]
section
omit [AyT]
def ixW (c:UInt8):List UInt8→Option Nat
 | []=>none
 | b::l=>if b=c then some 0 else (ixW c l).map (· + 1)
theorem ATp (c:UInt8):∀ l:List UInt8,Lib.indexByte l c=(match ixW c l with | some i=>(i:Int) | none => -1):=by
 intro l
 induction l with
 | nil=>rfl
 | cons b l ih =>
  rw [Lib.indexByte,ixW]
  by_cases e:b=c
  ·simp [e]
  ·rw [if_neg (by simpa using e),if_neg e,ih]
   cases hc:ixW c l with
   | none=>simp
   | some i =>
    have:¬ ((i:Int) == -1)=true:=by simp
    simp only [Option.map_some]
    rw [if_neg this]; rfl
theorem A4W:∀ (l w:List UInt8),(∀ i,ixW 32 l=some i→i<l.length∧spl w l=(w++l.take i)::spl [] (l.drop (i+1))∧l.count 32=(l.drop (i+1)).count 32+1)∧(ixW 32 l=none→spl w l=[w++l]∧l.count 32=0)
 | [],w=>⟨fun i h=>(by cases h),fun _=>⟨(by simp [spl]),rfl⟩⟩
 | b::l,w=>by
  by_cases e:b=32
  ·subst e
   refine ⟨fun i h => ?_,fun h => ?_⟩
   ·rw [ixW,if_pos rfl] at h
    cases h
    exact ⟨by simp,by simp [spl],by simp⟩
   ·rw [ixW,if_pos rfl] at h; cases h
  ·obtain ⟨h1,h2⟩:=A4W l (w++[b])
   refine ⟨fun i h => ?_,fun h => ?_⟩
   ·rw [ixW,if_neg e] at h
    obtain ⟨j,hj,rfl⟩:=Option.map_eq_some_iff.1 h
    obtain ⟨a1,a2,a3⟩:=h1 j hj
    refine ⟨by simp; omega,?_,?_⟩
    ·rw [spl,if_neg e,a2]; simp
    ·rw [List.count_cons_of_ne (by simpa using e),a3]; rfl
   ·rw [ixW,if_neg e] at h
    obtain ⟨a1,a2⟩:=h2 (Option.map_eq_none_iff.1 h)
    refine ⟨by rw [spl,if_neg e,a1]; simp,by rw [List.count_cons_of_ne (by simpa using e),a2]⟩
end
theorem Azg.ofSameW {f:FuncId} {args:List Value} {r:Value} (h:∀ (F:Nat→Prop) w,ADO F w→Calls Tryz.prog f args.toArray w fun e w'=>e = .returned r∧w'=w):Azg Tryz.prog f (args.map .val) (fun x=>x = .val r):=by
 intro β F w vs hF hv
 have hvs:vs=args:=by
  clear h hF
  induction args generalizing vs with
  | nil=>rw [List.map_nil,Azi.nil] at hv; exact hv
  | cons a args ih =>
   rw [List.map_cons] at hv
   obtain ⟨v,us,rfl,h1,h2⟩:=Azi.cons.1 hv
   have:=Rep.val.1 (Or.inl h1:Rep _ _ _ _)
   rw [this,ih us h2]
 subst hvs
 refine (h F w hF.2).mono ?_
 rintro e w' ⟨rfl,rfl⟩
 exact ⟨_,_,F,rfl,rfl,Rep.of_val,⟨rfl,rfl,rfl,Nat.le_refl _,fun _ _=>rfl,fun _ h=>h,fun _ _ h=>h,hF.1⟩⟩
theorem AYv (l:List UInt8):(str l).data.toList=l:=by simp [str]
theorem A0u (s:List UInt8) (c:UInt8):Azg Tryz.prog 99 [ts s,ts [c]] (fun x=>x=i64 (Lib.indexByte s c)):=by
 have:=Azg.ofSameW (f:=99) (args:=[.string (str s),.string (str [c])]) (r := .int .i64 (Lib.indexByte s c)) fun F w _=>by
  have:=Tryz.strings_Index_one (str s) c w
  rw [AYv] at this; exact this
 exact this
theorem A1j (s:List UInt8) (c:UInt8):Azg Tryz.prog 121 [ts s,ts [c]] (fun x=>x=i64 ((s.count c:Nat):Int)):=by
 have:=Azg.ofSameW (f:=121) (args:=[.string (str s),.string (str [c])]) (r := .int .i64 ((s.count c:Nat):Int)) fun F w _=>by
  have:=Tryz.strings_Count_one (str s) c w
  rw [AYv] at this; exact this
 exact this
theorem A65 (s:List UInt8) (hs:s.length≤1000000):Azg Tryz.prog 79 [ts s,ts [10]] (fun x=>x=ts (Lib.trimSuffix s [10])):=by
 have:=Azg.ofSameW (f:=79) (args:=[.string (str s),.string (str [10])]) (r := .string (str (Lib.trimSuffix s [10]))) fun F w _=>by
  have:=Tryz.strings_TrimSuffix (str s) (str [10]) w (by show s.toArray.size≤_; simp; omega)
  rw [AYv,AYv] at this; exact this
 exact this
theorem A0I:∀ l:List (List UInt8),ADZ (l.map ts)=true
 | []=>rfl
 | x::l=>by rw [List.map_cons,ADZ,A0I l]; rfl
theorem AZw (s:List UInt8) (hs:s.length≤1000000):ADN Tryz.prog 104 [ts s,ts [32],i64 ((0:Nat):Int),i64 (-1)] (fun r=>r = .sl 1 ((spl [] s).map ts)):=by
 refine AyJ.toFreshV (ALP (by simp) ?_)
 have hcl:s.count 32≤s.length:=List.count_le_length
 simp -dsimp (disch:=first | assumption | omega | (simp only [AyC];try omega)) only [↓AyG,AyB,AyE,AyF,eq_self,Nat.reduceEqDiff,↓reduceIte,Nat.reduceAdd,reduceCtorEq,↓AKQ,↓AGM,↓AHj,↓AHl]
 refine (A1j s 32).calls rfl fun r hr => ?_
 subst hr
 simp -dsimp (disch:=first | assumption | omega | (simp only [AyC];try omega)) only [↓AyG,AyB,AyE,AyF,eq_self,Nat.reduceEqDiff,↓reduceIte,reduceCtorEq,Nat.reduceLeDiff,AyX,↓AHu,↓AHJ,↓AH1,↓AHF,↓AH2]
 refine ABj (fun q e H=>∃ (i:Nat) (ws:List (List UInt8)) (rest:List UInt8),q=s.count 32 - i∧i≤s.count 32∧ws.length=i∧rest.length≤s.length∧rest.count 32=s.count 32 - i∧spl [] s=ws++spl [] rest∧H=[.obj 0 (.arr (s.count 32+1) 1 (ws.map ts++List.replicate (s.count 32+1 - i) (ts [])))]∧e=[(0,ts rest),(1,ts [32]),(2,i64 ((0:Nat):Int)),(3,i64 ((s.count 32:Nat):Int)),(9,.os 1 0 0 [] 0 (s.count 32+1) (s.count 32+1)),(10,i64 (i:Int))]) (s.count 32) ?_ ?_
 ·refine ⟨0,[],s,rfl,Nat.zero_le _,rfl,Nat.le_refl _,rfl,rfl,rfl,by simp [forget,get]⟩
 rintro q e H ⟨i,ws,rest,rfl,hi,hwl,hrl,hrc,hsp,rfl,rfl⟩
 obtain ⟨x1,x2⟩:=A4W rest []
 have hix:=ATp 32 rest
 have hwl':(ws.map ts).length=i:=by rw [List.length_map]; exact hwl
 obtain ⟨n,hn⟩:∃ n,s.count 32+1 - i=n+1:=⟨s.count 32 - i,by omega⟩
 have hget:(ws.map ts++List.replicate (s.count 32+1 - i) (ts []))[i]?=some (ts []):=by
  rw [List.getElem?_append_right (by omega),hwl',Nat.sub_self,hn]; rfl
 have hset:∀ c,(ws.map ts++List.replicate (s.count 32+1 - i) (ts [])).set i c=ws.map ts++(c::List.replicate n (ts [])):=fun c=>by
  rw [List.set_append_right _ _ (by omega),hwl',Nat.sub_self,hn]; rfl
 have hwd:AyL (ts [])=1:=rfl
 by_cases hil:i<s.count 32
 ·simp -dsimp (disch:=first | assumption | omega | (simp only [AyC];try omega)) only [↓AyG,AyB,AyE,AyF,eq_self,Nat.reduceEqDiff,↓reduceIte,reduceCtorEq,↓ACo,↓AHM]
  refine (A0u rest 32).calls rfl fun r hr => ?_
  subst hr
  rw [hix]
  cases hm:ixW 32 rest with
  | none=>have:=(x2 hm).2; omega
  | some m =>
   obtain ⟨a1,a2,a3⟩:=x1 m hm
   simp only
   simp -dsimp (disch:=first | assumption | omega | (simp only [AyC];try omega)) only [↓AyG,AyB,AyE,AyF,eq_self,Nat.reduceEqDiff,↓reduceIte,reduceCtorEq,AyX,hget,hset,hwd,Nat.add_zero,↓AHY,↓AHR]
   refine AyW (s.count 32 - (i+1)) (by omega) (by simp) ⟨i+1,ws++[rest.take m],rest.drop (m+1),rfl,by omega,by simp; omega,by simp; omega,by omega,by rw [hsp,a2]; simp,?_,by simp [forget,get]⟩
   rw [show s.count 32+1 - (i+1)=n by omega,List.map_append,List.append_assoc]; rfl
 ·have hi2:i=s.count 32:=by omega
  simp -dsimp (disch:=first | assumption | omega | (simp only [AyC];try omega)) only [↓AyG,AyB,AyE,AyF,eq_self,Nat.reduceEqDiff,↓reduceIte,reduceCtorEq,Nat.reduceLeDiff,hget,hset,hwd,↓ACo,↓AHW,↓AK8]
  have hnone:ixW 32 rest=none:=by
   cases hm:ixW 32 rest with
   | none=>rfl
   | some m=>have:=(x1 m hm).2.2; omega
  have hfin:spl [] s=ws++[rest]:=by rw [hsp,(x2 hnone).1]; rfl
  have htk:List.take (i+1) (ws.map ts++ts rest::List.replicate n (ts []))=(ws++[rest]).map ts:=by
   rw [List.map_append,show ws.map ts++ts rest::List.replicate n (ts [])=(ws.map ts++[ts rest])++List.replicate n (ts []) by simp,List.take_left' (by simp; omega)]; rfl
  rw [htk,hfin,if_pos (A0I _)]
  exact rfl
theorem Baq (s:List UInt8) (hs:s.length≤1000000):Azg Tryz.prog 78 [ts s,ts [32]] (fun r=>r = .sl 1 ((spl [] s).map ts)):=by
 refine AyJ.toPureV (AP1 (by simp) ?_)
 simp -dsimp (disch:=first | assumption | omega | (simp only [AyC];try omega)) only [↓AyG,AyB,AyE,AyF,eq_self,Nat.reduceEqDiff,↓reduceIte,Nat.reduceAdd,reduceCtorEq,↓AKw]
 refine (AZw s hs).pure.calls rfl fun r hr => ?_
 subst hr
 simp -dsimp (disch:=first | assumption | omega | (simp only [AyC];try omega)) only [↓AyG,AyB,AyE,AyF,eq_self,↓reduceIte,↓AKw]
end
section
open Go.RowKit
variable [AyT] [AyO] [AyQ]
theorem AZ5 (s:List UInt8):Lib.trimSuffix s [10]=ABo s:=by
 unfold Lib.trimSuffix ABo
 by_cases h:s.getLast?=some 10
 ·obtain ⟨l,rfl⟩:∃ l,s=l++[10]:=by
   rcases List.eq_nil_or_concat s with rfl | ⟨l,x,hx⟩
   ·cases h
   ·rw [List.concat_eq_append] at hx
    subst hx
    simp at h
    subst h
    exact ⟨l,rfl⟩
  simp [Lib.hasSuffix]
 ·rw [if_neg h,if_neg]
  intro hs
  apply h
  unfold Lib.hasSuffix at hs
  have:=List.isSuffixOf_iff_suffix.1 hs
  obtain ⟨t,rfl⟩:=this
  simp
end
section
open Go.RowKit
variable [AyT]
theorem AXr {c:Ctx} {w:World}:∀ {ws:List (List UInt8)} {vs:List Value},AyI c w (ws.map ts) vs→vs=ws.map fun x=>Value.string (str x)
 | [],vs,h=>by rw [List.map_nil,AyI] at h; exact h
 | x::ws,vs,h=>by
  rw [List.map_cons,AyI] at h
  obtain ⟨a,b,rfl,h1,h2⟩:=h
  rw [AyH] at h1
  rw [h1.1,AXr h2]; rfl
theorem Bby (ws:List (List UInt8)) (hne:ws≠[]) (hlen:(Lib.join ws [32]).length≤4000000) (hn:ws.length≤1000000):Azg Tryz.prog 55 [.sl 1 (ws.map ts),ts [32]] (fun r=>r=ts (Lib.join ws [32])):=by
 intro β F w vs hF hv
 obtain ⟨v1,us,rfl,h1,hv⟩:=Azi.cons.1 hv
 obtain ⟨v2,us,rfl,h2,hv⟩:=Azi.cons.1 hv
 rw [Azi.nil] at hv; subst hv
 obtain rfl:=Rep.val.1 (Or.inl h2:Rep _ _ _ _)
 obtain ⟨_,h | ⟨b,off,cap,xs,rfl,hcap,hcap2,hFb,hx,hcell⟩⟩:=Rep.sl (Or.inl h1:Rep _ _ _ _)
 ·exact absurd (List.map_eq_nil_iff.1 h.1) hne
 have hxs:=AXr hx
 subst hxs
 have hmap:(ws.map str).map (·.data.toList)=ws:=by
  rw [List.map_map]
  conv=>rhs; rw [←List.map_id ws]
  exact List.map_congr_left fun x _=>AYv x
 have hlen2:(ws.map ts).length=(ws.map str).length:=by simp
 have hj:Lib.join ((ws.map str).map (·.data.toList)) (str [32]).data.toList=Lib.join ws [32]:=by rw [hmap,AYv]
 rw [hlen2] at hcap ⊢
 have hc:=Tryz.strings_Join b off cap (ws.map str) (str [32]) w (fun j x hjx=>by
  rw [List.getElem?_map] at hjx
  obtain ⟨y,hy,rfl⟩:=Option.map_eq_some_iff.1 hjx
  exact hcell j _ (by rw [List.getElem?_map,hy]; rfl)) (hF.1 b hFb) (by simp; omega) hcap (by rw [hj]; omega)
 rw [hj] at hc
 refine hc.mono ?_
 rintro e w' ⟨rfl,hb⟩
 exact ⟨_,_,F,rfl,rfl,Rep.of_val,⟨hb.os,hb.tape,hb.output,hb.size,hb.block,fun _ h=>h,fun _ _ h=>h,fun b hb'=>Nat.lt_of_lt_of_le (hF.1 b hb') hb.size⟩⟩
end
section
open Go.RowKit
variable [AyT]
theorem AUH {α:Type} {l:List α} {n:Nat} (h:l.length≤n):l.take n=l:=List.take_of_length_le h
def AR7 (H:List Ob) (r:TV) (l:List UInt8):Option Nat→Prop
 | none=>r=AEC∧l=[]
 | some j=>∃ v,r = .os 1 j v [] 0 l.length l.length∧H[j]?=some (.obj v (.arr l.length 1 (l.map by8)))
theorem AR7.tup {H:List Ob} {r:TV} {l:List UInt8} {J:Option Nat} (h:AR7 H r l J):AzF r=false:=by
 cases J with
 | none=>obtain ⟨rfl,_⟩:=h; rfl
 | some j=>obtain ⟨v,rfl,_⟩:=h; rfl
def BaP (J:Option Nat) (H H':List Ob):Prop:=H.length≤H'.length∧∀ i,i<H.length→J≠some i→H'[i]?=H[i]?
theorem bl4:bl (str [48,48,48,48])=ADX:=AyX
theorem AXh {m:List UInt8} {J:Option Nat} {H:List Ob} {j v n:Nat} {cs:List TV} (hJ:J=some j) (hj:j<H.length) (hn:n=m.length) (hcs:cs=m.map by8) :
  ∃ j',AR7 (H.set j (.obj v (.arr n 1 cs))) (.os 1 j v [] 0 n n) m (some j')∧BaP J H (H.set j (.obj v (.arr n 1 cs)))∧(J=some j'∨H.length≤j'):=by
 subst hn hcs hJ
 exact ⟨j,⟨v,rfl,by simp [hj]⟩,⟨by simp,fun i hi hne=>List.getElem?_set_ne (fun e=>hne (by rw [e]))⟩,.inl rfl⟩
theorem AXv {m:List UInt8} {H:List Ob} {v n:Nat} {cs:List TV} (hn:n=m.length) (hcs:cs=m.map by8) :
  ∃ j',AR7 (H++[.obj v (.arr n 1 cs)]) (.os 1 H.length v [] 0 n n) m (some j')∧BaP none H (H++[.obj v (.arr n 1 cs)])∧(False∨H.length≤j'):=by
 subst hn hcs
 exact ⟨H.length,⟨v,rfl,by simp⟩,⟨by simp,fun i hi _=>List.getElem?_append_left hi⟩,.inr (Nat.le_refl _)⟩
set_option maxHeartbeats 1000000 in
theorem BaF {o:TV} {l line:List UInt8} {J:Option Nat} {H:List Ob} (h:AR7 H o l J) (hl:l.length≤100000000000) (hn:line.length≤4000000) :
  AyJ Tryz.prog 54 [o,slB line] H (fun x H'=>∃ j,AR7 H' x (l++Azq line) (some j)∧BaP J H H'∧(J=some j∨H.length≤j)):=by
 refine AFV (by simp) ?_
 have h4:(AN2 (line.length+4)).length=4:=rfl
 have z4:ADX.length=4:=rfl
 by_cases h0:line.length=0
 ·have hP:Azq line=ADX:=by unfold Azq; rw [if_pos h0]
  rw [hP]
  cases J with
  | none =>
   obtain ⟨rfl,rfl⟩:=h
   simp -dsimp (disch:=first | assumption | omega | (simp only [AyC];try omega)) only [↓AyG,AyB,AyE,AyF,eq_self,Nat.reduceEqDiff,↓reduceIte,Nat.reduceAdd,reduceCtorEq,Nat.reduceLeDiff,↓Ay1,bl4,z4]
   exact AXv rfl rfl
  | some j =>
   obtain ⟨v,rfl,hj⟩:=h
   have hjl:j<H.length:=(List.getElem?_eq_some_iff.1 hj).1
   simp -dsimp (disch:=first | assumption | omega | (simp only [AyC];try omega)) only [↓AyG,AyB,AyE,AyF,eq_self,Nat.reduceEqDiff,↓reduceIte,Nat.reduceAdd,reduceCtorEq,Nat.reduceLeDiff,↓Ay1,bl4,z4,hj]
   exact AXh rfl hjl (by rw [List.length_append,z4]) (by rw [List.map_append])
 ·have hP:Azq line=AN2 (line.length+4)++line:=by unfold Azq; rw [if_neg h0]
  rw [hP]
  cases J with
  | none =>
   obtain ⟨rfl,rfl⟩:=h
   simp -dsimp (disch:=first | assumption | omega | (simp only [AyC];try omega)) only [↓AyG,AyB,AyE,AyF,eq_self,Nat.reduceEqDiff,↓reduceIte,Nat.reduceAdd,reduceCtorEq,↓Ay1]
   refine (AMG (line.length+4) (by omega)).calls rfl ?_
   rintro _ rfl
   simp -dsimp (disch:=first | assumption | omega | (simp only [AyC];try omega)) only [↓AyG,AyB,AyE,AyF,eq_self,Nat.reduceEqDiff,↓reduceIte,Nat.reduceAdd,reduceCtorEq,Nat.reduceLeDiff,↓Ay1,AyX,h4]
   exact AXv (by rw [List.length_append,h4]) (by rw [List.map_append])
  | some j =>
   obtain ⟨v,rfl,hj⟩:=h
   have hjl:j<H.length:=(List.getElem?_eq_some_iff.1 hj).1
   simp -dsimp (disch:=first | assumption | omega | (simp only [AyC];try omega)) only [↓AyG,AyB,AyE,AyF,eq_self,Nat.reduceEqDiff,↓reduceIte,Nat.reduceAdd,reduceCtorEq,↓Ay1]
   refine (AMG (line.length+4) (by omega)).calls rfl ?_
   rintro _ rfl
   simp -dsimp (disch:=first | assumption | omega | (simp only [AyC];try omega)) only [↓AyG,AyB,AyE,AyF,eq_self,Nat.reduceEqDiff,↓reduceIte,reduceCtorEq,Nat.reduceLeDiff,↓Ay1,AyX,h4,hj]
   refine AXh rfl hjl (by rw [List.length_append,List.length_append,h4]; omega) ?_
   rw [AUH (by simp [h4]),List.map_append,List.map_append,List.append_assoc]
set_option maxHeartbeats 1000000 in
theorem A4l {o:TV} {l line:List UInt8} {J:Option Nat} {H:List Ob} {id2 ver2:Nat} (h:AR7 H o l J) (h2:H[id2]?=some (.obj ver2 (.arr line.length 1 (line.map by8)))) (hne:J≠some id2) (hl:l.length≤100000000000) (hn:line.length≤4000000) :
  AyJ Tryz.prog 54 [o,.os 1 id2 ver2 [] 0 line.length line.length] H (fun x H'=>∃ j,AR7 H' x (l++Azq line) (some j)∧BaP J H H'∧(J=some j∨H.length≤j)):=by
 refine AFV (by simp) ?_
 have hl2:id2<H.length:=(List.getElem?_eq_some_iff.1 h2).1
 have hlt:(line.map by8).take line.length=line.map by8:=List.take_of_length_le (by simp)
 have h2a:∀ T:List Ob,(H++T)[id2]?=some (.obj ver2 (.arr line.length 1 (line.map by8))):=fun T=>by rw [List.getElem?_append_left hl2]; exact h2
 have h4:(AN2 (line.length+4)).length=4:=rfl
 have z4:ADX.length=4:=rfl
 by_cases h0:line.length=0
 ·have hP:Azq line=ADX:=by unfold Azq; rw [if_pos h0]
  rw [hP]
  cases J with
  | none =>
   obtain ⟨rfl,rfl⟩:=h
   simp -dsimp (disch:=first | assumption | omega | (simp only [AyC];try omega)) only [↓AyG,AyB,AyE,AyF,eq_self,Nat.reduceEqDiff,↓reduceIte,Nat.reduceAdd,reduceCtorEq,Nat.reduceLeDiff,↓Ay1,bl4,z4]
   exact AXv rfl rfl
  | some j =>
   obtain ⟨v,rfl,hj⟩:=h
   have hjl:j<H.length:=(List.getElem?_eq_some_iff.1 hj).1
   have h2s:∀ o:Ob,(H.set j o)[id2]?=some (.obj ver2 (.arr line.length 1 (line.map by8))):=fun o=>by rw [List.getElem?_set_ne (fun e=>hne (by rw [e]))]; exact h2
   simp -dsimp (disch:=first | assumption | omega | (simp only [AyC];try omega)) only [↓AyG,AyB,AyE,AyF,eq_self,Nat.reduceEqDiff,↓reduceIte,Nat.reduceAdd,reduceCtorEq,Nat.reduceLeDiff,↓Ay1,bl4,z4,hj]
   exact AXh rfl hjl (by rw [List.length_append,z4]) (by rw [List.map_append])
 ·have hP:Azq line=AN2 (line.length+4)++line:=by unfold Azq; rw [if_neg h0]
  rw [hP]
  cases J with
  | none =>
   obtain ⟨rfl,rfl⟩:=h
   simp -dsimp (disch:=first | assumption | omega | (simp only [AyC];try omega)) only [↓AyG,AyB,AyE,AyF,eq_self,Nat.reduceEqDiff,↓reduceIte,Nat.reduceAdd,reduceCtorEq,↓Ay1]
   refine (AMG (line.length+4) (by omega)).calls rfl ?_
   rintro _ rfl
   simp -dsimp (disch:=first | assumption | omega | (simp only [AyC];try omega)) only [↓AyG,AyB,AyE,AyF,eq_self,Nat.reduceEqDiff,↓reduceIte,Nat.reduceAdd,reduceCtorEq,Nat.reduceLeDiff,↓Ay1,AyX,h4,h2a,hlt]
   exact AXv (by rw [List.length_append,h4]) (by rw [List.map_append])
  | some j =>
   obtain ⟨v,rfl,hj⟩:=h
   have hjl:j<H.length:=(List.getElem?_eq_some_iff.1 hj).1
   have h2s:∀ o:Ob,(H.set j o)[id2]?=some (.obj ver2 (.arr line.length 1 (line.map by8))):=fun o=>by rw [List.getElem?_set_ne (fun e=>hne (by rw [e]))]; exact h2
   simp -dsimp (disch:=first | assumption | omega | (simp only [AyC];try omega)) only [↓AyG,AyB,AyE,AyF,eq_self,Nat.reduceEqDiff,↓reduceIte,Nat.reduceAdd,reduceCtorEq,↓Ay1]
   refine (AMG (line.length+4) (by omega)).calls rfl ?_
   rintro _ rfl
   simp -dsimp (disch:=first | assumption | omega | (simp only [AyC];try omega)) only [↓AyG,AyB,AyE,AyF,eq_self,Nat.reduceEqDiff,↓reduceIte,reduceCtorEq,Nat.reduceLeDiff,↓Ay1,AyX,h4,hj,h2s,hlt]
   refine AXh rfl hjl (by rw [List.length_append,List.length_append,h4]; omega) ?_
   rw [AUH (by simp [h4]),List.map_append,List.map_append,List.append_assoc]
theorem A8l {H:List Ob} {N:Nat} {o:TV} {bad ok:Bool} {K:TV→List Ob→Prop} (hT:H[N]?=some (.obj 0 (.agg [o,tb bad]))) (ho:AyL o=1) (hk:K (.tup []) (H.set N (.obj 0 (.agg [o,tb (bad || !ok)])))) :
  AyJ Tryz.prog 27 [.op N 0 [],tb ok] H K:=by
 refine AOc (by simp) ?_
 cases bad with
 | true =>
  simp -dsimp (disch:=first | assumption | omega | (simp only [AyC];try omega)) only [↓AyG,AyB,AyE,AyF,eq_self,Nat.reduceEqDiff,↓reduceIte,Nat.reduceAdd,reduceCtorEq,hT,ho,↓AIy]
  exact hk
 | false =>
  simp -dsimp (disch:=first | assumption | omega | (simp only [AyC];try omega)) only [↓AyG,AyB,AyE,AyF,eq_self,Nat.reduceEqDiff,↓reduceIte,Nat.reduceAdd,reduceCtorEq,hT,ho,↓AIy]
  exact hk
theorem BdP {H:List Ob} {N:Nat} {o:TV} {l:List UInt8} {bad:Bool} {J:Option Nat} {id ver cp:Nat} {ws:List (List UInt8)} (hT:H[N]?=some (.obj 0 (.agg [o,tb bad]))) (hrow:AR7 H o l J) (hws:H[id]?=some (.obj ver (.arr ws.length 1 (ws.map ts)))) (hne:ws≠[]) (hwn:ws.length≤1000000) (hj:(Lib.join ws [32]).length≤3000000) (hl:l.length≤100000000000) {K:TV→List Ob→Prop}
  (hk:∀ H' o' j,AR7 H' o' (l++Azq (Lib.join ws [32]++[10])) (some j)→H'[N]?=some (.obj 0 (.agg [o',tb bad]))→(∀ i,i<H.length→i≠N→J≠some i→H'[i]?=H[i]?)→H.length≤H'.length→(J=some j∨H.length≤j)→K (.tup []) H') :
  AyJ Tryz.prog 29 [.op N 0 [],.os 1 id ver [] 0 ws.length cp] H K:=by
 refine AP2 (by simp) ?_
 have hwt:(ws.map ts).take ws.length=ws.map ts:=List.take_of_length_le (by simp)
 have htup:=hrow.tup
 have how:AyL o=1∧AMp o=false:=by
  cases J with
  | none=>obtain ⟨rfl,_⟩:=hrow; exact ⟨rfl,rfl⟩
  | some j=>obtain ⟨v,rfl,_⟩:=hrow; exact ⟨rfl,rfl⟩
 obtain ⟨o1,o2⟩:=how
 have hjl:(Lib.join ws [32]++[(10:UInt8)]).length≤4000000:=by simp; omega
 have hcat:AAL 9 BinOp.add (.string (str (Lib.join ws [32]))) (.string (str [10]))=some (.string (str (Lib.join ws [32]++[10]))):=AT7 (by simp; omega)
 simp -dsimp (disch:=first | assumption | omega | (simp only [AyC];try omega)) only [↓AyG,AyB,AyE,AyF,eq_self,Nat.reduceEqDiff,Nat.reduceMod,↓reduceIte,Nat.reduceAdd,reduceCtorEq,hT,o1,o2,↓ARm]
 refine AyJ.callsP ((Bby ws hne (by omega) hwn).lends (args':=[.sl 1 (ws.map ts),ts [32]]) (by simp -dsimp (disch:=first | assumption | omega | (simp only [AyC];try omega)) only [AyE,AyF,eq_self,↓reduceIte,hws,hwt]) fun r hr=>⟨by rw [hr]; rfl,?_,?_⟩)
 case refine_2=>exact A0p (id:=N) (ver:=0) (p:=[(0,0)]) (by simp [get]) rfl AS7
 subst hr
 generalize Lib.join ws [32]++[(10:UInt8)]=x at *
 have hx9:x.length≤9223372036854775807:=by omega
 simp -dsimp (disch:=first | assumption | omega | (simp only [AyC];try omega)) only [↓AyG,AyB,AyE,AyF,eq_self,Nat.reduceEqDiff,↓reduceIte,reduceCtorEq,htup,hcat,AyX]
 have hNl:N<H.length:=(List.getElem?_eq_some_iff.1 hT).1
 have hJN:J≠some N:=by
  rintro rfl
  obtain ⟨v,_,h⟩:=hrow
  rw [hT] at h
  cases h
 have hJl:∀ j,J=some j→j<H.length:=by
  rintro j rfl
  obtain ⟨v,_,h⟩:=hrow
  exact (List.getElem?_eq_some_iff.1 h).1
 have hrow':∀ T:List Ob,AR7 (H++T) o l J:=fun T=>by
  cases J with
  | none=>exact hrow
  | some j =>
   obtain ⟨v,h1,h2⟩:=hrow
   exact ⟨v,h1,by rw [List.getElem?_append_left (hJl j rfl)]; exact h2⟩
 refine AyJ.callsP (AyJ.mono (A4l (J:=J) (line:=x) (hrow' _) (by simp) (fun e=>Nat.lt_irrefl _ (hJl _ e)) hl (by omega)) ?_)
 rintro y H2 ⟨j,k1,k2,k3⟩
 have hTn:H2[N]?=some (.obj 0 (.agg [o,tb bad])):=by
  rw [k2.2 N (by simp; omega) hJN,List.getElem?_append_left hNl]; exact hT
 have h2l:H.length+1≤H2.length:=by have:=k2.1; simpa using this
 have hjN:j≠N:=by
  rcases k3 with h | h
  ·rintro rfl; exact hJN h
  ·simp at h; omega
 have hyw:AyL y=1∧AMp y=false∧AzF y=false∧lays y=true:=by
  obtain ⟨v,rfl,_⟩:=k1; exact ⟨rfl,rfl,rfl,rfl⟩
 obtain ⟨y1,y2,y3,y4⟩:=hyw
 refine ⟨?_,?_⟩
 ·simp -dsimp (disch:=first | assumption | omega | (simp only [AyC];try omega)) only [↓AyG,AyB,AyE,AyF,eq_self,Nat.reduceEqDiff,↓reduceIte,reduceCtorEq,hTn,y1,y4,o1]
  refine ⟨hk _ y j ?_ (List.getElem?_set_self (by omega)) (fun i hi hiN hJi => ?_) (by rw [List.length_set]; omega) ?_,AS7⟩
  ·obtain ⟨v,hy,hj2⟩:=k1
   exact ⟨v,hy,by rw [List.getElem?_set_ne (Ne.symm hjN)]; exact hj2⟩
  ·rw [List.getElem?_set_ne (Ne.symm hiN),k2.2 i (by simp; omega) hJi,List.getElem?_append_left hi]
  ·rcases k3 with h | h
   ·exact .inl h
   ·simp at h; exact .inr (by omega)
 ·refine A0p (id:=N) (ver:=0) (p:=[(0,0)]) (by simp [get]) ?_ AS7
  rw [hTn,List.getElem?_append_left hNl,hT]
end
section
open Go.RowKit
variable [AyT]
theorem A4G {H:List Ob} {N:Nat} {o:TV} {bad:Bool} {K:TV→List Ob→Prop} (hT:H[N]?=some (.obj 0 (.agg [o,tb bad]))) (ho:AyL o=1) (hag:AMp o=false) (htu:AzF o=false)
  (hk:K (.tup (if bad then [AEC,eno 111] else [o,.val .nilIface])) H) :
  AyJ Tryz.prog 32 [.op N 0 []] H K:=by
 refine AOd (by simp) ?_
 cases bad with
 | true =>
  simp -dsimp (disch:=first | assumption | omega | (simp only [AyC];try omega)) only [↓AyG,AyB,AyE,AyF,eq_self,Nat.reduceEqDiff,↓reduceIte,Nat.reduceAdd,reduceCtorEq,hT,ho,↓AIn]
  exact hk
 | false =>
  simp -dsimp (disch:=first | assumption | omega | (simp only [AyC];try omega)) only [↓AyG,AyB,AyE,AyF,eq_self,Nat.reduceEqDiff,↓reduceIte,Nat.reduceAdd,reduceCtorEq,hT,ho,hag,htu,↓AIn]
  exact hk
theorem A6Z {H:List Ob} {N:Nat} {o:TV} {l:List UInt8} {bad:Bool} {J:Option Nat} (hT:H[N]?=some (.obj 0 (.agg [o,tb bad]))) (hrow:AR7 H o l J) (hl:l.length≤100000000000) {K:TV→List Ob→Prop}
  (hk:∀ H' o' j,AR7 H' o' (l++ADX) (some j)→H'[N]?=some (.obj 0 (.agg [o',tb bad]))→(∀ i,i<H.length→i≠N→J≠some i→H'[i]?=H[i]?)→H.length≤H'.length→(J=some j∨H.length≤j)→K (.tup []) H') :
  AyJ Tryz.prog 31 [.op N 0 []] H K:=by
 refine ANx (by simp) ?_
 have hNl:N<H.length:=(List.getElem?_eq_some_iff.1 hT).1
 have z4:ADX.length=4:=rfl
 cases J with
 | none =>
  obtain ⟨rfl,rfl⟩:=hrow
  have hA:∀ T:List Ob,(H++T)[N]?=some (.obj 0 (.agg [AEC,tb bad])):=fun T=>by rw [List.getElem?_append_left hNl]; exact hT
  simp -dsimp (disch:=first | assumption | omega | (simp only [AyC];try omega)) only [↓AyG,AyB,AyE,AyF,eq_self,Nat.reduceEqDiff,↓reduceIte,reduceCtorEq,Nat.reduceLeDiff,hT,hA,bl4,z4,↓AHC]
  refine hk _ _ H.length ⟨1,rfl,?_⟩ ?_ (fun i hi hiN _ => ?_) (by simp) (.inr (Nat.le_refl _))
  ·rw [List.getElem?_append_right (by simp)]; simp [z4]
  ·rw [List.getElem?_append_left (by simpa using hNl),List.getElem?_set_self hNl]; rfl
  ·rw [List.getElem?_append_left (by simpa using hi),List.getElem?_set_ne (Ne.symm hiN)]
 | some j =>
  obtain ⟨v,rfl,hj⟩:=hrow
  have hjN:j≠N:=by rintro rfl; rw [hT] at hj; cases hj
  have hjl:j<H.length:=(List.getElem?_eq_some_iff.1 hj).1
  have hS:∀ o:Ob,(H.set j o)[N]?=some (.obj 0 (.agg [.os 1 j v [] 0 l.length l.length,tb bad])):=fun o=>by rw [List.getElem?_set_ne hjN]; exact hT
  have hlt:(l.map by8).take l.length=l.map by8:=List.take_of_length_le (by simp)
  simp -dsimp (disch:=first | assumption | omega | (simp only [AyC];try omega)) only [↓AyG,AyB,AyE,AyF,eq_self,Nat.reduceEqDiff,↓reduceIte,reduceCtorEq,Nat.reduceLeDiff,hT,hj,hS,hlt,bl4,z4,↓AHC]
  have hL:(l++ADX).length=l.length+4:=by simp [z4]
  refine hk _ _ j ⟨v+1,rfl,?_⟩ ?_ (fun i hi hiN hji => ?_) (by simp) (.inl rfl)
  ·rw [List.getElem?_set_ne (Ne.symm hjN),List.getElem?_set_self hjl,hL,List.map_append]
  ·rw [List.getElem?_set_self (by simpa using hNl),hL]
  ·rw [List.getElem?_set_ne (Ne.symm hiN),List.getElem?_set_ne (fun e=>hji (by rw [e]))]
end
section
open Go.RowKit
variable [AyT]
theorem A4H {K:TV→Prop} [Tg K] (x:TV) (h:K x):vex K:=⟨x,h⟩
theorem A4V (n:Nat) (h:n<16):Azg Tryz.prog 59 [.val (.int .u8 (n:Int))] (fun r=>r=by8 (dig n)):=by
 refine AyJ.toPureV (ASP (by simp) ?_)
 by_cases h1:n<10
 ·simp -dsimp (disch:=first | assumption | omega) only [↓AyG,AyB,AyE,AyF,eq_self,↓reduceIte,reduceCtorEq,↓AJF,ASv]
  have e:(48+n) % 256=48+n:=by omega
  rw [e,AWM (by omega)]
  unfold dig; rw [if_pos h1]
 ·simp -dsimp (disch:=first | assumption | omega) only [↓AyG,AyB,AyE,AyF,eq_self,↓reduceIte,reduceCtorEq,↓AJF,ASv]
  have e:(97+n) % 256=97+n:=by omega
  rw [e]
  simp -dsimp (disch:=first | assumption | omega) only [↓AyG,AyB,AyE,AyF,eq_self,↓reduceIte,↓AJF,ASl]
  have e2:97+n - 10=87+n:=by omega
  rw [e2,AWM (by omega)]
  unfold dig; rw [if_neg h1]
theorem Bci {x:UInt8}:AAL 5 .quo (.int .u8 (x.toNat:Int)) (.int .u8 ((16:Nat):Int))=some (.int .u8 ((x.toNat / 16:Nat):Int)):=A7L (by omega) (by have:=x.toNat_lt; omega)
theorem BdS {a b:TV}:((List.replicate 2 (TV.val (Value.int IntKind.u8 ((0:Nat):Int)))).set 0 a).set 1 b=[a,b]:=by simp [List.replicate]
theorem AZx (l:List UInt8) (hl:l.length=20):Azg Tryz.prog 35 [.arr 20 1 (l.map by8)] (fun r=>r = .val (.string (str (Azl l)))):=by
 refine AyJ.toPureV (AWw (by simp) ?_)
 simp -dsimp (disch:=first | assumption | omega) only [↓AyG,AyB,AyE,AyF,eq_self,Nat.reduceEqDiff,↓reduceIte,↓AOl]
 refine ABj (fun q e H=>∃ (i v:Nat),q=20 - i∧i≤20∧e=[(1,.op 0 0 []),(3,.os 1 1 v [] 0 (2*i) (2*i)),(4,i64 (i:Int))] ∧
  H=[.obj 0 (.arr 20 1 (l.map by8)),.obj v (.arr (2*i) 1 ((Azl (l.take i)).map by8))]) 20 ?_ ?_
 ·exact ⟨0,0,by simp,by simp,rfl,by simp [Azl]⟩
 ·rintro q e H ⟨i,v,rfl,hi,rfl,rfl⟩
  by_cases h:i<20
  ·have hg:l[i]?=some l[i]:=List.getElem?_eq_getElem (by omega)
   have hsucc:=List.take_succ_eq_append_getElem (l:=l) (i:=i) (by omega)
   have hsn:=ASs (l.take i) l[i]
   rw [←hsucc] at hsn
   have hlen:(Azl (l.take i)).length=2*i:=by rw [AB9,List.length_take]; omega
   generalize hr2:Azl (l.take (i+1))=r2 at *
   generalize Azl (l.take i)=r at *
   generalize l[i]=c at *
   have hc:=c.toNat_lt
   have htk:(r.map by8).take (2*i)=r.map by8:=List.take_of_length_le (by simp [hlen])
   have htk2:r.take (2*i)=r:=List.take_of_length_le (by omega)
   simp -dsimp (disch:=first | assumption | omega) only [↓AyG,AyB,AyE,AyF,eq_self,Nat.reduceEqDiff,↓reduceIte,↓AOl,hg,Bci]
   refine A4H (by8 (dig (c.toNat / 16))) ⟨(A4V _ (by omega)).calls rfl (fun x hx=>⟨hx,rfl⟩),?_⟩
   simp -dsimp (disch:=first | assumption | omega) only [↓AyG,AyB,AyE,AyF,eq_self,Nat.reduceEqDiff,↓reduceIte,hg]
   refine (A4V _ (by omega)).calls rfl ?_
   rintro x rfl
   have t2:[by8 (dig (c.toNat / 16)),by8 (dig (c.toNat % 16))].take 2=[by8 (dig (c.toNat / 16)),by8 (dig (c.toNat % 16))]:=rfl
   simp -dsimp (disch:=first | assumption | omega) only [↓AyG,AyB,AyE,AyF,eq_self,Nat.reduceEqDiff,↓reduceIte,Nat.reduceAdd,Nat.reduceLeDiff,BdS,htk,t2]
   refine A0f (20 - (i+1)) 2 (by omega) (by simp) rfl (by simp [ALp,AU9,ADI]) ⟨i+1,v+1,rfl,by omega,?_,?_⟩
   ·have:2*(i+1)=2*i+2:=by omega
    rw [this]; rfl
   ·have:2*(i+1)=2*i+2:=by omega
    rw [this,hr2,hsn]; simp
  ·have hi2:i=20:=by omega
   subst hi2
   have htl:l.take 20=l:=List.take_of_length_le (by omega)
   have hlen:(Azl l).length=40:=by rw [AB9]; omega
   rw [htl]
   have htk:((Azl l).map by8).take (2*20)=(Azl l).map by8:=List.take_of_length_le (by simp [hlen])
   have htk2:(Azl l).take (2*20)=Azl l:=List.take_of_length_le (by omega)
   simp -dsimp (disch:=first | assumption | omega) only [↓AyG,AyB,AyE,AyF,eq_self,Nat.reduceLT,Nat.reduceEqDiff,Nat.reduceMul,↓reduceIte,↓AOl,htk]
end
section
open Go.RowKit
variable [AyT]
def hv (c:UInt8):Nat:=if 48≤c.toNat∧c.toNat≤57 then c.toNat - 48 else if 97≤c.toNat∧c.toNat≤102 then c.toNat - 87 else 16
theorem A3V:∀ n,n<256→Lib.indexByte AQv (UInt8.ofNat n)=if hv (UInt8.ofNat n)<16 then (hv (UInt8.ofNat n):Int) else -1:=by decide +kernel
theorem A9i (c:UInt8):Lib.indexByte AQv c=if hv c<16 then (hv c:Int) else -1:=by
 have h:=A3V c.toNat c.toNat_lt
 rwa [UInt8.ofNat_toNat] at h
theorem AWZ:∀ n,n<16→hv (dig n)=n:=by decide
def AAM:List UInt8→List UInt8
 | a::b::l=>UInt8.ofNat (hv a*16+hv b)::AAM l
 | _=>[]
def ABd (s:List UInt8):Bool:=decide (s.length=40) && s.all fun c=>decide (hv c<16)
theorem AB1:∀ {n:Nat} {s:List UInt8},s.length=2*n→(AAM s).length=n
 | 0,s,h=>by rw [List.length_eq_zero_iff.1 (by omega:s.length=0)]; rfl
 | n+1,[],h=>by simp at h
 | n+1,[a],h=>by simp at h; omega
 | n+1,a::b::s,h=>by
  rw [AAM,List.length_cons,AB1 (n:=n) (by simp at h; omega)]
theorem AOy:∀ {n:Nat} {s:List UInt8} {a b:UInt8},s.length=2*n→AAM (s++[a,b])=AAM s++[UInt8.ofNat (hv a*16+hv b)]
 | 0,s,a,b,h=>by rw [List.length_eq_zero_iff.1 (by omega:s.length=0)]; rfl
 | n+1,[],a,b,h=>by simp at h
 | n+1,[x],a,b,h=>by simp at h; omega
 | n+1,x::y::s,a,b,h=>by
  rw [List.cons_append,List.cons_append,AAM,AAM,AOy (n:=n) (by simp at h; omega),List.cons_append]
theorem AW4 {s:List UInt8} {i:Nat} (h:2*i+1<s.length):s.take (2*(i+1))=s.take (2*i)++[s[2*i],s[2*i+1]]:=by
 have e:2*(i+1)=2*i+1+1:=by omega
 rw [e,List.take_succ_eq_append_getElem h,List.take_succ_eq_append_getElem (by omega),List.append_assoc]; rfl
def zer (n:Nat):List UInt8:=List.replicate n 0
theorem AUs:(zer 20).map by8=List.replicate 20 (TV.val (.int .u8 ((0:Nat):Int))):=by simp [zer,by8]
def ACt (s:List UInt8):List UInt8:=if ABd s then AAM s else zer 20
theorem AWX {l:List UInt8} {n:Nat} {b:UInt8} (h:0<n):((l++zer n).map by8).set l.length (by8 b)=((l++[b])++zer (n - 1)).map by8:=by
 obtain ⟨m,rfl⟩:∃ m,n=m+1:=⟨n - 1,by omega⟩
 rw [←List.map_set,List.set_append_right _ _ (Nat.le_refl _),Nat.sub_self,Nat.add_sub_cancel]
 simp [zer,List.replicate_succ]
theorem A4X (l:List UInt8) (c:UInt8):Azg Tryz.prog 95 [.val (.string (str l)),by8 c] (fun x=>x = .val (.int .i64 (Lib.indexByte l c))):=by
 refine AyJ.toPureV (AKP (by simp) ?_)
 simp -dsimp (disch:=first | assumption | omega) only [↓AyG,AyB,AyE,AyF,eq_self,Nat.reduceEqDiff,↓reduceIte,Nat.reduceAdd,reduceCtorEq,↓AFd]
 refine (AVJ l c).calls rfl ?_
 rintro x rfl
 simp -dsimp (disch:=first | assumption | omega) only [↓AyG,AyB,AyE,AyF,eq_self,↓reduceIte,↓AFd]
theorem Bec {a b:Nat} (ha:a<16) (hb:b<16):a*2 ^ 4 ||| b=a*16+b:=by
 have h:=Nat.two_pow_add_eq_or_of_lt (i:=4) (b:=b) (by omega) a
 rw [Nat.mul_comm] at h
 rw [←h]
theorem AGP {s:List UInt8} (h:s.length=40):ABd s=true↔∀ c∈s,hv c<16:=by
 unfold ABd
 rw [Bool.and_eq_true,List.all_eq_true]
 simp [h]
theorem A4C (s:List UInt8) (hs:s.length≤1000000):Azg Tryz.prog 65 [.val (.string (str s))] (fun r=>r = .tup [.arr 20 1 ((ACt s).map by8),if ABd s then .val .nilIface else eno 12]):=by
 refine AyJ.toPureV (AQ9 (by simp) ?_)
 by_cases h40:s.length=40
 case neg =>
  have hok:ABd s=false:=by unfold ABd; rw [Bool.and_eq_false_iff]; left; simpa using h40
  unfold ACt
  rw [hok,if_neg (by simp),if_neg (by simp),AUs]
  simp -dsimp (disch:=first | assumption | omega) only [↓AyG,AyB,AyE,AyF,eq_self,Nat.reduceEqDiff,↓reduceIte,reduceCtorEq,↓AA0,ADb]
  rfl
 simp -dsimp (disch:=first | assumption | omega) only [↓AyG,AyB,AyE,AyF,eq_self,Nat.reduceEqDiff,↓reduceIte,reduceCtorEq,↓AA0,ADb]
 refine ABj (fun q e H=>∃ i:Nat,q=20 - i∧i≤20∧(∀ c∈s.take (2*i),hv c<16)∧e=[(0,.val (.string (str s))),(2,.op 0 0 []),(4,.op 1 0 []),(13,i64 (i:Int))] ∧
  H=[.obj 0 (.arr 20 1 ((zer 20).map by8)),.obj 0 (.arr 20 1 ((AAM (s.take (2*i))++zer (20 - i)).map by8))]) 20 ?_ ?_
 ·exact ⟨0,by simp,by simp,by simp,rfl,rfl⟩
 ·rintro q e H ⟨i,rfl,hi,hall,rfl,rfl⟩
  by_cases h:i<20
  ·have h1:2*i<s.length:=by omega
   have h2:2*i+1<s.length:=by omega
   have hg1:s[2*i]?=some s[2*i]:=List.getElem?_eq_getElem h1
   have hg2:s[2*i+1]?=some s[2*i+1]:=List.getElem?_eq_getElem h2
   have htw:=AW4 h2
   have hpl:(AAM (s.take (2*i))).length=i:=AB1 (by rw [List.length_take]; omega)
   have hps:=AOy (n:=i) (s:=s.take (2*i)) (a:=s[2*i]) (b:=s[2*i+1]) (by rw [List.length_take]; omega)
   rw [←htw] at hps
   have hm1:=List.getElem_mem h1
   have hm2:=List.getElem_mem h2
   have hmem:∀ c∈s.take (2*(i+1)),c∈s.take (2*i)∨c=s[2*i]∨c=s[2*i+1]:=by
    intro c hc
    rw [htw,List.mem_append] at hc
    rcases hc with hc | hc
    ·exact .inl hc
    ·simp only [List.mem_cons,List.not_mem_nil,or_false] at hc; exact .inr hc
   generalize s[2*i]=a at *
   generalize s[2*i+1]=b at *
   generalize hP:AAM (s.take (2*i))=P at *
   have hsf:=AWX (l:=P) (n:=20 - i) (b:=UInt8.ofNat (hv a*16+hv b)) (by omega)
   rw [hpl] at hsf
   have hget:(P++zer (20 - i))[i]?=some 0:=by
    rw [List.getElem?_append_right (by omega),hpl,Nat.sub_self]
    unfold zer; rw [List.getElem?_replicate,if_pos (by omega)]
   have hlp:(P++zer (20 - i)).length=20:=by rw [List.length_append,hpl,zer,List.length_replicate]; omega
   simp -dsimp (disch:=first | assumption | omega) only [↓AyG,AyB,AyE,AyF,eq_self,Nat.reduceEqDiff,↓reduceIte,reduceCtorEq,↓AA0,ADb,hg1]
   refine A4H (.val (.int .i64 (Lib.indexByte AQv a))) ⟨(A4X AQv a).calls rfl (fun x hx=>⟨hx,rfl⟩),?_⟩
   rw [A9i a]
   simp -dsimp (disch:=first | assumption | omega) only [↓AyG,AyB,AyE,AyF,eq_self,Nat.reduceEqDiff,↓reduceIte,reduceCtorEq,ADb,hg2]
   refine (A4X AQv b).calls rfl ?_
   rintro x rfl
   rw [A9i b]
   by_cases ha:hv a<16
   ·rw [if_pos ha]
    by_cases hb:hv b<16
    ·rw [if_pos hb]
     have ho:=Bec ha hb
     simp -dsimp (disch:=first | assumption | omega) only [↓AyG,AyB,AyE,AyF,eq_self,Nat.reduceEqDiff,Nat.reducePow,↓reduceIte,Nat.reduceAdd,reduceCtorEq,ho,hget,hsf]
     refine AyW (20 - (i+1)) (by omega) (by simp) ⟨i+1,rfl,by omega,fun c hc => ?_,rfl,?_⟩
     ·rcases hmem c hc with hc | rfl | rfl
      ·exact hall c hc
      ·exact ha
      ·exact hb
     ·rw [hps,show 20 - (i+1)=20 - i - 1 from by omega]
    ·rw [if_neg hb]
     have hok:ABd s=false:=by
      cases hq:ABd s with
      | false=>rfl
      | true=>exact absurd ((AGP h40).1 hq b hm2) hb
     unfold ACt
     rw [hok,if_neg (by simp),if_neg (by simp),AUs]
     simp -dsimp (disch:=first | assumption | omega) only [↓AyG,AyB,AyE,AyF,eq_self,Nat.reduceEqDiff,↓reduceIte,reduceCtorEq,↓AA0]
     rfl
   ·rw [if_neg ha]
    have hok:ABd s=false:=by
     cases hq:ABd s with
     | false=>rfl
     | true=>exact absurd ((AGP h40).1 hq a hm1) ha
    unfold ACt
    rw [hok,if_neg (by simp),if_neg (by simp),AUs]
    simp -dsimp (disch:=first | assumption | omega) only [↓AyG,AyB,AyE,AyF,eq_self,Nat.reduceEqDiff,↓reduceIte,reduceCtorEq,↓AA0]
    rfl
  ·have hi2:i=20:=by omega
   subst hi2
   have htl:s.take (2*20)=s:=List.take_of_length_le (by omega)
   rw [htl] at hall
   have hok:ABd s=true:=(AGP h40).2 hall
   have hpl:(AAM s).length=20:=AB1 (by omega)
   unfold ACt
   rw [hok,if_pos rfl,if_pos rfl,htl]
   simp -dsimp (disch:=first | assumption | omega) only [↓AyG,AyB,AyE,AyF,eq_self,Nat.reduceLT,Nat.reduceEqDiff,Nat.reduceSub,↓reduceIte,reduceCtorEq,↓AA0]
   simp [zer]
def ANn:List UInt8→List UInt8
 | a::b::l=>UInt8.ofNat (hv a*16+hv b)::ANn l
 | [a]=>[UInt8.ofNat (hv a)]
 | []=>[]
theorem AHS:∀ {n:Nat} {s:List UInt8},s.length=2*n→ANn s=AAM s
 | 0,s,h=>by rw [List.length_eq_zero_iff.1 (by omega:s.length=0)]; rfl
 | n+1,[],h=>by simp at h
 | n+1,[a],h=>by simp at h; omega
 | n+1,a::b::s,h=>by rw [ANn,AAM,AHS (n:=n) (by simp at h; omega)]
theorem AOZ:∀ {n:Nat} {s:List UInt8} {a:UInt8},s.length=2*n→ANn (s++[a])=AAM s++[UInt8.ofNat (hv a)]
 | 0,s,a,h=>by rw [List.length_eq_zero_iff.1 (by omega:s.length=0)]; rfl
 | n+1,[],a,h=>by simp at h
 | n+1,[x],a,h=>by simp at h; omega
 | n+1,x::y::s,a,h=>by rw [List.cons_append,List.cons_append,ANn,AAM,AOZ (n:=n) (by simp at h; omega),List.cons_append]
theorem AYE {s:List UInt8} {c:UInt8} (h40:s.length=40) (hm:c∈s) (hc:¬ hv c<16):ABd s=false:=by
 cases hq:ABd s with
 | false=>rfl
 | true=>exact absurd ((AGP h40).1 hq c hm) hc
theorem A7U {c:UInt8} (h1:48≤c.toNat) (h2:c.toNat≤57):hv c=c.toNat - 48:=by unfold hv; rw [if_pos ⟨h1,h2⟩]
theorem A8c {c:UInt8} (h1:97≤c.toNat) (h2:c.toNat≤102):hv c=c.toNat - 87:=by unfold hv; rw [if_neg (by omega),if_pos ⟨h1,h2⟩]
theorem A7R {c:UInt8} (h1:¬ (48≤c.toNat∧c.toNat≤57)) (h2:¬ (97≤c.toNat∧c.toNat≤102)):hv c=16:=by unfold hv; rw [if_neg h1,if_neg h2]
theorem A1n {s:List UInt8} {i:Nat} (h40:s.length=40) (h:i<40) (hall:∀ c∈s.take i,hv c<16) {n:Nat} (hn:hv s[i]=n) (hn16:n<16) :
  ∃ old:UInt8,(ANn (s.take i)++zer (20 - (i+1) / 2))[i / 2]?=some old∧((ANn (s.take i)++zer (20 - (i+1) / 2)).map by8).set (i / 2) (.val (.int .u8 (((old.toNat*16 % 256+n) % 256:Nat):Int)))=(ANn (s.take (i+1))++zer (20 - (i+1+1) / 2)).map by8:=by
 have hsucc:=List.take_succ_eq_append_getElem (l:=s) (i:=i) (by omega)
 rcases Nat.mod_two_eq_zero_or_one i with hp | hp
 ·obtain ⟨k,rfl⟩:∃ k,i=2*k:=⟨i / 2,by omega⟩
  have hl:(s.take (2*k)).length=2*k:=by rw [List.length_take]; omega
  have hpl:(AAM (s.take (2*k))).length=k:=AB1 hl
  have e1:20 - (2*k+1) / 2=20 - k:=by omega
  have e2:2*k / 2=k:=by omega
  have e3:20 - (2*k+1+1) / 2=20 - k - 1:=by omega
  rw [AHS hl,hsucc,AOZ hl,e1,e2,e3,hn]
  refine ⟨0,?_,?_⟩
  ·rw [List.getElem?_append_right (by omega),hpl,Nat.sub_self]
   unfold zer; rw [List.getElem?_replicate,if_pos (by omega)]
  ·have hsf:=AWX (l:=AAM (s.take (2*k))) (n:=20 - k) (b:=UInt8.ofNat n) (by omega)
   rw [hpl] at hsf
   have e4:((0:UInt8).toNat*16 % 256+n) % 256=n:=by
    have:(0:UInt8).toNat=0:=rfl
    rw [this]; omega
   rw [e4,AWM (by omega),hsf]
 ·obtain ⟨k,rfl⟩:∃ k,i=2*k+1:=⟨i / 2,by omega⟩
  have hl0:(s.take (2*k)).length=2*k:=by rw [List.length_take]; omega
  have hpl0:(AAM (s.take (2*k))).length=k:=AB1 hl0
  have ht0:=List.take_succ_eq_append_getElem (l:=s) (i:=2*k) (by omega)
  have hl:(s.take (2*(k+1))).length=2*(k+1):=by rw [List.length_take]; omega
  have htw:=AW4 (s:=s) (i:=k) (by omega)
  have hm:s[2*k]∈s.take (2*k+1):=by rw [ht0]; exact List.mem_append_right _ (List.mem_singleton.2 rfl)
  have hx:=hall _ hm
  have e1:20 - (2*k+1+1) / 2=19 - k:=by omega
  have e2:(2*k+1) / 2=k:=by omega
  have e3:20 - (2*k+1+1+1) / 2=19 - k:=by omega
  have e5:s.take (2*k+1+1)=s.take (2*(k+1)):=rfl
  rw [e5,AHS hl,htw,AOy hl0,ht0,AOZ hl0,e1,e2,e3,hn]
  refine ⟨UInt8.ofNat (hv s[2*k]),?_,?_⟩
  ·rw [List.getElem?_append_left (by simp; omega),List.getElem?_append_right (by omega),hpl0,Nat.sub_self]; rfl
  ·have e4:((UInt8.ofNat (hv s[2*k])).toNat*16 % 256+n) % 256=hv s[2*k]*16+n:=by
    rw [UInt8.toNat_ofNat',Nat.mod_eq_of_lt (show hv s[2*k]<2 ^ 8 by omega)]; omega
   rw [e4,AWM (by omega),←List.map_set]
   congr 1
   rw [List.append_assoc,List.set_append_right _ _ (by omega),hpl0,Nat.sub_self,List.append_assoc]
   rfl
theorem Bee {i:Nat} (h:i≤40):AAL 3 .quo (.int .i64 (i:Int)) (.int .i64 ((2:Nat):Int))=some (.int .i64 ((i / 2:Nat):Int)):=A4R (by omega) (by omega)
theorem AUt (s:List UInt8) (hs:s.length≤1000000):Azg Tryz.prog 69 [.val (.string (str s))] (fun r=>r = .tup [.arr 20 1 ((ACt s).map by8),tb (ABd s)]):=by
 refine AyJ.toPureV (ATA (by simp) ?_)
 by_cases h40:s.length=40
 case neg =>
  have hok:ABd s=false:=by unfold ABd; rw [Bool.and_eq_false_iff]; left; simpa using h40
  unfold ACt
  rw [hok,if_neg (by simp),AUs]
  simp -dsimp (disch:=first | assumption | omega) only [↓AyG,AyB,AyE,AyF,eq_self,Nat.reduceEqDiff,↓reduceIte,reduceCtorEq,↓AAQ,ADb]
  rfl
 simp -dsimp (disch:=first | assumption | omega) only [↓AyG,AyB,AyE,AyF,eq_self,Nat.reduceEqDiff,↓reduceIte,reduceCtorEq,↓AAQ,ADb]
 refine ABj (fun q e H=>∃ i:Nat,q=40 - i∧i≤40∧(∀ c∈s.take i,hv c<16)∧e=[(0,.val (.string (str s))),(2,.op 0 0 []),(4,.op 1 0 []),(5,i64 (i:Int))] ∧
  H=[.obj 0 (.arr 20 1 ((zer 20).map by8)),.obj 0 (.arr 20 1 ((ANn (s.take i)++zer (20 - (i+1) / 2)).map by8))]) 40 ?_ ?_
 ·exact ⟨0,by simp,by simp,by simp,rfl,rfl⟩
 ·rintro q e H ⟨i,rfl,hi,hall,rfl,rfl⟩
  by_cases h:i<40
  ·have hg1:s[i]?=some s[i]:=List.getElem?_eq_getElem (by omega)
   have hsucc:=List.take_succ_eq_append_getElem (l:=s) (i:=i) (by omega)
   have hm:=List.getElem_mem (l:=s) (n:=i) (by omega)
   have hall2:hv s[i]<16→∀ c∈s.take (i+1),hv c<16:=by
    intro hx c hc
    rw [hsucc,List.mem_append,List.mem_singleton] at hc
    rcases hc with hc | rfl
    ·exact hall c hc
    ·exact hx
   have hst:=fun n=>A1n h40 h hall (n:=n)
   have hbad:=fun hc=>AYE h40 hm hc
   have hd2:=Bee (i:=i) (by omega)
   have hlt:=s[i].toNat_lt
   have hl2:i / 2<20:=by omega
   generalize s[i]=c at *
   by_cases h1:48≤c.toNat∧c.toNat≤57
   ·obtain ⟨h1,h2⟩:=h1
    have hc:=A7U h1 h2
    obtain ⟨old,g1,g2⟩:=hst _ hc (by omega)
    have hol:=old.toNat_lt
    simp -dsimp (disch:=first | assumption | omega) only [↓AyG,AyB,AyE,AyF,eq_self,Nat.reduceEqDiff,↓reduceIte,Nat.reduceAdd,reduceCtorEq,↓AAQ,ADb,hg1,ASl,hd2,A4E,ASv,g1,g2]
    exact AyW (40 - (i+1)) (by omega) (by simp) ⟨i+1,rfl,by omega,hall2 (by omega),rfl,rfl⟩
   ·by_cases h3:97≤c.toNat∧c.toNat≤102
    ·obtain ⟨h3,h4⟩:=h3
     have hc:=A8c h3 h4
     obtain ⟨old,g1,g2⟩:=hst _ hc (by omega)
     have e9:(c.toNat - 97+10) % 256=c.toNat - 87:=by omega
     simp -dsimp (disch:=first | assumption | omega) only [↓AyG,AyB,AyE,AyF,eq_self,Nat.reduceEqDiff,↓reduceIte,Nat.reduceAdd,reduceCtorEq,↓AAQ,ADb,hg1,ASl,hd2,A4E,ASv,e9,g1,g2]
     exact AyW (40 - (i+1)) (by omega) (by simp) ⟨i+1,rfl,by omega,hall2 (by omega),rfl,rfl⟩
    ·have hc:=A7R h1 h3
     have hok:=hbad (by omega)
     unfold ACt
     rw [hok,if_neg (by simp),AUs]
     rcases (by omega:c.toNat<48∨(57<c.toNat∧c.toNat<97)∨102<c.toNat) with h5 | ⟨h5,h6⟩ | h5
     ·simp -dsimp (disch:=first | assumption | omega) only [↓AyG,AyB,AyE,AyF,eq_self,Nat.reduceEqDiff,↓reduceIte,reduceCtorEq,↓AAQ,ADb,hg1]
      rfl
     ·simp -dsimp (disch:=first | assumption | omega) only [↓AyG,AyB,AyE,AyF,eq_self,Nat.reduceEqDiff,↓reduceIte,reduceCtorEq,↓AAQ,ADb,hg1]
      rfl
     ·simp -dsimp (disch:=first | assumption | omega) only [↓AyG,AyB,AyE,AyF,eq_self,Nat.reduceEqDiff,↓reduceIte,reduceCtorEq,↓AAQ,ADb,hg1]
      rfl
  ·have hi2:i=40:=by omega
   subst hi2
   have htl:s.take 40=s:=List.take_of_length_le (by omega)
   rw [htl] at hall
   have hok:ABd s=true:=(AGP h40).2 hall
   have hpl:(AAM s).length=20:=AB1 (by omega)
   unfold ACt
   rw [hok,if_pos rfl,htl,AHS (n:=20) (by omega)]
   simp -dsimp (disch:=first | assumption | omega) only [↓AyG,AyB,AyE,AyF,eq_self,Nat.reduceLT,Nat.reduceEqDiff,Nat.reduceSub,Nat.reduceDiv,↓reduceIte,Nat.reduceAdd,reduceCtorEq,↓AAQ]
   simp [zer,tb]
end
section
open Go.RowKit
variable [AyT]
def A5J (s:List UInt8):Prop:=∀ c∈s,c≠32
theorem AWV:∀ {s w r:List UInt8},A5J s→spl w (s++32::r)=(w++s)::spl [] r
 | [],w,r,_=>by rw [List.nil_append,spl,if_pos rfl,List.append_nil]
 | c::s,w,r,h=>by
  rw [List.cons_append,spl,if_neg (h c (by simp)),AWV (fun x hx=>h x (by simp [hx])),List.append_assoc]; rfl
theorem AXf:∀ {s w:List UInt8},A5J s→spl w s=[w++s]
 | [],w,_=>by rw [spl,List.append_nil]
 | c::s,w,h=>by
  rw [spl,if_neg (h c (by simp)),AXf (fun x hx=>h x (by simp [hx])),List.append_assoc]; rfl
theorem ANT {a b:List UInt8} {l:List (List UInt8)}:Lib.join (a::b::l) [32]=a++32::Lib.join (b::l) [32]:=by
 simp [Lib.join,List.intercalate]
theorem AS5 {a:List UInt8}:Lib.join [a] [32]=a:=by simp [Lib.join,List.intercalate]
theorem AWL:∀ {ws:List (List UInt8)},ws≠[]→(∀ w∈ws,A5J w)→spl [] (Lib.join ws [32])=ws
 | [],h,_=>absurd rfl h
 | [a],_,h=>by rw [AS5,AXf (h a (by simp)),List.nil_append]
 | a::b::l,_,h=>by
  rw [ANT,AWV (h a (by simp)),AWL (by simp) (fun w hw=>h w (by simp [hw])),List.nil_append]
theorem AWq (s:List UInt8):ABo (s++[10])=s:=by simp [ABo]
def AFz (ws:List (List UInt8)):List UInt8:=Lib.join ws [32]++[10]
theorem AYa {ws:List (List UInt8)} (hne:ws≠[]) (h:∀ w∈ws,A5J w):ACw (AFz ws)=ws:=by
 unfold ACw AFz
 rw [AWq,AWL hne h]
def AVB (wss:List (List (List UInt8))):List UInt8:=wss.flatMap fun ws=>Azq (AFz ws)
theorem AWQ {a b:List (List (List UInt8))}:AVB (a++b)=AVB a++AVB b:=by simp [AVB]
theorem AW6 {ws:List (List UInt8)}:AVB [ws]=Azq (AFz ws):=by simp [AVB]
theorem A0K:∀ n,n<16→dig n≠32:=by decide
theorem AZL (l:List UInt8):A5J (Azl l):=fun c hc=>by
 unfold Azl at hc
 obtain ⟨x,_,hx⟩:=List.mem_flatMap.1 hc
 have:=x.toNat_lt
 simp only [List.mem_cons,List.mem_nil_iff,or_false] at hx
 rcases hx with rfl | rfl
 ·exact A0K _ (by omega)
 ·exact A0K _ (by omega)
theorem AQe {l:List UInt8} (h:l.length=20):ABd (Azl l)=true∧AAM (Azl l)=l:=by
 have h2:∀ l:List UInt8,AAM (Azl l)=l∧∀ c∈Azl l,hv c<16:=fun l=>by
  induction l with
  | nil=>exact ⟨rfl,by simp [Azl]⟩
  | cons x l ih =>
   have hx:=x.toNat_lt
   have e:Azl (x::l)=dig (x.toNat / 16)::dig (x.toNat % 16)::Azl l:=by simp [Azl]
   rw [e]
   refine ⟨?_,fun c hc => ?_⟩
   ·rw [AAM,ih.1,AWZ _ (by omega),AWZ _ (by omega)]
    congr 1
    apply UInt8.toNat_inj.1
    rw [UInt8.toNat_ofNat']
    omega
   ·simp only [List.mem_cons] at hc
    rcases hc with rfl | rfl | hc
    ·rw [AWZ _ (by omega)]; omega
    ·rw [AWZ _ (by omega)]; omega
    ·exact ih.2 c hc
 have hl:(Azl l).length=40:=by rw [AB9]; omega
 exact ⟨(AGP hl).2 (h2 l).2,(h2 l).1⟩
end
section
open Go.RowKit
variable [AyT]
def TSt (N z:Nat) (H:List Ob) (l:List UInt8) (ok:Prop) (n:Nat):Prop:=∃ (o:TV) (m:List UInt8) (bad:Bool) (J:Option Nat),H[N]?=some (.obj 0 (.agg [o,tb bad]))∧AR7 H o m J∧J≠some z∧(bad=false↔ok)∧(ok→m=l)∧m.length≤n∧z≤N
theorem TSt.iff {N z:Nat} {H:List Ob} {l:List UInt8} {ok ok':Prop} {n:Nat} (h:TSt N z H l ok n) (e:ok↔ok'):TSt N z H l ok' n:=by
 obtain ⟨o,m,bad,J,h1,h2,h3,h4,h5,h6,h7⟩:=h
 exact ⟨o,m,bad,J,h1,h2,h3,h4.trans e,fun k=>h5 (e.2 k),h6,h7⟩
theorem TSt.le {N z:Nat} {H:List Ob} {l:List UInt8} {ok:Prop} {n n':Nat} (h:TSt N z H l ok n) (e:n≤n'):TSt N z H l ok n':=by
 obtain ⟨o,m,bad,J,h1,h2,h3,h4,h5,h6,h7⟩:=h
 exact ⟨o,m,bad,J,h1,h2,h3,h4,h5,by omega,h7⟩
theorem AR7.lt {H:List Ob} {o:TV} {l:List UInt8} {j:Nat} (h:AR7 H o l (some j)):j<H.length:=by
 obtain ⟨v,_,h⟩:=h
 exact (List.getElem?_eq_some_iff.1 h).1
theorem AR7.same {H H':List Ob} {o:TV} {l:List UInt8} {J:Option Nat} (h:AR7 H o l J) (k:∀ j,J=some j→H'[j]?=H[j]?):AR7 H' o l J:=by
 cases J with
 | none=>exact h
 | some j =>
  obtain ⟨v,h1,h2⟩:=h
  exact ⟨v,h1,by rw [k j rfl]; exact h2⟩
theorem TSt.lt {N z:Nat} {H:List Ob} {l:List UInt8} {ok:Prop} {n:Nat} (h:TSt N z H l ok n):N<H.length:=by
 obtain ⟨o,m,bad,J,h1,_⟩:=h
 exact (List.getElem?_eq_some_iff.1 h1).1
theorem TSt.grow {N z:Nat} {H:List Ob} {l:List UInt8} {ok:Prop} {n:Nat} (h:TSt N z H l ok n) (T:List Ob):TSt N z (H++T) l ok n:=by
 have hl:=h.lt
 obtain ⟨o,m,bad,J,h1,h2,h3,h4,h5,h6,h7⟩:=h
 refine ⟨o,m,bad,J,by rw [List.getElem?_append_left hl]; exact h1,h2.same fun j e => ?_,h3,h4,h5,h6,h7⟩
 subst e
 exact List.getElem?_append_left h2.lt
theorem AR7.one {H:List Ob} {o:TV} {l:List UInt8} {J:Option Nat} (h:AR7 H o l J):AyL o=1∧AMp o=false∧AzF o=false:=by
 cases J with
 | none=>obtain ⟨rfl,_⟩:=h; exact ⟨rfl,rfl,rfl⟩
 | some j=>obtain ⟨v,rfl,_⟩:=h; exact ⟨rfl,rfl,rfl⟩
theorem TSt.new {N z:Nat} {H:List Ob} (h:H[N]?=some (.obj 0 (.agg [AEC,tb false]))) (hz:z≤N):TSt N z H [] True 0:=⟨AEC,[],false,none,h,⟨rfl,rfl⟩,by simp,by simp,fun _=>rfl,by simp,hz⟩
theorem A9K {N z:Nat} {H:List Ob} {l:List UInt8} {ok:Prop} {n:Nat} {b:Bool} {K:TV→List Ob→Prop} (h:TSt N z H l ok n) (hk:∀ H',TSt N z H' l (ok∧b=true) n→(∀ i,i≠N→H'[i]?=H[i]?)→H'.length=H.length→K (.tup []) H') :
  AyJ Tryz.prog 27 [.op N 0 [],tb b] H K:=by
 have hl:=h.lt
 obtain ⟨o,m,bad,J,h1,h2,h3,h4,h5,h6,h7⟩:=h
 have hJ1:J≠some N:=by rintro rfl; obtain ⟨v,_,h⟩:=h2; rw [h1] at h; cases h
 refine A8l h1 h2.one.1 (hk _ ⟨o,m,_,J,List.getElem?_set_self hl,h2.same fun j e=>List.getElem?_set_ne (fun k=>hJ1 (by rw [e,k])),h3,?_,fun k=>h5 k.1,h6,h7⟩ (fun i hi=>List.getElem?_set_ne (Ne.symm hi)) (by simp))
 cases bad<;>cases b<;>simp_all
theorem Bed {N z:Nat} {H:List Ob} {l:List UInt8} {ok:Prop} {n id ver cp:Nat} {ws:List (List UInt8)} {K:TV→List Ob→Prop} (h:TSt N z H l ok n) (hws:H[id]?=some (.obj ver (.arr ws.length 1 (ws.map ts)))) (hne:ws≠[]) (hwn:ws.length≤1000000) (hj:(Lib.join ws [32]).length≤3000000) (hn:n≤100000000000)
  (hk:∀ H',TSt N z H' (l++Azq (AFz ws)) ok (n+3000015)→(z<N→H'[z]?=H[z]?)→H.length≤H'.length→K (.tup []) H') :
  AyJ Tryz.prog 29 [.op N 0 [],.os 1 id ver [] 0 ws.length cp] H K:=by
 have hl:=h.lt
 obtain ⟨o,m,bad,J,h1,h2,h3,h4,h5,h6,h7⟩:=h
 refine BdP h1 h2 hws hne hwn hj (by omega) fun H' o' j k1 k2 k3 k4 k5=>hk H' ⟨o',_,bad,some j,k2,k1,?_,h4,fun k=>by rw [h5 k]; rfl,?_,h7⟩ (fun hz=>k3 z (by omega) (by omega) h3) k4
 ·rintro e
  rw [Option.some.inj e] at k5
  rcases k5 with e | e
  ·exact h3 e
  ·omega
 ·rw [List.length_append,AMU,List.length_append,List.length_singleton]; omega
theorem A7P {N z:Nat} {H:List Ob} {l:List UInt8} {ok:Prop} {n:Nat} {K:TV→List Ob→Prop} (h:TSt N z H l ok n) (hn:n≤100000000000)
  (hk:∀ H',TSt N z H' (l++ADX) ok (n+4)→(z<N→H'[z]?=H[z]?)→H.length≤H'.length→K (.tup []) H') :
  AyJ Tryz.prog 31 [.op N 0 []] H K:=by
 have hl:=h.lt
 obtain ⟨o,m,bad,J,h1,h2,h3,h4,h5,h6,h7⟩:=h
 refine A6Z h1 h2 (by omega) fun H' o' j k1 k2 k3 k4 k5=>hk H' ⟨o',_,bad,some j,k2,k1,?_,h4,fun k=>by rw [h5 k],?_,h7⟩ (fun hz=>k3 z (by omega) (by omega) h3) k4
 ·rintro e
  rw [Option.some.inj e] at k5
  rcases k5 with e | e
  ·exact h3 e
  ·omega
 ·rw [List.length_append]; show m.length+4≤n+4; omega
end
section
variable [AyT]
set_option maxRecDepth 100000
def AFM:AyD := .seq (.ops [po_ 4 (.mov (.c .nilFunc))] [0,1])
 (.seq (.ops [mv_ 5 0,mv_ 6 1,so_ 7 (.call 102 [.t 5,.t 6,.c (.int .i64 ((0:Nat):Int))]),mv_ 4 7] [4])
 (.ret))
def AFH:List VR:=[.tmp 4]
theorem AM2:Tryz.f76.body.bind (trC Tryz.prog Tryz.f76.ntmps)=some (er AFM):=by kernel_rfl
theorem AMI:trR Tryz.prog Tryz.f76.results.toList=some AFH:=by kernel_rfl
def ALb:=AyA AFM.eq_1
theorem ALf {K:TV→Prop} {e:Env} {H:List Ob}:res AFH e H K=res [.tmp 4] e H K:=Ayz rfl
def AFI:=(aI_ @ALb @ALf)
def ALQ:=AzJ 8 Tryz.func76 AM2 AMI rfl
def AFN:AyD := .seq (.ops [so_ 3 (.box (.t 0)),so_ 4 (.box (.t 1)),so_ 5 (.box (.t 2)),po_ 6 (.mov (.c .nilFunc))] [3,4,5])
 (.seq (.ops [po_ 7 (.mkf (.func 117) [] [.t 4,.t 3,.t 5]),mv_ 6 7] [6])
 (.ret))
def AGd:List VR:=[.tmp 6]
theorem AMF:Tryz.f102.body.bind (trC Tryz.prog Tryz.f102.ntmps)=some (er AFN):=by kernel_rfl
theorem ANy:trR Tryz.prog Tryz.f102.results.toList=some AGd:=by kernel_rfl
def ALj:=AyA AFN.eq_1
theorem AKW {K:TV→Prop} {e:Env} {H:List Ob}:res AGd e H K=res [.tmp 6] e H K:=Ayz rfl
def ANu:=(aI_ @ALj @AKW)
def AL0:=AzJ 8 Tryz.func102 AMF ANy rfl
def ABZ:AyD := .block 1 (.seq (.ops [po_ 16 (.load false 1 (.t 2)),so_ 17 (.call 118 [.t 16]),mv_ 15 17,po_ 18 (.ext 0 (.t 15)),po_ 19 (.ext 1 (.t 15)),mv_ 5 18,mv_ 6 19] [0,2,6])
 (.seq (.seq (.ops [mv_ 20 0,po_ 21 (.load false 1 (.t 2)),mv_ 22 6,po_ 23 (.slS (.t 21) none (some (.t 22))),so_ 24 (.callv (.t 20) [.t 23]),po_ 25 (.un .not (.t 24))] [0,2,6,25])
 (.cond (.t 25)
 (.ret)
 (.skip)))
 (.ops [po_ 26 (.load false 1 (.t 2)),mv_ 27 6,po_ 28 (.slS (.t 26) (some (.t 27)) none),⟨none,.s (.store 1 (.t 2) (.t 28)),none⟩] [0,2])))
def ACg:AyD := .seq (.seq (.ops [po_ 12 (.load false 1 (.t 2)),po_ 13 (.lenS (.t 12)),po_ 14 (.bin 3 .gtr (.t 13) (ci_ 0))] [0,2,14])
 (.cond (.t 14)
 (.skip)
 (.exit 0)))
 ABZ
def AB8:AyD := .ret
def AB2:AyD := .seq (.block 0 (.loop [0,2] ACg))
 AB8
def AB7:AyD := .cond (.t 11)
 AB2
 (.skip)
def AB4:AyD := .seq (.ops [po_ 34 (.load false 1 (.t 2)),mv_ 35 7,po_ 36 (.load false 1 (.t 3)),po_ 37 (.bin 3 .add (.t 35) (.t 36)),po_ 38 (.slS (.t 34) none (some (.t 37))),mv_ 8 38] [0,1,2,3,7,8])
 (.seq (.seq (.ops [mv_ 39 0,mv_ 40 8,so_ 41 (.callv (.t 39) [.t 40]),po_ 42 (.un .not (.t 41))] [0,1,2,3,7,42])
 (.cond (.t 42)
 (.ret)
 (.skip)))
 (.ops [po_ 43 (.load false 1 (.t 2)),mv_ 44 7,po_ 45 (.load false 1 (.t 1)),po_ 46 (.lenS (.t 45)),po_ 47 (.bin 3 .add (.t 44) (.t 46)),po_ 48 (.slS (.t 43) (some (.t 47)) none),⟨none,.s (.store 1 (.t 2) (.t 48)),none⟩] [0,1,2,3]))
def ACf:AyD := .seq (.seq (.ops [mv_ 32 7,po_ 33 (.bin 3 .lss (.t 32) (ci_ 0))] [0,1,2,3,7,33])
 (.cond (.t 33)
 (.exit 2)
 (.skip)))
 AB4
def ACp:AyD := .block 3 (.seq (.ops [po_ 29 (.load false 1 (.t 2)),po_ 30 (.load false 1 (.t 1)),so_ 31 (.call 99 [.t 29,.t 30]),mv_ 7 31] [0,1,2,3,7])
 ACf)
def ACj:AyD := .ops [mv_ 49 0,po_ 50 (.load false 1 (.t 2)),so_ 51 (.callv (.t 49) [.t 50])] []
def ABy:AyD := .seq (.block 2 (.loop [0,1,2,3] ACp))
 ACj
def AEj:AyD := .seq (.seq (.ops [po_ 9 (.load false 1 (.t 1)),po_ 10 (.lenS (.t 9)),po_ 11 (.bin 3 .eql (.t 10) (ci_ 0))] [0,1,2,3,11])
 AB7)
 ABy
def AEe:List VR:=[]
theorem AK0:Tryz.f117.body.bind (trC Tryz.prog Tryz.f117.ntmps)=some (er AEj):=by kernel_rfl
theorem AKV:trR Tryz.prog Tryz.f117.results.toList=some AEe:=by kernel_rfl
def AGk:=AyA ABZ.eq_1
def AGn:=AyA ACg.eq_1
def AGq:=AyA AB8.eq_1
def AGv:=AyA AB2.eq_1
def AGi:=AyA AB7.eq_1
def AGw:=AyA AB4.eq_1
def AGj:=AyA ACf.eq_1
def AGt:=AyA ACp.eq_1
def AGg:=AyA ACj.eq_1
def AFy:=AyA ABy.eq_1
def AI0:=AyA AEj.eq_1
theorem AI6 {K:TV→Prop} {e:Env} {H:List Ob}:res AEe e H K=res [] e H K:=Ayz rfl
def AzA:=(aI_ (aI_ (aI_ (aI_ @AGk @AGn) (aI_ @AGq @AGv)) (aI_ (aI_ @AGi @AGw) (aI_ @AGj @AGt))) (aI_ (aI_ @AGg @AFy) (aI_ @AI0 @AI6)))
def AKe:=AzJ 52 Tryz.func117 AK0 AKV rfl
end
section
open Go.RowKit
variable [AyT]
theorem Azg.ofBelow {f:FuncId} {args:List Value} {r:Value} (h:∀ (F:Nat→Prop) w,ADO F w→Calls Tryz.prog f args.toArray w fun e w'=>e = .returned r∧Below w.heap.size w w'):Azg Tryz.prog f (args.map .val) (fun x=>x = .val r):=by
 intro β F w vs hF hv
 have hvs:vs=args:=by
  clear h hF
  induction args generalizing vs with
  | nil=>rw [List.map_nil,Azi.nil] at hv; exact hv
  | cons a args ih =>
   rw [List.map_cons] at hv
   obtain ⟨v,us,rfl,h1,h2⟩:=Azi.cons.1 hv
   have:=Rep.val.1 (Or.inl h1:Rep _ _ _ _)
   rw [this,ih us h2]
 subst hvs
 refine (h F w hF.2).mono ?_
 rintro e w' ⟨rfl,hb⟩
 exact ⟨_,_,F,rfl,rfl,Rep.of_val,⟨hb.os,hb.tape,hb.output,hb.size,hb.block,fun _ h=>h,fun _ _ h=>h,fun b hb'=>Nat.lt_of_lt_of_le (hF.1 b hb') hb.size⟩⟩
theorem AGz {B:Nat} (w:World):Below B w w:=⟨rfl,rfl,rfl,Nat.le_refl _,fun _ _=>rfl⟩
theorem A4S (l:List UInt8):(str l).data.toList=l:=by simp [str]
theorem AGZ (s p:List UInt8) (hs:s.length≤9223372036854775807):Azg Tryz.prog 71 [ts s,ts p] (fun x=>x=tb (Lib.hasSuffix s p)):=by
 have h:=Azg.ofBelow (f:=71) (args:=[.string (str s),.string (str p)]) (r := .bool (Lib.hasSuffix s p)) (fun F w _=>by
  have h1:=Tryz.strings_HasSuffix (str s) (str p) w (by simpa [str,ByteArray.size] using hs)
  rw [A4S,A4S] at h1
  refine h1.mono ?_
  rintro e w' ⟨rfl,rfl⟩
  exact ⟨rfl,AGz _⟩)
 exact h
section
variable [Azo]
end
end
section
open Go.RowKit
variable [AyT]
def AzL (c:UInt8):List UInt8→List (List UInt8)
 | []=>[[]]
 | b::l=>if b=c then []::AzL c l else match AzL c l with
  | []=>[[b]]
  | p::ps=>(b::p)::ps
theorem AQ8 (c:UInt8):∀ l:List UInt8,(Lib.indexByte l c = -1∧c∉l∧AzL c l=[l])∨∃ k:Nat,Lib.indexByte l c=(k:Int)∧k<l.length∧l[k]?=some c∧c∉l.take k∧AzL c l=l.take k::AzL c (l.drop (k+1))
 | [] => .inl ⟨rfl,by simp,rfl⟩
 | b::l=>by
  by_cases h:b=c
  ·subst h
   refine .inr ⟨0,by simp [Lib.indexByte],by simp,rfl,by simp,by simp [AzL]⟩
  ·rcases AQ8 c l with ⟨h1,h2,h3⟩ | ⟨k,h1,h2,h3,h4,h5⟩
   ·refine .inl ⟨by simp [Lib.indexByte,h,h1],by simp [h2,Ne.symm h],by rw [AzL,if_neg h,h3]⟩
   ·refine .inr ⟨k+1,?_,by simp; omega,by simpa using h3,by simp [h4,Ne.symm h],by rw [AzL,if_neg h,h5]; simp⟩
    have:¬ ((k:Int) = -1):=by omega
    simp [Lib.indexByte,h,h1,this]
theorem AZQ (s:List UInt8) (c:UInt8):Azg Tryz.prog 99 [ts s,ts [c]] (fun x=>x=i64 (Lib.indexByte s c)):=by
 have h:=Azg.ofBelow (f:=99) (args:=[.string (str s),.string (str [c])]) (r := .int .i64 (Lib.indexByte s c)) (fun F w _=>by
  have h1:=Tryz.strings_Index_one (str s) c w
  rw [A4S] at h1
  refine h1.mono ?_
  rintro e w' ⟨rfl,rfl⟩
  exact ⟨rfl,AGz _⟩)
 exact h
theorem AYq {c:UInt8} {I:List UInt8→List Ob→Prop} {J E:List Ob→Prop} {id sp sid sv L:Nat} {r0:List UInt8} {H0:List Ob}
  (hI:∀ r H,I r H→L≤H.length∧r.length≤9223372036854775800∧H[sid]?=some (.obj 0 (ts r))∧H[sp]?=some (.obj 0 (ts [c]))∧H[sv]?=some (.obj 0 (i64 ((0:Nat):Int))))
  (hy:∀ r H k,I r H→k<r.length→AzL c r=r.take k::AzL c (r.drop (k+1))→AIt Tryz.prog id 0 [ts (r.take k)] H (fun y H'=>(y = .val (.bool true)∧H'[sid]?=some (.obj 0 (ts r))∧H'[sp]?=some (.obj 0 (ts [c]))∧I (r.drop (k+1)) (H'.set sid (.obj 0 (ts (r.drop (k+1))))))∨(y = .val (.bool false)∧J H')))
  (hend:∀ r H,I r H→AzL c r=[r]→AIt Tryz.prog id 0 [ts r] H (fun y H'=>E H'))
  (h0:I r0 H0) (hL:H0.length=L):AyJ Tryz.prog 117 [.yl id 0,.op sp 0 [],.op sid 0 [],.op sv 0 []] H0 (fun _ H'=>E H'∨J H'):=by
 refine AKe (by simp) ?_
 obtain ⟨_,_,_,q2,_⟩:=hI r0 H0 h0
 simp -dsimp (disch:=first | assumption | omega) only [↓AyG,AyB,AyE,AyF,eq_self,Nat.reduceEqDiff,↓reduceIte,Nat.reduceAdd,reduceCtorEq,↓AzA,q2,AyX]
 refine ABj (fun m e H=>∃ r,m=r.length∧e=[(0,.yl id 0),(1,.op sp 0 []),(2,.op sid 0 []),(3,.op sv 0 [])]∧I r H) r0.length ?_ ?_
 ·exact ⟨r0,rfl,rfl,h0⟩
 ·rintro n e H ⟨r,rfl,rfl,hr⟩
  obtain ⟨h1,h2,h3,h4,h5⟩:=hI r H hr
  simp -dsimp (disch:=first | assumption | omega) only [↓AyG,AyB,AyE,AyF,eq_self,Nat.reduceEqDiff,↓reduceIte,reduceCtorEq,↓AzA,h3,h4]
  refine (AZQ r c).calls rfl ?_
  rintro _ rfl
  rcases AQ8 c r with ⟨k1,k2,k3⟩ | ⟨k,k1,k2,k3,k4,k5⟩
  ·rw [k1]
   simp -dsimp (disch:=first | assumption | omega) only [↓AyG,AyB,AyE,AyF,eq_self,Nat.reduceEqDiff,↓reduceIte,reduceCtorEq,↓AzA,h3]
   refine AIt.mono (hend r H hr k3) ?_
   rintro y H' hE
   simp -dsimp (disch:=first | assumption | omega) only [↓AyG,AyB,AyE,↓AzA]
   exact .inl hE
  ·rw [k1]
   simp -dsimp (disch:=first | assumption | omega) only [↓AyG,AyB,AyE,AyF,eq_self,Nat.reduceEqDiff,↓reduceIte,reduceCtorEq,↓AzA,h3,h5,AyX]
   refine AIt.mono (hy r H k hr k2 k5) ?_
   rintro y H' (⟨rfl,g1,g2,g3⟩ | ⟨rfl,hJ⟩)
   ·simp -dsimp (disch:=first | assumption | omega) only [↓AyG,AyB,AyE,AyF,eq_self,Nat.reduceEqDiff,↓reduceIte,reduceCtorEq,g1,g2,AyX]
    exact AyW (r.length - (k+1)) (by omega) (by rw [hL]; exact (hI _ _ g3).1) ⟨r.drop (k+1),by simp,rfl,g3⟩
   ·simp -dsimp (disch:=first | assumption | omega) only [↓AyG,AyB,AyE,AyF,eq_self,Nat.reduceEqDiff,↓reduceIte,reduceCtorEq,↓AzA]
    exact .inr hJ
end
section
open Go.RowKit
variable [AyT]
theorem A5n (l:List UInt8):(str l).size=l.length:=by show l.toArray.size=_; simp
theorem A6Y (l:List UInt8) (k:Nat) (c:UInt8) (hk:l[k]?=some c) (hc:c.toNat<128):(Utf8.decode (str l) k).1=c.toNat∧(Utf8.decode (str l) k).2=1:=by
 obtain ⟨hl,rfl⟩:=List.getElem?_eq_some_iff.1 hk
 have h:k<(str l).size:=by rw [A5n]; exact hl
 have e:((str l)[k]'h)=l[k]:=rfl
 have:=decode_ascii (str l) k h (by rw [e]; exact hc)
 rw [this,e]; exact ⟨rfl,rfl⟩
end
section
open Go.RowKit
variable [AyT]
theorem A2S (l:List UInt8) (k:Nat) (c:UInt8) (hk:l[k]?=some c) (hc:128≤c.toNat):128≤(Utf8.decode (str l) k).1∧(Utf8.decode (str l) k).1≤1114111∧1≤(Utf8.decode (str l) k).2:=by
 obtain ⟨hl,rfl⟩:=List.getElem?_eq_some_iff.1 hk
 have h:k<(str l).size:=by rw [A5n]; exact hl
 have e:((str l)[k]'h)=l[k]:=rfl
 obtain ⟨h1,h2⟩:=decode_high (str l) k h (by rw [e]; exact hc)
 exact ⟨h1,Lib.rune_le _ _,h2⟩
end
section
open Go.RowKit
variable [AyT]
theorem AVU {c:UInt8} {l:List UInt8} (h:c∉l):AzL c l=[l]:=by
 induction l with
 | nil=>rfl
 | cons b l ih=>rw [AzL,if_neg (fun e=>h (by simp [e])),ih (fun e=>h (by simp [e]))]
theorem AWn {c:UInt8} {l:List UInt8} {k:Nat} (h:l[k]?=some c) (hn:c∉l.take k):AzL c l=l.take k::AzL c (l.drop (k+1)):=by
 induction l generalizing k with
 | nil=>simp at h
 | cons b l ih =>
  cases k with
  | zero=>simp at h; simp [AzL,h]
  | succ k =>
   rw [List.getElem?_cons_succ] at h
   rw [List.take_succ_cons] at hn
   rw [AzL,if_neg (fun e=>hn (by simp [e])),ih h (fun e=>hn (by simp [e]))]; rfl
theorem A09 (s:List UInt8) (c:UInt8) (H:List Ob):AyJ Tryz.prog 76 [ts s,ts [c]] H (fun x H'=>x = .fn (.func 117) [] [.op (H.length+1) 0 [],.op H.length 0 [],.op (H.length+2) 0 []]∧H'=H++[.obj 0 (ts s),.obj 0 (ts [c]),.obj 0 (i64 ((0:Nat):Int))]):=by
 refine ALQ (by simp) ?_
 simp -dsimp (disch:=first | assumption | omega) only [↓AyG,AyB,AyE,AyF,eq_self,Nat.reduceEqDiff,↓reduceIte,Nat.reduceAdd,reduceCtorEq,↓AFI]
 refine AL0 (by simp) ?_
 simp -dsimp (disch:=first | assumption | omega) only [↓AyG,AyB,AyE,AyF,eq_self,Nat.reduceEqDiff,↓reduceIte,Nat.reduceAdd,reduceCtorEq,↓ANu,↓AFI,List.append_assoc]
end
section
open Go.RowKit
variable [AyT]
section
omit [AyT]
def A1x (a b:UInt8) (s:List UInt8):Prop:=∃ j:Nat,s[j]?=some a∧s[j+1]?=some b
theorem A1p {a b c:UInt8} {s:List UInt8}:A1x a b (c::s)↔(c=a∧s[0]?=some b)∨A1x a b s:=by
 constructor
 ·rintro ⟨j,h1,h2⟩
  cases j with
  | zero=>simp at h1 h2; exact .inl ⟨h1,by simpa using h2⟩
  | succ j=>exact .inr ⟨j,by simpa using h1,by simpa using h2⟩
 ·rintro (⟨rfl,h⟩ | ⟨j,h1,h2⟩)
  ·exact ⟨0,rfl,by simpa using h⟩
  ·exact ⟨j+1,by simpa using h1,by simpa using h2⟩
theorem AUg (a b:UInt8):∀ s:List UInt8,0≤Lib.index s [a,b]↔A1x a b s
 | []=>by simp [Lib.index,A1x]
 | c::l=>by
  have ih:=AUg a b l
  have hg:=Lib.index_ge l [a,b]
  rw [A1p,←ih,Lib.index]
  have hp:([a,b].isPrefixOf (c::l))=true↔(c=a∧l[0]?=some b):=by
   cases l with
   | nil=>simp [List.isPrefixOf]
   | cons d l=>simp only [List.isPrefixOf,Bool.and_true,Bool.and_eq_true,beq_iff_eq,List.getElem?_cons_zero,Option.some.injEq]; exact ⟨fun h=>⟨h.1.symm,h.2.symm⟩,fun h=>⟨h.1.symm,h.2.symm⟩⟩
  by_cases h:([a,b].isPrefixOf (c::l))=true
  ·rw [if_pos h]; exact ⟨fun _ => .inl (hp.1 h),fun _=>Int.le_refl 0⟩
  ·rw [if_neg h]
   have h':¬ (c=a∧l[0]?=some b):=fun k=>h (hp.2 k)
   simp only [h',false_or]
   by_cases h2:(Lib.index l [a,b] == -1)=true
   ·rw [if_pos h2]
    have h3:Lib.index l [a,b] = -1:=by simpa using h2
    rw [h3]
   ·rw [if_neg h2]
    have h3:Lib.index l [a,b] ≠ -1:=fun e=>h2 (by rw [e]; rfl)
    omega
theorem AFZ (a b:UInt8) (s:List UInt8):Lib.contains s [a,b]=true↔A1x a b s:=by
 unfold Lib.contains; rw [decide_eq_true_eq]; exact AUg a b s
def ALe (c:UInt8):Bool:=decide (33≤c.toNat∧c.toNat≤126∧c∉[(126:UInt8),94,58,63,42,91,92])
def Az6 (p:List UInt8):Bool:=decide (p≠[]∧p[0]?≠some 46∧¬ (5≤p.length∧p.drop (p.length - 5)=[46,108,111,99,107]))
def AVD (s:List UInt8):Prop:=s=[72,69,65,68]∨(s.length≤60∧s.take 5=[114,101,102,115,47]∧s[s.length - 1]?≠some 46∧¬ A1x 46 46 s∧¬ A1x 64 123 s∧(∀ c∈s,ALe c=true)∧(AzL 47 s).all Az6=true)
theorem AQu (p:List UInt8):Lib.hasSuffix p [46,108,111,99,107]=true↔(5≤p.length∧p.drop (p.length - 5)=[46,108,111,99,107]):=by
 unfold Lib.hasSuffix
 rw [List.isSuffixOf_iff_suffix]
 constructor
 ·rintro ⟨t,rfl⟩
  simp
 ·rintro ⟨h1,h2⟩
  exact ⟨p.take (p.length - 5),by rw [←h2]; exact List.take_append_drop _ _⟩
theorem ASE (p:List UInt8) (c:UInt8):Lib.hasSuffix p [c]=true↔p[p.length - 1]?=some c:=by
 unfold Lib.hasSuffix
 rw [List.isSuffixOf_iff_suffix]
 constructor
 ·rintro ⟨t,rfl⟩
  simp
 ·intro h
  obtain ⟨hl,rfl⟩:=List.getElem?_eq_some_iff.1 h
  refine ⟨p.take (p.length - 1),?_⟩
  have e:p≠[]:=by intro e; subst e; simp at hl
  have h2:p.drop (p.length - 1)=[p[p.length - 1]]:=by
   rw [List.drop_eq_getElem_cons hl,List.drop_eq_nil_of_le (by omega)]
  rw [←h2]; exact List.take_append_drop _ _
theorem AQB (p:List UInt8):Lib.hasPrefix p [114,101,102,115,47]=true↔p.take 5=[114,101,102,115,47]:=by
 unfold Lib.hasPrefix
 rw [List.isPrefixOf_iff_prefix,List.prefix_iff_eq_take]
 exact eq_comm
theorem A2f {s:List UInt8} (h:s.length<6):¬ ((s.take 5=[114,101,102,115,47])∧(AzL 47 s).all Az6=true):=by
 rintro ⟨h1,h2⟩
 rw [List.take_of_length_le (by omega)] at h1
 subst h1
 revert h2
 decide
end
end
section
open Go.RowKit
variable [AyT]
theorem AVe {s:List UInt8} (h:AVD s):s.length≤60∧A5J s:=by
 rcases h with rfl | h
 ·exact ⟨by decide,fun c hc=>by simp at hc; rcases hc with rfl | rfl | rfl | rfl<;>decide⟩
 ·refine ⟨h.1,fun c hc e => ?_⟩
  have:=h.2.2.2.2.2.1 c hc
  subst e
  revert this; decide
abbrev BdV:=List UInt8×List UInt8
structure Beg where
 head:List UInt8
 refs:List BdV
end
section
variable [AyT]
set_option maxRecDepth 100000
def AIN:AyD := .ops [mv_ 3 30] [2,3]
def AIC:AyD := .block 1 (.seq (.ops [mv_ 31 3,po_ 32 (.bin 9 .eql (.t 31) (.c (.string (str [])))),mv_ 33 32,⟨some 34,.p (.mov (.t 3)),some ⟨33,false⟩⟩,⟨some 35,.p (.idxS (.t 34) (ci_ 0)),some ⟨33,false⟩⟩,⟨some 36,.p (.bin 5 .eql (.t 35) (.c (.int .u8 ((46:Nat):Int)))),some ⟨33,false⟩⟩,po_ 37 (.pick (.t 33) (.c (.bool true)) (.t 36)),mv_ 38 37,⟨some 39,.p (.mov (.t 3)),some ⟨38,false⟩⟩,⟨some 40,.s (.call 71 [.t 39,.c (.string (str [46,108,111,99,107]))]),some ⟨38,false⟩⟩,po_ 41 (.pick (.t 38) (.c (.bool true)) (.t 40))] [2,41])
 (.cond (.t 41)
 (.seq (.ops [⟨none,.s (.store 1 (.t 2) (.c (.bool false))),none⟩] [])
  (.ret))
 (.skip)))
def AIr:AyD := .block 0 (.rfunc (.t 29) [30] AIN AIC)
def AH9:AyD := .seq (.ops [⟨none,.s (.store 1 (.t 2) (.c (.bool true))),none⟩] [2])
 (.ret)
def AIA:AyD := .seq (.seq (.ops [mv_ 28 0,so_ 29 (.call 76 [.t 28,.c (.string (str [47]))])] [2,29])
 AIr)
 AH9
def AIl:AyD := .seq (.seq (.ops [mv_ 26 0,so_ 27 (.call 73 [.t 26,.c (.func (.func 74) #[] #[])])] [0,2,27])
 (.cond (.t 27)
 (.seq (.ops [⟨none,.s (.store 1 (.t 2) (.c (.bool false))),none⟩] [2])
  (.ret))
 (.skip)))
 AIA
def AIE:AyD := .seq (.seq (.ops [mv_ 6 0,po_ 7 (.lenS (.t 6)),po_ 8 (.bin 3 .gtr (.t 7) (ci_ 60)),mv_ 9 8,⟨some 10,.p (.mov (.t 0)),some ⟨9,false⟩⟩,⟨some 11,.s (.call 70 [.t 10,.c (.string (str [114,101,102,115,47]))]),some ⟨9,false⟩⟩,⟨some 12,.p (.un .not (.t 11)),some ⟨9,false⟩⟩,po_ 13 (.pick (.t 9) (.c (.bool true)) (.t 12)),mv_ 14 13,⟨some 15,.p (.mov (.t 0)),some ⟨14,false⟩⟩,⟨some 16,.s (.call 71 [.t 15,.c (.string (str [46]))]),some ⟨14,false⟩⟩,po_ 17 (.pick (.t 14) (.c (.bool true)) (.t 16)),mv_ 18 17,⟨some 19,.p (.mov (.t 0)),some ⟨18,false⟩⟩,⟨some 20,.s (.call 72 [.t 19,.c (.string (str [46,46]))]),some ⟨18,false⟩⟩,po_ 21 (.pick (.t 18) (.c (.bool true)) (.t 20)),mv_ 22 21,⟨some 23,.p (.mov (.t 0)),some ⟨22,false⟩⟩,⟨some 24,.s (.call 72 [.t 23,.c (.string (str [64,123]))]),some ⟨22,false⟩⟩,po_ 25 (.pick (.t 22) (.c (.bool true)) (.t 24))] [0,2,25])
 (.cond (.t 25)
 (.seq (.ops [⟨none,.s (.store 1 (.t 2) (.c (.bool false))),none⟩] [2])
  (.ret))
 (.skip)))
 AIl
def AIB:AyD := .seq (.seq (.ops [mv_ 4 0,po_ 5 (.bin 9 .eql (.t 4) (.c (.string (str [72,69,65,68]))))] [0,2,5])
 (.cond (.t 5)
 (.seq (.ops [⟨none,.s (.store 1 (.t 2) (.c (.bool true))),none⟩] [2])
  (.ret))
 (.skip)))
 AIE
def ANs:AyD := .seq (.ops [so_ 2 (.alloc (.val (.bool false)))] [0,2])
 AIB
def ANG:List VR:=[.cell 2 false 1]
theorem ATo:Tryz.f40.body.bind (trC Tryz.prog Tryz.f40.ntmps)=some (er ANs):=by kernel_rfl
theorem ATZ:trR Tryz.prog Tryz.f40.results.toList=some ANG:=by kernel_rfl
def ANR:=AyA AIN.eq_1
def AM7:=AyA AIC.eq_1
def ANV:=AyA AIr.eq_1
def AMS:=AyA AH9.eq_1
def AMJ:=AyA AIA.eq_1
def AME:=AyA AIl.eq_1
def AMK:=AyA AIE.eq_1
def AM1:=AyA AIB.eq_1
def AQl:=AyA ANs.eq_1
theorem ARi {K:TV→Prop} {e:Env} {H:List Ob}:res ANG e H K=res [.cell 2 false 1] e H K:=Ayz rfl
def AyR:=(aI_ (aI_ (aI_ (aI_ @ANR @AM7) (aI_ @ANV @AMS)) (aI_ (aI_ @AMJ @AME) (aI_ @AMK @AM1))) (aI_ @AQl @ARi))
def ARZ:=AzJ 42 Tryz.func40 ATo ATZ rfl
def AJX:AyD := .seq (.ops [po_ 2 (.mov (.c (.bool false)))] [0])
 (.seq (.ops [mv_ 3 0,po_ 4 (.bin 21 .lss (.t 3) (.c (.int .i32 ((33:Nat):Int)))),mv_ 5 4,⟨some 6,.p (.mov (.t 0)),some ⟨5,false⟩⟩,⟨some 7,.p (.bin 21 .gtr (.t 6) (.c (.int .i32 ((126:Nat):Int)))),some ⟨5,false⟩⟩,po_ 8 (.pick (.t 5) (.c (.bool true)) (.t 7)),mv_ 9 8,⟨some 10,.p (.mov (.t 0)),some ⟨9,false⟩⟩,⟨some 11,.s (.call 75 [.c (.string (str [126,94,58,63,42,91,92])),.t 10]),some ⟨9,false⟩⟩,po_ 12 (.pick (.t 9) (.c (.bool true)) (.t 11)),mv_ 2 12] [2])
 (.ret))
def AKg:List VR:=[.tmp 2]
theorem AQN:Tryz.f74.body.bind (trC Tryz.prog Tryz.f74.ntmps)=some (er AJX):=by kernel_rfl
theorem AQD:trR Tryz.prog Tryz.f74.results.toList=some AKg:=by kernel_rfl
def AOW:=AyA AJX.eq_1
theorem AOO {K:TV→Prop} {e:Env} {H:List Ob}:res AKg e H K=res [.tmp 2] e H K:=Ayz rfl
def ACb:=(aI_ @AOW @AOO)
def APH:=AzJ 13 Tryz.func74 AQN AQD rfl
def AH5:AyD := .seq (.seq (.ops [mv_ 47 6,po_ 48 (.bin 3 .eql (.t 47) (ci_ 0)),mv_ 49 48,⟨some 50,.p (.mov (.t 0)),some ⟨49,false⟩⟩,⟨some 51,.p (.mov (.t 4)),some ⟨49,false⟩⟩,⟨some 52,.p (.idxS (.t 50) (.t 51)),some ⟨49,false⟩⟩,⟨some 53,.p (.bin 5 .eql (.t 52) (.c (.int .u8 ((46:Nat):Int)))),some ⟨49,false⟩⟩,po_ 54 (.pick (.t 49) (.c (.bool true)) (.t 53)),mv_ 55 54,⟨some 56,.p (.mov (.t 6)),some ⟨55,false⟩⟩,⟨some 57,.p (.bin 3 .geq (.t 56) (ci_ 5)),some ⟨55,false⟩⟩,⟨some 58,.p (.mov (.t 57)),some ⟨55,false⟩⟩,⟨some 59,.p (.mov (.t 0)),some ⟨58,true⟩⟩,⟨some 60,.p (.mov (.t 5)),some ⟨58,true⟩⟩,⟨some 61,.p (.bin 3 .sub (.t 60) (ci_ 5)),some ⟨58,true⟩⟩,⟨some 62,.p (.mov (.t 5)),some ⟨58,true⟩⟩,⟨some 63,.p (.slS (.t 59) (some (.t 61)) (some (.t 62))),some ⟨58,true⟩⟩,⟨some 64,.p (.bin 9 .eql (.t 63) (.c (.string (str [46,108,111,99,107])))),some ⟨58,true⟩⟩,⟨some 65,.p (.pick (.t 58) (.t 64) (.c (.bool false))),some ⟨55,false⟩⟩,po_ 66 (.pick (.t 55) (.c (.bool true)) (.t 65))] [0,3,5,66])
 (.cond (.t 66)
 (.seq (.ops [po_ 2 (.mov (.c (.bool false)))] [2])
  (.ret))
 (.skip)))
 (.seq (.ops [mv_ 67 5,po_ 68 (.bin 3 .add (.t 67) (ci_ 1)),mv_ 4 68] [0,3,4,5])
 (.exit 1))
def AIm:AyD := .seq (.ops [mv_ 44 5,mv_ 45 4,po_ 46 (.bin 3 .sub (.t 44) (.t 45)),mv_ 6 46] [0,3,4,5,6])
 AH5
def AIx:AyD := .cond (.t 43)
 AIm
 (.skip)
def AIg:AyD := .seq (.ops [mv_ 106 5,po_ 107 (.bin 3 .gtr (.t 106) (ci_ 0)),mv_ 108 107,⟨some 109,.p (.mov (.t 7)),some ⟨108,true⟩⟩,⟨some 110,.p (.bin 5 .eql (.t 109) (.c (.int .u8 ((46:Nat):Int)))),some ⟨108,true⟩⟩,⟨some 111,.p (.mov (.t 110)),some ⟨108,true⟩⟩,⟨some 112,.p (.mov (.t 0)),some ⟨111,true⟩⟩,⟨some 113,.p (.mov (.t 5)),some ⟨111,true⟩⟩,⟨some 114,.p (.bin 3 .sub (.t 113) (ci_ 1)),some ⟨111,true⟩⟩,⟨some 115,.p (.idxS (.t 112) (.t 114)),some ⟨111,true⟩⟩,⟨some 116,.p (.bin 5 .eql (.t 115) (.c (.int .u8 ((46:Nat):Int)))),some ⟨111,true⟩⟩,⟨some 117,.p (.pick (.t 111) (.t 116) (.c (.bool false))),some ⟨108,true⟩⟩,⟨some 118,.p (.mov (.t 117)),some ⟨108,true⟩⟩,⟨some 119,.p (.mov (.t 7)),some ⟨118,false⟩⟩,⟨some 120,.p (.bin 5 .eql (.t 119) (.c (.int .u8 ((123:Nat):Int)))),some ⟨118,false⟩⟩,⟨some 121,.p (.mov (.t 120)),some ⟨118,false⟩⟩,⟨some 122,.p (.mov (.t 0)),some ⟨121,true⟩⟩,⟨some 123,.p (.mov (.t 5)),some ⟨121,true⟩⟩,⟨some 124,.p (.bin 3 .sub (.t 123) (ci_ 1)),some ⟨121,true⟩⟩,⟨some 125,.p (.idxS (.t 122) (.t 124)),some ⟨121,true⟩⟩,⟨some 126,.p (.bin 5 .eql (.t 125) (.c (.int .u8 ((64:Nat):Int)))),some ⟨121,true⟩⟩,⟨some 127,.p (.pick (.t 121) (.t 126) (.c (.bool false))),some ⟨118,false⟩⟩,⟨some 128,.p (.pick (.t 118) (.c (.bool true)) (.t 127)),some ⟨108,true⟩⟩,po_ 129 (.pick (.t 108) (.t 128) (.c (.bool false)))] [0,3,4,5,129])
 (.cond (.t 129)
 (.seq (.ops [po_ 2 (.mov (.c (.bool false)))] [2])
  (.ret))
 (.skip))
def AIz:AyD := .seq (.seq (.ops [mv_ 72 7,po_ 73 (.bin 5 .lss (.t 72) (.c (.int .u8 ((33:Nat):Int)))),mv_ 74 73,⟨some 75,.p (.mov (.t 7)),some ⟨74,false⟩⟩,⟨some 76,.p (.bin 5 .gtr (.t 75) (.c (.int .u8 ((126:Nat):Int)))),some ⟨74,false⟩⟩,po_ 77 (.pick (.t 74) (.c (.bool true)) (.t 76)),mv_ 78 77,⟨some 79,.p (.mov (.t 7)),some ⟨78,false⟩⟩,⟨some 80,.p (.bin 5 .eql (.t 79) (.c (.int .u8 ((126:Nat):Int)))),some ⟨78,false⟩⟩,po_ 81 (.pick (.t 78) (.c (.bool true)) (.t 80)),mv_ 82 81,⟨some 83,.p (.mov (.t 7)),some ⟨82,false⟩⟩,⟨some 84,.p (.bin 5 .eql (.t 83) (.c (.int .u8 ((94:Nat):Int)))),some ⟨82,false⟩⟩,po_ 85 (.pick (.t 82) (.c (.bool true)) (.t 84)),mv_ 86 85,⟨some 87,.p (.mov (.t 7)),some ⟨86,false⟩⟩,⟨some 88,.p (.bin 5 .eql (.t 87) (.c (.int .u8 ((58:Nat):Int)))),some ⟨86,false⟩⟩,po_ 89 (.pick (.t 86) (.c (.bool true)) (.t 88)),mv_ 90 89,⟨some 91,.p (.mov (.t 7)),some ⟨90,false⟩⟩,⟨some 92,.p (.bin 5 .eql (.t 91) (.c (.int .u8 ((63:Nat):Int)))),some ⟨90,false⟩⟩,po_ 93 (.pick (.t 90) (.c (.bool true)) (.t 92)),mv_ 94 93,⟨some 95,.p (.mov (.t 7)),some ⟨94,false⟩⟩,⟨some 96,.p (.bin 5 .eql (.t 95) (.c (.int .u8 ((42:Nat):Int)))),some ⟨94,false⟩⟩,po_ 97 (.pick (.t 94) (.c (.bool true)) (.t 96)),mv_ 98 97,⟨some 99,.p (.mov (.t 7)),some ⟨98,false⟩⟩,⟨some 100,.p (.bin 5 .eql (.t 99) (.c (.int .u8 ((91:Nat):Int)))),some ⟨98,false⟩⟩,po_ 101 (.pick (.t 98) (.c (.bool true)) (.t 100)),mv_ 102 101,⟨some 103,.p (.mov (.t 7)),some ⟨102,false⟩⟩,⟨some 104,.p (.bin 5 .eql (.t 103) (.c (.int .u8 ((92:Nat):Int)))),some ⟨102,false⟩⟩,po_ 105 (.pick (.t 102) (.c (.bool true)) (.t 104))] [0,3,4,5,7,105])
 (.cond (.t 105)
 (.seq (.ops [po_ 2 (.mov (.c (.bool false)))] [2])
  (.ret))
 (.skip)))
 AIg
def AIP:AyD := .seq (.ops [mv_ 69 0,mv_ 70 5,po_ 71 (.idxS (.t 69) (.t 70)),mv_ 7 71] [0,3,4,5,7])
 AIz
def AIQ:AyD := .seq (.block 1 (.seq (.seq (.ops [mv_ 35 5,mv_ 36 3,po_ 37 (.bin 3 .eql (.t 35) (.t 36)),mv_ 38 37,⟨some 39,.p (.mov (.t 0)),some ⟨38,false⟩⟩,⟨some 40,.p (.mov (.t 5)),some ⟨38,false⟩⟩,⟨some 41,.p (.idxS (.t 39) (.t 40)),some ⟨38,false⟩⟩,⟨some 42,.p (.bin 5 .eql (.t 41) (.c (.int .u8 ((47:Nat):Int)))),some ⟨38,false⟩⟩,po_ 43 (.pick (.t 38) (.c (.bool true)) (.t 42))] [0,3,4,5,43])
 AIx)
 AIP))
 (.ops [mv_ 33 5,po_ 34 (.bin 3 .add (.t 33) (ci_ 1)),mv_ 5 34] [0,3,4,5])
def AIa:AyD := .seq (.seq (.ops [mv_ 30 5,mv_ 31 3,po_ 32 (.bin 3 .leq (.t 30) (.t 31))] [0,3,4,5,32])
 (.cond (.t 32)
 (.skip)
 (.exit 0)))
 AIQ
def AID:AyD := .block 0 (.loop [0,3,4,5] AIa)
def AHq:AyD := .seq (.ops [po_ 2 (.mov (.c (.bool true)))] [2])
 (.ret)
def AGX:AyD := .seq (.seq (.ops [po_ 5 (.mov (ci_ 0))] [0,3,4,5])
 AID)
 AHq
def AGU:AyD := .seq (.ops [po_ 4 (.mov (ci_ 0))] [0,3,4])
 AGX
def AG1:AyD := .seq (.seq (.ops [mv_ 12 3,po_ 13 (.bin 3 .gtr (.t 12) (ci_ 60)),mv_ 14 13,⟨some 15,.p (.mov (.t 3)),some ⟨14,false⟩⟩,⟨some 16,.p (.bin 3 .lss (.t 15) (ci_ 6)),some ⟨14,false⟩⟩,po_ 17 (.pick (.t 14) (.c (.bool true)) (.t 16)),mv_ 18 17,⟨some 19,.p (.mov (.t 0)),some ⟨18,false⟩⟩,⟨some 20,.p (.slS (.t 19) none (some (ci_ 5))),some ⟨18,false⟩⟩,⟨some 21,.p (.bin 9 .neq (.t 20) (.c (.string (str [114,101,102,115,47])))),some ⟨18,false⟩⟩,po_ 22 (.pick (.t 18) (.c (.bool true)) (.t 21)),mv_ 23 22,⟨some 24,.p (.mov (.t 0)),some ⟨23,false⟩⟩,⟨some 25,.p (.mov (.t 3)),some ⟨23,false⟩⟩,⟨some 26,.p (.bin 3 .sub (.t 25) (ci_ 1)),some ⟨23,false⟩⟩,⟨some 27,.p (.idxS (.t 24) (.t 26)),some ⟨23,false⟩⟩,⟨some 28,.p (.bin 5 .eql (.t 27) (.c (.int .u8 ((46:Nat):Int)))),some ⟨23,false⟩⟩,po_ 29 (.pick (.t 23) (.c (.bool true)) (.t 28))] [0,3,29])
 (.cond (.t 29)
 (.seq (.ops [po_ 2 (.mov (.c (.bool false)))] [2])
  (.ret))
 (.skip)))
 AGU
def AHo:AyD := .seq (.ops [mv_ 10 0,po_ 11 (.lenS (.t 10)),mv_ 3 11] [0,3])
 AG1
def AG0:AyD := .seq (.seq (.ops [mv_ 8 0,po_ 9 (.bin 9 .eql (.t 8) (.c (.string (str [72,69,65,68]))))] [0,9])
 (.cond (.t 9)
 (.seq (.ops [po_ 2 (.mov (.c (.bool true)))] [2])
  (.ret))
 (.skip)))
 AHo
def AMX:AyD := .seq (.ops [po_ 2 (.mov (.c (.bool false)))] [0])
 AG0
def ANr:List VR:=[.tmp 2]
theorem ASZ:Tryz.f41.body.bind (trC Tryz.prog Tryz.f41.ntmps)=some (er AMX):=by kernel_rfl
theorem ATK:trR Tryz.prog Tryz.f41.results.toList=some ANr:=by kernel_rfl
def AM9:=AyA AH5.eq_1
def AM0:=AyA AIm.eq_1
def AMN:=AyA AIx.eq_1
def ANF:=AyA AIg.eq_1
def AM8:=AyA AIz.eq_1
def ANg:=AyA AIP.eq_1
def ANE:=AyA AIQ.eq_1
def AMM:=AyA AIa.eq_1
def AM6:=AyA AID.eq_1
def AMo:=AyA AHq.eq_1
def AL3:=AyA AGX.eq_1
def ALR:=AyA AGU.eq_1
def AMe:=AyA AG1.eq_1
def ALW:=AyA AHo.eq_1
def AMl:=AyA AG0.eq_1
def ARd:=AyA AMX.eq_1
theorem AQ5 {K:TV→Prop} {e:Env} {H:List Ob}:res ANr e H K=res [.tmp 2] e H K:=Ayz rfl
def AyN:=(aI_ (aI_ (aI_ (aI_ (aI_ @AM9 @AM0) (aI_ @AMN @ANF)) (aI_ (aI_ @AM8 @ANg) (aI_ @ANE @AMM))) (aI_ (aI_ (aI_ @AM6 @AMo) (aI_ @AL3 @ALR)) (aI_ (aI_ @AMe @ALW) (aI_ @AMl @ARd)))) @AQ5)
def ARv:=AzJ 130 Tryz.func41 ASZ ATK rfl
def ACM:AyD := .seq (.ops [po_ 4 (.mov (.c (.bool false)))] [0,1])
 (.seq (.ops [mv_ 5 0,mv_ 6 1,so_ 7 (.call 100 [.t 5,.t 6]),po_ 8 (.bin 3 .geq (.t 7) (ci_ 0)),mv_ 4 8] [4])
 (.ret))
def ACG:List VR:=[.tmp 4]
theorem AI2:Tryz.f73.body.bind (trC Tryz.prog Tryz.f73.ntmps)=some (er ACM):=by kernel_rfl
theorem AIU:trR Tryz.prog Tryz.f73.results.toList=some ACG:=by kernel_rfl
def AGL:=AyA ACM.eq_1
theorem AHi {K:TV→Prop} {e:Env} {H:List Ob}:res ACG e H K=res [.tmp 4] e H K:=Ayz rfl
def ACK:=(aI_ @AGL @AHi)
def AHP:=AzJ 9 Tryz.func73 AI2 AIU rfl
def AFc:AyD := .seq (.ops [po_ 4 (.mov (ci_ 0))] [0,1])
 (.seq (.ops [mv_ 5 0,mv_ 6 1,so_ 7 (.call 113 [.t 5,.t 6,.c (.bool true)]),mv_ 4 7] [4])
 (.ret))
def AE7:List VR:=[.tmp 4]
theorem AMg:Tryz.f100.body.bind (trC Tryz.prog Tryz.f100.ntmps)=some (er AFc):=by kernel_rfl
theorem AL2:trR Tryz.prog Tryz.f100.results.toList=some AE7:=by kernel_rfl
def AJY:=AyA AFc.eq_1
theorem AKj {K:TV→Prop} {e:Env} {H:List Ob}:res AE7 e H K=res [.tmp 4] e H K:=Ayz rfl
def AFr:=(aI_ @AJY @AKj)
def AKR:=AzJ 8 Tryz.func100 AMg AL2 rfl
def ACH:AyD := .seq (.ops [so_ 11 (.nxtS (.t 10)),po_ 12 (.ext 0 (.t 11))] [1,2,10,11,12])
 (.seq (.cond (.t 12)
 (.skip)
 (.exit 0))
 (.block 1 (.seq (.ops [po_ 13 (.ext 1 (.t 11)),po_ 14 (.ext 2 (.t 11)),mv_ 7 13,mv_ 8 14] [1,2,7,8,10])
 (.seq (.ops [mv_ 15 1,mv_ 16 8,so_ 17 (.callv (.t 15) [.t 16]),mv_ 18 2,po_ 19 (.eqB (.t 17) (.t 18) false)] [1,2,7,10,19])
 (.cond (.t 19)
 (.seq (.ops [mv_ 20 7,mv_ 6 20] [6])
  (.ret))
 (.skip))))))
def ACz:AyD := .block 0 (.loop [1,2,10] ACH)
def ACR:AyD := .seq (.ops [po_ 6 (.mov (.c (.int .i64 (-1))))] [6])
 (.ret)
def ACE:AyD := .seq (.seq (.ops [mv_ 9 0,so_ 10 (.rngS (.t 9))] [1,2,10])
 ACz)
 ACR
def AFv:AyD := .seq (.ops [po_ 6 (.mov (ci_ 0))] [0,1,2])
 ACE
def AEP:List VR:=[.tmp 6]
theorem ALV:Tryz.f113.body.bind (trC Tryz.prog Tryz.f113.ntmps)=some (er AFv):=by kernel_rfl
theorem ALN:trR Tryz.prog Tryz.f113.results.toList=some AEP:=by kernel_rfl
def AHx:=AyA ACH.eq_1
def AG7:=AyA ACz.eq_1
def AHf:=AyA ACR.eq_1
def AG4:=AyA ACE.eq_1
def AKx:=AyA AFv.eq_1
theorem AJQ {K:TV→Prop} {e:Env} {H:List Ob}:res AEP e H K=res [.tmp 6] e H K:=Ayz rfl
def AAT:=(aI_ (aI_ (aI_ @AHx @AG7) (aI_ @AHf @AG4)) (aI_ @AKx @AJQ))
def AK5:=AzJ 21 Tryz.func113 ALV ALN rfl
end
section
open Go.RowKit
class AA7 [AyT]:Prop where
 k:∃ m,ACP 1=some (.one (.int .i64 m))
variable [AyT]
theorem AYx (s p:List UInt8):Azg Tryz.prog 70 [ts s,ts p] (fun x=>x=tb (Lib.hasPrefix s p)):=by
 have h:=Azg.ofBelow (f:=70) (args:=[.string (str s),.string (str p)]) (r := .bool (Lib.hasPrefix s p)) (fun F w _=>by
  have h1:=Tryz.strings_HasPrefix (str s) (str p) w
  rw [A4S,A4S] at h1
  refine h1.mono ?_
  rintro e w' ⟨rfl,rfl⟩
  exact ⟨rfl,AGz _⟩)
 exact h
theorem ASW (s:List UInt8) (c:UInt8) (hc:c.toNat<128):Azg Tryz.prog 75 [ts s,.val (.int .i32 ((c.toNat:Nat):Int))] (fun x=>x=tb (decide (c∈s))):=by
 have h:=Azg.ofBelow (f:=75) (args:=[.string (str s),.int .i32 c.toNat]) (r := .bool (decide (c∈s))) (fun F w _=>by
  have h1:=Tryz.strings_ContainsRune_ascii (str s) c.toNat w (by omega) (by omega)
  have e2:((c.toNat:Int)).toNat.toUInt8=c:=by rw [Int.toNat_natCast]; simp
  have e3:decide (0≤Lib.indexByte s c)=decide (c∈s):=by
   rcases AQ8 c s with ⟨h1,h2,_⟩ | ⟨k,h1,h2,h3,_⟩
   ·rw [h1]; simp [h2]
   ·rw [h1]; simp [List.mem_of_getElem? h3]
  rw [A4S,e2,e3] at h1
  refine h1.mono ?_
  rintro e w' ⟨rfl,rfl⟩
  exact ⟨rfl,AGz _⟩)
 exact h
theorem AUm [AA7] (s p:List UInt8) (hs:s.length≤4000000):Azg Tryz.prog 72 [ts s,ts p] (fun x=>x=tb (Lib.contains s p)):=by
 have h:=Azg.ofBelow (f:=72) (args:=[.string (str s),.string (str p)]) (r := .bool (Lib.contains s p)) (fun F w hg=>by
  obtain ⟨m,hm⟩:=AA7.k
  obtain ⟨_,t,fr,hh⟩:=hg _ _ hm
  have h1:=Tryz.strings_Contains (str s) (str p) m w (by rw [A5n]; omega) (by simp [World.cell?,hh,GV.cells])
  rw [A4S,A4S] at h1
  refine h1.mono ?_
  rintro e w' ⟨rfl,rfl⟩
  exact ⟨rfl,AGz _⟩)
 exact h
def A3J (r:Int):Bool:=decide (r<33∨126<r∨UInt8.ofNat r.toNat∈[(126:UInt8),94,58,63,42,91,92])
theorem A9S (r:Int) (h0:0≤r) (h1:r≤1114111):Azg Tryz.prog 74 [.val (.int .i32 r)] (fun x=>x=tb (A3J r)):=by
 refine AyJ.toPureV (APH (by simp) ?_)
 by_cases h2:r<33
 ·simp -dsimp (disch:=first | assumption | omega) only [↓AyG,AyB,AyE,AyF,eq_self,Nat.reduceEqDiff,↓reduceIte,reduceCtorEq,↓ACb]
  simp [A3J,h2]
 by_cases h3:126<r
 ·simp -dsimp (disch:=first | assumption | omega) only [↓AyG,AyB,AyE,AyF,eq_self,Nat.reduceEqDiff,↓reduceIte,reduceCtorEq,↓ACb]
  simp [A3J,h3]
 simp -dsimp (disch:=first | assumption | omega) only [↓AyG,AyB,AyE,AyF,eq_self,Nat.reduceEqDiff,↓reduceIte,reduceCtorEq,↓ACb]
 have e:(r:Int)=(((UInt8.ofNat r.toNat).toNat:Nat):Int):=by rw [UInt8.toNat_ofNat',Nat.mod_eq_of_lt (by omega)]; omega
 rw [e]
 refine (ASW [126,94,58,63,42,91,92] (UInt8.ofNat r.toNat) (by omega)).calls rfl ?_
 rintro _ rfl
 simp -dsimp (disch:=first | assumption | omega) only [↓AyG,AyB,AyE,AyF,eq_self,Nat.reduceEqDiff,↓reduceIte,↓ACb]
 have:A3J ((UInt8.ofNat r.toNat).toNat:Int)=decide (UInt8.ofNat r.toNat∈[(126:UInt8),94,58,63,42,91,92]):=by
  rw [←e]; unfold A3J; congr 1; simp only [h2,h3,false_or]
 rw [this]
theorem AZV (c:UInt8):A3J ((c.toNat:Nat):Int) = !ALe c:=by
 unfold A3J ALe
 rw [Int.toNat_natCast,UInt8.ofNat_toNat,←decide_not]
 congr 1
 simp only [Decidable.not_and_iff_not_or_not,Decidable.not_not]
 apply propext
 constructor
 ·rintro (h | h | h)
  ·left; omega
  ·right; left; omega
  ·right; right; exact h
 ·rintro (h | h | h)
  ·left; omega
  ·right; left; omega
  ·right; right; exact h
theorem A8w:(false == true)=false:=rfl
theorem AXM (s:List UInt8) (hs:s.length≤1000):Azg Tryz.prog 113 [ts s,.val (.func (.func 74) #[] #[]),tb true] (fun x=>∃ i:Int,x=i64 i∧(0≤i↔¬ ∀ c∈s,ALe c=true)):=by
 refine AyJ.toPureV (AK5 (by simp) ?_)
 simp -dsimp (disch:=first | assumption | omega) only [↓AyG,AyB,AyE,AyF,eq_self,Nat.reduceEqDiff,↓reduceIte,Nat.reduceAdd,reduceCtorEq,↓AAT,AyX]
 refine ABj (fun q e H=>∃ pos:Nat,q=s.length - pos∧(∀ j x,j<pos→s[j]?=some x→ALe x=true)∧e=[(1,.val (.func (.func 74) #[] #[])),(2,tb true),(10,.op 0 0 [])]∧H=[.sit s pos]) s.length ?_ ?_
 ·exact ⟨0,rfl,fun j x h=>by omega,rfl,rfl⟩
 ·rintro q e H ⟨pos,rfl,hno,rfl,rfl⟩
  by_cases hp:pos<s.length
  ·obtain ⟨c,hc⟩:∃ c,s[pos]?=some c:=⟨_,List.getElem?_eq_getElem hp⟩
   by_cases h7:c.toNat<128
   ·obtain ⟨d1,d2⟩:=A6Y s pos c hc h7
    simp -dsimp (disch:=first | assumption | omega) only [↓AyG,AyB,AyE,AyF,eq_self,Nat.reduceEqDiff,↓reduceIte,↓AAT,d1,d2]
    refine ⟨by kernel_rfl,?_⟩
    refine (A9S ((c.toNat:Nat):Int) (by omega) (by omega)).calls rfl ?_
    rintro _ rfl
    rw [AZV]
    cases hgc:ALe c with
    | false =>
     simp -dsimp (disch:=first | assumption | omega) only [↓AyG,AyB,AyE,AyF,eq_self,Nat.reduceEqDiff,↓reduceIte]
     exact ⟨_,rfl,fun _ hall=>(by rw [hall c (List.mem_of_getElem? hc)] at hgc; cases hgc),fun _=>by omega⟩
    | true =>
     simp -dsimp (disch:=first | assumption | omega) only [↓AyG,AyB,AyE,AyF,eq_self,Nat.reduceEqDiff,↓reduceIte,A8w]
     refine AyW (s.length - (pos+1)) (by omega) (by simp) ⟨pos+1,rfl,fun j x hj hx => ?_,rfl,rfl⟩
     by_cases e:j=pos
     ·subst e; rw [hc] at hx; cases hx; exact hgc
     ·exact hno j x (by omega) hx
   ·obtain ⟨d1,d2,d3⟩:=A2S s pos c hc (by omega)
    simp -dsimp (disch:=first | assumption | omega) only [↓AyG,AyB,AyE,AyF,eq_self,Nat.reduceEqDiff,↓reduceIte,↓AAT]
    generalize (Utf8.decode (str s) pos).1=r at *
    generalize (Utf8.decode (str s) pos).2=k at *
    refine ⟨by kernel_rfl,?_⟩
    refine (A9S (r:Int) (by omega) (by omega)).calls rfl ?_
    rintro _ rfl
    have e:A3J (r:Int)=true:=by unfold A3J; rw [decide_eq_true_eq]; right; left; omega
    rw [e]
    simp -dsimp (disch:=first | assumption | omega) only [↓AyG,AyB,AyE,AyF,eq_self,Nat.reduceEqDiff,↓reduceIte]
    refine ⟨_,rfl,fun _ hall => ?_,fun _=>by omega⟩
    have:=hall c (List.mem_of_getElem? hc)
    unfold ALe at this
    rw [decide_eq_true_eq] at this
    omega
  ·simp -dsimp (disch:=first | assumption | omega) only [↓AyG,AyB,AyE,AyF,eq_self,Nat.reduceEqDiff,↓reduceIte,↓AAT]
   refine ⟨-1,rfl,fun h=>by omega,fun h=>absurd (fun c hc => ?_) h⟩
   obtain ⟨j,hj,rfl⟩:=List.mem_iff_getElem.1 hc
   exact hno j _ (by omega) (List.getElem?_eq_getElem hj)
theorem AS6 (s:List UInt8) (hs:s.length≤1000):Azg Tryz.prog 73 [ts s,.val (.func (.func 74) #[] #[])] (fun x=>∃ b,x=tb b∧(b=true↔¬ ∀ c∈s,ALe c=true)):=by
 refine AyJ.toPureV (AHP (by simp) ?_)
 simp -dsimp (disch:=first | assumption | omega) only [↓AyG,AyB,AyE,AyF,eq_self,Nat.reduceEqDiff,↓reduceIte,Nat.reduceAdd,reduceCtorEq,↓ACK]
 refine AKR (by simp) ?_
 simp -dsimp (disch:=first | assumption | omega) only [↓AyG,AyB,AyE,AyF,eq_self,Nat.reduceEqDiff,↓reduceIte,Nat.reduceAdd,reduceCtorEq,↓AFr]
 refine (AXM s hs).calls rfl ?_
 rintro _ ⟨i,rfl,hi⟩
 simp -dsimp (disch:=first | assumption | omega) only [↓AyG,AyB,AyE,AyF,eq_self,↓reduceIte,↓AFr,↓ACK]
 exact ⟨_,rfl,by rw [decide_eq_true_eq]; exact hi⟩
end
section
open Go.RowKit
variable [AyT]
theorem AzG {q:Prop} (h:¬ q) (b:Bool) (hb:b=false):(b=true↔q):=by subst hb; simp [h]
theorem ARh {q:Prop} (h:q) (b:Bool) (hb:b=true):(b=true↔q):=by subst hb; simp [h]
theorem AR8 (p:List UInt8):(Az6 p=false∧(p=[]∨∃ c l,p=c::l∧(c=46∨(c≠46∧Lib.hasSuffix p [46,108,111,99,107]=true))))∨(Az6 p=true∧∃ c l,p=c::l∧c≠46∧Lib.hasSuffix p [46,108,111,99,107]=false):=by
 cases p with
 | nil=>left; exact ⟨by unfold Az6; simp,.inl rfl⟩
 | cons c l =>
  by_cases h1:c=46
  ·left; subst h1; exact ⟨by unfold Az6; simp,.inr ⟨_,_,rfl,.inl rfl⟩⟩
  ·cases h2:Lib.hasSuffix (c::l) [46,108,111,99,107] with
   | true =>
    left
    have:=(AQu _).1 h2
    exact ⟨by unfold Az6; rw [decide_eq_false_iff_not]; exact fun h=>h.2.2 this,.inr ⟨_,_,rfl,.inr ⟨h1,rfl⟩⟩⟩
   | false =>
    right
    have:¬ (5≤(c::l).length∧(c::l).drop ((c::l).length - 5)=[46,108,111,99,107]):=fun h=>by rw [(AQu _).2 h] at h2; cases h2
    exact ⟨by unfold Az6; rw [decide_eq_true_eq]; exact ⟨by simp,by simpa using h1,this⟩,_,_,rfl,h1,rfl⟩
theorem AWs [AA7] (s:List UInt8) (hs:s.length≤4000000):Azg Tryz.prog 40 [ts s] (fun x=>∃ b,x=tb b∧(b=true↔AVD s)):=by
 refine AyJ.toPureV (ARZ (by simp) ?_)
 by_cases h0:s=[72,69,65,68]
 ·subst h0
  simp -dsimp (disch:=first | assumption | omega) only [↓AyG,AyB,AyE,AyF,eq_self,Nat.reduceEqDiff,↓reduceIte,reduceCtorEq,↓AyR]
  exact ⟨_,rfl,ARh (.inl rfl) _ rfl⟩
 by_cases h1:60<s.length
 ·simp -dsimp (disch:=first | assumption | omega) only [↓AyG,AyB,AyE,AyF,eq_self,Nat.reduceEqDiff,↓reduceIte,reduceCtorEq,↓AyR,h0,AyX]
  exact ⟨_,rfl,AzG (fun h=>h.elim h0 fun h=>by omega) _ rfl⟩
 simp -dsimp (disch:=first | assumption | omega) only [↓AyG,AyB,AyE,AyF,eq_self,Nat.reduceEqDiff,↓reduceIte,reduceCtorEq,↓AyR,h0,AyX]
 refine (AYx s _).calls rfl ?_
 rintro _ rfl
 cases h2:Lib.hasPrefix s [114,101,102,115,47] with
 | false =>
  simp -dsimp (disch:=first | assumption | omega) only [↓AyG,AyB,AyE,AyF,eq_self,Nat.reduceEqDiff,↓reduceIte,reduceCtorEq,↓AyR]
  refine ⟨_,rfl,AzG (fun h=>h.elim h0 fun h => ?_) _ rfl⟩
  rw [(AQB s).2 h.2.1] at h2; cases h2
 | true =>
 have h2':=(AQB s).1 h2
 simp -dsimp (disch:=first | assumption | omega) only [↓AyG,AyB,AyE,AyF,eq_self,Nat.reduceEqDiff,↓reduceIte,reduceCtorEq]
 refine (AGZ s [46] (by omega)).calls rfl ?_
 rintro _ rfl
 cases h3:Lib.hasSuffix s [46] with
 | true =>
  simp -dsimp (disch:=first | assumption | omega) only [↓AyG,AyB,AyE,AyF,eq_self,Nat.reduceEqDiff,↓reduceIte,reduceCtorEq,↓AyR]
  exact ⟨_,rfl,AzG (fun h=>h.elim h0 fun h=>h.2.2.1 ((ASE s 46).1 h3)) _ rfl⟩
 | false =>
 have h3':s[s.length - 1]?≠some 46:=fun h=>by rw [(ASE s 46).2 h] at h3; cases h3
 simp -dsimp (disch:=first | assumption | omega) only [↓AyG,AyB,AyE,AyF,eq_self,Nat.reduceEqDiff,↓reduceIte,reduceCtorEq]
 refine (AUm s [46,46] hs).calls rfl ?_
 rintro _ rfl
 cases h4:Lib.contains s [46,46] with
 | true =>
  simp -dsimp (disch:=first | assumption | omega) only [↓AyG,AyB,AyE,AyF,eq_self,Nat.reduceEqDiff,↓reduceIte,reduceCtorEq,↓AyR]
  exact ⟨_,rfl,AzG (fun h=>h.elim h0 fun h=>h.2.2.2.1 ((AFZ 46 46 s).1 h4)) _ rfl⟩
 | false =>
 have h4':¬ A1x 46 46 s:=fun h=>by rw [(AFZ 46 46 s).2 h] at h4; cases h4
 simp -dsimp (disch:=first | assumption | omega) only [↓AyG,AyB,AyE,AyF,eq_self,Nat.reduceEqDiff,↓reduceIte,reduceCtorEq]
 refine (AUm s [64,123] hs).calls rfl ?_
 rintro _ rfl
 cases h5:Lib.contains s [64,123] with
 | true =>
  simp -dsimp (disch:=first | assumption | omega) only [↓AyG,AyB,AyE,AyF,eq_self,Nat.reduceEqDiff,↓reduceIte,reduceCtorEq,↓AyR]
  exact ⟨_,rfl,AzG (fun h=>h.elim h0 fun h=>h.2.2.2.2.1 ((AFZ 64 123 s).1 h5)) _ rfl⟩
 | false =>
 have h5':¬ A1x 64 123 s:=fun h=>by rw [(AFZ 64 123 s).2 h] at h5; cases h5
 simp -dsimp (disch:=first | assumption | omega) only [↓AyG,AyB,AyE,AyF,eq_self,Nat.reduceEqDiff,↓reduceIte,reduceCtorEq,↓AyR]
 refine (AS6 s (by omega)).calls rfl ?_
 rintro _ ⟨b,rfl,hb⟩
 cases b with
 | true =>
  simp -dsimp (disch:=first | assumption | omega) only [↓AyG,AyB,AyE,AyF,eq_self,Nat.reduceEqDiff,↓reduceIte,reduceCtorEq,↓AyR]
  exact ⟨_,rfl,AzG (fun h=>h.elim h0 fun h=>hb.1 rfl h.2.2.2.2.2.1) _ rfl⟩
 | false =>
 have h6':∀ c∈s,ALe c=true:=Classical.not_not.1 fun h=>by have:=hb.2 h; cases this
 simp -dsimp (disch:=first | assumption | omega) only [↓AyG,AyB,AyE,AyF,eq_self,Nat.reduceEqDiff,↓reduceIte,reduceCtorEq,↓AyR]
 refine AyJ.mono (A09 s 47 _) ?_
 rintro x H' ⟨rfl,rfl⟩
 have key:AVD s↔(AzL 47 s).all Az6=true:=⟨fun h=>h.elim (fun h=>absurd h h0) fun h=>h.2.2.2.2.2.2,fun h => .inr ⟨by omega,h2',h3',h4',h5',h6',h⟩⟩
 simp -dsimp (disch:=first | assumption | omega) only [↓AyG,AyB,AyE,AyF,eq_self,Nat.reduceEqDiff,↓reduceIte,Nat.reduceAdd,reduceCtorEq,↓AyR]
 refine A6z rfl (by kernel_rfl) rfl rfl ?_
 intro N fn ca cb hc
 refine AyJ.mono (AYq (c:=47) (id:=4) (sp:=2) (sid:=1) (sv:=3) (L:=5) (r0:=s)
  (I:=fun r H=>(AzL 47 s).all Az6=(AzL 47 r).all Az6∧r.length≤s.length∧H=[.obj 0 (tb false),.obj 0 (ts r),.obj 0 (ts [47]),.obj 0 (i64 ((0:Nat):Int)),.lp .ready none fn N [(2,.op 0 0 []),(29,.fn (.func 117) [] [.op 2 0 [],.op 1 0 [],.op 3 0 []])] [30] ca cb])
  (J:=fun H=>(AzL 47 s).all Az6=false∧∃ r,H=[.obj 0 (tb false),.obj 0 (ts r),.obj 0 (ts [47]),.obj 0 (i64 ((0:Nat):Int)),.lp .done (some .ret) fn N [(2,.op 0 0 []),(29,.fn (.func 117) [] [.op 2 0 [],.op 1 0 [],.op 3 0 []])] [30] ca cb])
  (E:=fun H=>((AzL 47 s).all Az6=false∧∃ r,H=[.obj 0 (tb false),.obj 0 (ts r),.obj 0 (ts [47]),.obj 0 (i64 ((0:Nat):Int)),.lp .done (some .ret) fn N [(2,.op 0 0 []),(29,.fn (.func 117) [] [.op 2 0 [],.op 1 0 [],.op 3 0 []])] [30] ca cb])
   ∨ ((AzL 47 s).all Az6=true∧∃ r,H=[.obj 0 (tb false),.obj 0 (ts r),.obj 0 (ts [47]),.obj 0 (i64 ((0:Nat):Int)),.lp .ready none fn N [(2,.op 0 0 []),(29,.fn (.func 117) [] [.op 2 0 [],.op 1 0 [],.op 3 0 []])] [30] ca cb])) ?_ ?_ ?_ ?_ rfl) ?_
 ·rintro r H ⟨g1,g2,rfl⟩
  exact ⟨by simp,by omega,rfl,rfl,rfl⟩
 ·rintro r H k ⟨g1,g2,rfl⟩ hk hp
  rw [hp,List.all_cons] at g1
  have hlen:(r.take k).length≤1000:=by simp; omega
  refine AUv rfl hc rfl rfl rfl ?_
  rcases AR8 (r.take k) with ⟨hn,(h | ⟨c,l,h,(rfl | ⟨hc1,hc2⟩)⟩)⟩ | ⟨hn,c,l,h,hc1,hc2⟩
  ·rw [h]
   simp -dsimp (disch:=first | assumption | omega) only [↓AyG,AyB,AyE,AyF,eq_self,Nat.reduceEqDiff,↓reduceIte,↓AyR,AMO,AR4]
   exact .inr ⟨by rw [g1,hn,Bool.false_and],_,rfl⟩
  ·rw [h]
   simp -dsimp (disch:=first | assumption | omega) only [↓AyG,AyB,AyE,AyF,eq_self,Nat.reduceEqDiff,UInt8.reduceToNat,↓reduceIte,reduceCtorEq,↓AyR,AMO,AR4,AyX]
   exact .inr ⟨by rw [g1,hn,Bool.false_and],_,rfl⟩
  ·have hd:¬ c.toNat=46:=fun e=>hc1 (UInt8.toNat_inj.1 e)
   have hne:¬ (c::l)=[]:=by simp
   rw [h] at hc2 ⊢
   have hle:(c::l).length≤9223372036854775807:=by rw [←h]; omega
   simp -dsimp (disch:=first | assumption | omega) only [↓AyG,AyB,AyE,AyF,eq_self,Nat.reduceEqDiff,↓reduceIte,reduceCtorEq,↓AyR,AMO,AyX,hd]
   refine (AGZ (c::l) [46,108,111,99,107] hle).calls rfl ?_
   rintro _ rfl
   rw [hc2]
   simp -dsimp (disch:=first | assumption | omega) only [↓AyG,AyB,AyE,AyF,eq_self,Nat.reduceEqDiff,↓reduceIte,AR4]
   exact .inr ⟨by rw [g1,hn,Bool.false_and],_,rfl⟩
  ·have hd:¬ c.toNat=46:=fun e=>hc1 (UInt8.toNat_inj.1 e)
   have hne:¬ (c::l)=[]:=by simp
   rw [h] at hc2 ⊢
   have hle:(c::l).length≤9223372036854775807:=by rw [←h]; omega
   simp -dsimp (disch:=first | assumption | omega) only [↓AyG,AyB,AyE,AyF,eq_self,Nat.reduceEqDiff,↓reduceIte,reduceCtorEq,↓AyR,AMO,AyX,hd]
   refine (AGZ (c::l) [46,108,111,99,107] hle).calls rfl ?_
   rintro _ rfl
   rw [hc2]
   simp -dsimp (disch:=first | assumption | omega) only [↓AyG,AyB,AyE,AyF,eq_self,Nat.reduceEqDiff,↓reduceIte,Nat.reduceAdd,AR4]
   refine ⟨5,⟨by omega,by omega,.inl (by omega)⟩,.inl ⟨rfl,rfl,by rw [g1,hn,Bool.true_and],by omega,rfl⟩⟩
 ·rintro r H ⟨g1,g2,rfl⟩ hp
  rw [hp,List.all_cons] at g1
  refine AUv rfl hc rfl rfl rfl ?_
  rcases AR8 r with ⟨hn,(h | ⟨c,l,h,(rfl | ⟨hc1,hc2⟩)⟩)⟩ | ⟨hn,c,l,h,hc1,hc2⟩
  ·rw [h]
   simp -dsimp (disch:=first | assumption | omega) only [↓AyG,AyB,AyE,AyF,eq_self,Nat.reduceEqDiff,↓reduceIte,↓AyR,AMO,AR4]
   exact .inl ⟨by rw [g1,hn,Bool.false_and],_,rfl⟩
  ·rw [h]
   simp -dsimp (disch:=first | assumption | omega) only [↓AyG,AyB,AyE,AyF,eq_self,Nat.reduceEqDiff,UInt8.reduceToNat,↓reduceIte,reduceCtorEq,↓AyR,AMO,AR4,AyX]
   exact .inl ⟨by rw [g1,hn,Bool.false_and],_,rfl⟩
  ·have hd:¬ c.toNat=46:=fun e=>hc1 (UInt8.toNat_inj.1 e)
   have hne:¬ (c::l)=[]:=by simp
   rw [h] at hc2 ⊢
   have hle:(c::l).length≤9223372036854775807:=by rw [←h]; omega
   simp -dsimp (disch:=first | assumption | omega) only [↓AyG,AyB,AyE,AyF,eq_self,Nat.reduceEqDiff,↓reduceIte,reduceCtorEq,↓AyR,AMO,AyX,hd]
   refine (AGZ (c::l) [46,108,111,99,107] hle).calls rfl ?_
   rintro _ rfl
   rw [hc2]
   simp -dsimp (disch:=first | assumption | omega) only [↓AyG,AyB,AyE,AyF,eq_self,Nat.reduceEqDiff,↓reduceIte,AR4]
   exact .inl ⟨by rw [g1,hn,Bool.false_and],_,rfl⟩
  ·have hd:¬ c.toNat=46:=fun e=>hc1 (UInt8.toNat_inj.1 e)
   have hne:¬ (c::l)=[]:=by simp
   rw [h] at hc2 ⊢
   have hle:(c::l).length≤9223372036854775807:=by rw [←h]; omega
   simp -dsimp (disch:=first | assumption | omega) only [↓AyG,AyB,AyE,AyF,eq_self,Nat.reduceEqDiff,↓reduceIte,reduceCtorEq,↓AyR,AMO,AyX,hd]
   refine (AGZ (c::l) [46,108,111,99,107] hle).calls rfl ?_
   rintro _ rfl
   rw [hc2]
   simp -dsimp (disch:=first | assumption | omega) only [↓AyG,AyB,AyE,AyF,eq_self,Nat.reduceEqDiff,↓reduceIte,Nat.reduceAdd,AR4]
   refine ⟨5,⟨by omega,by omega,.inl (by omega)⟩,.inr ⟨by rw [g1,hn]; rfl,_,rfl⟩⟩
 ·exact ⟨rfl,Nat.le_refl _,rfl⟩
 ·rintro _ H' ((⟨g1,r,rfl⟩ | ⟨g1,r,rfl⟩) | ⟨g1,r,rfl⟩)
  ·simp -dsimp (disch:=first | assumption | omega) only [↓AyG,AyB,AyE,AyF,eq_self,↓reduceIte,Nat.reduceAdd,↓AyR,APE]
   exact ⟨_,rfl,by rw [key,g1]⟩
  ·simp -dsimp (disch:=first | assumption | omega) only [↓AyG,AyB,AyE,AyF,eq_self,↓reduceIte,Nat.reduceAdd,↓AyR,APE]
   exact ⟨_,rfl,by rw [key,g1]⟩
  ·simp -dsimp (disch:=first | assumption | omega) only [↓AyG,AyB,AyE,AyF,eq_self,↓reduceIte,Nat.reduceAdd,↓AyR,APE]
   exact ⟨_,rfl,by rw [key,g1]⟩
end
section
variable [AyT]
set_option maxRecDepth 100000
end
section
open Go.RowKit
section
variable [AyT] {P:Program} {PP:Value→List Ob→Prop} {e:Env} {H:List Ob} {r:List VO} {Ss:SsT}
end
theorem AZk {H T:List Ob} {j:Nat} {o:Ob} (h:j<H.length):(H.set j o++T)[j]?=some o:=by rw [List.getElem?_append_left (by simpa using h),List.getElem?_set_self h]
theorem ga {H T:List Ob} {i:Nat} (h:i<H.length):(H++T)[i]?=H[i]?:=List.getElem?_append_left h
theorem Bbs (y z:TV):List.take 1 ((List.replicate 1 z).set 0 y)=[y]:=by simp
end
section
open Go.RowKit
variable [AyT] [AA7]
noncomputable def nmB (s:List UInt8):Bool:=@decide (AVD s) (Classical.propDecidable _)
theorem AQQ {s:List UInt8}:nmB s=true↔AVD s:=by unfold nmB; rw [@decide_eq_true_iff]
theorem A49 (s:List UInt8) (hs:s.length≤4000000):Azg Tryz.prog 40 [ts s] (fun x=>x=tb (nmB s)):=by
 refine (AWs s hs).mono ?_
 rintro x ⟨b,rfl,hb⟩
 rw [←AQQ] at hb
 cases b<;>cases h:nmB s<;>simp_all
end
section
open Go.RowKit
variable [AyT]
def A0X (H:List Ob) (l:List UInt8) (x:TV) (H':List Ob):Prop:=∃ j v,x = .os 1 j v [] 0 l.length l.length∧H'[j]?=some (.obj v (.arr l.length 1 (l.map by8)))∧H.length≤j∧H.length≤H'.length∧∀ i,i<H.length→H'[i]?=H[i]?
theorem A70 {x:List UInt8} (hx:x.length≤1000) {H:List Ob} {id ver:Nat} (h2:H[id]?=some (.obj ver (.arr x.length 1 (x.map by8)))) :
  AyJ Tryz.prog 58 [.os 1 id ver [] 0 x.length x.length] H (A0X H (Azq x)):=by
 refine ATd (by simp) ?_
 have h4:(AN2 (x.length+4)).length=4:=rfl
 have hl2:id<H.length:=(List.getElem?_eq_some_iff.1 h2).1
 have hlt:(x.map by8).take x.length=x.map by8:=List.take_of_length_le (by simp)
 unfold Azq
 by_cases h0:x.length=0
 ·rw [if_pos h0]
  simp -dsimp (disch:=first | assumption | omega | (simp only [AyC];try omega)) only [↓AyG,AyB,AyE,AyF,eq_self,↓reduceIte,reduceCtorEq,Nat.reduceLeDiff,↓ALv,↓AGY,↓ALm]
  exact ⟨H.length,0,rfl,by simp [ADX,List.replicate],Nat.le_refl _,by simp,fun i hi=>List.getElem?_append_left hi⟩
 ·rw [if_neg h0]
  have h2a:∀ T:List Ob,(H++T)[id]?=some (.obj ver (.arr x.length 1 (x.map by8))):=fun T=>by rw [List.getElem?_append_left hl2]; exact h2
  simp -dsimp (disch:=first | assumption | omega | (simp only [AyC];try omega)) only [↓AyG,AyB,AyE,AyF,eq_self,↓reduceIte,reduceCtorEq,↓ALv,↓AGY]
  refine (AT3 (x.length+4) (by omega)).calls rfl fun r hr => ?_
  subst hr
  simp -dsimp (disch:=first | assumption | omega | (simp only [AyC];try omega)) only [↓AyG,AyB,AyE,AyF,eq_self,Nat.reduceEqDiff,↓reduceIte,reduceCtorEq,Nat.reduceLeDiff,AyX,h4,h2a,hlt,↓ALm]
  have e:List.take 4 ((AN2 (x.length+4)).map by8)++x.map by8=(AN2 (x.length+4)++x).map by8:=by
   rw [List.take_of_length_le (by simp [AXt]),List.map_append]
  refine ⟨H.length,1,by simp [h4],?_,Nat.le_refl _,by simp,fun i hi => ?_⟩
  ·simp [h4]
  ·rw [List.getElem?_append_left hi]
theorem A9z {s:List UInt8} (hs:s.length≤999) {H:List Ob}:AyJ Tryz.prog 34 [ts s] H (A0X H (Azq (s++[10]))):=by
 refine ATO (by simp) ?_
 have hl1:(s++[(10:UInt8)]).length≤1000:=by simp; omega
 have hcat:AAL 9 BinOp.add (.string (str s)) (.string (str [10]))=some (.string (str (s++[10]))):=AT7 (by simp; omega)
 generalize s++[(10:UInt8)]=x at *
 have hx9:x.length≤9223372036854775807:=by omega
 simp -dsimp (disch:=first | assumption | omega | (simp only [AyC];try omega)) only [↓AyG,AyB,AyE,AyF,eq_self,↓reduceIte,reduceCtorEq,hcat,AyX,↓ARR]
 refine AMH (AyJ.mono (A70 hl1 (by simp)) ?_)
 rintro y H2 ⟨j,v,rfl,k1,k2,k3,k4⟩
 simp -dsimp (disch:=first | assumption | omega | (simp only [AyC];try omega)) only [↓AyG,AyB,AyE,AyF,eq_self,↓reduceIte,↓ARX]
 rw [List.length_append,List.length_singleton] at k2 k3
 exact ⟨j,v,rfl,k1,by omega,by omega,fun i hi=>by rw [k4 i (by simp; omega),List.getElem?_append_left hi]⟩
end
end Go.Proofs.YtnikbdnebdmmiaaGreatDoor
