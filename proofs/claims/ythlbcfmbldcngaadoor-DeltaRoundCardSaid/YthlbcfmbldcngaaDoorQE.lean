/- What the proof of DeltaRoundCard stands on (texts merged; names shortened by a program): part 5. -/
import Derived.Test.YthlbcfmbldcngaaDoorQD
import Derived.ProofKit
import Derived.Lib.LaidTab
import Derived.LaidHandle
import Derived.OpenShut
import Derived.ShutString
import Derived.ChangeOld
import Derived.Below
import Derived.Carry
import Derived.SizedLaws
import Derived.Test.YthlbcfmbldcngaaDoorProg
import Derived.WalkKit
import Derived.Deep.QuietTactic
import Derived.BigQuiet
import Derived.Sort.Walk0
import Derived.Shelf.SlSortCmp.NoneTotal
import Derived.Ground.SlsfProg
import Derived.KernelRfl
import Derived.LaidEql
import Derived.Stop.Asserts
import Derived.RowKitTokens
set_option linter.defProp false
set_option linter.unusedSectionVars false
set_option linter.unusedSimpArgs false
set_option linter.unusedVariables false
namespace Go.Proofs.YthlbcfmbldcngaaDoor
theorem aI_ {a b:Prop} (x:a) (y:b):a∧b:=⟨x,y⟩
section
open Go.RowKit
variable [Bt6]
set_option autoImplicit false
universe u
class Tg {α:Sort u} (a:α):Type where
instance tg {α:Sort u} (a:α):Tg a:={}
def vif (t:Bool) (A B:Prop) [Tg A] [Tg B]:Prop:=if t=true then A else B
def Bt1 {α:Type} (o:Option α) (K:α→Prop) [Tg K]:Prop:=match o with | some y=>K y | none=>False
def BuV (A K:Prop) [Tg K]:Prop:=A∧K
def BtZ {α:Type} (x:α) (K:α→Prop) [Tg K]:Prop:=K x
def vex (K:TV→Prop) [Tg K]:Prop:=∃ x,K x
def VC (P:Program) (f:FuncId) (xs:List TV) (H:List Ob) (K:TV→List Ob→Prop) [Tg K]:Prop:=BtJ P f xs H K
def VY (P:Program) (id ver:Nat) (xs:List TV) (H:List Ob) (K:TV→List Ob→Prop) [Tg K]:Prop:=BCp P id ver xs H K
theorem Bzz {P:Program} {f:FuncId} {xs:List TV} {H:List Ob} {K:TV→List Ob→Prop} (h:BtJ P f xs H K):VC P f xs H K:=h
section
variable {A A' B K:Prop} {α:Type}
@[congr] theorem BUL {t t':Bool} (h:t=t'):vif t A B=vif t' A B:=by rw [h]
@[congr] theorem BUC {o o':Option α} {K:α→Prop} (h:o=o'):Bt1 o K=Bt1 o' K:=by rw [h]
@[congr] theorem BUy (h:A=A'):BuV A K=BuV A' K:=by rw [h]
@[congr] theorem BUE {x x':α} {K:α→Prop} (h:x=x'):BtZ x K=BtZ x' K:=by rw [h]
@[congr] theorem BWR {P:Program} {c:Btx} {Q:VEx→Env→List Ob→Prop} {e e':Env} {H H':List Ob} (he:e=e') (hH:H=H'):vwp P c Q e H=vwp P c Q e' H':=by rw [he,hH]
@[congr] theorem BXl {P:Program} {f:FuncId} {xs xs':List TV} {H H':List Ob} {K:TV→List Ob→Prop} (he:xs=xs') (hH:H=H'):VC P f xs H K=VC P f xs' H' K:=by rw [he,hH]
@[congr] theorem BXe {P:Program} {id ver:Nat} {xs xs':List TV} {H H':List Ob} {K:TV→List Ob→Prop} (he:xs=xs') (hH:H=H'):VY P id ver xs H K=VY P id ver xs' H' K:=by rw [he,hH]
theorem BQ4:vif true A B=A:=by simp [vif]
theorem BM3:vif false A B=B:=by simp [vif]
theorem BV6 {p:Prop} [Decidable p] (h:p):vif (decide p) A B=A:=by simp [vif,h]
theorem BVe {p:Prop} [Decidable p] (h:¬ p):vif (decide p) A B=B:=by simp [vif,h]
theorem BTr {t:Bool}:vif (!t) A B=vif t B A:=by cases t<;>simp [vif]
theorem Bt0 {p:Prop} [Decidable p] (h1:p→A) (h2:¬ p→B):vif (decide p) A B:=by by_cases h:p<;>simp [vif,h,h1,h2]
theorem BS8 {s t:Bool}:vif (s && t) A B=vif s (vif t A B) B:=by cases s<;>simp [vif]
theorem BVz {s t:Bool}:vif (s || t) A B=vif s A (vif t A B):=by cases s<;>simp [vif]
theorem BMJ {y:α} {K:α→Prop}:Bt1 (some y) K=K y:=rfl
theorem BQy {β:Type} {f:α→β} {o:Option α} {K:β→Prop}:Bt1 (o.map f) K=Bt1 o fun y=>K (f y):=by cases o<;>rfl
theorem BTC {cs:List α} {i:Nat} {K:α→Prop} (h:i<cs.length):Bt1 cs[i]? K=K cs[i]:=by rw [List.getElem?_eq_getElem h]; rfl
theorem BOF (h:A):BuV A K=K:=by simp [BuV,h]
theorem BUY:BuV True K=K:=by simp [BuV]
theorem BRh:BuV (A∧B) K=BuV A (BuV B K):=by simp [BuV,and_assoc]
theorem BSM {x:α} {K:α→Prop}:BtZ x K=K x:=rfl
end
def BwO:Option Ob→Nat→Option TV
 | some (.obj v x),ver=>if v=ver then some x else none
 | _,_=>none
theorem BRZ {v:Nat} {x:TV}:BwO (some (.obj v x)) v=some x:=by simp [BwO]
section
variable {H l:List Ob} {o:Ob} {n k:Nat}
theorem BVU (h:H.length=n):(H++l)[n]?=l[0]?:=by rw [List.getElem?_append_right (by omega),h,Nat.sub_self]
theorem BTQ (h:H.length=n):(H++l)[n+k]?=l[k]?:=by rw [List.getElem?_append_right (by omega)]; congr 1; omega
theorem BW3 (h:n<H.length):(H++l)[n]?=H[n]?:=List.getElem?_append_left h
theorem BWf (h:n<H.length):(H.set n o)[n]?=some o:=by simp [h]
theorem BNy {m:Nat} (h:m≠n):(H.set m o)[n]?=H[n]?:=by rw [List.getElem?_set_ne h]
theorem BTH (h:H.length=n):(H++l).set n o=H++l.set 0 o:=by rw [List.set_append_right _ _ (by omega),h,Nat.sub_self]
theorem BQ9 (h:H.length=n):(H++l).set (n+k) o=H++l.set k o:=by rw [List.set_append_right _ _ (by omega)]; congr 2; omega
theorem BTd (h:n<H.length):(H++l).set n o=H.set n o++l:=List.set_append_left _ _ h
end
section
variable {P:Program} {e:Env} {H:List Ob}
def BNa (c a b:TV) (K:TV→Prop) [Tg K]:Prop:=match c with | .val (.bool t)=>K (if t then a else b) | _=>False
def BXd (t:TypeId) (op:BinOp) (x y:TV) (K:TV→Prop) [Tg K]:Prop:=match x,y with
  | .val u,.val v=>BOU u v=true∧(match BvB t op u v with | some r=>K (.val r) | none=>False)
  | _,_=>False
def Pun (op:UnOp) (x:TV) (K:TV→Prop) [Tg K]:Prop:=match x with
  | .val u=>(match unV op u with | some r=>K (.val r) | none=>False)
  | _=>False
def BRy (k:IntKind) (x:TV) (K:TV→Prop) [Tg K]:Prop:=match x with
  | .val (.int _ n)=>K (.val (.int k (k.wrap n)))
  | _=>False
def BXt (x:TV) (K:TV→Prop) [Tg K]:Prop:=match x with
  | .val (.string s)=>K (.val (.string s))
  | _=>False
def BXi (x:Option (List TV)) (K:TV→Prop) [Tg K]:Prop:=match x with
  | some cs=>(∀ y∈cs,BMp y)∧K (.val (.string (str (cs.map BFP))))
  | none=>False
def BKw (H:List Ob) (ag:Bool) (sz:Nat) (x:TV) (K:TV→Prop) [Tg K]:Prop:=match x with
  | .fp y=>BHN ag sz y∧K y
  | .op id ver p=>(match H[id]? with
   | some (.obj v x)=>v=ver∧(match Bzf p x with | some y=>BHN ag sz y∧K y | none=>False)
   | _=>False)
  | _=>False
def BEX (i off:Nat) (x:TV) (K:TV→Prop) [Tg K]:Prop:=match x with
  | .op id ver p=>K (.op id ver (p++[(i,off)]))
  | .fp (.agg cs)=>Buh (cs.take i)=off∧(match cs[i]? with | some y=>K (.fp y) | none=>False)
  | _=>False
def BJm (ag:Bool) (sz i off:Nat) (x:TV) (K:TV→Prop) [Tg K]:Prop:=match x with
  | .agg cs=>Buh (cs.take i)=off∧(match cs[i]? with | some y=>BHN ag sz y∧K y | none=>False)
  | _=>False
def BLG (k:Nat) (x i:TV) (K:TV→Prop) [Tg K]:Prop:=match x,i with
  | .sl k' cs,.val (.int _ j)=>k'=k∧0≤j∧(match cs[j.toNat]? with | some y=>K (.fp y) | none=>False)
  | .os k' id ver p off n cp,.val (.int _ j)=>k'=k∧0≤j∧j<n∧K (.op id ver (p++[(off+j.toNat,(off+j.toNat)*k)]))
  | _,_=>False
def BHo (n k:Nat) (x i:TV) (K:TV→Prop) [Tg K]:Prop:=match x,i with
  | .fp (.arr n' k' cs),.val (.int _ j)=>k'=k∧n'=n∧0≤j∧(match cs[j.toNat]? with | some y=>K (.fp y) | none=>False)
  | .op id ver p,.val (.int _ j)=>0≤j∧j<n∧K (.op id ver (p++[(j.toNat,j.toNat*k)]))
  | _,_=>False
def BWz (ag:Bool) (n k:Nat) (x i:TV) (K:TV→Prop) [Tg K]:Prop:=match x,i with
  | .arr n' k' cs,.val (.int _ j)=>k'=k∧n'=n∧0≤j∧(match cs[j.toNat]? with | some y=>BHN ag k y∧K y | none=>False)
  | _,_=>False
def BOf (x i:TV) (K:TV→Prop) [Tg K]:Prop:=match x,i with
  | .val (.string s),.val (.int _ j)=>0≤j∧(match (bl s)[j.toNat]? with | some b=>K (by8 b) | none=>False)
  | _,_=>False
def BWk (i:Nat) (x:TV) (K:TV→Prop) [Tg K]:Prop:=match x with
  | .tup xs=>(match xs[i]? with | some y=>K y | none=>False)
  | _=>False
def BPA (x:TV) (K:TV→Prop) [Tg K]:Prop:=match x with
  | .val (.string s)=>K (.val (.int .i64 (bl s).length))
  | _=>False
def BLy (x:TV) (K:TV→Prop) [Tg K]:Prop:=match x with
  | .val (.slice _ n _)=>K (.val (.int .i64 n))
  | .sl _ cs=>K (.val (.int .i64 cs.length))
  | .os _ _ _ _ _ n _=>K (.val (.int .i64 n))
  | _=>False
def BIE (lo hi:Option TV) (len lim:Nat) (K:Nat→Nat→Prop) [Tg K]:Prop :=
 match (match lo with | none=>some 0 | some x=>(match x with | .val (.int _ i)=>some i | _=>none)),(match hi with | none=>some (len:Int) | some x=>(match x with | .val (.int _ i)=>some i | _=>none)) with
 | some l,some h=>(0≤l∧l≤h∧h≤lim)∧K l.toNat h.toNat
 | _,_=>False
def evO (e:Env):Option Opd→Option TV
 | none=>none
 | some x=>some (x.ev e)
theorem BQ0:evO e none=none:=Btv rfl
theorem BRS {x:Opd}:evO e (some x)=some (x.ev e):=Btv rfl
theorem BNF {lo hi:Option Opd} {len lim:Nat} {K:Nat→Nat→Prop}:bnd e lo hi len lim K=BIE (evO e lo) (evO e hi) len lim K:=by
 cases lo<;>cases hi<;>rfl
def BXq (x:TV) (lo hi:Option TV) (K:TV→Prop) [Tg K]:Prop:=match x with
  | .val (.string s)=>BIE lo hi (bl s).length (bl s).length fun l h=>K (.val (.string (str (((bl s).drop l).take (h - l)))))
  | _=>False
def BUt (k:Nat) (x:TV) (lo hi:Option TV) (K:TV→Prop) [Tg K]:Prop:=match x with
  | .sl k' cs=>k'=k∧BIE lo hi cs.length cs.length fun l h=>K (.sl k ((cs.drop l).take (h - l)))
  | .os k' id ver p off n cp=>k'=k∧BIE lo hi n cp fun l h=>K (.os k id ver p (off+l) (h - l) (cp - l))
  | .val (.slice ad 0 0)=>BIE lo hi 0 0 fun l h=>K (.val (.slice ad 0 0))
  | _=>False
def BUA (H:List Ob) (n k:Nat) (x:TV) (lo hi:Option TV) (K:TV→Prop) [Tg K]:Prop:=match x with
  | .fp (.arr n' k' cs)=>k'=k∧n'=n∧n≤9223372036854775807∧BIE lo hi n n fun l h=>K (.sl k ((cs.drop l).take (h - l)))
  | .op id ver p=>(match H[id]? with
   | some (.obj v x)=>v=ver∧n≤9223372036854775807∧(match Bzf p x with | some (.arr n' k' cs)=>k'=k∧n'=n∧BIE lo hi n n fun l h=>K (.os k id ver p l (h - l) (n - l)) | _=>False)
   | _=>False)
  | _=>False
def BKO (t:TypeId) (x:TV) (K:TV→Prop) [Tg K]:Prop:=lays x=true∧K (.ifc t x)
def BUF (f:Fn) (first caps:List TV) (K:TV→Prop) [Tg K]:Prop:=(∀ x∈first++caps,BuI x=false)∧K (.fn f first caps)
def BJQ (x:TV) (K:TV→Prop) [Tg K]:Prop:=match x with
  | .op id ver p=>K (.op id ver p)
  | .fp y=>K (.fp y)
  | .fn (.func f) a b=>K (.fn (.func f) a b)
  | .ifc t y=>K (.ifc t y)
  | .val (.func (.func f) a b)=>K (.val (.func (.func f) a b))
  | _=>False
def BXb (x y:TV) (K:TV→Prop) [Tg K]:Prop:=match x,y with
  | .val (.int k a),.val (.int _ b)=>K (.val (.int k (if b<a then b else a)))
  | _,_=>False
def BXf (x y:TV) (K:TV→Prop) [Tg K]:Prop:=match x,y with
  | .val (.int k a),.val (.int _ b)=>K (.val (.int k (if b > a then b else a)))
  | _,_=>False
def BGu (g:GOp) (H:List Ob) (xs:List TV) (K:TV→Prop) [Tg K]:Prop:=match gev g H xs with
  | some y=>K y
  | none=>False
def BVl (neg:Bool) (x y:TV) (K:TV→Prop) [Tg K]:Prop:=match x,y with
  | .val (.bool a),.val (.bool b)=>K (.val (.bool (xor neg (a == b))))
  | _,_=>False
def BWW (neg:Bool) (x y:Option Bool) (K:TV→Prop) [Tg K]:Prop:=match x,y with
  | some true,some b=>K (.val (.bool (xor neg b)))
  | some false,some true=>K (.val (.bool (xor neg false)))
  | _,_=>False
def BIX (H:List Ob) (sz:Nat) (x v:TV) (K:TV→List Ob→Prop) [Tg K]:Prop:=(lays v=true∧BtL v=sz)∧(match x with
  | .op id ver p=>(match H[id]? with
   | some (.obj vr y)=>vr=ver∧(match BDZ p y v with | some y'=>K .any (H.set id (.obj ver y')) | none=>False)
   | _=>False)
  | _=>False)
def BXu (H:List Ob) (k bytes:Nat) (z l c:TV) (K:TV→List Ob→Prop) [Tg K]:Prop:=match l,c with
  | .val (.int _ l),.val (.int _ c)=>(0≤l∧l≤c∧(bytes:Int)*c≤281474976710656∧c≤9223372036854775807)∧K (.os k H.length 0 [] 0 l.toNat c.toNat) (H++[.obj 0 (.arr c.toNat k (List.replicate c.toNat z))])
  | _,_=>False
def BPZ (k bytes:Nat) (et:TypeId) (x:TV) (y:Option (List TV)) (H:List Ob) (K:TV→List Ob→Prop) [Tg K]:Prop:=match y with
  | some ys=>BG5 k bytes et x ys H K
  | none=>False
def BJV (k:Nat) (x:TV) (y:Option (List TV)) (H:List Ob) (K:TV→List Ob→Prop) [Tg K]:Prop:=match y with
  | some ys=>BBc k x ys H K
  | none=>False
def BQC (et:TypeId) (x y:TV) (H:List Ob) (K:TV→List Ob→Prop) [Tg K]:Prop:=match y with
  | .val (.string s)=>BG5 1 1 et x ((bl s).map by8) H K
  | _=>False
def BLg (x y:TV) (H:List Ob) (K:TV→List Ob→Prop) [Tg K]:Prop:=match y with
  | .val (.string s)=>BBc 1 x ((bl s).map by8) H K
  | _=>False
def BQZ (P:Program) (f:FuncId) (x:Option (Nat×Nat×List UInt8)) (H:List Ob) (K:TV→List Ob→Prop) [Tg K]:Prop:=BXN P f∧(match x with
  | some (j,v,l)=>l.length≤9223372036854775807∧K (.val (.string (str l))) (H.set j (.gone v))
  | none=>False)
def BXz (H:List Ob) (x:TV) (K:TV→List Ob→Prop) [Tg K]:Prop:=match x with
  | .val (.string s)=>(bl s).length≤9223372036854775807∧K (.os 1 H.length 0 [] 0 (bl s).length (bl s).length) (H++[.obj 0 (.arr (bl s).length 1 ((bl s).map by8))])
  | _=>False
def BLA (k bytes:Nat) (et:TypeId) (z x n:TV) (H:List Ob) (K:TV→List Ob→Prop) [Tg K]:Prop:=match x,n with
  | .val (.slice none 0 0),.val (.int .i64 j)=>(0≤j∧(bytes:Int)*j≤140737488355328∧j≤9223372036854775807)∧K (.os k H.length 0 [] 0 j.toNat j.toNat) (H++[.obj 0 (.arr j.toNat k (List.replicate j.toNat z))])
  | .os k' id ver p off m cp,.val (.int .i64 j)=>(0≤j∧(bytes:Int)*j≤140737488355328∧j≤9223372036854775807)∧BG5 k bytes et (.os k' id ver p off m cp) (List.replicate j.toNat z) H K
  | _,_=>False
def BLJ (H:List Ob) (K:TV→List Ob→Prop) [Tg K]:Prop:=K (.val (.bool true)) H∧K (.val (.bool false)) H
def BR2 (neg:Bool) (x:TV) (H:List Ob) (K:TV→List Ob→Prop) [Tg K]:Prop:=match x with
  | .val (.slice a _ _)=>K (.val (.bool (xor neg a.isNone))) H
  | .sl _ cs=>(cs=[]→K (.val (.bool true)) H∧K (.val (.bool false)) H)∧(cs≠[]→K (.val (.bool neg)) H)
  | .os _ _ _ _ _ n _=>(n=0→K (.val (.bool true)) H∧K (.val (.bool false)) H)∧(n≠0→K (.val (.bool neg)) H)
  | _=>False
def BHA (P:Program) (x:TV) (args:List TV) (H:List Ob) (K:TV→List Ob→Prop) [Tg K]:Prop:=match x with
  | .fn (.func f) first caps=>BEV P f=true∧BtJ P f (first++args++caps) H K
  | .val (.func (.func f) xs ys)=>(xs.isEmpty && ys.isEmpty)=true∧BEV P f=true∧BtJ P f args H K
  | .yl id ver=>BCp P id ver args H K
  | _=>False
def BWX (P:Program) (nm:String) (x:TV) (args:List TV) (H:List Ob) (K:TV→List Ob→Prop) [Tg K]:Prop:=BXg P nm H x fun f r=>BtJ P f (r::args) H K
def BUz (P:Program) (q:Option (FuncId×Option (Bool×Nat))) (r:TV) (args:List TV) (H:List Ob) (K:TV→List Ob→Prop) [Tg K]:Prop:=match q with
 | some (f,none)=>BEV P f=true∧BtJ P f (r::args) H K
 | some (f,some (ag,sz))=>BEV P f=true∧ldT H ag sz r fun y=>BtJ P f (y::args) H K
 | none=>False
def Gd (q:Option Bool) (b:Bool) (A B:Prop) [Tg A] [Tg B]:Prop:=match q with
 | some t=>if t=b then A else B
 | none=>B
def evs (e:Env) (xs:List Opd):List TV:=xs.map (·.ev e)
theorem BSj:evs e []=[]:=Btv rfl
theorem BQn {x:Opd} {xs:List Opd}:evs e (x::xs)=x.ev e::evs e xs:=Btv rfl
def BCN (xs:List TV):Prop:=∀ x∈xs,BuI x=false
theorem BOD:BCN []=True:=by simp [BCN]
theorem BL5 {x:TV} {xs:List TV}:BCN (x::xs)=(BuI x=false∧BCN xs):=by simp [BCN]
theorem BAt {args:List Opd}:(∀ x∈args,BuI (x.ev e)=false)=BCN (evs e args):=by simp [BCN,evs]
section
variable {c c' a a' b b' x x' y y':TV} {K:TV→Prop} {KK:TV→List Ob→Prop} {lo lo' hi hi':Option TV} {ox ox':Option (List TV)} {q q' q2 q2':Option Bool} {xs xs':List TV} {A B:Prop} {H':List Ob}
@[congr] theorem BZB (h1:c=c') (h2:a=a') (h3:b=b'):BNa c a b K=BNa c' a' b' K:=by rw [h1,h2,h3]
@[congr] theorem BZM {t:TypeId} {op:BinOp} (h1:x=x') (h2:y=y'):BXd t op x y K=BXd t op x' y' K:=by rw [h1,h2]
@[congr] theorem B0r {op:UnOp} (h1:x=x'):Pun op x K=Pun op x' K:=by rw [h1]
@[congr] theorem BYI {k:IntKind} (h1:x=x'):BRy k x K=BRy k x' K:=by rw [h1]
@[congr] theorem BZH (h1:x=x'):BXt x K=BXt x' K:=by rw [h1]
@[congr] theorem BZP (h1:ox=ox'):BXi ox K=BXi ox' K:=by rw [h1]
@[congr] theorem BXD {ag:Bool} {sz:Nat} (h1:x=x') (h2:H=H'):BKw H ag sz x K=BKw H' ag sz x' K:=by rw [h1,h2]
@[congr] theorem BVy {i o:Nat} (h1:x=x'):BEX i o x K=BEX i o x' K:=by rw [h1]
@[congr] theorem BXx {ag:Bool} {sz i o:Nat} (h1:x=x'):BJm ag sz i o x K=BJm ag sz i o x' K:=by rw [h1]
@[congr] theorem BYk {k:Nat} (h1:x=x') (h2:y=y'):BLG k x y K=BLG k x' y' K:=by rw [h1,h2]
@[congr] theorem BXw {n k:Nat} (h1:x=x') (h2:y=y'):BHo n k x y K=BHo n k x' y' K:=by rw [h1,h2]
@[congr] theorem BZN {ag:Bool} {n k:Nat} (h1:x=x') (h2:y=y'):BWz ag n k x y K=BWz ag n k x' y' K:=by rw [h1,h2]
@[congr] theorem BZg (h1:x=x') (h2:y=y'):BOf x y K=BOf x' y' K:=by rw [h1,h2]
@[congr] theorem BZG {i:Nat} (h1:x=x'):BWk i x K=BWk i x' K:=by rw [h1]
@[congr] theorem BYE (h1:x=x'):BPA x K=BPA x' K:=by rw [h1]
@[congr] theorem BZd (h1:x=x'):BLy x K=BLy x' K:=by rw [h1]
@[congr] theorem BZ0 {n m:Nat} {K:Nat→Nat→Prop} {n' m':Nat} (h1:lo=lo') (h2:hi=hi') (h3:n=n') (h4:m=m'):BIE lo hi n m K=BIE lo' hi' n' m' K:=by rw [h1,h2,h3,h4]
@[congr] theorem BZQ (h1:x=x') (h2:lo=lo') (h3:hi=hi'):BXq x lo hi K=BXq x' lo' hi' K:=by rw [h1,h2,h3]
@[congr] theorem BZL {k:Nat} (h1:x=x') (h2:lo=lo') (h3:hi=hi'):BUt k x lo hi K=BUt k x' lo' hi' K:=by rw [h1,h2,h3]
@[congr] theorem BZE {n k:Nat} (h0:H=H') (h1:x=x') (h2:lo=lo') (h3:hi=hi'):BUA H n k x lo hi K=BUA H' n k x' lo' hi' K:=by rw [h0,h1,h2,h3]
@[congr] theorem BXs {t:TypeId} (h1:x=x'):BKO t x K=BKO t x' K:=by rw [h1]
@[congr] theorem BZI {f:Fn} {ys ys':List TV} (h1:xs=xs') (h2:ys=ys'):BUF f xs ys K=BUF f xs' ys' K:=by rw [h1,h2]
@[congr] theorem BXX (h1:x=x'):BJQ x K=BJQ x' K:=by rw [h1]
@[congr] theorem BZC (h1:x=x') (h2:y=y'):BXb x y K=BXb x' y' K:=by rw [h1,h2]
@[congr] theorem BZT (h1:x=x') (h2:y=y'):BXf x y K=BXf x' y' K:=by rw [h1,h2]
@[congr] theorem BZY {g:GOp} {xs xs':List TV} (h1:H=H') (h2:xs=xs'):BGu g H xs K=BGu g H' xs' K:=by rw [h1,h2]
@[congr] theorem BZ4 {n:Bool} (h1:x=x') (h2:y=y'):BVl n x y K=BVl n x' y' K:=by rw [h1,h2]
@[congr] theorem BZF {n:Bool} (h1:q=q') (h2:q2=q2'):BWW n q q2 K=BWW n q' q2' K:=by rw [h1,h2]
@[congr] theorem BXo {sz:Nat} (h0:H=H') (h1:x=x') (h2:y=y'):BIX H sz x y KK=BIX H' sz x' y' KK:=by rw [h0,h1,h2]
@[congr] theorem BZ1 {k n:Nat} {z:TV} (h0:H=H') (h1:x=x') (h2:y=y'):BXu H k n z x y KK=BXu H' k n z x' y' KK:=by rw [h0,h1,h2]
@[congr] theorem BZ3 {k n:Nat} {et:TypeId} (h0:H=H') (h1:x=x') (h2:ox=ox'):BPZ k n et x ox H KK=BPZ k n et x' ox' H' KK:=by rw [h0,h1,h2]
@[congr] theorem BYb {k:Nat} (h0:H=H') (h1:x=x') (h2:ox=ox'):BJV k x ox H KK=BJV k x' ox' H' KK:=by rw [h0,h1,h2]
@[congr] theorem BYV {et:TypeId} (h0:H=H') (h1:x=x') (h2:y=y'):BQC et x y H KK=BQC et x' y' H' KK:=by rw [h0,h1,h2]
@[congr] theorem BXh (h0:H=H') (h1:x=x') (h2:y=y'):BLg x y H KK=BLg x' y' H' KK:=by rw [h0,h1,h2]
@[congr] theorem BXH {P:Program} {f:FuncId} {r r':Option (Nat×Nat×List UInt8)} (h0:H=H') (h1:r=r'):BQZ P f r H KK=BQZ P f r' H' KK:=by rw [h0,h1]
@[congr] theorem BXL {k n:Nat} {et:TypeId} {z:TV} (h0:H=H') (h1:x=x') (h2:y=y'):BLA k n et z x y H KK=BLA k n et z x' y' H' KK:=by rw [h0,h1,h2]
@[congr] theorem BZK {n:Bool} (h0:H=H') (h1:x=x'):BR2 n x H KK=BR2 n x' H' KK:=by rw [h0,h1]
@[congr] theorem BYN (h0:H=H'):BLJ H KK=BLJ H' KK:=by rw [h0]
@[congr] theorem BZW (h0:H=H') (h1:x=x'):BXz H x KK=BXz H' x' KK:=by rw [h0,h1]
@[congr] theorem BXv (h0:H=H') (h1:x=x') (h2:xs=xs'):BHA P x xs H KK=BHA P x' xs' H' KK:=by rw [h0,h1,h2]
@[congr] theorem BZS {P:Program} {nm:String} (h0:H=H') (h1:x=x') (h2:xs=xs'):BWX P nm x xs H KK=BWX P nm x' xs' H' KK:=by rw [h0,h1,h2]
@[congr] theorem BZZ {P:Program} {g g':Option (FuncId×Option (Bool×Nat))} (h:g=g') (h0:H=H') (h1:x=x') (h2:xs=xs'):BUz P g x xs H KK=BUz P g' x' xs' H' KK:=by rw [h,h0,h1,h2]
@[congr] theorem B0v {b:Bool} (h1:q=q'):Gd q b A B=Gd q' b A B:=by rw [h1]
end
section
variable {K:TV→Prop} {KK:TV→List Ob→Prop} {x y i a b c:Opd} {lo hi:Option Opd}
theorem BXQ:pop (.mov x) e H K=BtZ (x.ev e) K:=Btv rfl
theorem BVW:pop (.pick c a b) e H K=BNa (c.ev e) (a.ev e) (b.ev e) K:=Btv rfl
theorem BXE {t:TypeId} {op:BinOp}:pop (.bin t op x y) e H K=BXd t op (x.ev e) (y.ev e) K:=Btv rfl
theorem BZ9 {op:UnOp}:pop (.un op x) e H K=Pun op (x.ev e) K:=Btv rfl
theorem BWq {k:IntKind}:pop (.conv k x) e H K=BRy k (x.ev e) K:=Btv rfl
theorem BZc:pop (.s2s x) e H K=BXt (x.ev e) K:=Btv rfl
theorem BY6:pop (.b2s x) e H K=BXi (Bue H 1 (x.ev e)) K:=Btv rfl
theorem BVF {ag:Bool} {sz:Nat}:pop (.load ag sz x) e H K=BKw H ag sz (x.ev e) K:=Btv rfl
theorem BRd {n o:Nat}:pop (.fieldA n o x) e H K=BEX n o (x.ev e) K:=Btv rfl
theorem BTN {ag:Bool} {sz n o:Nat}:pop (.field ag sz n o x) e H K=BJm ag sz n o (x.ev e) K:=Btv rfl
theorem BV2 {k:Nat}:pop (.idxA k x i) e H K=BLG k (x.ev e) (i.ev e) K:=Btv rfl
theorem BT0 {n k:Nat}:pop (.idxAA n k x i) e H K=BHo n k (x.ev e) (i.ev e) K:=Btv rfl
theorem BYn {ag:Bool} {n k:Nat}:pop (.idx ag n k x i) e H K=BWz ag n k (x.ev e) (i.ev e) K:=Btv rfl
theorem BV4:pop (.idxS x i) e H K=BOf (x.ev e) (i.ev e) K:=Btv rfl
theorem BXZ {n:Nat}:pop (.ext n x) e H K=BWk n (x.ev e) K:=Btv rfl
theorem BV3:pop (.lenS x) e H K=BPA (x.ev e) K:=Btv rfl
theorem BVQ:pop (.lenV x) e H K=BLy (x.ev e) K:=Btv rfl
theorem BZf:pop (.slS x lo hi) e H K=BXq (x.ev e) (evO e lo) (evO e hi) K:=by
 show (match x.ev e with | .val (.string s)=>bnd e lo hi (bl s).length (bl s).length fun l h=>K (.val (.string (str (((bl s).drop l).take (h - l))))) | _=>False)=_
 simp only [BNF]; rfl
theorem BZz {k:Nat}:pop (.slV k x lo hi) e H K=BUt k (x.ev e) (evO e lo) (evO e hi) K:=by
 rw [BPS]; simp only [BNF]; rfl
theorem BYU {n k:Nat}:pop (.slA n k x lo hi) e H K=BUA H n k (x.ev e) (evO e lo) (evO e hi) K:=by
 rw [BZs]; simp only [BNF]; rfl
theorem BT5 {t:TypeId}:pop (.iface t x) e H K=BKO t (x.ev e) K:=Btv rfl
theorem BYX {f:Fn} {xs ys:List Opd}:pop (.mkf f xs ys) e H K=BUF f (evs e xs) (evs e ys) K:=by
 rw [BYo]; unfold BUF evs; rw [←List.map_append]
 refine congrArg (· ∧ _) (propext ⟨fun h y hy => ?_,fun h y hy=>h _ (List.mem_map.2 ⟨y,hy,rfl⟩)⟩)
 obtain ⟨z,hz,rfl⟩:=List.mem_map.1 hy; exact h z hz
theorem BUN:pop (.nilc x) e H K=BJQ (x.ev e) K:=Btv rfl
theorem BY7:pop (.min x y) e H K=BXb (x.ev e) (y.ev e) K:=Btv rfl
theorem BY9:pop (.max x y) e H K=BXf (x.ev e) (y.ev e) K:=Btv rfl
theorem BX7 {g:GOp} {xs:List Opd}:pop (.gen g xs) e H K=BGu g H (evs e xs) K:=Btv rfl
theorem BXV {n:Bool}:pop (.eqB x y n) e H K=BVl n (x.ev e) (y.ev e) K:=Btv rfl
theorem BYT {kd:Nat} {n:Bool}:pop (.eqN kd x y n) e H K=BWW n (BuW kd (x.ev e)) (BuW kd (y.ev e)) K:=Btv rfl
theorem BS7 {zs:List TV} {szs:List Nat} {ps:List (Nat×Opd)}:pop (.build zs szs ps) e H K=BuV (Bve e szs ps) (BtZ (TV.agg (BvW e zs ps)) K):=Btv rfl
theorem BRI {n k:Nat} {zs:List TV} {ps:List (Nat×Opd)}:pop (.buildA n k zs ps) e H K=BuV (Bve e (List.replicate n k) ps) (BuV (Bt8 e ps) (BtZ (TV.arr n k (BvW e zs ps)) K)):=Btv rfl
theorem BZh {k n:Nat} {z:TV} {ps:List (Nat×Opd)}:pop (.bsl k n z ps) e H K=BuV (Bve e (List.replicate n k) ps) (BuV (Bt8 e ps∧n≤1000) (BtZ (TV.sl k (BvW e (List.replicate n z) ps)) K)):=by
 show ((_∧_∧_)∧_)=_
 simp only [BuV,BtZ,and_assoc]
theorem BT1 {z:TV}:sop P (.alloc z) e H KK=BtZ (H.length) fun n=>BtZ (H++[.obj 0 z]) fun H'=>KK (.op n 0 []) H':=Btv rfl
theorem BPx {z:TV} {t:TypeId}:sop P (.allocT z t) e H KK=BtZ (H.length) fun n=>BtZ (BtL z) fun m=>BtZ (H++[.obj 0 z,.fact n 0 t m]) fun H'=>KK (.op n 0 []) H':=Btv rfl
theorem BWD {t:TypeId}:sop P (.boxT x t) e H KK=BtZ (x.ev e) fun v=>BuV (lays v=true) (BtZ (H.length) fun n=>BtZ (BtL v) fun m=>BtZ (H++[.obj 0 v,.fact n 0 t m]) fun H'=>KK (.op n 0 []) H'):=Btv rfl
theorem BUM {f:FuncId}:sop P (.bstr f x) e H KK=BQZ P f (BL6 H (x.ev e)) H KK:=Btv rfl
def BRJ (x:TV) (H:List Ob) (K:TV→List Ob→Prop) [Tg K]:Prop:=match x with
 | .val (.string s)=>K (.op H.length 0 []) (H++[.sit (bl s) 0])
 | _=>False
@[congr] theorem BYS {x x':TV} {H':List Ob} (h1:x=x') (h2:H=H'):BRJ x H KK=BRJ x' H' KK:=by rw [h1,h2]
theorem BVb:sop P (.rngS x) e H KK=BRJ (x.ev e) H KK:=Btv rfl
theorem BRN {s:ByteArray}:BRJ (.val (.string s)) H KK=BtZ H.length fun n=>BtZ (H++[.sit (bl s) 0]) fun H'=>KK (.op n 0 []) H':=Btv rfl
def BNo:Option Ob→Option (List UInt8×Nat)
 | some (.sit s pos)=>some (s,pos)
 | _=>none
theorem BQw {s:List UInt8} {pos:Nat}:BNo (some (.sit s pos))=some (s,pos):=Btv rfl
def BNZ (x:TV) (H:List Ob) (K:TV→List Ob→Prop) [Tg K]:Prop:=match x with
 | .op id 0 []=>(match H[id]? with
  | some (.sit s pos)=>if pos<s.length then K (.tup [.val (.bool true),.val (.int .i64 (pos:Int)),.val (.int .i32 ((Utf8.decode (str s) pos).1:Int))]) (H.set id (.sit s (pos+(Utf8.decode (str s) pos).2))) else K (.tup [.val (.bool false)]) H
  | _=>False)
 | _=>False
@[congr] theorem BX6 {x x':TV} {H':List Ob} (h1:x=x') (h2:H=H'):BNZ x H KK=BNZ x' H' KK:=by rw [h1,h2]
theorem BWS:sop P (.nxtS x) e H KK=BNZ (x.ev e) H KK:=Btv rfl
theorem BRp {id:Nat}:BNZ (.op id 0 []) H KK=Bt1 (BNo H[id]?) fun p=>vif (decide (p.2<p.1.length))
  (BtZ (H.set id (.sit p.1 (p.2+(Utf8.decode (str p.1) p.2).2))) fun H'=>KK (.tup [.val (.bool true),.val (.int .i64 (p.2:Int)),.val (.int .i32 ((Utf8.decode (str p.1) p.2).1:Int))]) H') (KK (.tup [.val (.bool false)]) H):=by
 unfold BNZ
 cases h:H[id]? with
 | none=>simp [BNo,Bt1,h]
 | some o =>
  cases o with
  | sit s pos=>simp only [h,BNo,Bt1,BtZ]; by_cases hp:pos<s.length<;>simp [vif,hp]
  | _=>simp [BNo,Bt1,h]
theorem BXC:sop P (.box x) e H KK=BtZ (x.ev e) fun v=>BuV (lays v=true) (BtZ (H.length) fun n=>BtZ (H++[.obj 0 v]) fun H'=>KK (.op n 0 []) H'):=Btv rfl
theorem BPu {k n:Nat} {z:TV} {ps:List (Nat×Opd)}:sop P (.bslice k n z ps) e H KK=BuV (Bve e (List.replicate n k) ps) (BuV (Bt8 e ps∧n≤1000) (BtZ H.length fun m=>BtZ (H++[.obj 0 (.arr n k (BvW e (List.replicate n z) ps))]) fun H'=>KK (.os k m 0 [] 0 n n) H')):=by
 rw [BOV]; simp only [BuV,BtZ,and_assoc]
def BGb (kk:MK):Option Ob→Option (List (List UInt8×TV))
 | some (.mpo kk' es)=>if kk'=kk then some es else none
 | _=>none
def BGV (kk:MK):Option Ob→Option (List (List UInt8×TV))
 | some (.mpo kk' es)=>if kk'=kk then some es else none
 | some (.mpd kk' zs _)=>if kk'=kk then some (zs.map (·.2)) else none
 | _=>none
theorem BRm {kk:MK} {es:List (List UInt8×TV)}:BGV kk (some (.mpo kk es))=some es:=by simp [BGV]
theorem BSq {kk:MK} {zs:List (Nat×List UInt8×TV)} {cl:Nat}:BGV kk (some (.mpd kk zs cl))=some (zs.map (·.2)):=by simp [BGV]
def BKt:Option Ob→Option (List (List UInt8×TV))
 | some (.mpo _ es)=>some es
 | some (.mpd _ zs _)=>some (zs.map (·.2))
 | _=>none
theorem BRD {kk:MK} {es:List (List UInt8×TV)}:BKt (some (.mpo kk es))=some es:=by simp [BKt]
theorem BTo {kk:MK} {zs:List (Nat×List UInt8×TV)} {cl:Nat}:BKt (some (.mpd kk zs cl))=some (zs.map (·.2)):=by simp [BKt]
theorem BTp {kk:MK} {es:List (List UInt8×TV)}:stO (some (.mpo kk es))=some (kk,BFO 0 es,es.length):=Btv rfl
theorem BTI {kk:MK} {zs:List (Nat×List UInt8×TV)} {cl:Nat}:stO (some (.mpd kk zs cl))=some (kk,zs,cl):=Btv rfl
def BMN (x:TV) (H:List Ob) (K:TV→List Ob→Prop) [Tg K]:Prop:=match x with
 | .mp id 0=>(match stO H[id]? with
  | some (_,_,cl)=>K (.op H.length 0 []) (H++[.mit id [] cl])
  | none=>False)
 | _=>False
@[congr] theorem BY8 {x x':TV} {H':List Ob} (h1:x=x') (h2:H=H'):BMN x H KK=BMN x' H' KK:=by rw [h1,h2]
theorem BV9:sop P (.rngM x) e H KK=BMN (x.ev e) H KK:=Btv rfl
theorem BQU {id:Nat}:BMN (.mp id 0) H KK=Bt1 (stO H[id]?) fun p=>BtZ H.length fun n=>BtZ (H++[.mit id [] p.2.2]) fun H'=>KK (.op n 0 []) H':=by
 unfold BMN
 cases h:stO H[id]? with
 | none=>simp [Bt1,h]
 | some o=>obtain ⟨a,b,c⟩:=o; simp [Bt1,BtZ,h]
def BId:Option Ob→Option (Nat×List Nat×Nat)
 | some (.mit m sn cl)=>some (m,sn,cl)
 | _=>none
theorem BQh {m cl:Nat} {sn:List Nat}:BId (some (.mit m sn cl))=some (m,sn,cl):=Btv rfl
def BNv (x:TV) (H:List Ob) (K:TV→List Ob→Prop) [Tg K]:Prop:=match x with
 | .op id 0 []=>(match H[id]? with
  | some (.mit m sn cl)=>(match stO H[m]? with
   | some (kk,zs,cl')=>(cl'=cl∧∀ z∈zs,z.1<cl)∧(∀ z∈zs,z.1∉sn→K (.tup [.val (.bool true),kTV kk z.2.1,z.2.2]) (H.set id (.mit m (sn++[z.1]) cl)))∧((∀ z∈zs,z.1∈sn)→K (.tup [.val (.bool false)]) H)
   | none=>False)
  | _=>False)
 | _=>False
@[congr] theorem BX8 {x x':TV} {H':List Ob} (h1:x=x') (h2:H=H'):BNv x H KK=BNv x' H' KK:=by rw [h1,h2]
theorem BVq:sop P (.nxtM x) e H KK=BNv (x.ev e) H KK:=Btv rfl
def BXr (id m:Nat) (sn:List Nat) (cl:Nat) (kk:MK) (zs:List (Nat×List UInt8×TV)) (cl':Nat) (H:List Ob) (K:TV→List Ob→Prop) [Tg K]:Prop :=
 (cl'=cl∧∀ z∈zs,z.1<cl)∧(∀ z∈zs,z.1∉sn→K (.tup [.val (.bool true),kTV kk z.2.1,z.2.2]) (H.set id (.mit m (sn++[z.1]) cl)))∧((∀ z∈zs,z.1∈sn)→K (.tup [.val (.bool false)]) H)
@[congr] theorem BZO {id m:Nat} {sn sn':List Nat} {cl c2:Nat} {kk:MK} {zs zs':List (Nat×List UInt8×TV)} {cl' c2':Nat} {H':List Ob} (h1:sn=sn') (h2:cl=c2) (h3:zs=zs') (h4:cl'=c2') (h5:H=H'):BXr id m sn cl kk zs cl' H KK=BXr id m sn' c2 kk zs' c2' H' KK:=by rw [h1,h2,h3,h4,h5]
theorem BRk {id:Nat}:BNv (.op id 0 []) H KK=Bt1 (BId H[id]?) fun p=>Bt1 (stO H[p.1]?) fun q=>BXr id p.1 p.2.1 p.2.2 q.1 q.2.1 q.2.2 H KK:=by
 unfold BNv
 cases h:H[id]? with
 | none=>simp [BId,Bt1,h]
 | some o =>
  cases o with
  | mit m sn cl =>
   simp only [h,BId,Bt1]
   cases h2:stO H[m]? with
   | none=>simp
   | some q=>obtain ⟨a,b,c⟩:=q; simp only [BXr]
  | _=>simp [BId,Bt1,h]
def BV1 (p:Nat×List Nat×Nat) (q:MK×List (Nat×List UInt8×TV)×Nat):Option TV:=match p.2.1.getLast? with
 | some s=>if q.2.2=p.2.2 then (match q.2.1.find? (·.1 == s) with
  | some z=>some (.tup [kTV q.1 z.2.1,z.2.2])
  | none=>none) else none
 | none=>none
def BUD (kk:MK) (o:Option Ob):Option (List (Nat×List UInt8×TV)×Nat):=match stO o with
 | some (kk',zs,cl)=>if kk'=kk then some (zs,cl) else none
 | none=>none
theorem BQK {kk:MK} {es:List (List UInt8×TV)}:BUD kk (some (.mpo kk es))=some (BFO 0 es,es.length):=by simp [BUD,stO]
theorem BRK {kk:MK} {zs:List (Nat×List UInt8×TV)} {cl:Nat}:BUD kk (some (.mpd kk zs cl))=some (zs,cl):=by simp [BUD,stO]
def BMF (kk:MK) (m k:TV) (H:List Ob) (K:TV→List Ob→Prop) [Tg K]:Prop:=match m,Bug kk k with
 | .mp id 0,some kb=>(match stO H[id]? with
  | some (kk',zs,cl)=>kk'=kk∧K .any (H.set id (.mpd kk (zs.eraseIdx (BG4 kb (zs.map (·.2)))) cl))
  | none=>False)
 | _,_=>False
@[congr] theorem BYB {kk:MK} {H':List Ob} {m m' k k':TV} (h1:m=m') (h2:k=k') (h4:H=H'):BMF kk m k H KK=BMF kk m' k' H' KK:=by rw [h1,h2,h4]
theorem BVD {kk:MK} {m k:Opd}:sop P (.delM kk m k) e H KK=BMF kk (m.ev e) (k.ev e) H KK:=Btv rfl
theorem BQY {kk:MK} {id:Nat} {kx:TV}:BMF kk (.mp id 0) kx H KK=Bt1 (BUD kk H[id]?) fun p=>Bt1 (Bug kk kx) fun kb=>BtZ (p.1.eraseIdx (BG4 kb (p.1.map (·.2)))) fun zs=>BtZ (H.set id (.mpd kk zs p.2)) fun H'=>KK .any H':=by
 unfold BMF BUD
 cases h:stO H[id]? with
 | none=>cases Bug kk kx<;>simp [h,Bt1]
 | some q =>
  obtain ⟨kk',zs,cl⟩:=q
  by_cases hk:kk'=kk
  ·subst hk; cases Bug kk' kx<;>simp [h,Bt1,BtZ]
  ·cases Bug kk kx<;>simp [h,Bt1,hk]
def BXy (H:List Ob) (x:TV) (K:TV→List Ob→Prop) [Tg K]:Prop:=match x with
 | .os k id ver [] off n cp=>n≠0∧obV H[id]?=some ver∧K (.os k id ver [] off n cp) H
 | _=>False
@[congr] theorem BZ7 {H':List Ob} {x x':TV} (h0:H=H') (h1:x=x'):BXy H x KK=BXy H' x' KK:=by rw [h0,h1]
theorem BYj {x:Opd}:sop P (.cvS x) e H KK=BXy H (x.ev e) KK:=Btv rfl
theorem BTR {k id ver off n cp:Nat}:BXy H (.os k id ver [] off n cp) KK=BuV (n≠0) (BuV (obV H[id]?=some ver) (KK (.os k id ver [] off n cp) H)):=Btv rfl
theorem BWy {v:Nat} {y:TV}:obV (some (.obj v y))=some v:=Btv rfl
def BMT (k:Nat) (z x:TV) (H:List Ob) (K:TV→List Ob→Prop) [Tg K]:Prop:=match x with
 | .os k' id ver p off n cp=>BBc k (.os k' id ver p off n cp) (List.replicate n z) H fun _ H'=>K .any H'
 | .val (.slice none 0 0)=>K .any H
 | _=>False
@[congr] theorem BYi {k:Nat} {z x x':TV} {H':List Ob} (h1:x=x') (h2:H=H'):BMT k z x H KK=BMT k z x' H' KK:=by rw [h1,h2]
theorem BVL {k:Nat} {z:TV}:sop P (.clrS k z x) e H KK=BMT k z (x.ev e) H KK:=Btv rfl
theorem BMx {k:Nat} {z:TV}:BMT k z (.val (.slice none 0 0)) H KK=KK .any H:=Btv rfl
theorem BPe {k id ver off n cp:Nat} {p:List (Nat×Nat)} {z:TV}:BMT k z (.os k id ver p off n cp) H KK=BtZ (List.replicate n z) fun ys=>BJV k (.os k id ver p off n cp) (some ys) H fun _ H'=>KK .any H':=Btv rfl
theorem BQT {kk:MK} {es:List (List UInt8×TV)}:BGb kk (some (.mpo kk es))=some es:=by simp [BGb]
theorem BVx {l:List UInt8}:Bug .str (.val (.string (str l)))=some l:=by simp [Bug,bl,str]
theorem BUK {n:Nat} {l:List UInt8}:Bug (.arr n) (.arr n 1 (l.map by8))=some l:=by
 unfold Bug; simp only [BEo,BCA,and_self,if_true]
theorem BS1 {z:TV} {r:Option TV}:BGc z false r=r.getD z:=by simp [BGc]
theorem BSm {z:TV} {r:Option TV}:BGc z true r = .tup [r.getD z,.val (.bool r.isSome)]:=by simp [BGc]
def BUw (x:TV) (A:Prop) [Tg A]:Prop:=match x with
 | .val (.int _ _)=>A
 | _=>False
@[congr] theorem BZ5 {x x':TV} {A:Prop} (h:x=x'):BUw x A=BUw x' A:=by rw [h]
theorem BSF {q:IntKind} {n:Int} {A:Prop}:BUw (.val (.int q n)) A=A:=by simp [BUw]
theorem BWP {kk:MK}:sop P (.mkm kk none) e H KK=BtZ H.length fun n=>BtZ (H++[.mpo kk []]) fun H'=>KK (.mp n 0) H':=by simp [sop,BtZ]
theorem BUU {kk:MK}:sop P (.mkm kk (some x)) e H KK=BUw (x.ev e) (BtZ H.length fun n=>BtZ (H++[.mpo kk []]) fun H'=>KK (.mp n 0) H'):=by
 simp only [sop,BtZ,BUw]
 cases x.ev e with
 | val v=>cases v<;>simp
 | _=>simp
def BNt (kk:MK) (m k v:TV) (H:List Ob) (K:TV→List Ob→Prop) [Tg K]:Prop:=match m,Bug kk k with
 | .mp id 0,some kb=>(match H[id]? with
  | some (.mpo kk' es)=>(kk'=kk∧lays v=true)∧K .any (H.set id (.mpo kk (BGO kb v es)))
  | _=>False)
 | _,_=>False
@[congr] theorem BYd {kk:MK} {H':List Ob} {m m' k k' v v':TV} (h1:m=m') (h2:k=k') (h3:v=v') (h4:H=H'):BNt kk m k v H KK=BNt kk m' k' v' H' KK:=by rw [h1,h2,h3,h4]
theorem BVP {kk:MK} {m k:Opd}:sop P (.mupd kk m k x) e H KK=BNt kk (m.ev e) (k.ev e) (x.ev e) H KK:=Btv rfl
def BNQ (kk:MK) (z m k:TV) (H:List Ob) (K:TV→List Ob→Prop) [Tg K]:Prop:=match m,Bug kk k with
 | .mp id 0,some kb=>(match H[id]? with
  | some (.mpo kk' es)=>kk'=kk∧K (.tup [(BBD kb es).getD z,.val (.int .i64 (BG4 kb es))]) (H.set id (.mpo kk (BGO kb ((BBD kb es).getD z) es)))
  | _=>False)
 | _,_=>False
@[congr] theorem BY3 {kk:MK} {H':List Ob} {z m m' k k':TV} (h1:m=m') (h2:k=k') (h4:H=H'):BNQ kk z m k H KK=BNQ kk z m' k' H' KK:=by rw [h1,h2,h4]
theorem BWg {kk:MK} {z:TV} {m k:Opd}:sop P (.ment kk z m k) e H KK=BNQ kk z (m.ev e) (k.ev e) H KK:=Btv rfl
def BOM (m st v:TV) (H:List Ob) (K:TV→List Ob→Prop) [Tg K]:Prop:=match m,st with
 | .mp id 0,.val (.int _ j)=>(match H[id]? with
  | some (.mpo kk es)=>(0≤j∧lays v=true)∧(match es[j.toNat]? with
   | some (k,_)=>K .any (H.set id (.mpo kk (es.set j.toNat (k,v))))
   | none=>False)
  | _=>False)
 | _,_=>False
@[congr] theorem BZp {H':List Ob} {m m' st st' v v':TV} (h1:m=m') (h2:st=st') (h3:v=v') (h4:H=H'):BOM m st v H KK=BOM m' st' v' H' KK:=by rw [h1,h2,h3,h4]
theorem BUS {m st:Opd}:sop P (.mest m st x) e H KK=BOM (m.ev e) (st.ev e) (x.ev e) H KK:=Btv rfl
theorem BUg {sz:Nat}:sop P (.store sz x y) e H KK=BIX H sz (x.ev e) (y.ev e) KK:=Btv rfl
theorem BXJ {k n:Nat} {z:TV}:sop P (.mks k n z x y) e H KK=BXu H k n z (x.ev e) (y.ev e) KK:=Btv rfl
theorem BYL {k n:Nat} {et:TypeId}:sop P (.app k n et x y) e H KK=BPZ k n et (x.ev e) (Bue H k (y.ev e)) H KK:=Btv rfl
theorem BVX {et:TypeId}:sop P (.appS et x y) e H KK=BQC et (x.ev e) (y.ev e) H KK:=Btv rfl
theorem BW5 {k:Nat}:sop P (.copy k x y) e H KK=BJV k (x.ev e) (Bue H k (y.ev e)) H KK:=Btv rfl
theorem BT9:sop P (.copyS x y) e H KK=BLg (x.ev e) (y.ev e) H KK:=Btv rfl
theorem BUQ {k n:Nat} {et:TypeId} {z:TV}:sop P (.appZ k n et z x y) e H KK=BLA k n et z (x.ev e) (y.ev e) H KK:=Btv rfl
theorem BXK {n:Bool}:sop P (.eqS x n) e H KK=BR2 n (x.ev e) H KK:=Btv rfl
theorem BYM:sop P (.s2b x) e H KK=BXz H (x.ev e) KK:=Btv rfl
theorem BU7 {f:FuncId} {args:List Opd}:sop P (.call f args) e H KK=BtZ (evs e args) fun xs=>BuV (BCN xs) (VC P f xs H KK):=by
 rw [BKT,BAt]; rfl
theorem BZr {nm:String} {args:List Opd}:sop P (.inv x nm args) e H KK=BtZ (evs e args) fun xs=>BuV (BCN xs) (BWX P nm (x.ev e) xs H KK):=by
 show ((∀ y∈args,BuI (y.ev e)=false)∧_)=_
 rw [BAt]; rfl
theorem BSh {args:List Opd}:sop P (.callv x args) e H KK=BtZ (evs e args) fun xs=>BuV (BCN xs) (BHA P (x.ev e) xs H KK):=by
 rw [BUa,BAt]; rfl
end
section
variable {K:TV→Prop} {KK:TV→List Ob→Prop} {x y:TV} {cs ys:List TV} {n n' k k':Nat} {id ver off cp:Nat} {p:List (Nat×Nat)} {j:Int} {q:IntKind} {lo hi:Option TV}
theorem BQ2 {t:Bool}:BNa (.val (.bool t)) x y K=vif t (K x) (K y):=by cases t<;>simp [BNa,vif]
theorem BSS {t:TypeId} {op:BinOp} {u v:Value}:BXd t op (.val u) (.val v) K=BuV (BOU u v=true) (Bt1 (BvB t op u v) fun r=>BtZ (TV.val r) K):=by
 show (_∧_)=_; cases BvB t op u v<;>rfl
theorem BU9 {op:UnOp} {u:Value}:Pun op (.val u) K=Bt1 (unV op u) fun r=>BtZ (TV.val r) K:=by
 unfold Pun; simp only; cases unV op u<;>rfl
theorem BPM {k:IntKind}:BRy k (.val (.int q j)) K=BtZ (TV.val (.int k (k.wrap j))) K:=Btv rfl
theorem BTT {s:ByteArray}:BXt (.val (.string s)) K=K (.val (.string s)):=Btv rfl
theorem BSQ:BXi (some cs) K=BuV (∀ y∈cs,BMp y) (BtZ (TV.val (.string (str (cs.map BFP)))) K):=Btv rfl
theorem BO7 {ag:Bool} {sz:Nat}:BKw H ag sz (.fp y) K=BuV (BHN ag sz y) (K y):=Btv rfl
theorem BQ7 {ag:Bool} {sz:Nat}:BKw H ag sz (.op id ver p) K=Bt1 (BwO H[id]? ver) fun x=>Bt1 (Bzf p x) fun y=>BuV (BHN ag sz y) (K y):=by
 unfold BKw
 simp only
 cases h:H[id]? with
 | none=>simp [BwO,Bt1]
 | some o =>
  cases o with
  | gone v=>simp [BwO,Bt1]
  | ice v m y=>simp [BwO,Bt1]
  | fact i v t m=>simp [BwO,Bt1]
  | bld v t l=>simp [BwO,Bt1]
  | lp st pe fn N en ps ca cb=>simp [BwO,Bt1]
  | mpo kk es=>simp [BwO,Bt1]
  | mpd kk zs cl=>simp [BwO,Bt1]
  | mit m sn cl=>simp [BwO,Bt1]
  | sit s pos=>simp [BwO,Bt1]
  | obj v x =>
   by_cases hv:v=ver
   ·subst hv; simp only [BwO,Bt1,BuV,if_true,true_and]; cases Bzf p x<;>rfl
   ·simp [BwO,Bt1,hv]
theorem BLF {i o:Nat}:BEX i o (.op id ver p) K=BtZ (p++[(i,o)]) fun p=>K (.op id ver p):=Btv rfl
theorem BLW {i o:Nat}:BEX i o (.fp (.agg cs)) K=BuV (Buh (cs.take i)=o) (Bt1 cs[i]? fun y=>K (.fp y)):=by
 unfold BEX; simp only; cases cs[i]?<;>rfl
theorem BME {ag:Bool} {sz i o:Nat}:BJm ag sz i o (.agg cs) K=BuV (Buh (cs.take i)=o) (Bt1 cs[i]? fun y=>BuV (BHN ag sz y) (K y)):=by
 unfold BJm; simp only; cases cs[i]?<;>rfl
theorem BOY:BLG k (.sl k cs) (.val (.int q j)) K=BuV (0≤j) (Bt1 cs[j.toNat]? fun y=>K (.fp y)):=by
 unfold BLG; simp only [true_and]; cases cs[j.toNat]?<;>rfl
theorem BPL:BLG k (.os k id ver p off n cp) (.val (.int q j)) K=BuV (0≤j∧j<n) (BtZ (off+j.toNat) fun m=>BtZ (p++[(m,m*k)]) fun p=>K (.op id ver p)):=by
 show (k=k∧_)=_; simp [BuV,BtZ,and_assoc]
theorem BOH:BHo n k (.fp (.arr n k cs)) (.val (.int q j)) K=BuV (0≤j) (Bt1 cs[j.toNat]? fun y=>K (.fp y)):=by
 unfold BHo; simp only [true_and]; cases cs[j.toNat]?<;>rfl
theorem BOa:BHo n k (.op id ver p) (.val (.int q j)) K=BuV (0≤j∧j<n) (BtZ j.toNat fun m=>BtZ (p++[(m,m*k)]) fun p=>K (.op id ver p)):=by
 show (_∧_)=_; simp [BuV,BtZ,and_assoc]
theorem BSJ {ag:Bool}:BWz ag n k (.arr n k cs) (.val (.int q j)) K=BuV (0≤j) (Bt1 cs[j.toNat]? fun y=>BuV (BHN ag k y) (K y)):=by
 unfold BWz; simp only [true_and]; cases cs[j.toNat]?<;>rfl
theorem BRO {s:ByteArray}:BOf (.val (.string s)) (.val (.int q j)) K=BuV (0≤j) (Bt1 (bl s)[j.toNat]? fun b=>K (by8 b)):=by
 unfold BOf; simp only; cases (bl s)[j.toNat]?<;>rfl
theorem BSP {i:Nat}:BWk i (.tup cs) K=Bt1 cs[i]? K:=by
 unfold BWk; simp only; cases cs[i]?<;>rfl
theorem BQH {s:ByteArray}:BPA (.val (.string s)) K=BtZ (TV.val (.int .i64 (bl s).length)) K:=Btv rfl
theorem BQG:BLy (.sl k cs) K=BtZ (TV.val (.int .i64 cs.length)) K:=Btv rfl
theorem BQo:BLy (.os k id ver p off n cp) K=K (.val (.int .i64 n)):=Btv rfl
theorem BMP {ad:Option Addr} {c:Nat}:BLy (.val (.slice ad n c)) K=K (.val (.int .i64 n)):=Btv rfl
section
variable {len lim:Nat} {KN:Nat→Nat→Prop} {l h:Int} {q2:IntKind}
theorem BSR:BIE none none len lim KN=BuV (len≤lim) (KN 0 len):=by
 show ((0≤(0:Int)∧(0:Int)≤(len:Int)∧(len:Int)≤lim)∧KN (Int.toNat 0) (Int.toNat len))=_
 simp [BuV]
theorem BUo:BIE (some (.val (.int q l))) none len lim KN=BuV (0≤l∧l≤len∧(len:Int)≤lim) (BtZ l.toNat fun l=>KN l len):=by
 show ((0≤l∧l≤(len:Int)∧(len:Int)≤lim)∧KN l.toNat (Int.toNat len))=_
 simp [BuV,BtZ]
theorem BSp:BIE none (some (.val (.int q h))) len lim KN=BuV (0≤h∧h≤lim) (BtZ h.toNat fun h=>KN 0 h):=by
 show ((0≤(0:Int)∧0≤h∧h≤lim)∧KN (Int.toNat 0) h.toNat)=_
 simp [BuV,BtZ]
theorem BS2:BIE (some (.val (.int q l))) (some (.val (.int q2 h))) len lim KN=BuV (0≤l∧l≤h∧h≤lim) (BtZ l.toNat fun l=>BtZ h.toNat fun h=>KN l h):=Btv rfl
end
theorem BSs {s:ByteArray}:BXq (.val (.string s)) lo hi K=BIE lo hi (bl s).length (bl s).length fun l h=>BtZ (((bl s).drop l).take (h - l)) fun r=>K (.val (.string (str r))):=Btv rfl
theorem BSE:BUt k (.sl k cs) lo hi K=BIE lo hi cs.length cs.length fun l h=>BtZ ((cs.drop l).take (h - l)) fun r=>K (.sl k r):=by
 exact propext ⟨fun h=>h.2,fun h=>⟨rfl,h⟩⟩
theorem BSD:BUt k (.os k id ver p off n cp) lo hi K=BIE lo hi n cp fun l h=>BtZ (off+l) fun o=>BtZ (h - l) fun m=>BtZ (cp - l) fun c=>K (.os k id ver p o m c):=by
 exact propext ⟨fun h=>h.2,fun h=>⟨rfl,h⟩⟩
theorem BRB {ad:Option Addr}:BUt k (.val (.slice ad 0 0)) lo hi K=BIE lo hi 0 0 fun l h=>K (.val (.slice ad 0 0)):=Btv rfl
theorem BUn:BUA H n k (.fp (.arr n k cs)) lo hi K=BuV (n≤9223372036854775807) (BIE lo hi n n fun l h=>BtZ ((cs.drop l).take (h - l)) fun r=>K (.sl k r)):=by
 exact propext ⟨fun h=>⟨h.2.2.1,h.2.2.2⟩,fun h=>⟨rfl,rfl,h.1,h.2⟩⟩
def BJj:Option TV→Nat→Nat→Option (List TV)
 | some (.arr n' k' cs),n,k=>if n'=n∧k'=k then some cs else none
 | _,_,_=>none
theorem BP2:BJj (some (.arr n k cs)) n k=some cs:=by simp [BJj]
theorem BUl:BUA H n k (.op id ver p) lo hi K=Bt1 (BwO H[id]? ver) fun x=>BuV (n≤9223372036854775807) (Bt1 (BJj (Bzf p x) n k) fun _=>BIE lo hi n n fun l h=>BtZ (h - l) fun m=>BtZ (n - l) fun c=>K (.os k id ver p l m c)):=by
 unfold BUA
 simp only
 cases h:H[id]? with
 | none=>simp [BwO,Bt1]
 | some o =>
  cases o with
  | gone v=>simp [BwO,Bt1]
  | ice v m y=>simp [BwO,Bt1]
  | fact i v t m=>simp [BwO,Bt1]
  | bld v t l=>simp [BwO,Bt1]
  | lp st pe fn N en ps ca cb=>simp [BwO,Bt1]
  | mpo kk es=>simp [BwO,Bt1]
  | mpd kk zs cl=>simp [BwO,Bt1]
  | mit m sn cl=>simp [BwO,Bt1]
  | sit s pos=>simp [BwO,Bt1]
  | obj v x =>
   by_cases hv:v=ver
   ·simp only [BwO,Bt1,hv,BuV,BtZ,if_true,true_and]
    congr 1
    cases hg:Bzf p x with
    | none=>simp [BJj]
    | some y =>
     cases y with
     | arr n2 k2 ds =>
      by_cases h1:n2=n
      ·by_cases h2:k2=k
       ·simp [BJj,h1,h2]; exact Iff.rfl
       ·simp [BJj,h1,h2]
      ·simp [BJj,h1]
     | _=>simp [BJj]
   ·simp [BwO,Bt1,hv]
theorem BNm {t:TypeId}:BKO t x K=BuV (lays x=true) (K (.ifc t x)):=Btv rfl
theorem BTF {f:Fn}:BUF f cs ys K=BuV (BCN (cs++ys)) (K (.fn f cs ys)):=Btv rfl
theorem BRj:BJQ (.op id ver p) K=K (.op id ver p):=Btv rfl
theorem BQ3:BJQ (.fp y) K=K (.fp y):=Btv rfl
theorem BRX {f:FuncId} {a b:List TV}:BJQ (.fn (.func f) a b) K=K (.fn (.func f) a b):=Btv rfl
theorem BNO {t:TypeId}:BJQ (.ifc t y) K=K (.ifc t y):=Btv rfl
theorem BLQ {f:FuncId} {a b:Array Value}:BJQ (.val (.func (.func f) a b)) K=K (.val (.func (.func f) a b)):=Btv rfl
section
variable {a b:Int} {q2:IntKind}
theorem BSW:BXb (.val (.int q a)) (.val (.int q2 b)) K=vif (decide (b<a)) (K (.val (.int q b))) (K (.val (.int q a))):=by
 show K _=_
 by_cases h:b<a<;>simp [vif,h]
theorem BTU:BXf (.val (.int q a)) (.val (.int q2 b)) K=vif (decide (a<b)) (K (.val (.int q b))) (K (.val (.int q a))):=by
 show K _=_
 by_cases h:a<b<;>simp [vif,h]
theorem BO1 {q1 q2 q3:IntKind} {l h m:Int}:BGu (.sl3 k) H [.sl k cs,.val (.int q1 l),.val (.int q2 h),.val (.int q3 m)] K=BuV (0≤l∧l≤h∧h≤m∧m≤cs.length) (BtZ ((cs.drop l.toNat).take (h.toNat - l.toNat)) fun r=>K (.sl k r)):=by
 unfold BGu gev BuV BtZ
 simp only [true_and]
 by_cases hc:0≤l∧l≤h∧h≤m∧m≤cs.length
 ·rw [if_pos hc]; simp [hc]
 ·rw [if_neg hc]; simp only [hc,false_and]
theorem BO5 {sh:List EL} {b:Bool} {xs ys:List TV}:BGu (.eqR sh b) H [.agg xs,.agg ys] K=Bt1 (BIg sh xs ys) fun r=>BtZ (TV.val (.bool (xor b r))) K:=by
 have hg:gev (.eqR sh b) H [.agg xs,.agg ys]=(BIg sh xs ys).map fun r => .val (.bool (xor b r)):=by unfold gev; rfl
 unfold BGu Bt1 BtZ
 rw [hg]
 cases BIg sh xs ys<;>rfl
theorem BQb:BIg [] [] []=some true:=Btv rfl
theorem BWY {l:List EL} {k:IntKind} {a b:Int} {xs ys:List TV}:BIg (.i::l) (.val (.int k a)::xs) (.val (.int k b)::ys)=(BIg l xs ys).map fun r=>(a == b) && r:=by rw [BIg,if_pos rfl]
theorem BUJ {l:List EL} {a b:ByteArray} {xs ys:List TV}:BIg (.s::l) (.val (.string a)::xs) (.val (.string b)::ys)=(BIg l xs ys).map fun r=>(a == b) && r:=Btv rfl
theorem BWe {l:List EL} {n:Nat} {a b:List UInt8} {xs ys:List TV}:BIg (.b n::l) (.arr n 1 (a.map by8)::xs) (.arr n 1 (b.map by8)::ys)=(BIg l xs ys).map fun r=>(a == b) && r:=by
 rw [BIg]
 simp only [BEo,BCA,and_self,if_true]
theorem BRx {n:Nat} {b:Bool} {xs ys:List UInt8}:BGu (.eqA n b) H [.arr n 1 (xs.map by8),.arr n 1 (ys.map by8)] K=BtZ (TV.val (.bool (xor b (xs == ys)))) K:=by
 unfold BGu gev BtZ
 simp only [BEo,BCA,and_self,if_true]
theorem BRG {q:IntKind} {n:Int}:BGu .r2s H [.val (.int q n)] K=BtZ (TV.val (.string (Utf8.encode n))) K:=Btv rfl
theorem BQe {t t':TypeId}:BGu (.tas t) H [.ifc t' x] K=BuV (t'=t) (K x):=by
 unfold BGu gev BuV
 by_cases h:t'=t<;>simp [h]
theorem BOn {a:Option Addr} {l n:Nat}:BGu .capV H [.val (.slice a l n)] K=BtZ (TV.val (.int .i64 (n:Int))) K:=Btv rfl
theorem BPN {n:Nat}:BGu (.s2a n k) H [.sl k cs] K=BuV (0<n∧n≤cs.length) (BtZ (cs.take n) fun r=>K (.fp (.arr n k r))):=by
 unfold BGu gev BuV BtZ
 simp only [true_and]
 by_cases hc:0<n∧n≤cs.length
 ·rw [if_pos hc]; simp [hc]
 ·rw [if_neg hc]; simp only [hc,false_and]
theorem BWI {s t:Bool}:BVl false (.val (.bool s)) (.val (.bool t)) K=BtZ (TV.val (.bool (s == t))) K:=by
 show K _=_; simp [BtZ]
theorem BVw {s t:Bool}:BVl true (.val (.bool s)) (.val (.bool t)) K=BtZ (TV.val (.bool (!(s == t)))) K:=by
 show K _=_; simp [BtZ]
theorem BVv {m b:Bool}:BWW m (some true) (some b) K=BtZ (TV.val (.bool (xor m b))) K:=Btv rfl
theorem BVu {m:Bool}:BWW m (some false) (some true) K=BtZ (TV.val (.bool (xor m false))) K:=Btv rfl
end
theorem BQg {kk:MK} {m:Nat} {kx v:TV}:BNt kk (.mp m 0) kx v H KK=Bt1 (BGb kk H[m]?) fun es=>Bt1 (Bug kk kx) fun kb=>BuV (lays v=true) (BtZ (BGO kb v es) fun es'=>BtZ (H.set m (.mpo kk es')) fun H'=>KK .any H'):=by
 unfold BNt
 cases hh:H[m]? with
 | none=>cases Bug kk kx<;>simp [hh,BGb,Bt1]
 | some o =>
  cases o with
  | mpo kk' es =>
   by_cases hk:kk'=kk
   ·subst hk; cases Bug kk' kx<;>simp [hh,BGb,Bt1,BuV,BtZ]
   ·cases Bug kk kx<;>simp [hh,BGb,Bt1,hk]
  | _=>cases Bug kk kx<;>simp [hh,BGb,Bt1]
theorem BQV {kk:MK} {m:Nat} {kx z:TV}:BNQ kk z (.mp m 0) kx H KK=Bt1 (BGb kk H[m]?) fun es=>Bt1 (Bug kk kx) fun kb=>BtZ ((BBD kb es).getD z) fun y=>BtZ (BG4 kb es) fun p=>BtZ (BGO kb y es) fun es'=>BtZ (H.set m (.mpo kk es')) fun H'=>KK (.tup [y,.val (.int .i64 (p:Int))]) H':=by
 unfold BNQ
 cases hh:H[m]? with
 | none=>cases Bug kk kx<;>simp [hh,BGb,Bt1]
 | some o =>
  cases o with
  | mpo kk' es =>
   by_cases hk:kk'=kk
   ·subst hk; cases Bug kk' kx<;>simp [hh,BGb,Bt1,BtZ]
   ·cases Bug kk kx<;>simp [hh,BGb,Bt1,hk]
  | _=>cases Bug kk kx<;>simp [hh,BGb,Bt1]
def BHt:Option Ob→Option (MK×List (List UInt8×TV))
 | some (.mpo kk es)=>some (kk,es)
 | _=>none
theorem BOp {kk:MK} {es:List (List UInt8×TV)}:BHt (some (.mpo kk es))=some (kk,es):=by simp [BHt]
theorem BO0 {m j:Nat} {q:IntKind} {v:TV}:BOM (.mp m 0) (.val (.int q (j:Int))) v H KK=Bt1 (BHt H[m]?) fun p=>BuV (lays v=true) (Bt1 p.2[j]? fun y=>BtZ (p.2.set j (y.1,v)) fun es'=>BtZ (H.set m (.mpo p.1 es')) fun H'=>KK .any H'):=by
 unfold BOM
 cases hh:H[m]? with
 | none=>simp [hh,BHt,Bt1]
 | some o =>
  cases o with
  | mpo kk' es =>
   simp only [hh,BHt,Bt1,BuV,BtZ,Int.natCast_nonneg,true_and,Int.toNat_natCast]
   cases es[j]?<;>simp
  | _=>simp [hh,BHt,Bt1]
theorem BOk {kk:MK} {z kx:TV} {ok:Bool} {m:Nat}:BGu (.look kk z ok) H [.mp m 0,kx] K=Bt1 (BGV kk H[m]?) fun es=>Bt1 (Bug kk kx) fun kb=>BtZ (BGc z ok (BBD kb es)) K:=by
 unfold BGu gev BIp
 cases hh:H[m]? with
 | none=>cases hb:Bug kk kx<;>simp [hh,hb,BGV,Bt1]
 | some o =>
  cases o with
  | mpo kk' es =>
   by_cases hk:kk'=kk
   ·subst hk; cases hb:Bug kk' kx<;>simp [hh,hb,BGV,Bt1,BtZ]
   ·cases hb:Bug kk kx<;>simp [hh,hb,BGV,Bt1,hk]
  | mpd kk' zs cl =>
   by_cases hk:kk'=kk
   ·subst hk; cases hb:Bug kk' kx<;>simp [hh,hb,BGV,Bt1,BtZ]
   ·cases hb:Bug kk kx<;>simp [hh,hb,BGV,Bt1,hk]
  | _=>cases hb:Bug kk kx<;>simp [hh,hb,BGV,Bt1]
theorem BLZ {kk:MK} {z kx:TV} {ok:Bool}:BGu (.look kk z ok) H [.val (.map none),kx] K=Bt1 (Bug kk kx) fun kb=>BtZ (BGc z ok none) K:=by
 unfold BGu gev BIp
 cases hb:Bug kk kx<;>simp [hb,Bt1,BtZ]
theorem BM8 {m:Nat}:BGu .lenM H [.mp m 0] K=Bt1 (BKt H[m]?) fun p=>BtZ p.length fun n=>BtZ (TV.val (.int .i64 (n:Int))) K:=by
 unfold BGu gev BPH
 cases hh:H[m]? with
 | none=>simp [hh,BKt,Bt1]
 | some o=>cases o<;>simp [hh,BKt,Bt1,BtZ]
theorem BMt {id:Nat}:BGu .entM H [.op id 0 []] K=Bt1 (BId H[id]?) fun p=>Bt1 (stO H[p.1]?) fun q=>Bt1 (BV1 p q) K:=by
 unfold BGu gev BXm
 cases hh:H[id]? with
 | none=>simp [hh,BId,Bt1]
 | some o =>
  cases o with
  | mit m sn cl =>
   simp only [hh,BId,Bt1,BV1]
   cases h2:stO H[m]? with
   | none=>simp
   | some q =>
    obtain ⟨kk,zs,cl'⟩:=q
    cases h3:sn.getLast? with
    | none=>simp
    | some s =>
     by_cases hc:cl'=cl
     ·subst hc; cases hf:zs.find? (·.1 == s)<;>simp [hf]
     ·simp [hc]
  | _=>simp [hh,BId,Bt1]
theorem BOj {sz:Nat}:BIX H sz (.op id ver p) y KK=BuV (lays y=true∧BtL y=sz) (Bt1 (BwO H[id]? ver) fun z=>Bt1 (BDZ p z y) fun z'=>BtZ (H.set id (.obj ver z')) fun H'=>KK .any H'):=by
 unfold BIX
 simp only [BuV]
 congr 1
 cases h:H[id]? with
 | none=>simp [BwO,Bt1]
 | some o =>
  cases o with
  | gone v=>simp [BwO,Bt1]
  | ice v m y=>simp [BwO,Bt1]
  | fact i v t m=>simp [BwO,Bt1]
  | bld v t l=>simp [BwO,Bt1]
  | lp st pe fn N en ps ca cb=>simp [BwO,Bt1]
  | mpo kk es=>simp [BwO,Bt1]
  | mpd kk zs cl=>simp [BwO,Bt1]
  | mit m sn cl=>simp [BwO,Bt1]
  | sit s pos=>simp [BwO,Bt1]
  | obj v x =>
   by_cases hv:v=ver
   ·subst hv; simp only [BwO,Bt1,BtZ,if_true,true_and]; cases BDZ p x y<;>rfl
   ·simp [BwO,Bt1,hv]
theorem BTe {z:TV} {l c:Int} {q2:IntKind} {bytes:Nat}:BXu H k bytes z (.val (.int q l)) (.val (.int q2 c)) KK=BuV (0≤l∧l≤c∧(bytes:Int)*c≤281474976710656∧c≤9223372036854775807) (BtZ l.toNat fun l=>BtZ c.toNat fun c=>BtZ H.length fun m=>BtZ (H++[.obj 0 (.arr c k (List.replicate c z))]) fun H'=>KK (.os k m 0 [] 0 l c) H'):=Btv rfl
theorem BRq {bytes:Nat} {et:TypeId}:BPZ k bytes et (.val (.slice none 0 0)) (some ys) H KK=BuV (ys.length*bytes≤140737488355328∧ys.length≤9223372036854775807) (BtZ ys.length fun n=>BtZ H.length fun m=>BtZ (H++[.obj 1 (.arr n k ys)]) fun H'=>KK (.os k m 1 [] 0 n n) H'):=Btv rfl
def BKm:Option TV→Nat→Option (List TV)
 | some (.arr _ k' cs),k=>if k'=k then some cs else none
 | _,_=>none
theorem BQE:BKm (some (.arr n k cs)) k=some cs:=by simp [BKm]
theorem BQc {v n2:Nat} {et:TypeId}:BQl (some (.obj v (.arr n2 k cs))) v k et off n ys=some (.obj (v+1) (.arr (n+ys.length) k ((cs.drop off).take n++ys))):=by simp [BQl]
theorem BKX {v:Nat} {et:TypeId} {l m:List UInt8}:BQl (some (.bld v et l)) v 1 et 0 n (m.map by8)=some (.bld (v+1) et (l.take n++m)):=by
 simp only [BQl,BEo,BCA,and_self,if_true]
theorem BMX {v:Nat} {et:TypeId} {l:List UInt8} {b:UInt8}:BQl (some (.bld v et l)) v 1 et 0 n [by8 b]=some (.bld (v+1) et (l.take n++[b])):=BKX (m:=[b])
theorem BRF {v n2:Nat}:BUB (some (.obj v (.arr n2 k cs)))=cs.length:=by simp [BUB]
theorem BPv {v:Nat} {et:TypeId} {l:List UInt8}:BUB (some (.bld v et l))=l.length:=by simp [BUB]
theorem BS5 {bytes:Nat} {et:TypeId}:BPZ k bytes et (.os k id ver [] off n cp) (some ys) H KK=Bt1 (BQl H[id]? ver k et off n ys) fun o=>BuV (off+n≤BUB H[id]?∧(n+ys.length)*bytes≤140737488355328∧n+ys.length≤9223372036854775807)
   (BtZ (n+ys.length) fun m=>BtZ (H.set id o) fun H'=>KK (.os k id (ver+1) [] 0 m m) H'):=by
 unfold BPZ BG5
 simp only [true_and]
 cases h:BQl H[id]? ver k et off n ys with
 | none=>simp [Bt1]
 | some o=>simp [Bt1,BuV,BtZ]
theorem BRw {s:ByteArray} {et:TypeId}:BQC et x (.val (.string s)) H KK=BtZ ((bl s).map by8) fun ys=>BPZ 1 1 et x (some ys) H KK:=Btv rfl
def BYh:Option TV→Option Nat
 | some (.arr n _ _)=>some n
 | _=>none
theorem BTk:BYh (some (.arr n k cs))=some n:=Btv rfl
theorem BQ8:BJV k (.os k id ver p off n cp) (some ys) H KK=Bt1 (BwO H[id]? ver) fun z=>Bt1 (BKm (Bzf p z) k) fun cs=>Bt1 (BYh (Bzf p z)) fun N=>BuV (off+n≤cs.length) (Bt1 (BDZ p z (.arr N k (cs.take off++(ys.take n++cs.drop (off+min ys.length n))))) fun z' =>
  BtZ (H.set id (.obj ver z')) fun H'=>BtZ (TV.val (.int .i64 (min ys.length n:Nat))) fun r=>KK r H'):=by
 unfold BJV BBc
 simp only [true_and]
 cases h:H[id]? with
 | none=>simp [BwO,Bt1]
 | some o =>
  cases o with
  | gone v=>simp [BwO,Bt1]
  | ice v m y=>simp [BwO,Bt1]
  | fact i v t m=>simp [BwO,Bt1]
  | bld v t l=>simp [BwO,Bt1]
  | lp st pe fn N en ps ca cb=>simp [BwO,Bt1]
  | mpo kk es=>simp [BwO,Bt1]
  | mpd kk zs cl=>simp [BwO,Bt1]
  | mit m sn cl=>simp [BwO,Bt1]
  | sit s pos=>simp [BwO,Bt1]
  | obj v x =>
   by_cases hv:v=ver
   ·simp only [BwO,Bt1,hv,if_true,true_and]
    cases hg:Bzf p x with
    | none=>simp [BKm]
    | some y =>
     cases y with
     | arr n2 k2 ds =>
      by_cases h1:k2=k
      ·subst h1; simp only [BKm,BYh,BuV,BtZ,if_true,true_and]; refine congrArg (_ ∧ ·) ?_; cases BDZ p x (.arr n2 k2 (ds.take off++(ys.take n++ds.drop (off+min ys.length n))))<;>rfl
      ·simp [BKm,h1]
     | _=>simp [BKm]
   ·simp [BwO,Bt1,hv]
theorem BM2 {s:ByteArray}:BLg x (.val (.string s)) H KK=BtZ ((bl s).map by8) fun ys=>BJV 1 x (some ys) H KK:=Btv rfl
theorem BRE {f:FuncId} {j v:Nat} {l:List UInt8}:BQZ P f (some (j,v,l)) H KK=BuV (BXN P f) (BuV (l.length≤9223372036854775807) (BtZ (H.set j (.gone v)) fun H'=>KK (.val (.string (str l))) H')):=Btv rfl
def BVj (o:Option Ob) (j v n:Nat) (a:TV):Option (Nat×Nat×List UInt8):=match o with
 | some (.bld v3 t l)=>if v3=v∧t=BJK∧n=l.length∧BtL a=1 then some (j,v,l) else none
 | _=>none
def BPb (H:List Ob) (j v n:Nat) (a:TV):Option (Nat×Nat×List UInt8):=BVj H[j]? j v n a
def BMe (H:List Ob) (q:Option TV):Option (Nat×Nat×List UInt8):=match q with
 | some (.agg [a,.os 1 j v2 [] 0 n cp])=>BPb H j v2 n a
 | _=>none
theorem BQs {id ver:Nat} {p:List (Nat×Nat)}:BL6 H (.op id ver p)=BMe H ((BwO H[id]? ver).bind (Bzf p)):=by
 unfold BL6
 simp only []
 cases h:H[id]? with
 | none=>simp [BwO,BMe]
 | some o =>
  cases o with
  | obj v y =>
   by_cases hv:v=ver
   ·simp only [BwO,hv,if_true,Option.bind_some]
    unfold BMe BPb BVj
    rfl
   ·simp [BwO,BMe,hv]
  | _=>simp [BwO,BMe]
theorem BO2 {a:TV} {j v n cp:Nat}:BMe H (some (.agg [a,.os 1 j v [] 0 n cp]))=BPb H j v n a:=Btv rfl
theorem BQA {a:TV} {j v n:Nat}:BPb H j v n a=BVj H[j]? j v n a:=Btv rfl
theorem BTS {a:TV} {j v n:Nat} {l:List UInt8} (hn:n=l.length) (ha:BtL a=1):BVj (some (.bld v 5 l)) j v n a=some (j,v,l):=by
 simp [BVj,hn,ha,BJK]
theorem BSk {s:ByteArray}:BXz H (.val (.string s)) KK=BuV ((bl s).length≤9223372036854775807) (BtZ (bl s).length fun n=>BtZ ((bl s).map by8) fun r=>BtZ H.length fun m=>BtZ (H++[.obj 0 (.arr n 1 r)]) fun H'=>KK (.os 1 m 0 [] 0 n n) H'):=Btv rfl
theorem BQi {et:TypeId} {z:TV} {j:Nat} {bytes:Nat}:BLA k bytes et z (.os k id ver [] off n cp) (.val (.int .i64 (j:Int))) H KK=BuV ((bytes:Int)*j≤140737488355328∧(j:Int)≤9223372036854775807) (BPZ k bytes et (.os k id ver [] off n cp) (some (List.replicate j z)) H KK):=by
 unfold BLA BPZ
 simp only [Int.toNat_natCast]
 exact propext ⟨fun h=>⟨h.1.2,h.2⟩,fun h=>⟨⟨Int.natCast_nonneg _,h.1⟩,h.2⟩⟩
theorem BPG {et:TypeId} {z:TV} {j:Int} {bytes:Nat}:BLA k bytes et z (.val (.slice none 0 0)) (.val (.int .i64 j)) H KK=BuV (0≤j∧(bytes:Int)*j≤140737488355328∧j≤9223372036854775807) (BtZ j.toNat fun n=>BtZ H.length fun m=>BtZ (H++[.obj 0 (.arr n k (List.replicate n z))]) fun H'=>KK (.os k m 0 [] 0 n n) H'):=Btv rfl
theorem BRW {n:Bool} {a:Option Addr} {l c:Nat}:BR2 n (.val (.slice a l c)) H KK=KK (.val (.bool (xor n a.isNone))) H:=Btv rfl
theorem BUc {n:Bool}:BR2 n (.sl k cs) H KK=vif (decide (cs.length=0)) (BLJ H KK) (KK (.val (.bool n)) H):=by
 unfold BR2 vif BLJ
 by_cases h:cs=[]
 ·subst h; simp
 ·have h2:¬ cs.length=0:=fun e=>h (List.length_eq_zero_iff.1 e)
  simp [h,h2]
theorem BSw {n:Bool} {m off l cp:Nat} {p:List (Nat×Nat)}:BR2 n (.os k m ver p off l cp) H KK=vif (decide (l=0)) (BLJ H KK) (KK (.val (.bool n)) H):=by
 unfold BR2 vif BLJ
 by_cases h:l=0
 ·subst h; simp
 ·simp [h]
theorem BNM {f:FuncId} {a b:List TV}:BHA P (.fn (.func f) a b) cs H KK=BuV (BEV P f=true) (BtZ (a++cs++b) fun xs=>VC P f xs H KK):=Btv rfl
theorem BLP {f:FuncId}:BHA P (.val (.func (.func f) #[] #[])) cs H KK=BuV (BEV P f=true) (VC P f cs H KK):=by
 exact propext ⟨fun h=>⟨h.2.1,h.2.2⟩,fun h=>⟨rfl,h.1,h.2⟩⟩
theorem BNU:BHA P (.yl id ver) cs H KK=VY P id ver cs H KK:=Btv rfl
theorem BUm {nm:String} {t:TypeId}:BWX P nm (.ifc t x) cs H KK=BUz P (BQz P t nm) x cs H KK:=by
 unfold BWX BXg BUz
 show (match BQz P t nm with | some (f,none)=>_ | some (f,some (ag,sz))=>_ | none=>False)=_
 rcases BQz P t nm with _ | ⟨f,_ | ⟨ag,sz⟩⟩<;>rfl
theorem BWB {f:FuncId}:BUz P (some (f,none)) x cs H KK=BuV (BEV P f=true) (BtZ (x::cs) fun xs=>VC P f xs H KK):=Btv rfl
theorem BWa {f:FuncId} {ag:Bool} {sz:Nat}:BUz P (some (f,some (ag,sz))) x cs H KK=BuV (BEV P f=true) (BKw H ag sz x fun y=>BtZ (y::cs) fun xs=>VC P f xs H KK):=Btv rfl
theorem BYw {t:Bool} {A B:Prop}:Gd (some t) true A B=vif t A B:=Btv rfl
theorem BYr {t:Bool} {A B:Prop}:Gd (some t) false A B=vif t B A:=by cases t<;>simp [Gd,vif]
theorem B0e {b:Bool} {A B:Prop}:Gd none b A B=B:=Btv rfl
end
section
variable {Q:VEx→Env→List Ob→Prop} {l:List VO} {kp:List Nat} {a b:Btx}
def BPd (x:TV) (A B:Prop) [Tg A] [Tg B]:Prop:=match x with
  | .val (.bool t)=>if t=true then A else B
  | _=>False
@[congr] theorem BYR {x x':TV} {A B:Prop} (h:x=x'):BPd x A B=BPd x' A B:=by rw [h]
theorem BQu {t:Bool} {A B:Prop}:BPd (.val (.bool t)) A B=vif t A B:=Btv rfl
theorem BXM:vwp P (.ops l kp) Q e H=BFA P l (fun e H=>BtZ (forget kp e) fun e=>Q .nor e H) e H:=Btv rfl
def BRL (zs:List Nat) (e:Env) (H:List Ob) (K:Env→List Ob→Prop) [Tg K]:Prop:=BUx zs K e H
@[congr] theorem BZx {zs:List Nat} {e e':Env} {H H':List Ob} {K:Env→List Ob→Prop} (h1:e=e') (h2:H=H'):BRL zs e H K=BRL zs e' H' K:=by rw [h1,h2]
theorem BX5 {K:Env→List Ob→Prop}:BRL [] e H K=K e H:=Btv rfl
theorem BUI {l r:List VO} {zs kp:List Nat}:vwp P (.opsZ l zs r kp) Q e H=BFA P l (fun e H=>BRL zs e H fun e H=>BFA P r (fun e H=>BtZ (forget kp e) fun e=>Q .nor e H) e H) e H:=Btv rfl
theorem BVk {n:Nat}:vwp P (.draw n l kp) Q e H=(vq P (l.take n) (fun e=>BFA P (l.drop n) (fun e H=>BtZ (forget kp e) fun e=>Q .nor e H) e H) e H):=Btv rfl
def Thn (P:Program) (b:Btx) (Q:VEx→Env→List Ob→Prop):VEx→Env→List Ob→Prop:=fun x e H=>match x with | .nor=>vwp P b Q e H | .exit i=>Q (.exit i) e H | .ret=>Q .ret e H | .pan u=>Q (.pan u) e H
theorem BTE:Thn P b Q .nor e H=vwp P b Q e H:=Btv rfl
theorem BPU {i:Nat}:Thn P b Q (.exit i) e H=Q (.exit i) e H:=Btv rfl
theorem BSV:Thn P b Q .ret e H=Q .ret e H:=Btv rfl
theorem BYt:vwp P (.seq a b) Q e H=vwp P a (Thn P b Q) e H:=Btv rfl
def Blk (id:Nat) (Q:VEx→Env→List Ob→Prop):VEx→Env→List Ob→Prop:=fun x e H=>match x with | .nor=>Q .nor e H | .exit i=>if i=id then Q .nor e H else Q (.exit i) e H | .ret=>Q .ret e H | .pan u=>Q (.pan u) e H
theorem BUj {id:Nat}:Blk id Q .nor e H=Q .nor e H:=Btv rfl
theorem BOW {id:Nat}:Blk id Q (.exit id) e H=Q .nor e H:=by simp [Blk]
theorem BKK {id i:Nat} (h:i≠id):Blk id Q (.exit i) e H=Q (.exit i) e H:=by simp [Blk,h]
theorem BSu {id:Nat}:Blk id Q .ret e H=Q .ret e H:=Btv rfl
theorem BUh {id:Nat}:vwp P (.block id a) Q e H=vwp P a (Blk id Q) e H:=Btv rfl
theorem BWn {c:Opd}:vwp P (.cond c a b) Q e H=BPd (c.ev e) (vwp P a Q e H) (vwp P b Q e H):=Btv rfl
def Rnd (n0:Nat) (lv:List Nat) (Q:VEx→Env→List Ob→Prop) (I:Nat→Env→List Ob→Prop) (n:Nat):VEx→Env→List Ob→Prop:=fun x e H=>match x with
 | .nor=>∃ m g,m<n∧(n0≤g∧(H.length≤g∨(BC2 g (forget lv e)=true∧BEv g (H.take g)=true)))∧I m (forget lv e) (H.take g)
 | .exit i=>Q (.exit i) e H | .ret=>Q .ret e H | .pan u=>Q (.pan u) e H
section
variable {n0:Nat} {lv:List Nat} {I:Nat→Env→List Ob→Prop} {n:Nat}
theorem BQS {i:Nat}:Rnd n0 lv Q I n (.exit i) e H=Q (.exit i) e H:=Btv rfl
theorem BSf:Rnd n0 lv Q I n .ret e H=Q .ret e H:=Btv rfl
theorem BtV (m:Nat) (hm:m<n) (h:n0≤H.length) (hR:I m (forget lv e) H):Rnd n0 lv Q I n .nor e H:=by
 refine ⟨m,H.length,hm,⟨h,.inl (Nat.le_refl _)⟩,?_⟩
 rw [List.take_length]; exact hR
end
theorem Byl {lv:List Nat} {H0:List Ob} (I:Nat→Env→List Ob→Prop) (n:Nat) (h0:I n (forget lv e) H0)
  (hs:∀ n e H,I n e H→vwp P a (Rnd H0.length lv Q I n) e H):vwp P (.loop lv a) Q e H0:=by
 rw [BIY]
 exact ⟨I,n,h0,hs⟩
theorem BUq {f:Opd} {ps:List Nat} {g:FuncId} {first caps:List TV} (hf:f.ev e = .fn (.func g) first caps) (hg:BEV P g=true) (ha:BE4 a=true) (hb:BE4 b=true)
  (h:∀ (N:Nat) (fn:FuncId) (ca cb:Code),BK7 P N ps ca cb a b→BtJ P g (first++[.yl H.length 0]++caps) (H++[.lp .ready none fn N e ps ca cb]) (BHq Q e H.length)):vwp P (.rfunc f ps a b) Q e H:=by
 rw [vwp,hf]; exact ⟨ha,hb,hg,h⟩
theorem o_g {d s:Nat} {o:VOp} {b:Bool} {r:List VO} {K:Env→List Ob→Prop}:BFA P (⟨some d,o,some (s,b)⟩::r) K e H=BGU e s fun e q=>Gd q b (vop P o e H (fun x H=>BFA P r K ((d,x)::e) H)) (BFA P r K ((d,.val undef)::e) H):=by
 rw [BHU]; refine congrArg (BGU e s) ?_; funext e q; cases q<;>rfl
def BN9 (x:TV) (e:Env) (s:Nat) (Q:Env→Option Bool→Prop) [Tg Q]:Prop:=match x with
 | .val v=>Q e (isB v)
 | .any=>(∀ t,Q ((s,.val (.bool t))::e) (some t))∧∀ v,isB v=none→Q ((s,.val v)::e) none
 | _=>False
@[congr] theorem BYy {x x':TV} {s:Nat} {Q:Env→Option Bool→Prop} (h:x=x'):BN9 x e s Q=BN9 x' e s Q:=by rw [h]
theorem BUX {s:Nat} {Q:Env→Option Bool→Prop}:BGU e s Q=BN9 (get e s) e s Q:=Btv rfl
theorem BSY {b:Bool} {s:Nat} {Q:Env→Option Bool→Prop}:BN9 (.val (.bool b)) e s Q=Q e (some b):=Btv rfl
theorem BTz {s:Nat} {Q:Env→Option Bool→Prop}:BN9 (.val undef) e s Q=Q e none:=Btv rfl
theorem u_c {d:Nat} {f:FuncId} {args:List Opd} {r:List VO} {K:Env→Prop}:vq P (⟨some d,.s (.call f args),none⟩::r) K e H=BtZ (evs e args) fun xs=>BuV (BCN xs) (vex fun x=>VC P f xs H (fun y H'=>y=x∧H'=H)∧vq P r K ((d,x)::e) H):=by
 rw [B0k,BAt]; rfl
def Gq (x:TV) (b:Bool) (A B:Prop) [Tg A] [Tg B]:Prop:=match x with
 | .val v=>if isB v=some b then A else B
 | _=>False
@[congr] theorem B0u {x x':TV} {b:Bool} {A B:Prop} (h:x=x'):Gq x b A B=Gq x' b A B:=by rw [h]
theorem B0i {t:Bool} {A B:Prop}:Gq (.val (.bool t)) true A B=vif t A B:=by cases t<;>simp [Gq,vif,isB]
theorem B0q {b:Bool} {A B:Prop}:Gq (.val undef) b A B=B:=by simp [Gq,isB,undef]
theorem B0d {t:Bool} {A B:Prop}:Gq (.val (.bool t)) false A B=vif t B A:=by cases t<;>simp [Gq,vif,isB]
theorem u_g {d s:Nat} {o:VOp} {b:Bool} {r:List VO} {K:Env→Prop}:vq P (⟨some d,o,some (s,b)⟩::r) K e H=Gq (get e s) b (BHi P o e H fun x=>vq P r K ((d,x)::e) H) (vq P r K ((d,.val undef)::e) H):=Btv rfl
theorem B0g {f:FuncId} {args:List Opd} {k:TV→Prop}:BHi P (.s (.call f args)) e H k=BtZ (evs e args) fun xs=>BuV (BCN xs) (vex fun x=>VC P f xs H (fun y H'=>y=x∧H'=H)∧k x):=by
 rw [BT3,BAt]; rfl
def BUR (P:Program) (x:TV) (s k:Nat) (c:Btx) (Q:VEx→Env→List Ob→Prop) (e:Env) (H:List Ob):Prop:=match x with
  | .val (.slice none 0 0)=>vwp P c Q ((s,.os k H.length 0 [] 0 0 0)::e) (H++[.obj 0 (.arr 0 k [])])
  | _=>vwp P c Q e H
@[congr] theorem BZJ {x x':TV} {s k:Nat} (h:x=x'):BUR P x s k a Q e H=BUR P x' s k a Q e H:=by rw [h]
theorem BYa {s k:Nat}:vwp P (.own s k a) Q e H=BUR P (get e s) s k a Q e H:=Btv rfl
theorem BO8 {s k:Nat}:BUR P (.val (.slice none 0 0)) s k a Q e H=vwp P a Q ((s,.os k H.length 0 [] 0 0 0)::e) (H++[.obj 0 (.arr 0 k [])]):=Btv rfl
theorem BTs {s k k' id ver off n cp:Nat} {p:List (Nat×Nat)}:BUR P (.os k' id ver p off n cp) s k a Q e H=vwp P a Q e H:=Btv rfl
end
theorem BZk {t:Nat} {K:TV→Prop}:res [.tmp t] e H K=BtZ (get e t) K:=Btv rfl
theorem BVN {t:Nat} {r:List VR} {K:List TV→Prop}:BJR (.tmp t::r) e H K=BtZ (get e t) fun x=>BJR r e H fun xs=>K (x::xs):=Btv rfl
def BZ2 (K:TV→Prop) (xs:List TV):Prop:=match xs with
 | [x]=>K x
 | xs=>(∀ x∈xs,BuI x=false)∧K (.tup xs)
theorem BP1 {x y:TV} {l:List TV} {K:TV→Prop}:BZ2 K (x::y::l)=BuV (BCN (x::y::l)) (BtZ (TV.tup (x::y::l)) K):=Btv rfl
theorem BVH {r s:VR} {l:List VR} {K:TV→Prop}:res (r::s::l) e H K=BJR (r::s::l) e H (BZ2 K):=Btv rfl
theorem BVS {a sz:Nat} {ag:Bool} {K:TV→Prop}:res [.cell a ag sz] e H K=pop (.load ag sz (.t a)) e H K:=Btv rfl
theorem BYD {K:TV→Prop}:res [] e H K=K (.tup []):=by rw [BNT]; simp
end
def VCP (P:Program) (f:FuncId) (xs:List TV) (H:List Ob) (K:TV→List Ob→Prop) (KP:Value→List Ob→Prop) [Tg K] [Tg KP]:Prop:=BFm P f xs H K KP
@[congr] theorem BUV {P:Program} {f:FuncId} {xs xs':List TV} {H H':List Ob} {K:TV→List Ob→Prop} {KP:Value→List Ob→Prop} (he:xs=xs') (hH:H=H'):VCP P f xs H K KP=VCP P f xs' H' K KP:=by rw [he,hH]
def BUs (x:TV) (K:Value→Prop) [Tg K]:Prop:=match x with
 | .val (.iface t v)=>K (.iface t v)
 | .ifc t (.val v)=>K (.iface t v)
 | _=>False
@[congr] theorem BZV {x x':TV} {K:Value→Prop} (h:x=x'):BUs x K=BUs x' K:=by rw [h]
theorem BRC {t:TypeId} {v:Value} {K:Value→Prop}:BUs (.ifc t (.val v)) K=K (.iface t v):=Btv rfl
theorem BT4 {t:TypeId} {v:Value} {K:Value→Prop}:BUs (.val (.iface t v)) K=K (.iface t v):=Btv rfl
section
variable {P:Program} {e:Env} {H:List Ob} {r:List VO} {K:Env→List Ob→Prop} {PP:Value→List Ob→Prop} {Q:VEx→Env→List Ob→Prop}
@[congr] theorem BSt {l:List VO} {e':Env} {H':List Ob} (he:e=e') (hH:H=H'):BCO P PP l K e H=BCO P PP l K e' H':=by rw [he,hH]
@[congr] theorem BT7 {o:VOp} {e':Env} {H':List Ob} {KK:TV→List Ob→Prop} (he:e=e') (hH:H=H'):pvop P PP o e H KK=pvop P PP o e' H' KK:=by rw [he,hH]
theorem BWQ {l:List VO} {kp:List Nat}:vwp P (.pops l kp) Q e H=BCO P (fun u H=>Q (.pan u) (BKk l e) H) l (fun e H=>BtZ (forget kp e) fun e=>Q .nor e H) e H:=Btv rfl
theorem BTG {n:Nat} {l:List VO} {kp:List Nat}:vwp P (.pdraw n l kp) Q e H=(vq P (l.take n) (fun e=>BCO P (fun u H=>Q (.pan u) [] H) (l.drop n) (fun e H=>BtZ (forget kp e) fun e=>Q .nor e H) e H) e H):=Btv rfl
theorem BW1:BCO P PP [] K e H=K e H:=Btv rfl
theorem B0c {d:Nat} {o:VOp}:BCO P PP (⟨some d,o,none⟩::r) K e H=pvop P PP o e H (fun x H=>BCO P PP r K ((d,x)::e) H):=Btv rfl
theorem BZm {o:VOp}:BCO P PP (⟨none,o,none⟩::r) K e H=pvop P PP o e H (fun x H=>BCO P PP r K e H):=Btv rfl
theorem B0a {d s:Nat} {o:VOp} {b:Bool}:BCO P PP (⟨some d,o,some (s,b)⟩::r) K e H=BGU e s fun e q=>Gd q b (pvop P PP o e H (fun x H=>BCO P PP r K ((d,x)::e) H)) (BCO P PP r K ((d,.val undef)::e) H):=by
 show BzD (pvop P PP) _ K e H=_
 rw [BzD]
 refine congrArg (BGU e s) ?_; funext e q; cases q<;>rfl
theorem BUP {o:POp} {KK:TV→List Ob→Prop}:pvop P PP (.p o) e H KK=pop o e H fun x=>KK x H:=Btv rfl
theorem BNV {f:FuncId} {args:List Opd} {KK:TV→List Ob→Prop}:pvop P PP (.s (.call f args)) e H KK=BtZ (evs e args) fun xs=>BuV (BCN xs) (VCP P f xs H KK PP):=by
 show ((∀ x∈args,BuI (x.ev e)=false)∧_)=_
 rw [BAt]; rfl
theorem BQv {x:Opd} {KK:TV→List Ob→Prop}:pvop P PP (.s (.pan x)) e H KK=BUs (x.ev e) (fun u=>PP u H):=by
 show (match x.ev e with | .val (.iface t v)=>PP (.iface t v) H | .ifc t (.val v)=>PP (.iface t v) H | _=>False)=_
 unfold BUs
 split<;>simp_all
theorem BLw {z:TV} {KK:TV→List Ob→Prop}:pvop P PP (.s (.alloc z)) e H KK=sop P (.alloc z) e H KK:=Btv rfl
theorem BPq {x:Opd} {KK:TV→List Ob→Prop}:pvop P PP (.s (.box x)) e H KK=sop P (.box x) e H KK:=Btv rfl
theorem BKB {k n:Nat} {z:TV} {ps:List (Nat×Opd)} {KK:TV→List Ob→Prop}:pvop P PP (.s (.bslice k n z ps)) e H KK=sop P (.bslice k n z ps) e H KK:=Btv rfl
theorem BLS {sz:Nat} {x v:Opd} {KK:TV→List Ob→Prop}:pvop P PP (.s (.store sz x v)) e H KK=sop P (.store sz x v) e H KK:=Btv rfl
theorem BQO {k bytes:Nat} {z:TV} {l c:Opd} {KK:TV→List Ob→Prop}:pvop P PP (.s (.mks k bytes z l c)) e H KK=sop P (.mks k bytes z l c) e H KK:=Btv rfl
theorem BRr {k bytes:Nat} {et:TypeId} {x y:Opd} {KK:TV→List Ob→Prop}:pvop P PP (.s (.app k bytes et x y)) e H KK=sop P (.app k bytes et x y) e H KK:=Btv rfl
theorem BOl {et:TypeId} {x y:Opd} {KK:TV→List Ob→Prop}:pvop P PP (.s (.appS et x y)) e H KK=sop P (.appS et x y) e H KK:=Btv rfl
theorem BOP {k n:Nat} {et:TypeId} {z:TV} {x y:Opd} {KK:TV→List Ob→Prop}:pvop P PP (.s (.appZ k n et z x y)) e H KK=sop P (.appZ k n et z x y) e H KK:=Btv rfl
theorem BPo {x:Opd} {n:Bool} {KK:TV→List Ob→Prop}:pvop P PP (.s (.eqS x n)) e H KK=sop P (.eqS x n) e H KK:=Btv rfl
theorem BPK {x:Opd} {KK:TV→List Ob→Prop}:pvop P PP (.s (.s2b x)) e H KK=sop P (.s2b x) e H KK:=Btv rfl
theorem BMs {k:Nat} {x y:Opd} {KK:TV→List Ob→Prop}:pvop P PP (.s (.copy k x y)) e H KK=sop P (.copy k x y) e H KK:=Btv rfl
theorem BL7 {x y:Opd} {KK:TV→List Ob→Prop}:pvop P PP (.s (.copyS x y)) e H KK=sop P (.copyS x y) e H KK:=Btv rfl
theorem BLN {x:Opd} {args:List Opd} {KK:TV→List Ob→Prop}:pvop P PP (.s (.callv x args)) e H KK=sop P (.callv x args) e H KK:=Btv rfl
theorem BQM {x:Opd} {nm:String} {args:List Opd} {KK:TV→List Ob→Prop}:pvop P PP (.s (.inv x nm args)) e H KK=sop P (.inv x nm args) e H KK:=Btv rfl
theorem BRa {kk:MK} {h:Option Opd} {KK:TV→List Ob→Prop}:pvop P PP (.s (.mkm kk h)) e H KK=sop P (.mkm kk h) e H KK:=Btv rfl
theorem BMC {kk:MK} {m k x:Opd} {KK:TV→List Ob→Prop}:pvop P PP (.s (.mupd kk m k x)) e H KK=sop P (.mupd kk m k x) e H KK:=Btv rfl
theorem BNS {kk:MK} {z:TV} {m k:Opd} {KK:TV→List Ob→Prop}:pvop P PP (.s (.ment kk z m k)) e H KK=sop P (.ment kk z m k) e H KK:=Btv rfl
theorem BN2 {m st x:Opd} {KK:TV→List Ob→Prop}:pvop P PP (.s (.mest m st x)) e H KK=sop P (.mest m st x) e H KK:=Btv rfl
theorem BKp {z:TV} {t:TypeId} {KK:TV→List Ob→Prop}:pvop P PP (.s (.allocT z t)) e H KK=sop P (.allocT z t) e H KK:=Btv rfl
theorem BOv {x:Opd} {t:TypeId} {KK:TV→List Ob→Prop}:pvop P PP (.s (.boxT x t)) e H KK=sop P (.boxT x t) e H KK:=Btv rfl
theorem BMR {x:Opd} {KK:TV→List Ob→Prop}:pvop P PP (.s (.rngS x)) e H KK=sop P (.rngS x) e H KK:=Btv rfl
theorem BMy {x:Opd} {KK:TV→List Ob→Prop}:pvop P PP (.s (.nxtS x)) e H KK=sop P (.nxtS x) e H KK:=Btv rfl
theorem BNi {x:Opd} {KK:TV→List Ob→Prop}:pvop P PP (.s (.rngM x)) e H KK=sop P (.rngM x) e H KK:=Btv rfl
theorem BOm {x:Opd} {KK:TV→List Ob→Prop}:pvop P PP (.s (.nxtM x)) e H KK=sop P (.nxtM x) e H KK:=Btv rfl
theorem BNb {kk:MK} {m k:Opd} {KK:TV→List Ob→Prop}:pvop P PP (.s (.delM kk m k)) e H KK=sop P (.delM kk m k) e H KK:=Btv rfl
theorem BPy {x:Opd} {KK:TV→List Ob→Prop}:pvop P PP (.s (.cvS x)) e H KK=sop P (.cvS x) e H KK:=Btv rfl
theorem BMu {k:Nat} {z:TV} {x:Opd} {KK:TV→List Ob→Prop}:pvop P PP (.s (.clrS k z x)) e H KK=sop P (.clrS k z x) e H KK:=Btv rfl
theorem BNA {f:FuncId} {x:Opd} {KK:TV→List Ob→Prop}:pvop P PP (.s (.bstr f x)) e H KK=sop P (.bstr f x) e H KK:=Btv rfl
theorem BSy {b:Btx} {u:Value}:Thn P b Q (.pan u) e H=Q (.pan u) e H:=Btv rfl
theorem BTq {id:Nat} {u:Value}:Blk id Q (.pan u) e H=Q (.pan u) e H:=Btv rfl
theorem BTP {n0:Nat} {lv:List Nat} {I:Nat→Env→List Ob→Prop} {n:Nat} {u:Value}:Rnd n0 lv Q I n (.pan u) e H=Q (.pan u) e H:=Btv rfl
theorem BLE {vr:List VR} {R:TV→List Ob→Prop} {RP:Value→List Ob→Prop}:BML vr R RP .ret e H=res vr e H fun x=>R x H:=Btv rfl
theorem BL9 {vr:List VR} {R:TV→List Ob→Prop} {RP:Value→List Ob→Prop}:BML vr R RP .nor e H=res vr e H fun x=>R x H:=Btv rfl
theorem BLC {vr:List VR} {R:TV→List Ob→Prop} {RP:Value→List Ob→Prop} {u:Value}:BML vr R RP (.pan u) e H=RP u H:=Btv rfl
def BIN (P:Program) (PP:Value→List Ob→Prop) (Ss:SsT) (l:List VO) (K:Env→List Ob→Prop) (e:Env) (H:List Ob):Prop:=BzD (pvopS P PP Ss) l K e H
@[congr] theorem BTf {Ss:SsT} {l:List VO} {e':Env} {H':List Ob} (he:e=e') (hH:H=H'):BIN P PP Ss l K e H=BIN P PP Ss l K e' H':=by rw [he,hH]
@[congr] theorem BSc {Ss:SsT} {o:VOp} {e':Env} {H':List Ob} {KK:TV→List Ob→Prop} (he:e=e') (hH:H=H'):pvopS P PP Ss o e H KK=pvopS P PP Ss o e' H' KK:=by rw [he,hH]
theorem BUf {n:Nat} {l:List VO} {kp:List Nat}:vwp P (.sdraw n l kp) Q e H=(vq P (l.take (nOf n)) (fun e=>BIN P (fun u H=>Q (.pan u) [] H) (ssN n l) (l.drop (nOf n)) (fun e H=>BtZ (forget kp e) fun e=>Q .nor e H) e H) e H):=Btv rfl
section
variable {Ss:SsT}
theorem BWd:BIN P PP Ss [] K e H=K e H:=Btv rfl
theorem B0t {d:Nat} {o:VOp}:BIN P PP Ss (⟨some d,o,none⟩::r) K e H=pvopS P PP Ss o e H (fun x H=>BIN P PP Ss r K ((d,x)::e) H):=Btv rfl
theorem BYY {o:VOp}:BIN P PP Ss (⟨none,o,none⟩::r) K e H=pvopS P PP Ss o e H (fun x H=>BIN P PP Ss r K e H):=Btv rfl
theorem BVi {o:POp} {KK:TV→List Ob→Prop}:pvopS P PP Ss (.p o) e H KK=pop o e H fun x=>KK x H:=Btv rfl
theorem BOb {f:FuncId} {args:List Opd} {KK:TV→List Ob→Prop}:pvopS P PP Ss (.s (.call f args)) e H KK=BtZ (evs e args) fun xs=>BuV (BCN xs) (VCP P f xs H (fun x H'=>KK x H'∧BBw Ss.l e H H') PP):=by
 show ((∀ x∈args,BuI (x.ev e)=false)∧_)=_
 rw [BAt]; rfl
theorem BLB {sz:Nat} {x v:Opd} {KK:TV→List Ob→Prop}:pvopS P PP Ss (.s (.store sz x v)) e H KK=sop P (.store sz x v) e H fun x H'=>KK x H'∧BBw Ss.st e H H':=Btv rfl
theorem BLK {z:TV} {KK:TV→List Ob→Prop}:pvopS P PP Ss (.s (.alloc z)) e H KK=sop P (.alloc z) e H KK:=Btv rfl
theorem BPp {k bytes:Nat} {z:TV} {l c:Opd} {KK:TV→List Ob→Prop}:pvopS P PP Ss (.s (.mks k bytes z l c)) e H KK=sop P (.mks k bytes z l c) e H KK:=Btv rfl
theorem BQj {k bytes:Nat} {et:TypeId} {x y:Opd} {KK:TV→List Ob→Prop}:pvopS P PP Ss (.s (.app k bytes et x y)) e H KK=vif Ss.ap (sop P (.app k bytes et x y) e H fun x H'=>KK x H'∧BBw Ss.l e H H') (sop P (.app k bytes et x y) e H KK):=by
 show sop P (.app k bytes et x y) e H (fun x H'=>KK x H'∧(Ss.ap=true→BBw Ss.l e H H'))=_
 unfold vif
 split
 ·rename_i h
  congr 1; funext x H'; simp [h]
 ·rename_i h
  congr 1; funext x H'; simp [h]
theorem BMW {et:TypeId} {x y:Opd} {KK:TV→List Ob→Prop}:pvopS P PP Ss (.s (.appS et x y)) e H KK=sop P (.appS et x y) e H KK:=Btv rfl
theorem BVo {n:Nat}:nOf n=n % 10000:=Btv rfl
theorem BWl {n:Nat} {l:List VO}:(ssN n l).ap=decide (10000≤n):=Btv rfl
theorem BQJ {x:Opd} {KK:TV→List Ob→Prop}:pvopS P PP Ss (.s (.s2b x)) e H KK=sop P (.s2b x) e H KK:=Btv rfl
theorem BKv {k n:Nat} {z:TV} {ps:List (Nat×Opd)} {KK:TV→List Ob→Prop}:pvopS P PP Ss (.s (.bslice k n z ps)) e H KK=sop P (.bslice k n z ps) e H KK:=Btv rfl
end
theorem BPm {e:Env} {H H':List Ob}:BBw [] e H H':=BBw.nil
theorem BUp {s:Nat} {Ss:List Nat} {e:Env} {H H':List Ob} {id ver:Nat} {p:List (Nat×Nat)} (h:get e s = .op id ver p) (h1:H'[id]?=H[id]?) (h2:BBw Ss e H H'):BBw (s::Ss) e H H':=fun t ht id' hg=>by
 rcases List.mem_cons.1 ht with rfl | ht
 ·rw [h] at hg; cases hg; exact h1
 ·exact h2 t ht id' hg
theorem BSB {s:Nat} {Ss:List Nat} {e:Env} {H H':List Ob} (h:(match get e s with | .op _ _ _=>false | .os _ _ _ _ _ _ _=>false | _=>true)=true) (h2:BBw Ss e H H'):BBw (s::Ss) e H H':=fun t ht id' hg=>by
 rcases List.mem_cons.1 ht with rfl | ht
 ·revert hg h
  cases get e t<;>simp [BWF]
 ·exact h2 t ht id' hg
end
def BtC:=(aI_ (aI_ (aI_ (aI_ (aI_ (aI_ (aI_ (aI_ @BXQ @BVW) (aI_ @BXE @BZ9)) (aI_ (aI_ @BWq @BZc) (aI_ @BY6 @BVF))) (aI_ (aI_ (aI_ @BRd @BTN) (aI_ @BV2 @BT0)) (aI_ (aI_ @BYn @BV4) (aI_ @BXZ @BV3)))) (aI_ (aI_ (aI_ (aI_ @BVQ @BZf) (aI_ @BZz @BYU)) (aI_ (aI_ @BT5 @BYX) (aI_ @BUN @BY7))) (aI_ (aI_ (aI_ @BY9 @BXV) (aI_ @BYT @BX7)) (aI_ (aI_ @BS7 @BRI) (aI_ @BZh @BT1))))) (aI_ (aI_ (aI_ (aI_ (aI_ @BPx @BXC) (aI_ @BWD @BUM)) (aI_ (aI_ @BVb @BWS) (aI_ @BV9 @BVq))) (aI_ (aI_ (aI_ @BVD @BVL) (aI_ @BYj @BPu)) (aI_ (aI_ @BUg @BXJ) (aI_ @BYL @BVX)))) (aI_ (aI_ (aI_ (aI_ @BW5 @BT9) (aI_ @BYM @BUQ)) (aI_ (aI_ @BXK @BWP) (aI_ @BUU @BVP))) (aI_ (aI_ (aI_ @BWg @BUS) (aI_ @BU7 @BSh)) (aI_ (aI_ @BZr @BXM) (aI_ @BUI @BX5)))))) (aI_ (aI_ (aI_ (aI_ (aI_ (aI_ @BVk @BCX) (aI_ @BYt @BUh)) (aI_ (aI_ @BWn @BIV) (aI_ @BCH @BSI))) (aI_ (aI_ (aI_ @BYa @BV8) (aI_ @BVI @Bt2)) (aI_ (aI_ @Bu5 @BHu) (aI_ @Bzu @o_g)))) (aI_ (aI_ (aI_ (aI_ @BUX @BNd) (aI_ @BZA @BM9)) (aI_ (aI_ @BYC @u_c) (aI_ @u_g @BS6))) (aI_ (aI_ (aI_ @B0g @BtR) (aI_ @BI6 @BZk)) (aI_ (aI_ @BVS @BYD) (aI_ @BVH @BLk))))) (aI_ (aI_ (aI_ (aI_ (aI_ @BVN @BI7) (aI_ @BP1 @BTE)) (aI_ (aI_ @BPU @BSV) (aI_ @BUj @BOW))) (aI_ (aI_ (aI_ @BKK @BSu) (aI_ @BQS @BSf)) (aI_ (aI_ @BWQ @BTG) (aI_ @BUf @BWd)))) (aI_ (aI_ (aI_ (aI_ @B0t @BYY) (aI_ @BVi @BOb)) (aI_ (aI_ @BLB @BLK) (aI_ @BPp @BQj))) (aI_ (aI_ (aI_ @BMW @BQJ) (aI_ @BKv @BW1)) (aI_ (aI_ @B0c @BZm) (aI_ @B0a @BUP))))))) (aI_ (aI_ (aI_ (aI_ (aI_ (aI_ @BNV @BQv) (aI_ @BLw @BPq)) (aI_ (aI_ @BKB @BLS) (aI_ @BQO @BRr))) (aI_ (aI_ (aI_ @BOl @BPK) (aI_ @BOP @BPo)) (aI_ (aI_ @BMs @BL7) (aI_ @BLN @BQM)))) (aI_ (aI_ (aI_ (aI_ @BRa @BMC) (aI_ @BNS @BN2)) (aI_ (aI_ @BKp @BOv) (aI_ @BMR @BMy))) (aI_ (aI_ (aI_ @BNi @BOm) (aI_ @BNb @BMu)) (aI_ (aI_ @BPy @BNA) (aI_ @BSy @BTq))))) (aI_ (aI_ @BTP @BLE) (aI_ @BL9 @BLC))))
def Bty:=(aI_ (aI_ (aI_ (aI_ (aI_ (aI_ (aI_ (aI_ @BVo @BWl) (aI_ @BT4 @BRC)) (aI_ (aI_ @BQ4 @BM3) (aI_ @BTr @BS8))) (aI_ (aI_ (aI_ @BVz @BV6) (aI_ @BVe @BMJ)) (aI_ (aI_ @BQy @BTC) (aI_ @BRh @BUY)))) (aI_ (aI_ (aI_ (aI_ @BOF @BSM) (aI_ @BRZ @BVU)) (aI_ (aI_ @BTQ @BW3) (aI_ @BWf @BNy))) (aI_ (aI_ (aI_ @BTH @BQ9) (aI_ @BTd @BQ2)) (aI_ (aI_ @BSS @BU9) (aI_ @BPM @BTT))))) (aI_ (aI_ (aI_ (aI_ (aI_ @BSQ @BO7) (aI_ @BQ7 @BLF)) (aI_ (aI_ @BLW @BME) (aI_ @BOY @BPL))) (aI_ (aI_ (aI_ @BOH @BOa) (aI_ @BSJ @BRO)) (aI_ (aI_ @BSP @BQH) (aI_ @BQG @BQo)))) (aI_ (aI_ (aI_ (aI_ @BMP @BSR) (aI_ @BUo @BSp)) (aI_ (aI_ @BS2 @BSs) (aI_ @BSE @BSD))) (aI_ (aI_ (aI_ @BRB @BUn) (aI_ @BP2 @BUl)) (aI_ (aI_ @BNm @BTF) (aI_ @BRj @BQ3)))))) (aI_ (aI_ (aI_ (aI_ (aI_ (aI_ @BRX @BNO) (aI_ @BLQ @BSW)) (aI_ (aI_ @BTU @BWI) (aI_ @BVw @BVv))) (aI_ (aI_ (aI_ @BVu @BO1) (aI_ @BRx @BO5)) (aI_ (aI_ @BQb @BWY) (aI_ @BUJ @BWe)))) (aI_ (aI_ (aI_ (aI_ @BOk @BLZ) (aI_ @BM8 @BRG)) (aI_ (aI_ @BPN @BOn) (aI_ @BQe @BPG))) (aI_ (aI_ (aI_ @BQi @BRW) (aI_ @BUc @BSw)) (aI_ (aI_ @BQT @BOp) (aI_ @BRm @BSq))))) (aI_ (aI_ (aI_ (aI_ (aI_ @BRD @BTo) (aI_ @BTp @BTI)) (aI_ (aI_ @BQU @BRk) (aI_ @BQh @BQY))) (aI_ (aI_ (aI_ @BQK @BRK) (aI_ @BMx @BPe)) (aI_ (aI_ @BTR @BWy) (aI_ @BMt @BVx)))) (aI_ (aI_ (aI_ (aI_ @BUK @BS1) (aI_ @BSm @BSF)) (aI_ (aI_ @BQg @BQV) (aI_ @BO0 @Option.getD_none.{0}))) (aI_ (aI_ (aI_ @Option.getD_some.{0} @BOj) (aI_ @BTe @BRq)) (aI_ (aI_ @BQE @BQc) (aI_ @BKX @BMX))))))) (aI_ (aI_ (aI_ (aI_ (aI_ (aI_ @BRF @BPv) (aI_ @BS5 @BRw)) (aI_ (aI_ @BTk @BQ8) (aI_ @BM2 @BSk))) (aI_ (aI_ (aI_ @BRE @BRN) (aI_ @BRp @BQw)) (aI_ (aI_ @BQs @BO2) (aI_ @BQA @BTS)))) (aI_ (aI_ (aI_ (aI_ @BNM @BUm) (aI_ @BWB @BWa)) (aI_ (aI_ @BLP @BNU) (aI_ @BYw @BYr))) (aI_ (aI_ (aI_ @B0e @BQu) (aI_ @BSY @BTz)) (aI_ (aI_ @B0i @B0d) (aI_ @B0q @BO8))))) (aI_ (aI_ (aI_ @BTs @BQ0) (aI_ @BRS @BSj)) (aI_ (aI_ @BQn @BOD) @BL5))))
def BtA:=(aI_ (aI_ (aI_ (aI_ (aI_ (aI_ (aI_ (aI_ @Bxv @BQD) (aI_ @BKy @BUk)) (aI_ (aI_ @BTt @BTY) (aI_ @BRt @BPl))) (aI_ (aI_ (aI_ @BPJ @BP5) (aI_ @BS9 @BSn)) (aI_ (aI_ @BTD @BMQ) (aI_ @BOw @BK5)))) (aI_ (aI_ (aI_ (aI_ @BQm @BIy) (aI_ @BLd @BNc)) (aI_ (aI_ @BMK @BOd) (aI_ @BOx @BPQ))) (aI_ (aI_ (aI_ @BPh @BRs) (aI_ @BO3 @BMB)) (aI_ (aI_ @BS3 @BTO) (aI_ @BSN @BQ1))))) (aI_ (aI_ (aI_ (aI_ (aI_ @BRQ @BQF) (aI_ @BRH @BTn)) (aI_ (aI_ @BTi @BUi) (aI_ @BGR @BNg))) (aI_ (aI_ (aI_ @BPg @BRP) (aI_ @BRv @BPs)) (aI_ (aI_ @BOy @BQf) (aI_ @BRV @BuM)))) (aI_ (aI_ (aI_ (aI_ @BNW @Bzd) (aI_ @BPk @BPf)) (aI_ (aI_ @BO6 @BNz) (aI_ @BOQ @BRl))) (aI_ (aI_ (aI_ @BQP @BQN) (aI_ @BNk @BJA)) (aI_ (aI_ @Bwq @Bwk) (aI_ @BN8 @BNE)))))) (aI_ (aI_ (aI_ (aI_ (aI_ (aI_ @BNh @BNn) (aI_ @BL0 @BIq)) (aI_ (aI_ @ByE @BJ9) (aI_ @BI0 @BMg))) (aI_ (aI_ (aI_ @BPj @BNu) (aI_ @BJH @BH2)) (aI_ (aI_ @BGo @BGi) (aI_ @B0l @Bxu)))) (aI_ (aI_ (aI_ (aI_ @BAv @BIn) (aI_ @Bxt @Bzg)) (aI_ (aI_ @BIt @BtO) (aI_ @BtM @BvZ))) (aI_ (aI_ (aI_ @Bvm @BwL) (aI_ @BHs @BKo)) (aI_ (aI_ @BLz @BGz) (aI_ @BNr @BL8))))) (aI_ (aI_ (aI_ (aI_ (aI_ @BJ5 @BJO) (aI_ @BIK @BG9)) (aI_ (aI_ @Buw @BQp) (aI_ @BNT @BPT))) (aI_ (aI_ (aI_ @BLk @BQX) (aI_ @BI7 @BtR)) (aI_ (aI_ @BI6 @BCD) (aI_ @BO4 @BM7)))) (aI_ (aI_ (aI_ (aI_ @BTg @BRT) (aI_ @BNH @BUb)) (aI_ (aI_ @BPr @BQx) (aI_ @BRb @BIR))) (aI_ (aI_ (aI_ @BHx @BSx) (aI_ @BTc @BXa)) (aI_ (aI_ @BSX @BSL) (aI_ @BS0 @BS4))))))) (aI_ (aI_ (aI_ @BPt @BNI) (aI_ @BNC @BQW)) (aI_ (aI_ @BNJ @BMz) @BWN)))
theorem BLx {α β:Type} {f:α→β} {l:List α} {i:Nat}:(l.map f).drop i=(l.drop i).map f:=List.map_drop.symm
theorem BLT {α β:Type} {f:α→β} {l:List α} {i:Nat}:(l.map f).take i=(l.take i).map f:=List.map_take.symm
theorem BVM {b:UInt8}:IntKind.i64.wrap (b.toNat:Int)=b.toNat:=BvC (by omega) (by have:=b.toNat_lt; omega)
theorem BWG {n:Nat}:IntKind.u8.wrap (n:Int)=((UInt8.ofNat n).toNat:Int):=by
 rw [IntKind.wrap_u8,UInt8.toNat_ofNat']; omega
theorem BUW {α:Type} {n i:Nat} {a:α} (h:i<n):(List.replicate n a)[i]?=some a:=by simp [h]
section
variable {a b c:Nat}
theorem BRo:(a:Int)*(b:Int)=((a*b:Nat):Int):=Btv rfl
theorem BQa (h:b≤a):(a:Int) - (b:Int)=((a - b:Nat):Int):=by omega
theorem BQr:(a:Int) / (b:Int)=((a / b:Nat):Int):=Btv rfl
theorem BP6:(a:Int) % (b:Int)=((a % b:Nat):Int):=Btv rfl
variable {t:TypeId} {k2:IntKind}
theorem BWZ (h1:b≤63) (h2:a*2 ^ b≤9223372036854775807):BvB t .shl (.int .i64 (a:Int)) (.int k2 (b:Int))=some (.int .i64 ((a*2 ^ b:Nat):Int)):=by
 have e:(a:Int)*2 ^ ((b:Int).toNat)=((a*2 ^ b:Nat):Int):=by rw [Int.toNat_natCast,Int.natCast_mul,Int.natCast_pow]; rfl
 rw [BPz (by omega) (by omega) (by rw [e]; omega) (by rw [e]; omega),e]
theorem BVf (h1:b≤63):BvB t .shr (.int .i64 (a:Int)) (.int k2 (b:Int))=some (.int .i64 ((a / 2 ^ b:Nat):Int)):=by
 have e:(a:Int) / 2 ^ ((b:Int).toNat)=((a / 2 ^ b:Nat):Int):=by rw [Int.toNat_natCast,Int.natCast_ediv,Int.natCast_pow]; rfl
 rw [BTj (by omega) (by omega) (by omega),e]
variable {k:IntKind}
theorem BVO (h:b≠0):BvB t .rem (.int k (a:Int)) (.int k (b:Int))=some (.int k ((a % b:Nat):Int)):=by rw [BWM (by omega) (by omega),Int.natCast_emod]
theorem BWc (h:b≠0) (h2:a≤9223372036854775807):BvB t .quo (.int .i64 (a:Int)) (.int .i64 (b:Int))=some (.int .i64 ((a / b:Nat):Int)):=by rw [BZl (by omega) (by omega) (by omega),Int.natCast_ediv]
end
theorem BtJ.toPureV {P:Program} {f:FuncId} {args:List TV} {R:TV→Prop} (h:BtJ P f args [] fun x H'=>Bt1 (frz H' x) R):ByW P f args R :=
 BtJ.toPure (h.mono fun x H' hx=>by
  cases hf:frz H' x with
  | none=>rw [hf] at hx; exact hx
  | some y=>rw [hf] at hx; exact hx)
abbrev mv_ (d s:Nat):VO:=⟨some d,.p (.mov (.t s)),none⟩
abbrev po_ (d:Nat) (p:POp):VO:=⟨some d,.p p,none⟩
abbrev so_ (d:Nat) (q:SOp):VO:=⟨some d,.s q,none⟩
abbrev ci_ (n:Nat):Opd := .c (.int .i64 (n:Int))
theorem BBx {P:Program} {f:FuncId} {fn:Func} {vc:Btx} {vr:List VR} (n:Nat) (hf:P.funcs[f]?=some fn) (ht:fn.body.bind (trC P fn.ntmps)=some (er vc)) (hr:trR P fn.results.toList=some vr) (hn:fn.ntmps=n) :
  ∀ ⦃args:List TV⦄ ⦃H:List Ob⦄ ⦃R:TV→List Ob→Prop⦄,args.length≤n→vwp P vc (BG8 vr R) (BHX 0 args) H→BtJ P f args H R:=fun _ _ _ h1 h2=>Bxy hf ht hr (hn▸h1) h2
theorem Btw {c c':Btx} (h:c=c'):∀ (P:Program) (Q:VEx→Env→List Ob→Prop) (e:Env) (H:List Ob),vwp P c Q e H=vwp P c' Q e H:=fun _ _ _ _=>by rw [h]
theorem Btz {α:Type}:(∀ {l:List α} {i:Nat} {a:α},(l.set i a).length=l.length)∧(∀ {l m:List α},(l++m).length=l.length+m.length)∧(∀ {a:α} {l:List α},(a::l).length=l.length+1)∧([]:List α).length=0:=⟨List.length_set,List.length_append,List.length_cons,List.length_nil⟩
theorem BtJ.toFreshV {P:Program} {f:FuncId} {args:List TV} {R:TV→Prop} (h:BtJ P f args [] fun x H'=>Bt1 (frs H' x) R):Bzj P f args R :=
 BtJ.toFresh (h.mono fun x H' hx=>by
  cases hf:frs H' x with
  | none=>rw [hf] at hx; exact hx
  | some y=>rw [hf] at hx; exact hx)
theorem BPW {α:Type} {l:List α} {n:Nat} (h:l.length≤n):l.take n=l:=List.take_of_length_le h
theorem BZo {α:Type} {c:Prop} [Decidable c] {a b:α} (h:c):(if c then a else b)=a:=if_pos h
theorem BYm {α:Type} {c:Prop} [Decidable c] {a b:α} (h:¬ c):(if c then a else b)=b:=if_neg h
theorem BKf {α:Type} {l:List α} {n:Nat} (h:n≤l.length):(l.take n).length=n:=by simp [h]
theorem BIw {α:Type} {l:List α} {i:Nat}:(l.drop i).take (l.length - i)=l.drop i:=List.take_of_length_le (by simp)
theorem BQI {a b:Nat}:a+b - a=b:=Nat.add_sub_cancel_left a b
theorem BRR {α:Type} {l m:List α}:(l++m).take l.length=l:=List.take_left
theorem BPC {α:Type} {l m:List α}:(l++m).drop l.length=m:=List.drop_left
theorem BQd {a b:Nat}:a+b - b=a:=Nat.add_sub_cancel a b
def BtB:=(aI_ (aI_ (aI_ (aI_ (aI_ (aI_ (aI_ @BRR @BPC) (aI_ @BQI @BIw)) (aI_ (aI_ @BKf @List.length_drop.{0}) (aI_ @BZo @BYm))) (aI_ (aI_ (aI_ @BPW @BQd) (aI_ @Nat.zero_le @Bu4)) (aI_ (aI_ @List.nil_append.{0} @List.length_nil.{0}) (aI_ @List.length_cons.{0} @List.cons_append.{0})))) (aI_ (aI_ (aI_ (aI_ @List.getElem?_cons_zero.{0} @List.getElem?_cons_succ.{0}) (aI_ @List.set_cons_zero.{0} @List.set_cons_succ.{0})) (aI_ (aI_ @List.map_cons.{0,0} @List.map_nil.{0,0}) (aI_ @Buc @BQ5))) (aI_ (aI_ (aI_ @true_and @and_true) (aI_ @List.take_zero.{0} @List.take_succ_cons.{0})) (aI_ (aI_ @List.drop_succ_cons.{0} @List.take_nil.{0}) (aI_ @List.drop_nil.{0} @Nat.zero_add))))) (aI_ (aI_ (aI_ (aI_ (aI_ @BIF @BKG) (aI_ @BWu @BJb)) (aI_ (aI_ @BNf @BFj) (aI_ @BX1 @BKe))) (aI_ (aI_ (aI_ @BYQ @BRe) (aI_ @BYZ @BVO)) (aI_ (aI_ @BWc @BR9) (aI_ @BNN @BMU)))) (aI_ (aI_ (aI_ (aI_ @BON @BJE) (aI_ @BL1 @BOo)) (aI_ (aI_ @BMw @BMv) (aI_ @BOJ @BOA))) (aI_ (aI_ (aI_ @Bool.false_xor @Bool.true_xor) (aI_ @BXY @BYp)) (aI_ (aI_ @BXU @decide_true) (aI_ @decide_false @Bool.not_true)))))) (aI_ (aI_ (aI_ (aI_ (aI_ (aI_ @Bool.not_false @not_true_eq_false) (aI_ @not_false_eq_true @Bool.false_eq_true)) (aI_ (aI_ @Bool.true_eq_false @Option.bind_some.{0,0}) (aI_ @Option.map_some.{0,0} @Bool.and_self))) (aI_ (aI_ (aI_ @and_self @Nat.sub_zero) (aI_ @Nat.mul_one @List.length_map.{0,0})) (aI_ (aI_ @Int.toNat_natCast @List.getElem?_map.{0,0}) (aI_ @Int.natCast_nonneg @List.length_append.{0})))) (aI_ (aI_ (aI_ (aI_ @List.drop_zero.{0} @BLx) (aI_ @BLT @BPP)) (aI_ (aI_ @BP0 @BRn) (aI_ @BCf @BIc))) (aI_ (aI_ (aI_ @BJ1 @BTx) (aI_ @List.replicate_zero.{0} @List.take_length.{0})) (aI_ (aI_ @List.length_set.{0} @List.length_replicate.{0}) (aI_ @BVM @BvC))))) (aI_ (aI_ (aI_ (aI_ @BWG @List.set_set.{0}) (aI_ @List.getElem?_nil.{0} @BUW)) (aI_ (aI_ @BRo @BQa) (aI_ @BQr @BP6))) (aI_ @BWZ @BVf))))
end
section
open Go.RowKit
variable [Bt6]
theorem BLO {g:Nat} {x:GV} (h:BC9 g=some x):(g,x)∈Bt6.l:=by
 unfold BC9 at h
 obtain ⟨p,hp,rfl⟩:=Option.map_eq_some_iff.1 h
 have h1:=List.mem_of_find?_eq_some hp
 have h2:=List.find?_some hp
 have h3:p.1=g:=by simpa using h2
 obtain ⟨a,b⟩:=p
 simp only at h3; subst h3; exact h1
section
omit [Bt6]
theorem BTL {P:Program} {w:World} {name:String} {g:Nat} {cs:Array Value} (hg:P.globalNamed name=some g) (h:w.var? P name=some cs):∃ t fr,w.heap[g]?=some (.cells cs t fr):=by
 unfold World.var? at h
 rw [hg,Option.bind_some] at h
 split at h
 ·rename_i c t fr hh; cases h; exact ⟨t,fr,hh⟩
 ·cases h
variable {P:Program} {w:World} {fuel:Nat} {cs:List Value}
end
end
section
open Go.RowKit Go.WideShapes Go.ChangeShapes
variable [Bt6]
set_option autoImplicit false
def came (w:World):Ctx:=⟨fun _ _=>none,[],fun b=>b<w.heap.size⟩
def BFV (P:Program) (t:TypeId) {α:Type} (f:α→TV) (ok:α→Prop):Prop :=
 ∀ {H:Type} (enc:TypeId×Value→H) (w:World) (fuel:Nat) (cs:List Value) (d:DataW H) (ps:List MemPlace),DataW.trod enc P w 0 (fun _=>true) true fuel t cs=some (d,ps)→(d.weights P t).all (· ≤ reachBytes)=true→∃ a,BtD (came w) w (f a) cs∧ok a
theorem BJG {α β:Type} {f:α→Option β}:∀ {l:List α} {xs:List β},l.mapM f=some xs→xs.length=l.length∧∀ (i:Nat) a,l[i]?=some a→∃ x,xs[i]?=some x∧f a=some x
 | [],xs,h=>by simp at h; subst h; simp
 | a::l,xs,h=>by
  rw [List.mapM_cons] at h
  cases hf:f a with
  | none=>rw [hf] at h; cases h
  | some y =>
   rw [hf] at h
   cases hl:l.mapM f with
   | none=>rw [hl] at h; cases h
   | some ys =>
    rw [hl] at h
    have e:xs=y::ys:=by simpa using h.symm
    subst e
    obtain ⟨h1,h2⟩:=BJG hl
    refine ⟨by simp [h1],fun i b hb => ?_⟩
    cases i with
    | zero=>simp at hb; subst hb; exact ⟨y,by simp,hf⟩
    | succ i=>simpa using h2 i b (by simpa using hb)
theorem BFi {β:Type} {f:Nat→Option β} {n:Nat} {xs:List β} (h:(List.range n).mapM f=some xs):xs.length=n∧∀ i,i<n→∃ x,xs[i]?=some x∧f i=some x:=by
 obtain ⟨h1,h2⟩:=BJG h
 exact ⟨by simpa using h1,fun i hi=>h2 i i (by simp [hi])⟩
section
variable {P:Program} {t e:TypeId}
theorem BKQ {H:Type} {enc:TypeId×Value→H} {w:World} {fuel:Nat} {cs:List Value} {x:DataW H×List MemPlace} (h:DataW.trod enc P w 0 (fun _=>true) true fuel t cs=some x):∃ n,fuel=n+1:=by
 cases fuel with
 | zero=>simp [DataW.trod] at h
 | succ n=>exact ⟨n,rfl⟩
theorem BMm {k:IntKind} (ht:P.underlying t=some (.int k)):BFV P t (fun n => .val (.int k n)) (fun n=>(Lit.int k n).wf=true):=by
 intro H enc w fuel cs d ps h _
 obtain ⟨n,rfl⟩:=BKQ h
 unfold DataW.trod at h; rw [ht] at h
 split at h<;>rename_i h1<;>try (simp at h1; done)
 all_goals try (cases h; done)
 all_goals try (simp only [Option.some.injEq,TypeDesc.int.injEq] at h1)
 all_goals first
  | (subst h1; split at h; (rename_i hc; obtain ⟨rfl,hw⟩:=hc; cases h; exact ⟨_,by rw [BtD]; exact ⟨rfl,rfl⟩,hw⟩); cases h)
  | (simp at h1; done)
  | (simp at h; done)
end
theorem BDg {H:Type} {P:Program} {e:TypeId} {d:DataW H} {n:Nat} (hn:n∈d.weights P e):∀ {ds:List (DataW H)},d∈ds→n∈DataW.weightsAll P e ds
 | d0::ds,h=>by
  simp only [DataW.weightsAll,List.mem_append]
  rcases List.mem_cons.1 h with rfl | h
  ·exact Or.inl hn
  ·exact Or.inr (BDg hn h)
theorem BCw {l m:List Nat} (h:m.all (· ≤ reachBytes)=true) (hs:∀ n∈l,n∈m):l.all (· ≤ reachBytes)=true:=List.all_eq_true.2 fun n hn=>List.all_eq_true.1 h n (hs n hn)
theorem BTw (a:Addr) (i j:Nat):(a.add i).add j=a.add (i+j):=by
 unfold Addr.add
 by_cases h1:i=0<;>by_cases h2:j=0<;>simp [h1,h2,Nat.add_assoc]
theorem BQk (b off i:Nat):(⟨b,off,none⟩:Addr).add i=⟨b,off+i,none⟩:=by
 unfold Addr.add
 by_cases h1:i=0<;>simp [h1]
theorem BLL {w:World} {a:Addr} {n:Nat} {us:List Value} (h:w.cells? 0 a n=some us):us.length=n∧∀ i,i<n→∃ u,us[i]?=some u∧w.cell? (a.add i)=some u:=by
 unfold World.cells? at h
 rw [if_pos (Nat.zero_le _)] at h
 exact BFi h
theorem BIU {α:Type} {f:α→TV} {ok:α→Prop} {k:Nat} (hw:∀ a,ok a→BtL (f a)=k) {w:World} {b off:Nat}:∀ (n i0:Nat),(∀ i,i<n→∃ us a,BtD (came w) w (f a) us∧ok a∧us.length=k∧BuG w b (off+(i0+i)*k) us) →
  ∃ (l:List α) (us:List Value),l.length=n∧(∀ a∈l,ok a)∧BtE (came w) w (l.map f) us∧us.length=n*k∧BuG w b (off+i0*k) us
 | 0,i0,_=>⟨[],[],rfl,by simp,by rw [List.map_nil,BtE],by simp,fun j u h=>by simp at h⟩
 | n+1,i0,h=>by
  obtain ⟨us,a,h1,h2,h3,h4⟩:=h 0 (by omega)
  obtain ⟨l,vs,k1,k2,k3,k4,k5⟩:=BIU hw n (i0+1) (fun i hi=>by
   obtain ⟨us,a,h1,h2,h3,h4⟩:=h (i+1) (by omega)
   exact ⟨us,a,h1,h2,h3,by rw [show i0+1+i=i0+(i+1) from by omega]; exact h4⟩)
  refine ⟨a::l,us++vs,by simp [k1],fun c hc => ?_,?_,?_,?_⟩
  ·rcases List.mem_cons.1 hc with rfl | hc
   ·exact h2
   ·exact k2 c hc
  ·rw [List.map_cons,BtE]; exact ⟨us,vs,rfl,h1,k3⟩
  ·rw [List.length_append,h3,k4,Nat.succ_mul,Nat.add_comm]
  ·intro j u hj
   by_cases hjk:j<k
   ·rw [List.getElem?_append_left (by omega)] at hj
    have:=h4 j u hj
    rwa [Nat.add_zero] at this
   ·rw [List.getElem?_append_right (by omega),h3] at hj
    have:=k5 (j - k) u hj
    rw [show off+(i0+1)*k+(j - k)=off+i0*k+j from by rw [Nat.succ_mul]; omega] at this
    exact this
section
variable {P:Program} {t e:TypeId} {α:Type} {f:α→TV} {ok:α→Prop} {k B:Nat}
theorem BJo (ht:P.underlying t=some (.slice e)) (hk:P.cellsOf e=k) (hB:P.bytesOf e=B) (hc:BFV P e f ok) (hw:∀ a,ok a→BtL (f a)=k) (h0:k≠0) :
  BFV P t (fun l:List α => .sl k (l.map f)) (fun l=>(∀ a∈l,ok a)∧l.length*B≤140737488351232∧l.length≤9223372036854775807):=by
 intro H enc w fuel cs d ps h hwt
 obtain ⟨n,rfl⟩:=BKQ h
 unfold DataW.trod at h; rw [ht] at h
 split at h<;>rename_i h1<;>try (simp at h1; done)
 all_goals first
  | (simp at h; done)
  | skip
 ·cases h
  refine ⟨[],?_,by simp,by simp,by simp⟩
  rw [BtD]; exact ⟨by simp,.inl ⟨rfl,none,0,rfl,by omega⟩⟩
 ·rename_i a len cap
  simp only [Option.some.injEq,TypeDesc.slice.injEq] at h1
  subst h1
  split at h
  ·rename_i hcond
   obtain ⟨-,hlc,hcm⟩:=hcond
   rw [Option.bind_eq_some_iff] at h
   obtain ⟨elems,he,h⟩:=h
   rw [if_pos rfl,Option.map_eq_some_iff] at h
   obtain ⟨rest,hr,h⟩:=h
   simp only [Prod.mk.injEq] at h
   obtain ⟨rfl,rfl⟩:=h
   obtain ⟨e1,e2⟩:=BFi he
   obtain ⟨r1,_⟩:=BFi hr
   unfold maxLen at hcm
   simp only [DataW.weights,ht,List.all_cons,Bool.and_eq_true,decide_eq_true_eq,reachBytes,List.length_map,e1,r1,hB] at hwt
   have hcapB:cap*B≤140737488351232:=by have:=of_decide_eq_true hwt.1; rwa [Nat.add_sub_cancel' hlc] at this
   have hlen:len*B≤140737488351232:=Nat.le_trans (Nat.mul_le_mul_right _ hlc) hcapB
   have hwe:(DataW.weightsAll P e (elems.map (·.1))).all (· ≤ reachBytes)=true:=BCw (m:=DataW.weightsAll P e (elems.map (·.1))++DataW.weightsAll P e (rest.map (·.1))) hwt.2 (fun n hn=>List.mem_append_left _ hn)
   obtain ⟨b,off,spot⟩:=a
   have key:∀ i,i<len→∃ us a,BtD (came w) w (f a) us∧ok a∧us.length=k∧(∀ j u,us[j]?=some u→w.cell? ((⟨b,off,spot⟩:Addr).add (i*k+j))=some u):=by
    intro i hi
    obtain ⟨x,hx,hxe⟩:=e2 i hi
    rw [Option.bind_eq_some_iff] at hxe
    obtain ⟨us,hus,htr⟩:=hxe
    rw [hk] at hus
    obtain ⟨c1,c2⟩:=BLL hus
    obtain ⟨a,ha,hok⟩:=hc enc w n us x.1 x.2 htr (BCw hwe fun m hm=>BDg hm (List.mem_map.2 ⟨x,List.mem_of_getElem? hx,rfl⟩))
    refine ⟨us,a,ha,hok,c1,fun j u hj => ?_⟩
    have hjk:j<k:=by rw [←c1]; exact (List.getElem?_eq_some_iff.1 hj).1
    obtain ⟨u',hu',hcu⟩:=c2 j hjk
    rw [hj] at hu'; cases hu'
    rw [BTw] at hcu
    exact hcu
   by_cases hl0:len=0
   ·subst hl0
    refine ⟨[],?_,by simp,by simp,by simp⟩
    rw [BtD]; exact ⟨by simp,.inl ⟨rfl,_,cap,rfl,hcm⟩⟩
   ·have hsp:spot=none:=by
     obtain ⟨us,a,_,_,c1,c2⟩:=key 0 (by omega)
     have hu:us[0]?=some us[0]:=List.getElem?_eq_getElem (by omega)
     have:=c2 0 _ hu
     simpa [Addr.add] using World.cell?_spot this
    subst hsp
    obtain ⟨l,us,l1,l2,l3,l4,l5⟩:=BIU (f:=f) (ok:=ok) hw (w:=w) (b:=b) (off:=off) len 0 (fun i hi=>by
     obtain ⟨us,a,h1,h2,h3,h4⟩:=key i hi
     refine ⟨us,a,h1,h2,h3,fun j u hj => ?_⟩
     have:=h4 j u hj
     rw [BQk] at this
     rw [Nat.zero_add,Nat.add_assoc]; exact this)
    refine ⟨l,?_,l2,by rw [l1]; exact hlen,by omega⟩
    rw [BtD]
    refine ⟨fun x hx => ?_,.inr ⟨b,off,cap,us,by rw [List.length_map,l1],by rw [List.length_map,l1]; exact hlc,hcm,?_,l3,by simpa using l5⟩⟩
    ·obtain ⟨a,ha,rfl⟩:=List.mem_map.1 hx; exact hw a (l2 a ha)
    ·have hus:0<us.length:=by rw [l4]; exact Nat.mul_pos (by omega) (by omega)
     exact BTb (l5 0 us[0] (List.getElem?_eq_getElem hus))
  ·cases h
end
section
variable {P:Program} {t e:TypeId} {α:Type} {f:α→TV} {ok:α→Prop} {k:Nat}
theorem BHO {β:Type} {g:β→TV} {ok':β→Prop} (h:BFV P t f ok) (hm:∀ a,ok a→∃ b,f a=g b∧ok' b):BFV P t g ok':=by
 intro H enc w fuel cs d ps h1 h2
 obtain ⟨a,h3,h4⟩:=h enc w fuel cs d ps h1 h2
 obtain ⟨b,h5,h6⟩:=hm a h4
 exact ⟨b,by rw [←h5]; exact h3,h6⟩
theorem BMM (ht:P.underlying t=some (.int .u8)):BFV P t by8 (fun _=>True) :=
 BHO (BMm ht) fun n h=>by
  have:=bounds_u8 h
  refine ⟨UInt8.ofNat n.toNat,?_,trivial⟩
  rw [by8,UInt8.toNat_ofNat',Nat.mod_eq_of_lt (by omega)]
  congr 2; omega
theorem BFG (ht:P.underlying t=some (.slice e)) (he:P.underlying e=some (.int .u8)) (hk:P.cellsOf e=1) (hB:P.bytesOf e=1):BFV P t slB (fun l=>l.length≤140737488351232) :=
 BHO (BJo ht hk hB (BMM he) (fun _ _=>rfl) (by omega)) fun l h=>⟨l,rfl,by have:=h.2; omega⟩
end
def BEK (P:Program) (ts:List TypeId) {α:Type} (f:α→List TV) (ok:α→Prop):Prop :=
 ∀ {H:Type} (enc:TypeId×Value→H) (w:World) (vs:List Value) (ds:List (DataW H)) (ps:List MemPlace),DataW.TrodAll enc P w 0 (fun _=>true) true ts vs ds ps→(∀ (j:Nat) t v,ts[j]?=some t→vs[j]?=some v→∃ base,Value.okWide P w .any base t v)→(DataW.weightsEach P ts ds).all (· ≤ reachBytes)=true→∃ a,BtY (came w) w (f a) vs∧ok a
theorem BIz {P:Program}:BEK P [] (fun _:Unit=>[]) (fun _=>True):=by
 intro H enc w vs ds ps h _ _
 obtain ⟨rfl,rfl,rfl⟩:=trodAll_nil h
 exact ⟨(),by rw [BtY],trivial⟩
def BMG (P:Program) (t:TypeId) (b:Bool):Prop:=∀ w base v,Value.okWide P w .any base t v→if b then ∃ cs,v = .agg cs else v.cells = #[v]
theorem BFH {P:Program} {t e:TypeId} (ht:P.underlying t=some (.slice e)):BMG P t false:=fun w _ v h=>by obtain ⟨_,_,_,rfl⟩:=okWide_slice ht h; rfl
theorem BNq {c:Ctx} {P:Program} {w:World} {t:TypeId} {v:Value} {x:TV} {b:Bool} (hf:BMG P t b) {base:Nat} (hv:Value.okWide P w .any base t v) (hx:BFQ x=b):v=mkV x v.cells.toList:=by
 have h:=hf w base v hv
 cases b with
 | true =>
  simp only [if_true] at h
  obtain ⟨cs,rfl⟩:=h
  rw [BLn hx]; simp [Value.cells]
 | false =>
  simp only [Bool.false_eq_true,if_false] at h
  rw [h]
  exact (BGs hx).symm
theorem BDi {P:Program} {t:TypeId} {ts:List TypeId} {α β:Type} {f:α→TV} {ok:α→Prop} {g:β→List TV} {ok':β→Prop} {b:Bool} (hc:BFV P t f ok) (hf:BMG P t b) (hm:∀ a,BFQ (f a)=b) (hr:BEK P ts g ok') :
  BEK P (t::ts) (fun x:α×β=>f x.1::g x.2) (fun x=>ok x.1∧ok' x.2):=by
 intro H enc w vs ds ps h hv hw
 obtain ⟨v,vs',d,ds',p,q,rfl,rfl,rfl,h0,r0⟩:=trodAll_cons h
 simp only [DataW.weightsEach] at hw
 obtain ⟨fuel,hfu⟩:=h0
 obtain ⟨a,ha,hoka⟩:=hc enc w fuel _ d p hfu (BCw hw fun n hn=>List.mem_append_left _ hn)
 obtain ⟨b,hb,hokb⟩:=hr enc w vs' ds' q r0 (fun j t v h1 h2=>hv (j+1) t v (by simpa using h1) (by simpa using h2)) (BCw hw fun n hn=>List.mem_append_right _ hn)
 refine ⟨(a,b),BtY.cons.2 ⟨v,vs',rfl,.inr (.inr ⟨v.cells.toList,ha,BNq (c:=came w) hf (hv 0 t v rfl rfl).choose_spec (hm a)⟩),hb⟩,hoka,hokb⟩
theorem BEE {H:Type} {enc:TypeId×Value→H} {P:Program} (hl:laidOutB P=true) {W W':World} (hb:Below W.heap.size W W'):∀ {ts:List TypeId} {vs:List Value} {ds:List (DataW H)} {ps:List MemPlace},(ts.all fun t=>P.readableRec t && decide (t<P.types.size))=true →
  DataW.TrodAll enc P W 0 (fun _=>true) true ts vs ds ps→DataW.TrodAll enc P W' 0 (fun b=>decide (b<W.heap.size)) true ts vs ds ps
 | [],vs,ds,ps,_,h=>by
  obtain ⟨rfl,rfl,rfl⟩:=trodAll_nil h
  exact trodAll_mk0
 | t::ts,vs,ds,ps,hr,h=>by
  obtain ⟨v,vs',d,ds',p,q,rfl,rfl,rfl,h0,r0⟩:=trodAll_cons h
  simp only [List.all_cons,Bool.and_eq_true,decide_eq_true_eq] at hr
  refine trodAll_cons_mk (Below.trod hl hr.1.1 hr.1.2 h0 hb ?_) (BEE hl hb (by simpa using hr.2) r0)
  obtain ⟨m,hm⟩:=h0
  exact DataW.trod_lt m _ _ _ hm
theorem BES.below {F F':Nat→Prop} {w w':World} (h:BES F w F' w'):Below w.heap.size w w':=⟨h.os,h.tape,h.output,h.size,fun k hk=>h.same k hk⟩
theorem BVd {P:Program} {f:FuncId} {ts:List TypeId} {α:Type} {g:α→List TV} {ok:α→Prop} (hc:BEK P ts g ok) (hlaw:∀ a,ok a→ByW P f (g a) (fun x=>x=tb true)) {H:Type} {enc:TypeId×Value→H} {w:World} {args:Array Value} {ds:List (DataW H)} {ps:List MemPlace}
  (h:DataW.TrodAll enc P w 0 (fun _=>true) true ts args.toList ds ps) (hv:∀ (j:Nat) t v,ts[j]?=some t→args.toList[j]?=some v→∃ base,Value.okWide P w .any base t v) (hw:(DataW.weightsEach P ts ds).all (· ≤ reachBytes)=true) (hg:Bz2 (fun b=>b<w.heap.size) w) :
  Calls P f args w fun e w'=>e = .returned (.bool true)∧Below w.heap.size w w':=by
 obtain ⟨a,ha,hok⟩:=hc enc w args.toList ds ps h hv hw
 have:=hlaw a hok (fun _ _=>none) (fun b=>b<w.heap.size) w args.toList ⟨fun b h=>h,hg⟩ ha
 rw [Array.toArray_toList] at this
 refine this.mono ?_
 rintro e w' ⟨v,x,F',rfl,rfl,hx,hst⟩
 rw [Rep.val] at hx
 exact ⟨by rw [hx],hst.below⟩
end
section
open Go.RowKit Go.Sort
variable [Bt6]
def cfR (rank:Nat→Int) (k n x y:Nat):Int:=if rank x - rank y≠0∨k=0 then rank x - rank y else (if x+k<n then rank (x+k) else -1) - (if y+k<n then rank (y+k) else -1)
theorem BPc {a b:Int} (h:a=b):Ending.returned (.int .i64 a) = .returned (.int .i64 b):=by rw [h]
set_option maxHeartbeats 4000000 in
set_option maxRecDepth 100000 in
theorem BED {rank:Nat→Int} {k n x y:Nat} (hr:∀ j,-1000000≤rank j∧rank j≤1000000) (hk:k≤1000000) (hn:n≤1000000) (hx:x<n) (hy:y<n) {pr pk pn:Addr} {bb oo cap:Nat} {w:World}
  (h1:w.cell? pr=some (.slice (some ⟨bb,oo,none⟩) n cap)) (h2:w.cell? pk=some (.int .i64 (k:Int))) (h3:w.cell? pn=some (.int .i64 (n:Int))) (h4:∀ j,j<n→w.cell? ⟨bb,oo+j,none⟩=some (.int .i64 (rank j))) :
  Calls Tryd.prog 35 #[.int .i64 (x:Int),.int .i64 (y:Int),.pointer (some pr),.pointer (some pk),.pointer (some pn)] w fun e w'=>e = .returned (.int .i64 (cfR rank k n x y))∧∃ q os',w'=grow (w.drewN q) os':=by
 have hx4:=h4 x hx
 have hy4:=h4 y hy
 have hrx:=hr x
 have hry:=hr y
 go_enter Tryd.func35,Tryd.ntmps35
 go_wp2
 go_quiet (fail)
 go_wp2
 all_goals go_ret
 all_goals refine ⟨BPc ?_,nq,#[],by rw [grow_empty]⟩
 all_goals have hxk:=hr (x+k)
 all_goals have hyk:=hr (y+k)
 all_goals try simp only [beq_iff_eq,beq_eq_false_iff_ne,ne_eq] at *
 all_goals try unfold wrap64
 all_goals unfold cfR
 all_goals (repeat' split)<;>omega
end
section
open Go.RowKit Go.Sort Go.Shelf
variable [Bt6]
def BGI {M:Nat} (x:Fin (M+1)):Value := .int .i64 (x.val:Int)
def BR0 {M:Nat} (x:Fin (M+1)):TV:=i64 (x.val:Int)
theorem BPR {M off:Nat} {pre post:List Value} {d s:List (Fin (M+1))} (h1:pre.length=off) (h2:s.length=d.length):putCells BGI off s.toArray (pre++d.map BGI++post).toArray=(pre++s.map BGI++post).toArray:=by
 apply Array.ext_getElem?
 intro t
 simp only [putCells,Array.getElem?_mapIdx,List.getElem?_toArray,List.size_toArray]
 by_cases ha:t<off
 ·rw [List.append_assoc,List.append_assoc,List.getElem?_append_left (by omega),List.getElem?_append_left (by omega)]
  cases pre[t]? with
  | none=>rfl
  | some y=>simp [show ¬ (off≤t) by omega]
 ·obtain ⟨u,rfl⟩:∃ u,t=off+u:=⟨t - off,by omega⟩
  have A:∀ m:List Value,(pre++(m++post))[off+u]?=(m++post)[u]?:=fun m=>by rw [List.getElem?_append_right (by omega),h1,Nat.add_sub_cancel_left]
  rw [List.append_assoc,List.append_assoc,A,A]
  by_cases hb:u<d.length
  ·have hs:u<s.length:=by omega
   rw [List.getElem?_append_left (by simpa using hb),List.getElem?_append_left (by simpa using hs),List.getElem?_eq_getElem (by simpa using hb),List.getElem?_eq_getElem (by simpa using hs)]
   simp [hs]
  ·rw [List.getElem?_append_right (by simp; omega),List.getElem?_append_right (by simp; omega),List.length_map,List.length_map,h2]
   cases post[u - d.length]? with
   | none=>rfl
   | some y=>simp [hb]
theorem BKF {P:Program} {ρ:Ren} (L:SlLaysF.n6 P ρ) {M:Nat} {cf:Fin (M+1)→Fin (M+1)→Int} (hO:SWO (ltOf cf)) {g:Nat} (eg:∀ args w,(callFunc g args).run P w = .ok (.enter g args) w)
  {id ver A cp:Nat} {d:List (Fin (M+1))} {fT:TV} {H:List Ob} {K:TV→List Ob→Prop}
  (hf:∀ β F w v,Sim ⟨β,H,F⟩ w→BMk ⟨β,H,F⟩ w fT v→∃ cb,v = .func (.func g) #[] cb∧∀ b o,β id ver=some (b,o)→∀ off size,CmpLays1 P g cb BGI cf b off size w)
  (hid:H[id]?=some (.obj ver (.arr A 1 (d.map BR0)))) (hd0:d≠[]) (hb:d.length<4611686018427387904)
  (hK:∀ s:List (Fin (M+1)),s.Perm d→s.Pairwise (fun x y=>ltOf cf y x=false)→K (.tup []) (H.set id (.obj ver (.arr A 1 (s.map BR0))))):BtJ P (ρ.f 6) [.os 1 id ver [] 0 d.length cp,fT] H K:=by
 have hr:∀ (c:Ctx) (w:World) (x:Fin (M+1)) (us:List Value),BtD c w (BR0 x) us↔us=[BGI x]:=fun c w x us=>by
  unfold BR0 BGI
  rw [BtD]
  exact ⟨fun h=>h.1,fun h=>⟨h,rfl⟩⟩
 intro β F w vs hs hv
 obtain ⟨u,us,rfl,h2,h3⟩:=BtY.cons.1 hv
 obtain ⟨u2,us2,rfl,h4,h5⟩:=BtY.cons.1 h3
 rw [BtY.nil] at h5; subst h5
 obtain ⟨cb,rfl,hcmp⟩:=hf β F w u2 hs h4
 rcases h2 with h | h | ⟨ux,h2,rfl⟩
 ·cases h
 ·cases h
 have hn0:d.length≠0:=fun h=>hd0 (List.length_eq_zero_iff.1 h)
 rw [BtD] at h2
 rcases h2.2 with ⟨e,_⟩ | ⟨b,o,cap,t,m,hb1,rfl,hb2,hb3,hb4,hb5,hb6⟩
 ·exact absurd e hn0
 rcases hs.ob id _ hid with ⟨k0,_⟩ | ⟨b',off',pre,vs,post,t',fr,k1,k2,k3,k4,k5⟩
 ·have k0':β id ver=none:=k0
  have hb1':β id ver=some (b,o):=hb1
  rw [k0'] at hb1'; cases hb1'
 have hb1':β id ver=some (b,o):=hb1
 have k1':β id ver=some (b',off'):=k1
 rw [k1'] at hb1'
 obtain ⟨rfl,rfl⟩:b'=b∧off'=o:=by simpa using hb1'
 rw [BtD] at k5
 obtain ⟨c1,c2,c3⟩:=k5
 have hmap:∀ (l:List (Fin (M+1))) us,BtE (Ctx.bare ⟨β,H,F⟩) w (l.map BR0) us↔us=l.map BGI:=by
  intro l
  induction l with
  | nil=>intro us; rw [List.map_nil,BtE]; rfl
  | cons x l ih =>
   intro us
   rw [List.map_cons,BtE,List.map_cons]
   constructor
   ·rintro ⟨a,b,rfl,e1,e2⟩; rw [(hr _ _ _ _).1 e1,(ih _).1 e2]; rfl
   ·rintro rfl; exact ⟨_,_,rfl,(hr _ _ _ _).2 rfl,(ih _).2 rfl⟩
 rw [hmap] at c3
 subst c3
 have hlt:b'<w.heap.size:=(Array.getElem?_eq_some_iff.1 k2).1
 have hH:Holds BGI w b' off' d.toArray:=by
  intro j hj
  have hj':j<d.length:=by simpa using hj
  have e1:(d.toArray[j]!)=d[j]:=by rw [getElem!_pos _ j hj]; simp
  rw [e1]
  constructor
  ·rw [cell_of_row w b' _ _ _ _ k2]
   simp only [List.getElem?_toArray]
   rw [List.append_assoc,List.getElem?_append_right (by omega),k4,Nat.add_sub_cancel_left,List.getElem?_append_left (by simpa using hj'),List.getElem?_map,List.getElem?_eq_getElem hj']
   rfl
  ·simp only [World.frozen?,k2]
   have:=k3.2 (off'+j) (by simp only [List.length_append,List.length_map]; omega)
   simpa using this
 have hsz:d.toArray.size<4611686018427387904:=by simp; omega
 have hS:=Any.slices_SortFunc_eq L BGI (fun x=>rfl) cf hO g cb b' off' cap d.toArray w eg (hcmp b' off' k1' _ _) hH hlt hsz
 have hz:(off'+Bu0 []+0*1)=off':=by simp [Bu0]
 rw [hz]
 have hz2:d.length=d.toArray.size:=by simp
 rw [hz2]
 refine hS.mono ?_
 rintro _ w' ⟨rfl,q,os,rfl⟩
 have hsort:=pdq_sorts (ltOf cf) hO d.toArray 0 d.toArray.size (Lib.bitLen d.toArray.size) true true (Nat.zero_le _) (Nat.le_refl _) (Or.inl rfl)
 generalize pdq (ltOf cf) d.toArray 0 d.toArray.size (Lib.bitLen d.toArray.size) true true=r at *
 obtain ⟨⟨p1,_,p3⟩,p2⟩:=hsort
 obtain ⟨s,rfl⟩:∃ s:List (Fin (M+1)),r=s.toArray:=⟨r.toList,(Array.toArray_toList).symm⟩
 have hsl:s.length=d.length:=by simpa using p1
 have hperm:s.Perm d:=by
  have e1:s.toArray.extract 0 d.toArray.size=s.toArray:=by rw [←p1]; simp
  have e2:d.toArray.extract 0 d.toArray.size=d.toArray:=by simp
  rw [e1,e2] at p3; simpa using p3
 have hpw:s.Pairwise (fun x y=>ltOf cf y x=false):=by
  rw [List.pairwise_iff_getElem]
  intro i j hi hj hij
  have:=p2 i j (Nat.zero_le _) hij (by simp; omega)
  rw [getElem!_pos s.toArray j (by simpa using hj),getElem!_pos s.toArray i (by simpa using hi)] at this
  simpa using this
 clear p1 p2 p3
 have hw1:(sortWorld BGI w b' off' q s.toArray os).heap[b']?=some (.cells (pre++s.map BGI++post).toArray t' fr):=by
  show ((w.heap.modify b' (onCells (putCells BGI off' s.toArray)))++os)[b']?=_
  rw [Array.getElem?_append,if_pos (by simpa using hlt),Array.getElem?_modify,if_pos rfl,k2]
  simp only [Option.map_some,onCells]
  rw [BPR k4 hsl]
 have hw2:∀ b2,b2<w.heap.size→b2≠b'→(sortWorld BGI w b' off' q s.toArray os).heap[b2]?=w.heap[b2]?:=by
  intro b2 hb2 hne
  show ((w.heap.modify b' (onCells (putCells BGI off' s.toArray)))++os)[b2]?=_
  rw [Array.getElem?_append,if_pos (by simpa using hb2),Array.getElem?_modify,if_neg (Ne.symm hne)]
 generalize hgen:sortWorld BGI w b' off' q s.toArray os=w2 at hw1 hw2 ⊢
 have o1:w2.os=w.os∧w2.tape=w.tape∧w2.output=w.output∧w.heap.size≤w2.heap.size:=by
  rw [←hgen]
  refine ⟨rfl,rfl,rfl,?_⟩
  simp [sortWorld,putRow,mapBlock,Sort.ahead,grow]
 have hK:=hK s hperm hpw
 obtain ⟨t1,t2⟩:=hs.turn (β':=β) (o' := .obj ver (.arr A 1 (s.map BR0))) (w':=w2) hid rfl rfl (Nat.le_refl _) (fun _ _ _=>rfl) (fun b1 off e => .inl ⟨off,e⟩) o1.1 o1.2.1 o1.2.2.1 o1.2.2.2
  (fun b1 hb1=>by
   by_cases e:b1=b'
   ·subst e
    simp only [World.shape?,hw1,k2]
    simp only [List.size_toArray,List.length_append,List.length_map]
    rw [hsl]
   ·exact Bt7 (hw2 b1 hb1 e))
  (fun b1 hb1 hne=>hw2 b1 hb1 fun e=>hne off' (e▸k1'))
  (fun hm => .inr ⟨b',off',pre,s.map BGI,post,t',fr,k1,hw1,by
   have:(pre++s.map BGI++post).length=(pre++d.map BGI++post).length:=by simp only [List.length_append,List.length_map,hsl]
   rw [this]; exact k3,k4,by
   rw [BtD]
   refine ⟨by rw [List.length_map,hsl,←c1,List.length_map],fun x hx => ?_,?_⟩
   ·obtain ⟨y,_,rfl⟩:=List.mem_map.1 hx; rfl
   ·have:∀ (c:Ctx) (l:List (Fin (M+1))),BtE c w2 (l.map BR0) (l.map BGI):=by
     intro c l
     induction l with
     | nil=>rw [List.map_nil,BtE]; rfl
     | cons x l ih=>rw [List.map_cons,BtE,List.map_cons]; exact ⟨_,_,rfl,(hr _ _ _ _).2 rfl,ih⟩
    exact this _ _⟩)
 exact ⟨_,_,β,_,F,rfl,hK,t1,t2,.inr ⟨[],[],rfl,rfl,BtY.nil.2 rfl⟩⟩
end
end Go.Proofs.YthlbcfmbldcngaaDoor
namespace Go.Proofs
open Go.Shelf
def Tryd.sortL_ren:Go.Shelf.Ren:=⟨fun | 6=>36 | 15=>43 | 14=>42 | 28=>52 | 29=>53 | 20=>44 | 21=>45 | 22=>46 | 23=>47 | 24=>48 | 25=>49 | 26=>50 | 27=>51 | 46=>54 | 47=>55 | 48=>56 | 49=>57 | 50=>58 | 57=>59 | n=>n,fun | 22=>58 | 24=>3 | 25=>86 | 3=>3 | 39=>37 | 0=>0 | 53=>113 | 55=>115 | 4=>4 | 46=>107 | 45=>106 | 50=>64 | 5=>5 | 9=>9 | 66=>116 | 70=>120 | 76=>122 | 77=>44 | n=>n,fun | n=>n⟩
theorem Tryd.sortL:Go.Proofs.SlLaysF.n6 Tryd.prog Tryd.sortL_ren:={
 mixed:=by kernel_rfl
 f6:=⟨Tryd.f36.name,by decide,Tryd.func36.trans (congrArg some (by kernel_rfl))⟩
 f14:=⟨Tryd.f42.name,by decide,Tryd.func42.trans (congrArg some (by kernel_rfl))⟩
 f15:=Tryd.func43.trans (congrArg some (by kernel_rfl))
 f20:=⟨Tryd.f44.name,by decide,Tryd.func44.trans (congrArg some (by kernel_rfl))⟩
 f21:=⟨Tryd.f45.name,by decide,Tryd.func45.trans (congrArg some (by kernel_rfl))⟩
 f22:=⟨Tryd.f46.name,by decide,Tryd.func46.trans (congrArg some (by kernel_rfl))⟩
 f23:=⟨Tryd.f47.name,by decide,Tryd.func47.trans (congrArg some (by kernel_rfl))⟩
 f24:=⟨Tryd.f48.name,by decide,Tryd.func48.trans (congrArg some (by kernel_rfl))⟩
 f25:=⟨Tryd.f49.name,by decide,Tryd.func49.trans (congrArg some (by kernel_rfl))⟩
 f26:=⟨Tryd.f50.name,by decide,Tryd.func50.trans (congrArg some (by kernel_rfl))⟩
 f27:=⟨Tryd.f51.name,by decide,Tryd.func51.trans (congrArg some (by kernel_rfl))⟩
 f28:=Tryd.func52.trans (congrArg some (by kernel_rfl))
 f29:=Tryd.func53.trans (congrArg some (by kernel_rfl))
 f46:=⟨Tryd.f54.name,by decide,Tryd.func54.trans (congrArg some (by kernel_rfl))⟩
 f47:=Tryd.func55.trans (congrArg some (by kernel_rfl))
 f48:=Tryd.func56.trans (congrArg some (by kernel_rfl))
 f49:=⟨Tryd.f57.name,by decide,Tryd.func57.trans (congrArg some (by kernel_rfl))⟩
 f50:=⟨Tryd.f58.name,by decide,Tryd.func58.trans (congrArg some (by kernel_rfl))⟩
 f57:=⟨Tryd.f59.name,by decide,Tryd.func59.trans (congrArg some (by kernel_rfl))⟩
 t0:=Tryd.underlying0
 a0:=Tryd.isAgg0
 z0:=Tryd.sizeOf0
 v0:=Tryd.zeroValue0
 t3:=Tryd.underlying3
 a3:=Tryd.isAgg3
 z3:=Tryd.sizeOf3
 v3:=Tryd.zeroValue3
 t4:=Tryd.underlying4
 a4:=Tryd.isAgg4
 z4:=Tryd.sizeOf4
 v4:=Tryd.zeroValue4
 t5:=Tryd.underlying5
 a5:=Tryd.isAgg5
 z5:=Tryd.sizeOf5
 v5:=Tryd.zeroValue5
 t9:=Tryd.underlying9
 a9:=Tryd.isAgg9
 z9:=Tryd.sizeOf9
 v9:=Tryd.zeroValue9
 t22:=Tryd.underlying58
 a22:=Tryd.isAgg58
 z22:=Tryd.sizeOf58
 v22:=Tryd.zeroValue58
 a24:=Tryd.isAgg3
 z24:=Tryd.sizeOf3
 t25:=Tryd.underlying86
 a25:=Tryd.isAgg86
 z25:=Tryd.sizeOf86
 v25:=Tryd.zeroValue86
 t39:=Tryd.underlying37
 a39:=Tryd.isAgg37
 z39:=Tryd.sizeOf37
 v39:=Tryd.zeroValue37
 t45:=Tryd.underlying106
 a45:=Tryd.isAgg106
 z45:=Tryd.sizeOf106
 v45:=Tryd.zeroValue106
 t46:=Tryd.underlying107
 a46:=Tryd.isAgg107
 z46:=Tryd.sizeOf107
 v46:=Tryd.zeroValue107
 t50:=Tryd.underlying64
 a50:=Tryd.isAgg64
 z50:=Tryd.sizeOf64
 v50:=Tryd.zeroValue64
 t53:=Tryd.underlying113
 a53:=Tryd.isAgg113
 z53:=Tryd.sizeOf113
 v53:=Tryd.zeroValue113
 t55:=Tryd.underlying115
 a55:=Tryd.isAgg115
 z55:=Tryd.sizeOf115
 v55:=Tryd.zeroValue115
 t66:=Tryd.underlying116
 a66:=Tryd.isAgg116
 z66:=Tryd.sizeOf116
 v66:=Tryd.zeroValue116
 t70:=Tryd.underlying120
 a70:=Tryd.isAgg120
 z70:=Tryd.sizeOf120
 v70:=Tryd.zeroValue120
 t76:=Tryd.underlying122
 a76:=Tryd.isAgg122
 z76:=Tryd.sizeOf122
 v76:=Tryd.zeroValue122
 t77:=Tryd.underlying44
 a77:=Tryd.isAgg44
 z77:=Tryd.sizeOf44
 v77:=Tryd.zeroValue44 }
end Go.Proofs
namespace Go.Proofs.YthlbcfmbldcngaaDoor
section
open Go.RowKit Go.Sort Go.Shelf
variable [Bt6]
def pR (rank:Nat→Int) (k n x:Nat):Int:=if x+k<n then rank (x+k) else -1
theorem BOu {rank:Nat→Int} {k n x y:Nat}:cfR rank k n x y<0↔rank x<rank y∨(rank x=rank y∧k≠0∧pR rank k n x<pR rank k n y):=by
 unfold cfR
 have e:(if x+k<n then rank (x+k) else -1) - (if y+k<n then rank (y+k) else -1)=pR rank k n x - pR rank k n y:=rfl
 rw [e]
 generalize pR rank k n x=p
 generalize pR rank k n y=q
 split<;>omega
def cfF (rank:Nat→Int) (k M:Nat) (x y:Fin (M+1)):Int:=cfR rank k (M+1) x.val y.val
theorem B0j (rank:Nat→Int) (k M:Nat):SWO (ltOf (cfF rank k M)) where
 irrefl x:=by
  unfold ltOf cfF
  rw [decide_eq_false_iff_not,BOu]; omega
 trans x y z h1 h2:=by
  unfold ltOf cfF at *
  rw [decide_eq_true_eq,BOu] at *; omega
 ntrans x y z h1 h2:=by
  unfold ltOf cfF at *
  rw [decide_eq_false_iff_not,BOu] at *; omega
theorem Bzk {β:Nat→Nat→Option (Nat×Nat)} {H:List Ob} {F:Nat→Prop} {w:World} {id ver b o:Nat} {x:TV} (hs:Sim ⟨β,H,F⟩ w) (hid:H[id]?=some (.obj ver x)) (hb:β id ver=some (b,o)) :
  ∃ us,BtD ⟨β,H,F⟩ w x us∧BuG w b o us∧b<w.heap.size:=by
 rcases hs.ob id _ hid with ⟨k0,_⟩ | ⟨b',off',pre,vs,post,t',fr,k1,k2,k3,k4,k5⟩
 ·have k0':β id ver=none:=k0
  rw [hb] at k0'; cases k0'
 ·have k1':β id ver=some (b',off'):=k1
  rw [hb] at k1'
  obtain ⟨rfl,rfl⟩:b=b'∧o=off':=by simpa using k1'
  refine ⟨vs,k5,fun j u hj => ?_,(Array.getElem?_eq_some_iff.1 k2).1⟩
  have hjl:=(List.getElem?_eq_some_iff.1 hj).1
  rw [cell_of_row w b _ _ _ _ k2]
  simp only [List.getElem?_toArray]
  rw [List.append_assoc,List.getElem?_append_right (by omega),k4,Nat.add_sub_cancel_left,List.getElem?_append_left hjl]
  exact hj
theorem BMh {β:Nat→Nat→Option (Nat×Nat)} {H:List Ob} {F:Nat→Prop} {w:World} {id ver:Nat} {v:Value} (h:BMk ⟨β,H,F⟩ w (.op id ver []) v):∃ b o,β id ver=some (b,o)∧v = .pointer (some ⟨b,o,none⟩):=by
 rcases h with h | h | ⟨us,h,rfl⟩
 ·cases h
 ·cases h
 ·rw [BtD] at h
  obtain ⟨_,b,o,hb,rfl⟩:=h
  exact ⟨b,o,hb,rfl⟩
theorem BIv {c:Ctx} {w:World}:∀ {l:List Nat} {us:List Value},BtE c w (l.map fun p:Nat=>i64 (p:Int)) us→us=l.map fun p:Nat=>Value.int .i64 (p:Int)
 | [],us,h=>by rw [List.map_nil,BtE] at h; exact h
 | a::l,us,h=>by
  rw [List.map_cons,BtE] at h
  obtain ⟨x,y,rfl,h1,h2⟩:=h
  rw [BtD] at h1
  rw [h1.1,BIv h2]; rfl
theorem BM0 {M k:Nat} {ranks:List Nat} (hrl:ranks.length=M+1) (hrb:∀ r∈ranks,r≤1000000) (hk:k≤1000000) (hM:M+1≤1000000) {H:List Ob} {id i5 kr vr cp i8 i3 ver:Nat} {x0:TV}
  (g0:H[id]?=some (.obj ver x0)) (g5:H[i5]?=some (.obj 0 (.os 1 kr vr [] 0 (M+1) cp))) (gk:H[kr]?=some (.obj vr (.arr (M+1) 1 (ranks.map fun p:Nat=>i64 (p:Int))))) (g8:H[i8]?=some (.obj 0 (i64 (k:Int)))) (g3:H[i3]?=some (.obj 0 (i64 ((M+1:Nat):Int))))
  (n5:i5≠id) (nk:kr≠id) (n8:i8≠id) (n3:i3≠id) :
  ∀ β F w v,Sim ⟨β,H,F⟩ w→BMk ⟨β,H,F⟩ w (.fn (.func 35) [] [.op i5 0 [],.op i8 0 [],.op i3 0 []]) v→∃ cb,v = .func (.func 35) #[] cb∧∀ b o,β id ver=some (b,o)→∀ off size,CmpLays1 Tryd.prog 35 cb BGI (cfF (fun j=>(ranks.getD j 0:Nat)) k M) b off size w:=by
 intro β F w v hs hv
 rcases hv with h | h | ⟨us,h,rfl⟩
 ·cases h
 ·cases h
 rw [BtD] at h
 obtain ⟨as1,bs,rfl,ha,hb⟩:=h
 rw [BtY.nil] at ha; subst ha
 obtain ⟨u5,us,rfl,h5,hb⟩:=BtY.cons.1 hb
 obtain ⟨u8,us,rfl,h8,hb⟩:=BtY.cons.1 hb
 obtain ⟨u3,us,rfl,h3,hb⟩:=BtY.cons.1 hb
 rw [BtY.nil] at hb; subst hb
 obtain ⟨b5,o5,e5,rfl⟩:=BMh h5
 obtain ⟨b8,o8,e8,rfl⟩:=BMh h8
 obtain ⟨b3,o3,e3,rfl⟩:=BMh h3
 refine ⟨_,rfl,fun b o hbo off size => ?_⟩
 -- what lies there
 obtain ⟨us5,r5,c5,l5⟩:=Bzk hs g5 e5
 obtain ⟨us8,r8,c8,l8⟩:=Bzk hs g8 e8
 obtain ⟨us3,r3,c3,l3⟩:=Bzk hs g3 e3
 rw [BtD] at r8 r3
 rw [r8.1] at c8
 rw [r3.1] at c3
 rw [BtD] at r5
 obtain ⟨bb,oo,cap,t,m,q1,q2⟩:∃ bb oo cap t m,β kr vr=some (bb,oo)∧us5=[.slice (some ⟨bb,oo+Bu0 []+0*1,none⟩) (M+1) cap]:=by
  rcases r5.2 with ⟨e,_⟩ | ⟨bb,oo,cap,t,m,q1,q2,_⟩
  ·omega
  ·exact ⟨bb,oo,cap,t,m,q1,q2⟩
 rw [q2] at c5
 obtain ⟨usk,rk,ck,lk⟩:=Bzk hs gk q1
 rw [BtD] at rk
 have hck:=BIv rk.2.2
 rw [hck] at ck
 have hz:oo+Bu0 []+0*1=oo:=by simp [Bu0]
 rw [hz] at c5
 -- other blocks
 have d5:b5≠b:=fun e=>n5 (hs.inj i5 id _ _ b5 o5 o g5 g0 rfl rfl e5 (by rw [e]; exact hbo))
 have d8:b8≠b:=fun e=>n8 (hs.inj i8 id _ _ b8 o8 o g8 g0 rfl rfl e8 (by rw [e]; exact hbo))
 have d3:b3≠b:=fun e=>n3 (hs.inj i3 id _ _ b3 o3 o g3 g0 rfl rfl e3 (by rw [e]; exact hbo))
 have dk:bb≠b:=fun e=>nk (hs.inj kr id _ _ bb oo o gk g0 rfl rfl q1 (by rw [e]; exact hbo))
 intro mm os dk2 hsz x y
 have hw2:∀ b2 (j:Nat),b2<w.heap.size→b2≠b→(sortWorld BGI w b off mm dk2 os).cell? ⟨b2,j,none⟩=w.cell? ⟨b2,j,none⟩:=by
  intro b2 j hb2 hne
  have:(sortWorld BGI w b off mm dk2 os).heap[b2]?=w.heap[b2]?:=by
   show ((w.heap.modify b (onCells (putCells BGI off dk2)))++os)[b2]?=_
   rw [Array.getElem?_append,if_pos (by simpa using hb2),Array.getElem?_modify,if_neg (Ne.symm hne)]
  simp only [World.cell?,this]
 have hrank:∀ j,-1000000≤((ranks.getD j 0:Nat):Int)∧((ranks.getD j 0:Nat):Int)≤1000000:=fun j=>by
  rw [List.getD_eq_getElem?_getD]
  cases hj:ranks[j]? with
  | none=>simp
  | some r=>have:=hrb r (List.mem_of_getElem? hj); simp; omega
 refine BED (rank:=fun j=>((ranks.getD j 0:Nat):Int)) (k:=k) (n:=M+1) (x:=x.val) (y:=y.val) hrank hk hM x.isLt y.isLt (pr:=⟨b5,o5,none⟩) (pk:=⟨b8,o8,none⟩) (pn:=⟨b3,o3,none⟩) (bb:=bb) (oo:=oo) (cap:=cap) ?_ ?_ ?_ ?_
 ·rw [hw2 _ _ l5 d5]; exact c5 0 _ rfl
 ·rw [hw2 _ _ l8 d8]; exact c8 0 _ rfl
 ·rw [hw2 _ _ l3 d3]; exact c3 0 _ rfl
 ·intro j hj
  rw [hw2 _ _ lk dk]
  refine ck j _ ?_
  rw [List.getElem?_map,List.getD_eq_getElem?_getD,List.getElem?_eq_getElem (by omega)]
  rfl
end
section
open Go.RowKit Go.Sort Go.Shelf
variable [Bt6]
theorem BOh {P:Program} {ρ:Ren} (L:SlLaysF.n6 P ρ) {id ver cp:Nat} {g:Nat} {caps:List TV} {H:List Ob} {K:TV→List Ob→Prop} (hK:K (.tup []) H) :
  BtJ P (ρ.f 6) [.os 1 id ver [] 0 0 cp,.fn (.func g) [] caps] H K:=by
 intro β F w vs hs hv
 obtain ⟨u,us,rfl,h2,h3⟩:=BtY.cons.1 hv
 obtain ⟨u2,us2,rfl,h4,h5⟩:=BtY.cons.1 h3
 rw [BtY.nil] at h5; subst h5
 rcases h2 with h | h | ⟨ux,h2,rfl⟩
 ·cases h
 ·cases h
 obtain ⟨p0,c0,rfl⟩:∃ p0 c0,ux=[.slice p0 0 c0]:=by
  rw [BtD] at h2
  rcases h2.2 with ⟨_,a0,e,_⟩ | ⟨b,o,cap,t,m,_,e,_⟩
  ·exact ⟨a0,0,e⟩
  ·exact ⟨_,cap,e⟩
 have L0:SlLaysF0.n6 P ρ:={ L with }
 refine (AnyF.slices_SortFunc_none L0 p0 c0 u2 w).mono ?_
 rintro _ _ ⟨rfl,rfl⟩
 exact ⟨_,_,β,_,F,rfl,hK,hs,BtK.refl _ _,.inr ⟨[],[],rfl,rfl,BtY.nil.2 rfl⟩⟩
theorem BKJ {N k:Nat} {ranks:List Nat} (hrl:ranks.length=N) (hrb:∀ r∈ranks,r≤1000000) (hk:k≤1000000) (hM:N≤1000000) {H:List Ob} {i5 kr vr cp i8 i3 x y:Nat} (hx:x<N) (hy:y<N)
  (g5:H[i5]?=some (.obj 0 (.os 1 kr vr [] 0 N cp))) (gk:H[kr]?=some (.obj vr (.arr N 1 (ranks.map fun p:Nat=>i64 (p:Int))))) (g8:H[i8]?=some (.obj 0 (i64 (k:Int)))) (g3:H[i3]?=some (.obj 0 (i64 (N:Int)))) {K:TV→List Ob→Prop}
  (hK:K (i64 (cfR (fun j=>(ranks.getD j 0:Nat)) k N x y)) H):BtJ Tryd.prog 35 [i64 (x:Int),i64 (y:Int),.op i5 0 [],.op i8 0 [],.op i3 0 []] H K:=by
 intro β F w vs hs hv
 obtain ⟨ux,us,rfl,hvx,hv⟩:=BtY.cons.1 hv
 obtain ⟨uy,us,rfl,hvy,hv⟩:=BtY.cons.1 hv
 obtain ⟨u5,us,rfl,h5,hv⟩:=BtY.cons.1 hv
 obtain ⟨u8,us,rfl,h8,hv⟩:=BtY.cons.1 hv
 obtain ⟨u3,us,rfl,h3,hv⟩:=BtY.cons.1 hv
 rw [BtY.nil] at hv; subst hv
 have ex:ux = .int .i64 (x:Int):=Rep.val.1 (Or.inl hvx:Rep _ _ _ _)
 have ey:uy = .int .i64 (y:Int):=Rep.val.1 (Or.inl hvy:Rep _ _ _ _)
 subst ex ey
 obtain ⟨b5,o5,e5,rfl⟩:=BMh h5
 obtain ⟨b8,o8,e8,rfl⟩:=BMh h8
 obtain ⟨b3,o3,e3,rfl⟩:=BMh h3
 obtain ⟨us5,r5,c5,l5⟩:=Bzk hs g5 e5
 obtain ⟨us8,r8,c8,l8⟩:=Bzk hs g8 e8
 obtain ⟨us3,r3,c3,l3⟩:=Bzk hs g3 e3
 rw [BtD] at r8 r3
 rw [r8.1] at c8
 rw [r3.1] at c3
 rw [BtD] at r5
 obtain ⟨bb,oo,cap,t,m,q1,q2⟩:∃ bb oo cap t m,β kr vr=some (bb,oo)∧us5=[.slice (some ⟨bb,oo+Bu0 []+0*1,none⟩) N cap]:=by
  rcases r5.2 with ⟨e,_⟩ | ⟨bb,oo,cap,t,m,q1,q2,_⟩
  ·omega
  ·exact ⟨bb,oo,cap,t,m,q1,q2⟩
 rw [q2] at c5
 obtain ⟨usk,rk,ck,lk⟩:=Bzk hs gk q1
 rw [BtD] at rk
 have hck:=BIv rk.2.2
 rw [hck] at ck
 have hz:oo+Bu0 []+0*1=oo:=by simp [Bu0]
 rw [hz] at c5
 have hrank:∀ j,-1000000≤((ranks.getD j 0:Nat):Int)∧((ranks.getD j 0:Nat):Int)≤1000000:=fun j=>by
  rw [List.getD_eq_getElem?_getD]
  cases hj:ranks[j]? with
  | none=>simp
  | some r=>have:=hrb r (List.mem_of_getElem? hj); simp; omega
 refine (BED (rank:=fun j=>((ranks.getD j 0:Nat):Int)) (k:=k) (n:=N) (x:=x) (y:=y) hrank hk hM hx hy (pr:=⟨b5,o5,none⟩) (pk:=⟨b8,o8,none⟩) (pn:=⟨b3,o3,none⟩) (bb:=bb) (oo:=oo) (cap:=cap) (c5 0 _ rfl) (c8 0 _ rfl) (c3 0 _ rfl) (fun j hj=>by
  refine ck j _ ?_
  rw [List.getElem?_map,List.getD_eq_getElem?_getD,List.getElem?_eq_getElem (by omega)]
  rfl)).mono ?_
 rintro e w' ⟨rfl,q,os',rfl⟩
 have hst:BES F w F (grow (w.drewN q) os'):=⟨rfl,rfl,rfl,by show w.heap.size≤(w.heap++os').size; simp,fun b hb=>by
  show (w.heap++os')[b]?=w.heap[b]?
  rw [Array.getElem?_append,if_pos hb],fun _ h=>h,fun _ _ h=>h,fun b hb=>by
  show b<(w.heap++os').size
  have:=hs.lt b hb
  simp; omega⟩
 exact ⟨_,_,β,H,F,rfl,hK,hst.sim hs,hst.later,Rep.of_val⟩
end
section
variable [Bt6]
set_option maxRecDepth 100000
def BHJ:Btx := .seq (.ops [⟨some 2,.p (.mov (.c (.int .i64 0))),none⟩] [0])
 (.seq (.ops [⟨some 3,.s (.alloc (.val (.int .i64 0))),none⟩] [0,3])
 (.seq (.block 0 (.seq (.ops [⟨some 5,.p (.mov (.t 0)),none⟩,⟨some 6,.p (.eqN 1 (.t 5) (.c .nilIface) false),none⟩,⟨some 4,.p (.mov (.t 6)),none⟩] [0,3,4])
 (.cond (.t 4)
 (.seq (.ops [⟨some 2,.p (.mov (.c (.int .i64 0))),none⟩] [2])
  (.ret))
 (.seq (.ops [⟨some 8,.p (.mov (.t 0)),none⟩,⟨some 9,.p (.iface 57 (.t 3)),none⟩,⟨some 10,.s (.call 23 [.t 8,.t 9]),none⟩,⟨some 7,.p (.mov (.t 10)),none⟩] [3,7])
  (.cond (.t 7)
  (.seq (.ops [⟨some 11,.p (.load false 1 (.t 3)),none⟩,⟨some 2,.p (.mov (.t 11)),none⟩] [2])
   (.ret))
  (.skip))))))
 (.seq (.ops [⟨some 2,.p (.mov (.c (.int .i64 (-1)))),none⟩] [2])
 (.ret))))
def BHz:List VR:=[.tmp 2]
theorem BMj:Tryd.f12.body.bind (trC Tryd.prog Tryd.f12.ntmps)=some (er BHJ):=by kernel_rfl
theorem BLI:trR Tryd.prog Tryd.f12.results.toList=some BHz:=by kernel_rfl
def BB6:Btx := .seq (.ops [⟨some 13,.p (.mov (.t 4)),none⟩,⟨some 14,.p (.mov (.t 3)),none⟩,⟨some 15,.p (.idxA 1 (.t 13) (.t 14)),none⟩,⟨none,.s (.store 1 (.t 15) (.c (.int .u8 71))),none⟩] [3,4])
 (.seq (.ops [⟨some 16,.p (.mov (.t 4)),none⟩,⟨some 17,.p (.mov (.t 3)),none⟩,⟨some 18,.p (.bin 3 .add (.t 17) (.c (.int .i64 1))),none⟩,⟨some 19,.p (.idxA 1 (.t 16) (.t 18)),none⟩,⟨none,.s (.store 1 (.t 19) (.c (.int .u8 72))),none⟩] [3,4])
 (.seq (.ops [⟨some 20,.p (.mov (.t 4)),none⟩,⟨some 21,.p (.mov (.t 3)),none⟩,⟨some 22,.p (.slV 1 (.t 20) none (some (.t 21))),none⟩,⟨some 2,.p (.mov (.t 22)),none⟩] [2])
 (.ret)))
def BBV:Btx := .seq (.ops [⟨some 10,.p (.mov (.t 4)),none⟩,⟨some 11,.p (.mov (.t 0)),none⟩,⟨some 12,.s (.copy 1 (.t 10) (.t 11)),none⟩] [3,4])
 BB6
def BCu:Btx := .seq (.ops [⟨some 7,.p (.mov (.t 3)),none⟩,⟨some 8,.p (.bin 3 .add (.t 7) (.c (.int .i64 2))),none⟩,⟨some 9,.s (.mks 1 1 (.val (.int .u8 0)) (.t 8) (.t 8)),none⟩,⟨some 4,.p (.mov (.t 9)),none⟩] [0,3,4])
 BBV
def BCd:Btx := .seq (.ops [⟨some 5,.p (.mov (.t 0)),none⟩,⟨some 6,.p (.lenV (.t 5)),none⟩,⟨some 3,.p (.mov (.t 6)),none⟩] [0,3])
 BCu
def BFM:Btx := .seq (.ops [⟨some 2,.p (.mov (.c (.slice none 0 0))),none⟩] [0])
 BCd
def BFR:List VR:=[.tmp 2]
theorem BJC:Tryd.f6.body.bind (trC Tryd.prog Tryd.f6.ntmps)=some (er BFM):=by kernel_rfl
theorem BI8:trR Tryd.prog Tryd.f6.results.toList=some BFR:=by kernel_rfl
def ByI:Btx := .seq (.seq (.ops [⟨some 36,.p (.mov (.t 8)),none⟩,⟨some 37,.p (.mov (.t 6)),none⟩,⟨some 38,.p (.lenV (.t 37)),none⟩,⟨some 39,.p (.bin 3 .lss (.t 36) (.t 38)),none⟩] [6,7,8,39])
 (.cond (.t 39)
 (.skip)
 (.exit 0)))
 (.seq (.block 1 (.ops [⟨some 42,.p (.mov (.t 6)),none⟩,⟨some 43,.p (.mov (.t 8)),none⟩,⟨some 44,.p (.mov (.t 6)),none⟩,⟨some 45,.p (.mov (.t 8)),none⟩,⟨some 46,.p (.idxA 1 (.t 44) (.t 45)),none⟩,⟨some 47,.p (.load false 1 (.t 46)),none⟩,⟨some 48,.p (.bin 5 .xor (.t 47) (.c (.int .u8 85))),none⟩,⟨some 49,.p (.idxA 1 (.t 42) (.t 43)),none⟩,⟨none,.s (.store 1 (.t 49) (.t 48)),none⟩] [6,7,8]))
 (.ops [⟨some 40,.p (.mov (.t 8)),none⟩,⟨some 41,.p (.bin 3 .add (.t 40) (.c (.int .i64 1))),none⟩,⟨some 8,.p (.mov (.t 41)),none⟩] [6,7,8]))
def BB2:Btx := .block 0 (.loop [6,7,8] ByI)
def BCc:Btx := .seq (.ops [⟨some 50,.p (.mov (.t 7)),none⟩,⟨some 4,.p (.mov (.t 50)),none⟩] [4])
 (.ret)
def BBH:Btx := .seq (.seq (.ops [⟨some 8,.p (.mov (.c (.int .i64 0))),none⟩] [6,7,8])
 BB2)
 BCc
def BCo:Btx := .seq (.ops [⟨some 20,.p (.mov (.t 7)),none⟩,⟨some 21,.p (.mov (.t 20)),none⟩,⟨some 22,.p (.mov (.t 6)),some ⟨21,true⟩⟩,⟨some 23,.p (.mov (.t 5)),some ⟨21,true⟩⟩,⟨some 24,.p (.idxA 1 (.t 22) (.t 23)),some ⟨21,true⟩⟩,⟨some 25,.p (.load false 1 (.t 24)),some ⟨21,true⟩⟩,⟨some 26,.p (.bin 5 .eql (.t 25) (.c (.int .u8 71))),some ⟨21,true⟩⟩,⟨some 27,.p (.pick (.t 21) (.t 26) (.c (.bool false))),none⟩,⟨some 28,.p (.mov (.t 27)),none⟩,⟨some 29,.p (.mov (.t 6)),some ⟨28,true⟩⟩,⟨some 30,.p (.mov (.t 5)),some ⟨28,true⟩⟩,⟨some 31,.p (.bin 3 .add (.t 30) (.c (.int .i64 1))),some ⟨28,true⟩⟩,⟨some 32,.p (.idxA 1 (.t 29) (.t 31)),some ⟨28,true⟩⟩,⟨some 33,.p (.load false 1 (.t 32)),some ⟨28,true⟩⟩,⟨some 34,.p (.bin 5 .eql (.t 33) (.c (.int .u8 72))),some ⟨28,true⟩⟩,⟨some 35,.p (.pick (.t 28) (.t 34) (.c (.bool false))),none⟩,⟨some 7,.p (.mov (.t 35)),none⟩] [6,7])
 BBH
def BCg:Btx := .seq (.ops [⟨some 15,.p (.mov (.t 6)),none⟩,⟨some 16,.p (.mov (.t 5)),none⟩,⟨some 17,.p (.slV 1 (.t 15) none (some (.t 16))),none⟩,⟨some 18,.p (.mov (.t 1)),none⟩,⟨some 19,.s (.call 9 [.t 17,.t 18]),none⟩,⟨some 7,.p (.mov (.t 19)),none⟩] [5,6,7])
 BCo
def BCe:Btx := .seq (.ops [⟨some 11,.p (.mov (.t 0)),none⟩,⟨some 12,.p (.mov (.t 5)),none⟩,⟨some 13,.p (.bin 3 .add (.t 12) (.c (.int .i64 2))),none⟩,⟨some 14,.p (.slV 1 (.t 11) none (some (.t 13))),none⟩,⟨some 6,.p (.mov (.t 14)),none⟩] [1,5,6])
 BCg
def BBS:Btx := .seq (.ops [⟨some 9,.p (.mov (.t 1)),none⟩,⟨some 10,.p (.lenV (.t 9)),none⟩,⟨some 5,.p (.mov (.t 10)),none⟩] [0,1,5])
 BCe
def BFN:Btx := .seq (.ops [⟨some 4,.p (.mov (.c (.bool false))),none⟩] [0,1])
 BBS
def BFE:List VR:=[.tmp 4]
theorem BJq:Tryd.f7.body.bind (trC Tryd.prog Tryd.f7.ntmps)=some (er BFN):=by kernel_rfl
theorem BJF:trR Tryd.prog Tryd.f7.results.toList=some BFE:=by kernel_rfl
def BzA:Btx := .seq (.block 1 (.seq (.draw 4 [⟨some 17,.p (.mov (.t 0)),none⟩,⟨some 18,.p (.mov (.t 5)),none⟩,⟨some 19,.p (.idxA 1 (.t 17) (.t 18)),none⟩,⟨some 20,.p (.load false 1 (.t 19)),none⟩,⟨some 21,.p (.mov (.t 1)),none⟩,⟨some 22,.p (.mov (.t 5)),none⟩,⟨some 23,.p (.idxA 1 (.t 21) (.t 22)),none⟩,⟨some 24,.p (.load false 1 (.t 23)),none⟩,⟨some 25,.p (.bin 5 .neq (.t 20) (.t 24)),none⟩] [0,1,5,25])
 (.cond (.t 25)
 (.seq (.ops [⟨some 4,.p (.mov (.c (.bool false))),none⟩] [4])
  (.ret))
 (.skip))))
 (.ops [⟨some 15,.p (.mov (.t 5)),none⟩,⟨some 16,.p (.bin 3 .add (.t 15) (.c (.int .i64 1))),none⟩,⟨some 5,.p (.mov (.t 16)),none⟩] [0,1,5])
def Bxw:Btx := .seq (.seq (.ops [⟨some 11,.p (.mov (.t 5)),none⟩,⟨some 12,.p (.mov (.t 0)),none⟩,⟨some 13,.p (.lenV (.t 12)),none⟩,⟨some 14,.p (.bin 3 .lss (.t 11) (.t 13)),none⟩] [0,1,5,14])
 (.cond (.t 14)
 (.skip)
 (.exit 0)))
 BzA
def BCV:Btx := .block 0 (.loop [0,1,5] Bxw)
def BDk:Btx := .seq (.ops [⟨some 4,.p (.mov (.c (.bool true))),none⟩] [4])
 (.ret)
def BDc:Btx := .seq (.seq (.ops [⟨some 5,.p (.mov (.c (.int .i64 0))),none⟩] [0,1,5])
 BCV)
 BDk
def Bzs:Btx := .seq (.seq (.ops [⟨some 6,.p (.mov (.t 0)),none⟩,⟨some 7,.p (.lenV (.t 6)),none⟩,⟨some 8,.p (.mov (.t 1)),none⟩,⟨some 9,.p (.lenV (.t 8)),none⟩,⟨some 10,.p (.bin 3 .neq (.t 7) (.t 9)),none⟩] [0,1,10])
 (.cond (.t 10)
 (.seq (.ops [⟨some 4,.p (.mov (.c (.bool false))),none⟩] [4])
  (.ret))
 (.skip)))
 BDc
def BDo:Btx := .seq (.ops [⟨some 4,.p (.mov (.c (.bool false))),none⟩] [0,1])
 Bzs
def BDL:List VR:=[.tmp 4]
theorem BJ6:Tryd.f9.body.bind (trC Tryd.prog Tryd.f9.ntmps)=some (er BDo):=by kernel_rfl
theorem BKq:trR Tryd.prog Tryd.f9.results.toList=some BDL:=by kernel_rfl
def Bxg:Btx := .seq (.ops [⟨some 13,.p (.mov (.t 0)),none⟩,⟨some 14,.p (.nilc (.t 13)),none⟩,⟨some 15,.p (.fieldA 0 0 (.t 14)),none⟩,⟨some 16,.p (.load false 1 (.t 15)),none⟩,⟨some 17,.p (.idxA 1 (.t 16) (.c (.int .i64 0))),none⟩,⟨some 18,.p (.load false 1 (.t 17)),none⟩,⟨some 3,.p (.mov (.t 18)),none⟩] [0,3])
 (.seq (.ops [⟨some 19,.p (.mov (.t 0)),none⟩,⟨some 20,.p (.mov (.t 0)),none⟩,⟨some 21,.p (.nilc (.t 20)),none⟩,⟨some 22,.p (.fieldA 0 0 (.t 21)),none⟩,⟨some 23,.p (.load false 1 (.t 22)),none⟩,⟨some 24,.p (.slV 1 (.t 23) (some (.c (.int .i64 1))) none),none⟩,⟨some 25,.p (.nilc (.t 19)),none⟩,⟨some 26,.p (.fieldA 0 0 (.t 25)),none⟩,⟨none,.s (.store 1 (.t 26) (.t 24)),none⟩] [3])
 (.seq (.ops [⟨some 27,.p (.mov (.t 3)),none⟩,⟨some 28,.p (.conv .i64 (.t 27)),none⟩,⟨some 2,.p (.mov (.t 28)),none⟩] [2])
 (.ret)))
def Bvr:Btx := .seq (.seq (.ops [⟨some 4,.p (.mov (.t 0)),none⟩,⟨some 5,.p (.nilc (.t 4)),none⟩,⟨some 6,.p (.fieldA 0 0 (.t 5)),none⟩,⟨some 7,.p (.load false 1 (.t 6)),none⟩,⟨some 8,.p (.lenV (.t 7)),none⟩,⟨some 9,.p (.bin 3 .eql (.t 8) (.c (.int .i64 0))),none⟩] [0,9])
 (.cond (.t 9)
 (.seq (.ops [⟨some 10,.p (.mov (.t 0)),none⟩,⟨some 11,.p (.nilc (.t 10)),none⟩,⟨some 12,.p (.fieldA 1 1 (.t 11)),none⟩,⟨none,.s (.store 1 (.t 12) (.c (.bool true))),none⟩] [])
  (.seq (.ops [⟨some 2,.p (.mov (.c (.int .i64 0))),none⟩] [2])
  (.ret)))
 (.skip)))
 Bxg
def Bwi:Btx := .seq (.ops [⟨some 2,.p (.mov (.c (.int .i64 0))),none⟩] [0])
 Bvr
def Bwl:List VR:=[.tmp 2]
theorem BDE:Tryd.f19.body.bind (trC Tryd.prog Tryd.f19.ntmps)=some (er Bwi):=by kernel_rfl
theorem BDy:trR Tryd.prog Tryd.f19.results.toList=some Bwl:=by kernel_rfl
def Bum:Btx := .seq (.ops [⟨some 20,.p (.mov (.t 0)),none⟩,⟨some 21,.p (.mov (.t 0)),none⟩,⟨some 22,.p (.nilc (.t 21)),none⟩,⟨some 23,.p (.fieldA 1 1 (.t 22)),none⟩,⟨some 24,.p (.load false 1 (.t 23)),none⟩,⟨some 25,.p (.mov (.t 24)),none⟩,⟨some 26,.p (.mov (.t 4)),some ⟨25,false⟩⟩,⟨some 27,.p (.bin 3 .gtr (.t 26) (.c (.int .i64 0))),some ⟨25,false⟩⟩,⟨some 28,.p (.mov (.t 27)),some ⟨25,false⟩⟩,⟨some 29,.p (.mov (.t 5)),some ⟨28,true⟩⟩,⟨some 30,.p (.bin 3 .eql (.t 29) (.c (.int .i64 0))),some ⟨28,true⟩⟩,⟨some 31,.p (.pick (.t 28) (.t 30) (.c (.bool false))),some ⟨25,false⟩⟩,⟨some 32,.p (.pick (.t 25) (.c (.bool true)) (.t 31)),none⟩,⟨some 33,.p (.nilc (.t 20)),none⟩,⟨some 34,.p (.fieldA 1 1 (.t 33)),none⟩,⟨none,.s (.store 1 (.t 34) (.t 32)),none⟩] [3])
 (.seq (.ops [⟨some 35,.p (.mov (.t 3)),none⟩,⟨some 2,.p (.mov (.t 35)),none⟩] [2])
 (.ret))
def Bt5:Btx := .cond (.t 19)
 Bum
 (.skip)
def Bt3:Btx := .seq (.ops [⟨some 18,.p (.mov (.t 5)),none⟩,⟨some 19,.p (.bin 3 .lss (.t 18) (.c (.int .i64 128))),none⟩] [0,3,4,5,6,19])
 Bt5
def Bt4:Btx := .seq (.ops [⟨some 11,.p (.mov (.t 3)),none⟩,⟨some 12,.p (.mov (.t 5)),none⟩,⟨some 13,.p (.bin 3 .and (.t 12) (.c (.int .i64 127))),none⟩,⟨some 14,.p (.mov (.t 4)),none⟩,⟨some 15,.p (.bin 3 .mul (.c (.int .i64 7)) (.t 14)),none⟩,⟨some 16,.p (.bin 3 .shl (.t 13) (.t 15)),none⟩,⟨some 17,.p (.bin 3 .or (.t 11) (.t 16)),none⟩,⟨some 3,.p (.mov (.t 17)),none⟩] [0,3,4,5,6])
 Bt3
def Bxf:Btx := .seq (.ops [⟨some 9,.p (.mov (.t 0)),none⟩,⟨some 10,.s (.call 19 [.t 9]),none⟩,⟨some 5,.p (.mov (.t 10)),none⟩] [0,3,4,5,6])
 Bt4
def Bw2:Btx := .seq (.block 1 (.seq (.ops [⟨some 8,.p (.mov (.t 6)),none⟩,⟨some 4,.p (.mov (.t 8)),none⟩] [0,3,4,6])
 Bxf))
 (.ops [⟨some 36,.p (.bin 3 .add (.t 6) (.c (.int .i64 1))),none⟩,⟨some 6,.p (.mov (.t 36)),none⟩] [0,3,6])
def Bvo:Btx := .seq (.cond (.t 7)
 (.skip)
 (.exit 0))
 Bw2
def Bvt:Btx := .seq (.ops [⟨some 7,.p (.bin 3 .lss (.t 6) (.c (.int .i64 5))),none⟩] [0,3,6,7])
 Bvo
def Bw5:Btx := .block 0 (.loop [0,3,6] Bvt)
def Bw0:Btx := .seq (.ops [⟨some 37,.p (.mov (.t 0)),none⟩,⟨some 38,.p (.nilc (.t 37)),none⟩,⟨some 39,.p (.fieldA 1 1 (.t 38)),none⟩,⟨none,.s (.store 1 (.t 39) (.c (.bool true))),none⟩] [])
 (.seq (.ops [⟨some 2,.p (.mov (.c (.int .i64 0))),none⟩] [2])
 (.ret))
def BwH:Btx := .seq (.seq (.ops [⟨some 6,.p (.mov (.c (.int .i64 0))),none⟩] [0,3,6])
 Bw5)
 Bw0
def BwR:Btx := .seq (.ops [⟨some 3,.p (.mov (.c (.int .i64 0))),none⟩] [0,3])
 BwH
def ByL:Btx := .seq (.ops [⟨some 2,.p (.mov (.c (.int .i64 0))),none⟩] [0])
 BwR
def ByJ:List VR:=[.tmp 2]
theorem BDV:Tryd.f18.body.bind (trC Tryd.prog Tryd.f18.ntmps)=some (er ByL):=by kernel_rfl
theorem BDv:trR Tryd.prog Tryd.f18.results.toList=some ByJ:=by kernel_rfl
def BwD:Btx := .ops [⟨some 14,.p (.mov (.t 5)),none⟩,⟨some 15,.p (.mov (.t 0)),none⟩,⟨some 16,.s (.call 19 [.t 15]),none⟩,⟨some 17,.p (.mov (.t 6)),none⟩,⟨some 18,.p (.bin 3 .mul (.c (.int .i64 8)) (.t 17)),none⟩,⟨some 19,.p (.bin 3 .shl (.t 16) (.t 18)),none⟩,⟨some 20,.p (.bin 3 .or (.t 14) (.t 19)),none⟩,⟨some 5,.p (.mov (.t 20)),none⟩] [0,1,5,6]
def BuX:Btx := .seq (.block 1 (.seq (.seq (.ops [⟨some 11,.p (.mov (.t 1)),none⟩,⟨some 12,.p (.bin 3 .and (.t 11) (.c (.int .i64 1))),none⟩,⟨some 13,.p (.bin 3 .eql (.t 12) (.c (.int .i64 1))),none⟩] [0,1,5,6,13])
 (.cond (.t 13)
 BwD
 (.skip)))
 (.ops [⟨some 21,.p (.mov (.t 1)),none⟩,⟨some 22,.p (.bin 3 .shr (.t 21) (.c (.int .u64 1))),none⟩,⟨some 1,.p (.mov (.t 22)),none⟩] [0,1,5,6])))
 (.ops [⟨some 9,.p (.mov (.t 6)),none⟩,⟨some 10,.p (.bin 3 .add (.t 9) (.c (.int .i64 1))),none⟩,⟨some 6,.p (.mov (.t 10)),none⟩] [0,1,5,6])
def BuB:Btx := .seq (.seq (.ops [⟨some 7,.p (.mov (.t 1)),none⟩,⟨some 8,.p (.bin 3 .gtr (.t 7) (.c (.int .i64 0))),none⟩] [0,1,5,6,8])
 (.cond (.t 8)
 (.skip)
 (.exit 0)))
 BuX
def BwE:Btx := .block 0 (.loop [0,1,5,6] BuB)
def Bwt:Btx := .seq (.ops [⟨some 23,.p (.mov (.t 5)),none⟩,⟨some 4,.p (.mov (.t 23)),none⟩] [4])
 (.ret)
def Bwp:Btx := .seq (.seq (.ops [⟨some 6,.p (.mov (.c (.int .i64 0))),none⟩] [0,1,5,6])
 BwE)
 Bwt
def BwC:Btx := .seq (.ops [⟨some 5,.p (.mov (.c (.int .i64 0))),none⟩] [0,1,5])
 Bwp
def BxU:Btx := .seq (.ops [⟨some 4,.p (.mov (.c (.int .i64 0))),none⟩] [0,1])
 BwC
def BxW:List VR:=[.tmp 4]
theorem BCm:Tryd.f20.body.bind (trC Tryd.prog Tryd.f20.ntmps)=some (er BxU):=by kernel_rfl
theorem BCi:trR Tryd.prog Tryd.f20.results.toList=some BxW:=by kernel_rfl
end
section
open Go.RowKit
variable [Bt6]
theorem BMA {l m:List UInt8} {k:Nat} (h:l.take k=m.take k) (h1:k<l.length) (h2:k<m.length) (e:l[k]=m[k]):l.take (k+1)=m.take (k+1):=by
 rw [List.take_succ_eq_append_getElem h1,List.take_succ_eq_append_getElem h2,h,e]
theorem BZy {x y:UInt8} (h:x≠y):¬ (x.toNat=y.toNat):=fun e=>h (UInt8.toNat_inj.1 e)
theorem same (l m:List UInt8) (hl:l.length≤9223372036854775807) (hm:m.length≤9223372036854775807):ByW Tryd.prog 9 [slB l,slB m] (fun x=>x=tb (decide (l=m))):=by
 refine BtJ.toPure (Bxy Tryd.func9 BJ6 BKq (by simp [Tryd.f9]) ?_)
 by_cases hlen:l.length=m.length
 case neg =>
  have hne:l≠m:=fun e=>hlen (by rw [e])
  simp (disch:=omega) only [BDo,Bzs,BDL,hlen,hne,BNJ,↓Bx2,↓BxX,↓Bww,↓BCH,↓Bt2,↓Bu5,↓Bx0,↓ByZ,↓BBO,↓BtR,↓Buw,BGo,BGi,BtO,BtM,BvZ,Bvm,Buw,BtR,BCD,BNJ,eq_self,Bu4,↓reduceIte,Nat.reduceEqDiff,Buc,Nat.reduceAdd,Nat.zero_add,BNf,decide_false,Bool.not_false,reduceCtorEq,and_self,eq_self,List.length_map,BJ1]
 simp (disch:=omega) only [BDo,Bzs,BDc,BCV,BDL,hlen,↓Bx2,↓BCX,↓BxX,↓Bww,↓ByG,↓Bt2,↓Bu5,↓Bx0,↓ByZ,↓BBO,↓BtR,↓Buw,BGo,BGi,BtO,BtM,BvZ,Bvm,Buw,BtR,BNJ,eq_self,Bu4,↓reduceIte,Nat.reduceEqDiff,Buc,true_and,Nat.reduceAdd,Nat.zero_add,BNf,decide_true,Bool.not_true,Bool.false_eq_true,reduceCtorEq,eq_self,List.length_map]
 rw [BIY]
 refine ⟨fun n e H=>∃ (k:Nat),n=l.length - k∧k≤l.length∧l.take k=m.take k∧e=[(0,slB l),(1,slB m),(5,i64 k)]∧H=[],l.length,?_,?_⟩
 ·exact ⟨0,by simp,by omega,by simp,rfl,rfl⟩
 ·rintro n e H ⟨k,rfl,hk,ht,rfl,rfl⟩
  by_cases hkl:k<l.length
  ·have hkm:k<m.length:=by omega
   have g1:l[k]?=some l[k]:=by simp [hkl]
   have g2:m[k]?=some m[k]:=by simp [hkm]
   by_cases he:l[k]=m[k]
   ·have hx:=BMA ht hkl hkm he
    have he':l[k].toNat=m[k].toNat:=by rw [he]
    simp (disch:=omega) only [Bxw,BzA,hkl,g1,g2,he',↓Bx2,↓BSa,↓BCX,↓BxX,↓Bww,↓ByG,↓BCH,↓Bt2,↓Bu5,↓BM9,↓BYC,↓Bx0,↓ByZ,↓BC7,↓BHI,↓BBO,Bxv,BuM,BGo,BGi,BtO,BtM,BwL,BCD,eq_self,Bu4,↓reduceIte,Nat.reduceEqDiff,List.length_nil,Buc,true_and,and_true,List.take_zero,List.take_succ_cons,List.drop_succ_cons,List.take_nil,BIF,BNf,BFj,decide_true,Bool.not_true,Bool.false_eq_true,reduceCtorEq,Option.map_some,and_self,eq_self,Nat.mul_one,List.length_map,Int.toNat_natCast,List.getElem?_map,Int.natCast_nonneg,List.drop_zero,BJ0,BCf]
    exact ⟨l.length - (k+1),0,by omega,⟨by simp,.inr ⟨by simp [BLX,BKA,BLt,BOt,Bool.and_self],by simp [BLD]⟩⟩,k+1,rfl,by omega,hx,by simp⟩
   ·have he':=BZy he
    have hne:l≠m:=fun e=>he (by subst e; rfl)
    simp (disch:=omega) only [Bxw,BzA,hkl,g1,g2,he',hne,↓Bx2,↓BSa,↓BCX,↓BxX,↓Bww,↓ByG,↓BCH,↓Bt2,↓Bu5,↓BM9,↓BYC,↓Bx0,↓ByZ,↓BC7,↓BHI,↓BBO,Bxv,BuM,BGo,BGi,BtO,BtM,BwL,BCD,eq_self,Bu4,↓reduceIte,Nat.reduceEqDiff,List.length_nil,Buc,and_true,List.take_zero,List.take_succ_cons,List.drop_succ_cons,List.take_nil,BNf,BFj,decide_true,decide_false,Bool.not_false,reduceCtorEq,Option.map_some,and_self,eq_self,Nat.mul_one,List.length_map,Int.toNat_natCast,List.getElem?_map,Int.natCast_nonneg,List.drop_zero,BCf,BJ1]
  ·have hke:k=l.length:=by omega
   have heq:l=m:=by rw [hke,List.take_length,hlen,List.take_length] at ht; exact ht
   simp (disch:=omega) only [Bxw,BDk,hkl,eq_true heq,↓Bx2,↓BxX,↓Bww,↓BIV,↓BCH,↓Bt2,↓Bu5,↓Bx0,↓ByZ,↓BBO,↓BtR,↓Buw,BGo,BGi,BtO,BtM,Buw,BtR,BCD,eq_self,Bu4,↓reduceIte,Nat.reduceEqDiff,List.length_nil,Buc,BFj,decide_true,decide_false,Bool.false_eq_true,reduceCtorEq,and_self,eq_self,List.length_map,BCf]
theorem BVa (l:List UInt8) (hl:l.length≤1000000) {H:List Ob} {K:TV→List Ob→Prop} (hk:K (.os 1 H.length 0 [] 0 l.length (l.length+2)) (H++[.obj 0 (.arr (l.length+2) 1 ((l++[71,72]).map by8))])) :
  BtJ Tryd.prog 6 [slB l] H K:=by
 refine Bxy Tryd.func6 BJC BI8 (by simp [Tryd.f6]) ?_
 have c2:((l.length:Int)+2)=((l.length+2:Nat):Int):=by omega
 have b1:((1:Nat):Int)*((l.length+2:Nat):Int)≤281474976710656:=by omega
 have b2:((l.length+2:Nat):Int)≤9223372036854775807:=by omega
 have z:∀ n:Nat,List.replicate n (TV.val (.int .u8 0))=(List.replicate n (0:UInt8)).map by8:=fun n=>by rw [List.map_replicate]; rfl
 have e1:List.map by8 (List.take (l.length+2) l)++List.drop (min l.length (l.length+2)) (List.replicate (l.length+2) (TV.val (.int .u8 0)))=(l++[0,0]).map by8:=by
  rw [z,←List.map_drop,←List.map_append,Nat.min_eq_left (by omega),List.take_of_length_le (by omega),List.drop_replicate,show l.length+2 - l.length=2 from by omega]; rfl
 have e2:((l++[0,0]).map by8).set l.length (.val (.int .u8 71))=(l++[71,0]).map by8:=by
  rw [List.map_append,List.set_append_right _ _ (by simp),List.map_append]; simp
 have e3:((l++[71,0]).map by8).set (l.length+1) (.val (.int .u8 72))=(l++[71,72]).map by8:=by
  rw [List.map_append,List.set_append_right _ _ (by simp),List.map_append]; simp
 have g1:((l++[0,0]).map by8)[l.length]?=some (by8 0):=by simp
 have g2:((l++[71,0]).map by8)[l.length+1]?=some (by8 0):=by simp
 simp (disch:=omega) only [BFM,BCd,BCu,BBV,BB6,BFR,c2,b2,e1,e2,e3,g1,g2,↓Bx2,↓BxX,↓BCH,↓Bt2,↓Bu5,↓BHu,↓Bzu,↓Bx0,↓ByZ,↓BHI,↓BBO,↓BPS,↓BAG,↓BYv,↓BVR,↓BtR,↓Buw,BGR,BuM,BJA,BIq,BGo,BGi,Bxu,Bxt,BIt,BtO,BtM,BvZ,Bvm,BHs,Buw,BtR,eq_self,Int.cast_ofNat_Int,Int.reduceLE,Bu4,↓reduceIte,Nat.reduceEqDiff,List.nil_append,Buc,true_and,and_true,List.take_zero,Nat.zero_add,BIF,Int.reduceToNat,reduceCtorEq,Option.bind_some,Option.map_some,and_self,bnd,BPB,BP4,eq_self,Nat.sub_zero,Nat.mul_one,List.length_map,Int.toNat_natCast,Int.natCast_nonneg,BBc,←List.map_take,BJ0,BCf,BIc,Nat.reduceLeDiff,List.length_replicate]
 and_intros<;>first | omega | exact hk
abbrev x85 (l:List UInt8):List UInt8:=l.map (· ^^^ 85)
theorem BRc {c:List UInt8} {k:Nat} (hk:k<c.length):(x85 (c.take k)++c.drop k).set k (c[k] ^^^ 85)=x85 (c.take (k+1))++c.drop (k+1):=by
 have h1:(x85 (c.take k)).length=k:=by simp; omega
 rw [List.set_append_right _ _ (by omega),h1,Nat.sub_self,List.drop_eq_getElem_cons hk,List.set_cons_zero,List.take_succ_eq_append_getElem hk,x85,x85,List.map_append,List.append_assoc]
 rfl
theorem BJW (l:List UInt8) (hl:l.length≤1000000) {H:List Ob} {id ver:Nat} {K:TV→List Ob→Prop} (ho:H[id]?=some (.obj ver (.arr (l.length+2) 1 ((l++[71,72]).map by8))))
  (hk:K (tb true) (H.set id (.obj ver (.arr (l.length+2) 1 ((x85 (l++[71,72])).map by8))))) :
  BtJ Tryd.prog 7 [.os 1 id ver [] 0 l.length (l.length+2),slB l] H K:=by
 refine Bxy Tryd.func7 BJq BJF (by simp [Tryd.f7]) ?_
 have hid:id<H.length:=(List.getElem?_eq_some_iff.1 ho).1
 have c2:((l.length:Int)+2)=((l.length+2:Nat):Int):=by omega
 have g1:(l++[71,72])[l.length]?=some 71:=by simp
 have g2:(l++[71,72])[l.length+1]?=some 72:=by simp
 have hL:(l++[71,72]).length=l.length+2:=by simp
 have ht:(l++[71,72]).take l.length=l:=by simp
 generalize hc:l++[71,72]=c at *
 simp (disch:=omega) only [BFN,BBS,BCe,BCg,BFE,c2,↓Bx2,↓BxX,↓Bt2,↓Bu5,↓BHu,↓Bx0,↓ByZ,↓BBO,↓BPS,↓BKT,BK5,BLd,BGo,BGi,BtO,BtM,BvZ,Bvm,eq_self,Int.reduceLE,Bu4,↓reduceIte,Nat.reduceEqDiff,List.map_cons,List.map_nil,Buc,true_and,Nat.reduceAdd,Nat.zero_add,BIF,Int.reduceToNat,reduceCtorEq,and_self,↓all_cons,↓all_nil,bnd,eq_self,Nat.sub_zero,List.length_map,Int.toNat_natCast,Int.natCast_nonneg,BIc,Nat.reduceLeDiff]
 refine ⟨by omega,by omega,(same l l (by omega) (by omega)).lends (args':=[slB l,slB l]) ?_ ?_⟩
 ·simp (disch:=omega) only [ho,hL,ht,BMz,Nat.le_add_right,BGz,BM7,BNH,BIR,BHx,BMz,eq_self,↓reduceIte,Nat.zero_add,Option.map_some,and_self,eq_self,List.length_map,List.drop_zero,←List.map_drop,←List.map_take]
 ·rintro x rfl
  refine ⟨rfl,?_⟩
  rw [show tb (decide (l=l))=tb true from by simp]
  simp (disch:=omega) only [BCo,BBH,BB2,ho,g1,g2,↓Bx2,↓BxX,↓ByG,↓Bt2,↓Bu5,↓BHU,↓BG3,BEl,↓BNd,↓Bx0,↓BIP,↓ByZ,↓BC7,↓BHI,↓BtR,↓Buw,Bxv,BuM,BGo,BGi,Bxu,BIn,BtO,BtM,BwL,Buw,BtR,eq_self,UInt8.reduceToNat,Int.cast_ofNat_Int,Bu4,↓reduceIte,Nat.reduceEqDiff,List.nil_append,Buc,true_and,Nat.zero_add,BIF,BJb,decide_true,Option.bind_some,Option.map_some,and_self,eq_self,Nat.mul_one,Int.toNat_natCast,List.getElem?_map,Int.natCast_nonneg,BJ0,BCf]
  refine ⟨by omega,by omega,?_⟩
  rw [BIY]
  refine ⟨fun n e H'=>∃ (k:Nat),n=c.length - k∧k≤c.length∧e=[(6,.os 1 id ver [] 0 (l.length+2) (l.length+2)),(7,tb true),(8,i64 k)]∧H'=H.set id (.obj ver (.arr (l.length+2) 1 ((x85 (c.take k)++c.drop k).map by8))),c.length,?_,?_⟩
  ·refine ⟨0,by simp,by omega,rfl,?_⟩
   have e0:x85 (c.take 0)++c.drop 0=c:=by simp
   obtain ⟨h1,h2⟩:=List.getElem?_eq_some_iff.1 ho
   rw [e0,←h2,List.set_getElem_self]
  ·rintro n e H' ⟨k,rfl,hkl,rfl,rfl⟩
   have gs:∀ o,(H.set id o)[id]?=some o:=fun o=>by simp [hid]
   by_cases hkc:k<c.length
   ·have hk2:k<l.length+2:=by omega
    have hlen:(x85 (c.take k)).length=k:=by simp; omega
    have g3:(x85 (c.take k)++c.drop k)[k]?=some c[k]:=by
     rw [List.getElem?_append_right (by omega),hlen,Nat.sub_self,List.getElem?_drop]; simp [hkc]
    have g4:=BRc hkc
    have h85:∀ (t:TypeId) (x:UInt8),BvB t .xor (.int .u8 (x.toNat:Int)) (.int .u8 85)=some (.int .u8 ((x ^^^ 85).toNat:Int)):=fun t x=>BR9 (t:=t) (x:=x) (y:=85)
    generalize x85 (c.take k)++c.drop k=r at *
    generalize c[k]=y at *
    simp (disch:=omega) only [ByI,hk2,gs,g3,g4,h85,BQR,List.set_set,↓Bx2,↓BCX,↓BxX,↓Bww,↓ByG,↓Bt2,↓Bu5,↓Bzu,↓Bx0,↓ByZ,↓BC7,↓BHI,↓BBO,↓BAG,Bxv,BGR,BuM,BIq,BGo,BGi,Bxu,BIn,Bxt,BIt,BtO,BtM,BwL,eq_self,Bu4,↓reduceIte,Nat.reduceEqDiff,List.nil_append,Buc,true_and,Nat.zero_add,BIF,BFj,decide_true,Option.bind_some,Option.map_some,and_self,eq_self,Nat.mul_one,Int.toNat_natCast,List.getElem?_map,Int.natCast_nonneg,BJ0,BCf,List.length_set]
    exact ⟨c.length - (k+1),H.length,by omega,⟨Nat.le_refl _,.inl (Nat.le_refl _)⟩,k+1,rfl,by omega,by simp,by rw [List.take_of_length_le (by simp)]⟩
   ·have hke:k=c.length:=by omega
    have hk2:¬ k<l.length+2:=by omega
    have e0:x85 (c.take k)++c.drop k=x85 c:=by rw [hke,List.take_length,List.drop_length,List.append_nil]
    simp (disch:=omega) only [ByI,BCc,hk2,e0,hk,↓Bx2,↓BxX,↓Bww,↓BIV,↓BCH,↓Bt2,↓Bu5,↓Bx0,↓ByZ,↓BBO,↓BtR,↓Buw,BGo,BtO,BtM,Buw,BtR,eq_self,Bu4,↓reduceIte,Nat.reduceEqDiff,Buc,BFj,decide_false,Bool.false_eq_true,and_self,eq_self,BCf]
end
section
open Go.RowKit
variable [Bt6]
abbrev rdr (r:List UInt8) (bad:Bool):TV := .agg [slB r,tb bad]
def rdB:List UInt8→Bool→Nat×List UInt8×Bool
 | [],_=>(0,[],true)
 | b::r,bad=>(b.toNat,r,bad)
def szG:Nat→Nat→Nat→List UInt8→Bool→Nat×List UInt8×Bool
 | 0,_,_,r,_=>(0,r,true)
 | f+1,i,n,r,bad =>
  if (rdB r bad).1<128 then (n ||| ((rdB r bad).1 &&& 127)*2 ^ (7*i),(rdB r bad).2.1,(rdB r bad).2.2 || (decide (0<i) && decide ((rdB r bad).1=0)))
  else szG f (i+1) (n ||| ((rdB r bad).1 &&& 127)*2 ^ (7*i)) (rdB r bad).2.1 (rdB r bad).2.2
theorem BN3 (r:List UInt8) (bad:Bool):(rdB r bad).1<256:=by
 cases r with
 | nil=>simp [rdB]
 | cons b r=>exact b.toNat_lt
section
variable {H:List Ob} {id ver:Nat} {K:TV→List Ob→Prop} {r:List UInt8} {bad:Bool}
theorem BSi (hl:r.length≤1000000) (ho:H[id]?=some (.obj ver (rdr r bad))) (hk:K (i64 (rdB r bad).1) (H.set id (.obj ver (rdr (rdB r bad).2.1 (rdB r bad).2.2)))) :
  BtJ Tryd.prog 19 [.op id ver []] H K:=by
 refine Bxy Tryd.func19 BDE BDy (by simp [Tryd.f19]) ?_
 cases r with
 | nil =>
  simp only [rdB] at hk
  simp (disch:=omega) only [Bwi,Bvr,Bwl,ho,↓Bx2,↓BxX,↓Bww,↓BCH,↓Bt2,↓Bu5,↓Bzu,↓Bx0,↓ByZ,↓BC7,↓BAx,↓BBO,↓BGP,↓BAG,↓BtR,↓Buw,BKy,BuM,Bzd,Bwq,Bwk,ByE,BGo,BGi,Bxu,BAv,Bxt,Bzg,BtO,BtM,BvZ,Bvm,BwL,Buw,BtR,eq_self,Int.cast_ofNat_Int,Bu4,↓reduceIte,List.nil_append,List.length_nil,List.getElem?_cons_zero,List.getElem?_cons_succ,List.set_cons_zero,List.set_cons_succ,List.map_nil,Buc,true_and,Nat.reduceAdd,List.take_zero,List.take_succ_cons,Nat.zero_add,BJb,decide_true,reduceCtorEq,Option.bind_some,Option.map_some,and_self,eq_self]
  exact hk
 | cons b r =>
  simp only [rdB] at hk
  have h0:¬ (((r.length+1:Nat):Int)=0):=by omega
  have hc:IntKind.i64.wrap (b.toNat:Int)=b.toNat:=BvC (by omega) (by have:=b.toNat_lt; omega)
  simp (disch:=omega) only [Bwi,Bvr,Bxg,Bwl,ho,h0,hc,↓Bx2,↓BCX,↓BxX,↓Bww,↓BCH,↓Bt2,↓Bu5,↓Bzu,↓Bx0,↓ByZ,↓BWr,↓BC7,↓BAx,↓BHI,↓BBO,↓BPS,↓BGP,↓BAG,↓BtR,↓Buw,Bxv,BKy,BMB,BuM,Bzd,Bwq,BGo,BGi,Bxu,BAv,Bxt,Bzg,BtO,BtM,BvZ,Bvm,BwL,Buw,BtR,eq_self,Int.reduceLE,Bu4,↓reduceIte,Nat.reduceEqDiff,List.nil_append,List.length_cons,List.getElem?_cons_zero,List.set_cons_zero,List.map_cons,Buc,true_and,List.take_zero,List.drop_succ_cons,Nat.zero_add,BJb,Int.reduceToNat,decide_false,Bool.false_eq_true,reduceCtorEq,Option.bind_some,Option.map_some,and_self,bnd,eq_self,List.length_map,Int.toNat_natCast,List.drop_zero,←List.map_drop,←List.map_take,BIc,Nat.reduceLeDiff]
  refine ⟨⟨by omega,by omega⟩,?_⟩
  rw [List.take_of_length_le (by omega)]
  exact hk
theorem BLl {f i n:Nat} (h:¬ (rdB r bad).1<128):szG (f+1) i n r bad=szG f (i+1) (n ||| ((rdB r bad).1 &&& 127)*2 ^ (7*i)) (rdB r bad).2.1 (rdB r bad).2.2:=by rw [szG,if_neg h]
theorem BJU {f i n:Nat} (h:(rdB r bad).1<128):szG (f+1) i n r bad=(n ||| ((rdB r bad).1 &&& 127)*2 ^ (7*i),(rdB r bad).2.1,(rdB r bad).2.2 || (decide (0<i) && decide ((rdB r bad).1=0))):=by rw [szG,if_pos h]
theorem BH6:(rdB r bad).2.1.length≤r.length:=by
 cases r<;>simp [rdB]
theorem BRM (hl:r.length≤1000000) (ho:H[id]?=some (.obj ver (rdr r bad))) (hk:K (i64 (szG 5 0 0 r bad).1) (H.set id (.obj ver (rdr (szG 5 0 0 r bad).2.1 (szG 5 0 0 r bad).2.2)))) :
  BtJ Tryd.prog 18 [.op id ver []] H K:=by
 refine Bxy Tryd.func18 BDV BDv (by simp [Tryd.f18]) ?_
 have hid:id<H.length:=(List.getElem?_eq_some_iff.1 ho).1
 have gs:∀ o,(H.set id o)[id]?=some o:=fun o=>by simp [hid]
 simp (disch:=omega) only [ByL,BwR,BwH,Bw5,ByJ,↓Bx2,↓BxX,↓ByG,↓Bt2,↓Bu5,↓Bx0,↓BtR,↓Buw,BGi,BtO,BtM,BvZ,Bvm,Buw,BtR,eq_self,Bu4,↓reduceIte,Nat.reduceEqDiff,Nat.zero_add,reduceCtorEq,eq_self]
 rw [BIY]
 refine ⟨fun m e H'=>∃ (i n:Nat) (r':List UInt8) (bad':Bool),m=5 - i∧i≤5∧n<2 ^ (7*i)∧r'.length≤1000000∧szG (5 - i) i n r' bad'=szG 5 0 0 r bad∧e=[(0,.op id ver []),(3,i64 n),(6,i64 i)]∧H'=H.set id (.obj ver (rdr r' bad')),5,?_,?_⟩
 ·refine ⟨0,0,r,bad,rfl,by omega,by omega,hl,rfl,rfl,?_⟩
  obtain ⟨h1,h2⟩:=List.getElem?_eq_some_iff.1 ho
  rw [←h2,List.set_getElem_self]
 ·rintro m e H' ⟨i,n,r',bad',rfl,hi,hn,hr,he,rfl,rfl⟩
  by_cases hi5:i<5
  ·have hi5':((i:Nat):Int)<5:=by omega
   simp (disch:=omega) only [Bvt,Bvo,Bw2,Bxf,hi5',↓Bx2,↓BCX,↓BxX,↓Bww,↓ByG,↓Bt2,↓Bu5,↓BHu,↓Bx0,↓ByZ,↓BKT,BIy,BGo,BGi,BtO,BtM,eq_self,Bu4,↓reduceIte,Nat.reduceEqDiff,List.map_cons,List.map_nil,Buc,true_and,BFj,decide_true,reduceCtorEq,and_self,↓all_cons,↓all_nil,eq_self]
   refine BSi hr (gs _) ?_
   have hb:=BN3 r' bad'
   have hle:=BH6 (r:=r') (bad:=bad')
   obtain ⟨j,hj⟩:∃ j,5 - i=j+1:=⟨4 - i,by omega⟩
   have hb127:(rdB r' bad').1 &&& 127≤127:=Nat.and_le_right
   have hp:2 ^ (7*i)≤2 ^ 28:=Nat.pow_le_pow_right (by omega) (by omega)
   have hpp:0<2 ^ (7*i):=Nat.pow_pos (by omega)
   have hm:((rdB r' bad').1 &&& 127)*2 ^ (7*i)≤127*2 ^ (7*i):=Nat.mul_le_mul_right _ hb127
   have hp7:2 ^ (7*(i+1))=128*2 ^ (7*i):=by rw [Nat.mul_add,Nat.pow_add]; omega
   have hor:n ||| ((rdB r' bad').1 &&& 127)*2 ^ (7*i)<2 ^ (7*(i+1)):=Nat.or_lt_two_pow (by omega) (by omega)
   have c7:(7:Int)*(i:Int)=((7*i:Nat):Int):=by omega
   have hshl:∀ t,BvB t .shl (.int .i64 (((rdB r' bad').1 &&& 127:Nat):Int)) (.int .i64 ((7*i:Nat):Int))=some (.int .i64 ((((rdB r' bad').1 &&& 127)*2 ^ (7*i):Nat):Int)):=fun t=>by
    have e:(((rdB r' bad').1 &&& 127:Nat):Int)*2 ^ (((7*i:Nat):Int).toNat)=((((rdB r' bad').1 &&& 127)*2 ^ (7*i):Nat):Int):=by
     rw [Int.toNat_natCast,Int.natCast_mul,Int.natCast_pow]; rfl
    rw [BPz (by omega) (by omega) (by rw [e]; omega) (by rw [e]; omega),e]
   have hand:∀ t,BvB t .and (.int .i64 ((rdB r' bad').1:Int)) (.int .i64 127)=some (.int .i64 (((rdB r' bad').1 &&& 127:Nat):Int)):=fun t=>BRe (by omega) (by omega) (by omega) (by omega)
   have horv:∀ t,BvB t .or (.int .i64 (n:Int)) (.int .i64 ((((rdB r' bad').1 &&& 127)*2 ^ (7*i):Nat):Int))=some (.int .i64 ((n ||| ((rdB r' bad').1 &&& 127)*2 ^ (7*i):Nat):Int)):=fun t=>BYZ (by omega) (by omega) (by omega) (by omega)
   rw [hj] at he
   by_cases hlt:(rdB r' bad').1<128
   ·rw [BJU hlt] at he
    rw [←he] at hk
    have hlt':(((rdB r' bad').1:Nat):Int)<128:=by omega
    generalize n ||| ((rdB r' bad').1 &&& 127)*2 ^ (7*i)=n2 at *
    cases hbad:(rdB r' bad').2.2 with
    | true =>
     rw [hbad] at hk
     simp (disch:=omega) only [Bt4,Bt3,Bt5,Bum,c7,hshl,hand,horv,hlt',gs,List.set_set,↓Bx2,↓BxX,↓Bww,↓BCH,↓Bt2,↓Bu5,↓Bzu,↓BHU,↓BG3,BEl,BOc,↓Bx0,↓BIP,↓ByZ,↓BC7,↓BAx,↓BGP,↓BAG,Bxv,BuM,Bzd,Bwq,Bwk,ByE,BGo,BGi,Bxu,BAv,Bxt,Bzg,BtO,BtM,BwL,eq_self,Bu4,↓reduceIte,Nat.reduceEqDiff,List.nil_append,List.getElem?_cons_zero,List.getElem?_cons_succ,List.set_cons_zero,List.set_cons_succ,Buc,true_and,Nat.reduceAdd,List.take_zero,List.take_succ_cons,BKG,BFj,decide_true,Bool.true_eq_false,reduceCtorEq,Option.bind_some,Option.map_some,and_self,eq_self]
     rw [Bool.true_or] at hk
     exact hk
    | false =>
     rw [hbad,Bool.false_or] at hk
     by_cases h0i:0<i
     ·have h0i':(0:Int)<((i:Nat):Int):=by omega
      by_cases hb0:(rdB r' bad').1=0
      ·have hb0':((((rdB r' bad').1:Nat):Int)=0)=True:=eq_true (by omega)
       rw [decide_eq_true h0i,decide_eq_true hb0,Bool.true_and] at hk
       simp (disch:=omega) only [Bt4,Bt3,Bt5,Bum,c7,hshl,hand,horv,hlt',h0i',hb0',gs,List.set_set,↓Bx2,↓BxX,↓Bww,↓BCH,↓Bt2,↓Bu5,↓Bzu,↓BHU,↓BG3,BEl,↓BNd,↓Bx0,↓BIP,↓ByZ,↓BC7,↓BAx,↓BGP,↓BAG,Bxv,BuM,Bzd,Bwq,Bwk,ByE,BGo,BGi,Bxu,BAv,Bxt,Bzg,BtO,BtM,BwL,eq_self,Bu4,↓reduceIte,Nat.reduceEqDiff,List.nil_append,List.getElem?_cons_zero,List.getElem?_cons_succ,List.set_cons_zero,List.set_cons_succ,Buc,true_and,Nat.reduceAdd,List.take_zero,List.take_succ_cons,BKG,BJb,BFj,BKe,decide_true,Bool.false_eq_true,reduceCtorEq,Option.bind_some,Option.map_some,and_self,eq_self]
       exact hk
      ·have hb0':¬ (((rdB r' bad').1:Nat):Int)=0:=by omega
       rw [decide_eq_true h0i,decide_eq_false hb0,Bool.true_and] at hk
       simp (disch:=omega) only [Bt4,Bt3,Bt5,Bum,c7,hshl,hand,horv,hlt',h0i',hb0',gs,List.set_set,↓Bx2,↓BxX,↓Bww,↓BCH,↓Bt2,↓Bu5,↓Bzu,↓BHU,↓BG3,BEl,↓BNd,↓Bx0,↓BIP,↓ByZ,↓BC7,↓BAx,↓BGP,↓BAG,Bxv,BuM,Bzd,Bwq,Bwk,ByE,BGo,BGi,Bxu,BAv,Bxt,Bzg,BtO,BtM,BwL,eq_self,Bu4,↓reduceIte,Nat.reduceEqDiff,List.nil_append,List.getElem?_cons_zero,List.getElem?_cons_succ,List.set_cons_zero,List.set_cons_succ,Buc,true_and,Nat.reduceAdd,List.take_zero,List.take_succ_cons,BKG,BJb,BFj,BKe,decide_true,decide_false,Bool.false_eq_true,reduceCtorEq,Option.bind_some,Option.map_some,and_self,eq_self]
       exact hk
     ·have h0i':¬ (0:Int)<((i:Nat):Int):=by omega
      rw [decide_eq_false h0i,Bool.false_and] at hk
      simp (disch:=omega) only [Bt4,Bt3,Bt5,Bum,c7,hshl,hand,horv,hlt',h0i',gs,List.set_set,↓Bx2,↓BxX,↓Bww,↓BCH,↓Bt2,↓Bu5,↓Bzu,↓BHU,↓BG3,BEl,↓BNd,↓Bx0,↓BIP,↓ByZ,↓BC7,↓BAx,↓BGP,↓BAG,Bxv,BuM,Bzd,Bwq,Bwk,ByE,BGo,BGi,Bxu,BAv,Bxt,Bzg,BtO,BtM,BwL,eq_self,Bu4,↓reduceIte,Nat.reduceEqDiff,List.nil_append,List.getElem?_cons_zero,List.getElem?_cons_succ,List.set_cons_zero,List.set_cons_succ,Buc,true_and,Nat.reduceAdd,List.take_zero,List.take_succ_cons,BKG,BFj,BKe,decide_true,decide_false,Bool.false_eq_true,reduceCtorEq,Option.bind_some,Option.map_some,and_self,eq_self]
      exact hk
   ·rw [BLl hlt] at he
    have hlt':¬ (((rdB r' bad').1:Nat):Int)<128:=by omega
    simp (disch:=omega) only [Bt4,Bt3,Bt5,c7,hshl,hand,horv,hlt',List.set_set,↓Bx2,↓BCX,↓BxX,↓Bww,↓Bt2,↓Bu5,↓Bx0,↓ByZ,BGo,BGi,BtO,BtM,eq_self,Bu4,↓reduceIte,Nat.reduceEqDiff,Buc,true_and,BIF,BKG,BFj,decide_false,Bool.false_eq_true,reduceCtorEq,eq_self,BJ0,List.length_set]
    exact ⟨5 - (i+1),H.length,by omega,⟨Nat.le_refl _,.inl (by simp)⟩,i+1,_,(rdB r' bad').2.1,(rdB r' bad').2.2,rfl,by omega,hor,by omega,by rw [show 5 - (i+1)=j from by omega]; exact he,rfl,by rw [List.take_of_length_le (by simp)]⟩
  ·have hi5':¬ ((i:Nat):Int)<5:=by omega
   have hi':i=5:=by omega
   subst hi'
   rw [show (5:Nat) - 5=0 from rfl,szG] at he
   rw [←he] at hk
   simp (disch:=omega) only [Bvt,Bvo,Bw0,gs,List.set_set,↓Bx2,↓BxX,↓Bww,↓BIV,↓BCH,↓Bt2,↓Bu5,↓Bzu,↓Bx0,↓ByZ,↓BAx,↓BGP,↓BAG,↓BtR,↓Buw,BuM,Bzd,Bwq,Bwk,ByE,BGo,BGi,Bxt,Bzg,BtO,BtM,Buw,BtR,eq_self,Int.cast_ofNat_Int,Int.reduceLT,Bu4,↓reduceIte,Nat.reduceEqDiff,List.nil_append,List.getElem?_cons_zero,List.getElem?_cons_succ,List.set_cons_zero,List.set_cons_succ,Buc,true_and,Nat.reduceAdd,List.take_zero,List.take_succ_cons,BFj,decide_false,Bool.false_eq_true,reduceCtorEq,Option.bind_some,Option.map_some,and_self,eq_self]
   exact hk
def nbG:Nat→Nat→Nat→Nat→List UInt8→Bool→Nat×List UInt8×Bool
 | 0,_,_,n,r,bad=>(n,r,bad)
 | f+1,w,i,n,r,bad =>
  if w % 2=1 then nbG f (w / 2) (i+1) (n ||| (rdB r bad).1*2 ^ (8*i)) (rdB r bad).2.1 (rdB r bad).2.2
  else nbG f (w / 2) (i+1) n r bad
theorem BII:∀ {f i n:Nat} {r:List UInt8} {bad:Bool},nbG f 0 i n r bad=(n,r,bad)
 | 0,i,n,r,bad=>rfl
 | f+1,i,n,r,bad=>by rw [nbG,if_neg (by omega)]; exact BII
theorem BZD {w0:Nat} (hw:w0<16) (hl:r.length≤1000000) (ho:H[id]?=some (.obj ver (rdr r bad))) (hk:K (i64 (nbG 4 w0 0 0 r bad).1) (H.set id (.obj ver (rdr (nbG 4 w0 0 0 r bad).2.1 (nbG 4 w0 0 0 r bad).2.2)))) :
  BtJ Tryd.prog 20 [.op id ver [],i64 w0] H K:=by
 refine Bxy Tryd.func20 BCm BCi (by simp [Tryd.f20]) ?_
 have hid:id<H.length:=(List.getElem?_eq_some_iff.1 ho).1
 have gs:∀ o,(H.set id o)[id]?=some o:=fun o=>by simp [hid]
 simp (disch:=omega) only [BxU,BwC,Bwp,BwE,BxW,↓Bx2,↓BxX,↓ByG,↓Bt2,↓Bu5,↓Bx0,↓BtR,↓Buw,BGi,BtO,BtM,BvZ,Bvm,Buw,BtR,eq_self,Bu4,↓reduceIte,Nat.reduceEqDiff,Nat.reduceAdd,Nat.zero_add,reduceCtorEq,eq_self]
 rw [BIY]
 refine ⟨fun m e H'=>∃ (f w i n:Nat) (r':List UInt8) (bad':Bool),m=f∧i=4 - f∧f≤4∧w<2 ^ f∧n<2 ^ (8*i)∧r'.length≤1000000∧nbG f w i n r' bad'=nbG 4 w0 0 0 r bad∧e=[(0,.op id ver []),(1,i64 w),(5,i64 n),(6,i64 i)]∧H'=H.set id (.obj ver (rdr r' bad')),4,?_,?_⟩
 ·refine ⟨4,w0,0,0,r,bad,rfl,rfl,by omega,by omega,by omega,hl,rfl,rfl,?_⟩
  obtain ⟨h1,h2⟩:=List.getElem?_eq_some_iff.1 ho
  rw [←h2,List.set_getElem_self]
 ·rintro m e H' ⟨f,w,i,n,r',bad',rfl,hi,hf4,hwf,hn,hr,he,rfl,rfl⟩
  by_cases hw0:0<w
  ·have hw0':(0:Int)<((w:Nat):Int):=by omega
   obtain ⟨j,rfl⟩:∃ j,m=j+1:=⟨m - 1,by
    cases m with
    | zero=>simp at hwf; omega
    | succ m=>rfl⟩
   have hw16:w<16:=Nat.lt_of_lt_of_le hwf (Nat.pow_le_pow_right (n:=2) (by omega) hf4)
   have hw2:w / 2<2 ^ j:=by rw [Nat.pow_succ] at hwf; omega
   have hi3:i≤3:=by omega
   have hp:2 ^ (8*i)≤2 ^ 24:=Nat.pow_le_pow_right (by omega) (by omega)
   have hpp:0<2 ^ (8*i):=Nat.pow_pos (by omega)
   have hp8:2 ^ (8*(i+1))=256*2 ^ (8*i):=by rw [Nat.mul_add,Nat.pow_add]; omega
   have hand:∀ t,BvB t .and (.int .i64 ((w:Nat):Int)) (.int .i64 1)=some (.int .i64 ((w % 2:Nat):Int)):=fun t=>by
    rw [BRe (by omega) (by omega) (by omega) (by omega),Int.toNat_natCast]
    rw [show (1:Int).toNat=1 from rfl,Nat.and_one_is_mod]
   have hshr:∀ t,BvB t .shr (.int .i64 ((w:Nat):Int)) (.int .u64 1)=some (.int .i64 ((w / 2:Nat):Int)):=fun t=>by
    rw [BTj (by omega) (by omega) (by omega)]
    rw [show (1:Int).toNat=1 from rfl,Int.pow_one,Int.natCast_ediv]; rfl
   by_cases hodd:w % 2=1
   ·have hodd':(((w % 2:Nat):Int)=1)=True:=eq_true (by omega)
    rw [nbG,if_pos hodd] at he
    simp (disch:=omega) only [BuB,BuX,BwD,hw0',hand,hodd',↓Bx2,↓BCX,↓BxX,↓Bww,↓ByG,↓Bt2,↓Bu5,↓BHu,↓Bx0,↓ByZ,↓BKT,BIy,BGo,BGi,BtO,BtM,eq_self,Bu4,↓reduceIte,Nat.reduceEqDiff,List.map_cons,List.map_nil,Buc,true_and,BIF,BKG,BJb,BKe,BTj,Int.reduceToNat,decide_true,reduceCtorEq,and_self,↓all_cons,↓all_nil,eq_self,BJ0]
    refine BSi hr (gs _) ?_
    have hb:=BN3 r' bad'
    have hle:=BH6 (r:=r') (bad:=bad')
    have hm:(rdB r' bad').1*2 ^ (8*i)≤255*2 ^ (8*i):=Nat.mul_le_mul_right _ (by omega)
    have hor:n ||| (rdB r' bad').1*2 ^ (8*i)<2 ^ (8*(i+1)):=Nat.or_lt_two_pow (by omega) (by omega)
    have c8:(8:Int)*(i:Int)=((8*i:Nat):Int):=by omega
    have hshl:∀ t,BvB t .shl (.int .i64 (((rdB r' bad').1:Nat):Int)) (.int .i64 ((8*i:Nat):Int))=some (.int .i64 (((rdB r' bad').1*2 ^ (8*i):Nat):Int)):=fun t=>by
     have e:(((rdB r' bad').1:Nat):Int)*2 ^ (((8*i:Nat):Int).toNat)=(((rdB r' bad').1*2 ^ (8*i):Nat):Int):=by
      rw [Int.toNat_natCast,Int.natCast_mul,Int.natCast_pow]; rfl
     rw [BPz (by omega) (by omega) (by rw [e]; omega) (by rw [e]; omega),e]
    have horv:∀ t,BvB t .or (.int .i64 (n:Int)) (.int .i64 (((rdB r' bad').1*2 ^ (8*i):Nat):Int))=some (.int .i64 ((n ||| (rdB r' bad').1*2 ^ (8*i):Nat):Int)):=fun t=>BYZ (by omega) (by omega) (by omega) (by omega)
    simp (disch:=omega) only [c8,hshl,horv,List.set_set,eq_self,Buc,true_and,eq_self,List.length_set]
    exact ⟨j,H.length,by omega,⟨by simp,.inl (by simp)⟩,j,w / 2,i+1,_,(rdB r' bad').2.1,(rdB r' bad').2.2,rfl,by omega,by omega,hw2,hor,by omega,he,rfl,by rw [List.take_of_length_le (by simp)]⟩
   ·have hodd':(((w % 2:Nat):Int)=1)=False:=eq_false (by omega)
    rw [nbG,if_neg hodd] at he
    simp (disch:=omega) only [BuB,BuX,hw0',hand,hodd',hshr,↓Bx2,↓BCX,↓BxX,↓Bww,↓ByG,↓Bt2,↓Bu5,↓Bx0,↓ByZ,BGo,BGi,BtO,BtM,eq_self,Bu4,↓reduceIte,Nat.reduceEqDiff,Buc,true_and,BIF,BJb,BKe,decide_true,decide_false,Bool.false_eq_true,reduceCtorEq,eq_self,BJ0,List.length_set]
    exact ⟨j,H.length,by omega,⟨by simp,.inl (by simp)⟩,j,w / 2,i+1,n,r',bad',rfl,by omega,by omega,hw2,by omega,hr,he,rfl,by rw [List.take_of_length_le (by simp)]⟩
  ·have hw0':¬ (0:Int)<((w:Nat):Int):=by omega
   have hw00:w=0:=by omega
   subst hw00
   rw [BII] at he
   rw [←he] at hk
   simp (disch:=omega) only [BuB,Bwt,↓Bx2,↓BxX,↓Bww,↓BIV,↓BCH,↓Bt2,↓Bu5,↓Bx0,↓ByZ,↓BtR,↓Buw,BGo,BGi,BtO,BtM,Buw,BtR,eq_self,Int.cast_ofNat_Int,Int.reduceLT,Bu4,↓reduceIte,Nat.reduceEqDiff,Buc,true_and,BKe,decide_false,Bool.false_eq_true,reduceCtorEq,eq_self]
   exact hk
end
end
section
variable [Bt6]
set_option maxRecDepth 100000
def BC3:Btx := .seq (.draw 9 [mv_ 33 5,mv_ 34 0,mv_ 35 6,po_ 36 (.bin 3 .add (.t 35) (ci_ 1)),po_ 37 (.slV 1 (.t 34) (some (.t 36)) none),mv_ 38 6,po_ 39 (.bin 3 .eql (.t 38) (ci_ 0)),mv_ 40 39,⟨some 41,.p (.mov (.t 0)),some ⟨40,false⟩⟩,⟨some 42,.p (.mov (.t 6)),some ⟨40,false⟩⟩,⟨some 43,.p (.idxA 1 (.t 41) (.t 42)),some ⟨40,false⟩⟩,⟨some 44,.p (.load false 1 (.t 43)),some ⟨40,false⟩⟩,⟨some 45,.p (.bin 5 .gtr (.t 44) (.c (.int .u8 ((0:Nat):Int)))),some ⟨40,false⟩⟩,po_ 46 (.pick (.t 40) (.c (.bool true)) (.t 45)),mv_ 2 33,mv_ 3 37,mv_ 4 46] [2,3,4])
 (.ret)
def BC4:Btx := .cond (.t 32)
 BC3
 (.skip)
def BDm:Btx := .seq (.ops [mv_ 28 0,mv_ 29 6,po_ 30 (.idxA 1 (.t 28) (.t 29)),po_ 31 (.load false 1 (.t 30)),po_ 32 (.bin 5 .lss (.t 31) (.c (.int .u8 ((128:Nat):Int))))] [0,5,6,32])
 BC4
def BC0:Btx := .seq (.block 1 (.seq (.ops [mv_ 17 5,mv_ 18 0,mv_ 19 6,po_ 20 (.idxA 1 (.t 18) (.t 19)),po_ 21 (.load false 1 (.t 20)),po_ 22 (.conv .i64 (.t 21)),po_ 23 (.bin 3 .rem (.t 22) (ci_ 128)),mv_ 24 6,po_ 25 (.bin 3 .mul (ci_ 7) (.t 24)),po_ 26 (.bin 3 .shl (.t 23) (.t 25)),po_ 27 (.bin 3 .add (.t 17) (.t 26)),mv_ 5 27] [0,5,6])
 BDm))
 (.ops [mv_ 15 6,po_ 16 (.bin 3 .add (.t 15) (ci_ 1)),mv_ 6 16] [0,5,6])
def BCY:Btx := .seq (.seq (.ops [mv_ 7 6,po_ 8 (.bin 3 .lss (.t 7) (ci_ 5)),mv_ 9 8,⟨some 10,.p (.mov (.t 6)),some ⟨9,true⟩⟩,⟨some 11,.p (.mov (.t 0)),some ⟨9,true⟩⟩,⟨some 12,.p (.lenV (.t 11)),some ⟨9,true⟩⟩,⟨some 13,.p (.bin 3 .lss (.t 10) (.t 12)),some ⟨9,true⟩⟩,po_ 14 (.pick (.t 9) (.t 13) (.c (.bool false)))] [0,5,6,14])
 (.cond (.t 14)
 (.skip)
 (.exit 0)))
 BC0
def BDl:Btx := .block 0 (.loop [0,5,6] BCY)
def BDb:Btx := .seq (.ops [mv_ 47 0,po_ 2 (.mov (ci_ 0)),mv_ 3 47,po_ 4 (.mov (.c (.bool false)))] [2,3,4])
 (.ret)
def BDf:Btx := .seq (.seq (.ops [po_ 6 (.mov (ci_ 0))] [0,5,6])
 BDl)
 BDb
def BCW:Btx := .seq (.ops [po_ 5 (.mov (ci_ 0))] [0,5])
 BDf
def BG2:Btx := .seq (.ops [po_ 2 (.mov (ci_ 0)),po_ 3 (.mov (.c (.slice none 0 0))),po_ 4 (.mov (.c (.bool false)))] [0])
 BCW
def BGC:List VR:=[.tmp 2,.tmp 3,.tmp 4]
theorem BKj:Tryd.f30.body.bind (trC Tryd.prog Tryd.f30.ntmps)=some (er BG2):=by kernel_rfl
theorem BKC:trR Tryd.prog Tryd.f30.results.toList=some BGC:=by kernel_rfl
def BFX:=Btw BC3.eq_1
def BF7:=Btw BC4.eq_1
def BF4:=Btw BDm.eq_1
def BF3:=Btw BC0.eq_1
def BGh:=Btw BCY.eq_1
def BF0:=Btw BDl.eq_1
def BGk:=Btw BDb.eq_1
def BGj:=Btw BDf.eq_1
def BF8:=Btw BCW.eq_1
def BIk:=Btw BG2.eq_1
theorem BIx {K:TV→Prop} {e:Env} {H:List Ob}:res BGC e H K=res [.tmp 2,.tmp 3,.tmp 4] e H K:=Btv rfl
def Bxm:=(aI_ (aI_ (aI_ (aI_ @BFX @BF7) (aI_ @BF4 @BF3)) (aI_ (aI_ @BGh @BF0) (aI_ @BGk @BGj))) (aI_ (aI_ @BF8 @BIk) @BIx))
def BI3:=BBx 48 Tryd.func30 BKj BKC rfl
def BCv:Btx := .seq (.seq (.ops [mv_ 24 8,po_ 25 (.un .not (.t 24))] [6,7,9,25])
 (.cond (.t 25)
 (.seq (.ops [po_ 2 (.mov (ci_ 0)),po_ 3 (.mov (ci_ 0)),po_ 4 (.mov (.c (.slice none 0 0))),po_ 5 (.mov (.c (.bool false)))] [2,3,4,5])
  (.ret))
 (.skip)))
 (.seq (.ops [mv_ 26 6,mv_ 27 9,mv_ 28 7,mv_ 2 26,mv_ 3 27,mv_ 4 28,po_ 5 (.mov (.c (.bool true)))] [2,3,4,5])
 (.ret))
def BBM:Btx := .seq (.ops [mv_ 19 7,so_ 20 (.call 30 [.t 19]),mv_ 18 20,po_ 21 (.ext 0 (.t 18)),po_ 22 (.ext 1 (.t 18)),po_ 23 (.ext 2 (.t 18)),mv_ 9 21,mv_ 7 22,mv_ 8 23] [6,7,8,9])
 BCv
def BBY:Btx := .seq (.seq (.ops [mv_ 16 8,po_ 17 (.un .not (.t 16))] [6,7,17])
 (.cond (.t 17)
 (.seq (.ops [po_ 2 (.mov (ci_ 0)),po_ 3 (.mov (ci_ 0)),po_ 4 (.mov (.c (.slice none 0 0))),po_ 5 (.mov (.c (.bool false)))] [2,3,4,5])
  (.ret))
 (.skip)))
 BBM
def BBE:Btx := .seq (.ops [mv_ 11 0,so_ 12 (.call 30 [.t 11]),mv_ 10 12,po_ 13 (.ext 0 (.t 10)),po_ 14 (.ext 1 (.t 10)),po_ 15 (.ext 2 (.t 10)),mv_ 6 13,mv_ 7 14,mv_ 8 15] [6,7,8])
 BBY
def BFT:Btx := .seq (.ops [po_ 2 (.mov (ci_ 0)),po_ 3 (.mov (ci_ 0)),po_ 4 (.mov (.c (.slice none 0 0))),po_ 5 (.mov (.c (.bool false)))] [0])
 BBE
def BFJ:List VR:=[.tmp 2,.tmp 3,.tmp 4,.tmp 5]
theorem BJs:Tryd.f21.body.bind (trC Tryd.prog Tryd.f21.ntmps)=some (er BFT):=by kernel_rfl
theorem BJa:trR Tryd.prog Tryd.f21.results.toList=some BFJ:=by kernel_rfl
def BFl:=Btw BCv.eq_1
def BE6:=Btw BBM.eq_1
def BE1:=Btw BBY.eq_1
def BFy:=Btw BBE.eq_1
def BHn:=Btw BFT.eq_1
theorem BHc {K:TV→Prop} {e:Env} {H:List Ob}:res BFJ e H K=res [.tmp 2,.tmp 3,.tmp 4,.tmp 5] e H K:=Btv rfl
def BxB:=(aI_ (aI_ (aI_ @BFl @BE6) (aI_ @BE1 @BFy)) (aI_ @BHn @BHc))
def BIe:=BBx 29 Tryd.func21 BJs BJa rfl
end
section
open Go.RowKit
variable [Bt6]
theorem BHP {n x k:Nat} (h:n<2 ^ k):n ||| x*2 ^ k=n+x*2 ^ k:=by
 have:=Nat.shiftLeft_add_eq_or_of_lt h x
 rw [Nat.shiftLeft_eq] at this
 rw [Nat.or_comm,←this,Nat.add_comm]
theorem BIM {c:Nat}:c &&& 127=c % 128:=by
 have:=Nat.and_two_pow_sub_one_eq_mod c 7
 simpa using this
theorem BEh {f i n:Nat} {y:UInt8} {r:List UInt8} {bad:Bool} (h:¬ y.toNat<128):szG (f+1) i n (y::r) bad=szG f (i+1) (n ||| (y.toNat &&& 127)*2 ^ (7*i)) r bad:=BLl h
theorem BCb {f i n:Nat} {y:UInt8} {r:List UInt8} {bad:Bool} (h:y.toNat<128):szG (f+1) i n (y::r) bad=(n ||| (y.toNat &&& 127)*2 ^ (7*i),r,bad || (decide (0<i) && decide (y.toNat=0))):=BJU h
def B0p (b:List UInt8) (x:TV):Prop:=∃ (n:Nat) (r:List UInt8) (ok:Bool),x = .tup [i64 n,slB r,tb ok]∧(ok=true→szG 5 0 0 b false=(n,r,false))∧(ok=false→(szG 5 0 0 b false).2.2=true)
theorem BOg (b:List UInt8) (hl:b.length≤1000000):ByW Tryd.prog 30 [slB b] (B0p b):=by
 refine BtJ.toPureV (BI3 (by simp) ?_)
 simp -dsimp (disch:=first | assumption | omega) only [↓BtC,Bty,BtA,BtB,eq_self,Nat.reduceEqDiff,↓reduceIte,reduceCtorEq,↓Bxm]
 refine Byl (fun m e H'=>∃ (i n:Nat),m=5 - i∧i≤5∧i≤b.length∧n<2 ^ (7*i)∧szG (5 - i) i n (b.drop i) false=szG 5 0 0 b false∧e=[(0,slB b),(5,i64 n),(6,i64 i)]∧H'=[]) 5 ?_ ?_
 ·exact ⟨0,0,rfl,by omega,by omega,by omega,rfl,rfl,rfl⟩
 ·rintro m e H' ⟨i,n,rfl,hi,hib,hn,he,rfl,rfl⟩
  by_cases hi5:i<5
  ·have hi5':((i:Nat):Int)<5:=by omega
   obtain ⟨j,hj⟩:∃ j,5 - i=j+1:=⟨4 - i,by omega⟩
   rw [hj] at he
   by_cases hil:i<b.length
   ·have hg:b[i]?=some b[i]:=by simp [hil]
    have hd:b.drop i=b[i]::b.drop (i+1):=List.drop_eq_getElem_cons hil
    rw [hd] at he
    generalize hy:b[i]=y at *
    have hy8:=y.toNat_lt
    have c7:(7:Int)*(i:Int)=((7*i:Nat):Int):=by omega
    have hp:2 ^ (7*i)≤2 ^ 28:=Nat.pow_le_pow_right (by omega) (by omega)
    have hpp:0<2 ^ (7*i):=Nat.pow_pos (by omega)
    have hm:y.toNat % 128*2 ^ (7*i)≤127*2 ^ (7*i):=Nat.mul_le_mul_right _ (by omega)
    have hp7:2 ^ (7*(i+1))=128*2 ^ (7*i):=by rw [Nat.mul_add,Nat.pow_add]; omega
    have hc:IntKind.i64.wrap (y.toNat:Int)=y.toNat:=BvC (by omega) (by omega)
    have hrem:∀ t,BvB t .rem (.int .i64 (y.toNat:Int)) (.int .i64 128)=some (.int .i64 ((y.toNat % 128:Nat):Int)):=fun t=>by
     rw [BWM (by omega) (by omega),Int.natCast_emod]; rfl
    have hshl:∀ t,BvB t .shl (.int .i64 ((y.toNat % 128:Nat):Int)) (.int .i64 ((7*i:Nat):Int))=some (.int .i64 ((y.toNat % 128*2 ^ (7*i):Nat):Int)):=fun t=>by
     have e:((y.toNat % 128:Nat):Int)*2 ^ (((7*i:Nat):Int).toNat)=((y.toNat % 128*2 ^ (7*i):Nat):Int):=by
      rw [Int.toNat_natCast,Int.natCast_mul,Int.natCast_pow]; rfl
     rw [BPz (by omega) (by omega) (by rw [e]; omega) (by rw [e]; omega),e]
    have hor:=BHP (x:=y.toNat % 128) hn
    by_cases hlt:y.toNat<128
    ·have hlt':((y.toNat:Nat):Int)<128:=by omega
     rw [BCb hlt] at he
     simp only [BIM,hor,Bool.false_or] at he
     have hdt:(b.drop (i+1)).take (b.length - (i+1))=b.drop (i+1):=List.take_of_length_le (by simp)
     by_cases hi0:i=0
     ·have hi0':(((i:Nat):Int)=0)=True:=eq_true (by omega)
      rw [decide_eq_false (show ¬ 0<i from by omega),Bool.false_and] at he
      simp -dsimp (disch:=first | assumption | omega) only [↓BtC,Bty,BtA,BtB,eq_self,Nat.reduceEqDiff,↓reduceIte,reduceCtorEq,↓Bxm,hil,hg,hshl,hlt,hdt]
      exact ⟨_,_,_,rfl,fun _=>he.symm,fun h=>by cases h⟩
     ·have hi0':(((i:Nat):Int)=0)=False:=eq_false (by omega)
      rw [decide_eq_true (show 0<i from by omega),Bool.true_and] at he
      simp -dsimp (disch:=first | assumption | omega) only [↓BtC,Bty,BtA,BtB,eq_self,Nat.reduceEqDiff,↓reduceIte,reduceCtorEq,↓Bxm,hil,hg,hshl,hlt,hdt]
      refine ⟨_,_,_,rfl,fun h => ?_,fun h => ?_⟩
      ·rw [←he,decide_eq_false (show ¬ y.toNat=0 from by simp at h; omega)]
      ·rw [←he,decide_eq_true (show y.toNat=0 from by simp at h; omega)]
    ·have hlt':¬ ((y.toNat:Nat):Int)<128:=by omega
     rw [BEh hlt] at he
     simp only [BIM,hor] at he
     simp -dsimp (disch:=first | assumption | omega) only [↓BtC,Bty,BtA,BtB,eq_self,Nat.reduceEqDiff,↓reduceIte,reduceCtorEq,↓Bxm,hil,hg,hshl,hlt]
     exact BtV (5 - (i+1)) (by omega) (by simp) ⟨i+1,n+y.toNat % 128*2 ^ (7*i),rfl,by omega,by omega,by omega,by rw [show 5 - (i+1)=j from by omega]; exact he,rfl,rfl⟩
   ·have hie:i=b.length:=by omega
    rw [show b.drop i=[] from by rw [hie]; simp,BJU (by simp [rdB])] at he
    simp only [rdB,Bool.true_or] at he
    simp -dsimp (disch:=first | assumption | omega) only [↓BtC,Bty,BtA,BtB,eq_self,Nat.reduceEqDiff,↓reduceIte,reduceCtorEq,↓Bxm,hil]
    exact ⟨0,b,false,rfl,(fun h=>by cases h),fun _=>by rw [←he]⟩
  ·have hi5':¬ ((i:Nat):Int)<5:=by omega
   have hi':i=5:=by omega
   subst hi'
   rw [show (5:Nat) - 5=0 from rfl,szG] at he
   simp -dsimp (disch:=first | assumption | omega) only [↓BtC,Bty,BtA,BtB,eq_self,Nat.reduceLT,Nat.reduceEqDiff,↓reduceIte,reduceCtorEq,↓Bxm]
   exact ⟨0,b,false,rfl,(fun h=>by cases h),fun _=>by rw [←he]⟩
def szs (b:List UInt8):Option (Nat×Nat×List UInt8) :=
 if (szG 5 0 0 b false).2.2 then none else
 if (szG 5 0 0 (szG 5 0 0 b false).2.1 false).2.2 then none else some ((szG 5 0 0 b false).1,(szG 5 0 0 (szG 5 0 0 b false).2.1 false).1,(szG 5 0 0 (szG 5 0 0 b false).2.1 false).2.1)
def BNw (b:List UInt8) (x:TV):Prop:=match szs b with
 | none=>x = .tup [i64 0,i64 0,.val (.slice none 0 0),tb false]
 | some (n,m,r)=>x = .tup [i64 n,i64 m,slB r,tb true]
theorem BDG:∀ (f i n:Nat) (r:List UInt8) (bad:Bool),(szG f i n r bad).2.1.length≤r.length
 | 0,i,n,r,bad=>Nat.le_refl _
 | f+1,i,n,r,bad=>by
  rw [szG]
  split
  ·exact BH6
  ·exact Nat.le_trans (BDG f _ _ _ _) BH6
theorem BRU (b:List UInt8) (hl:b.length≤1000000):ByW Tryd.prog 21 [slB b] (BNw b):=by
 refine BtJ.toPureV (BIe (by simp) ?_)
 simp -dsimp (disch:=first | assumption | omega) only [↓BtC,Bty,BtA,BtB,eq_self,↓reduceIte,reduceCtorEq,↓BxB]
 refine (BOg b hl).calls rfl ?_
 rintro x ⟨n,r,ok,rfl,h1,h2⟩
 cases ok with
 | false =>
  have h2:=h2 rfl
  simp -dsimp (disch:=first | assumption | omega) only [↓BtC,Bty,BtA,BtB,eq_self,Nat.reduceEqDiff,↓reduceIte,↓BxB]
  simp [BNw,szs,h2]
 | true =>
  have h1:=h1 rfl
  have hlen:=BDG 5 0 0 b false
  simp -dsimp (disch:=first | assumption | omega) only [↓BtC,Bty,BtA,BtB,eq_self,Nat.reduceEqDiff,↓reduceIte,↓BxB]
  refine (BOg r (by rw [h1] at hlen; simp only at hlen; omega)).calls rfl ?_
  rintro x ⟨m,r2,ok2,rfl,h3,h4⟩
  cases ok2 with
  | false =>
   have h4:=h4 rfl
   simp -dsimp (disch:=first | assumption | omega) only [↓BtC,Bty,BtA,BtB,eq_self,Nat.reduceEqDiff,↓reduceIte,↓BxB]
   simp [BNw,szs,h1,h4]
  | true =>
   have h3:=h3 rfl
   simp -dsimp (disch:=first | assumption | omega) only [↓BtC,Bty,BtA,BtB,eq_self,Nat.reduceEqDiff,↓reduceIte,↓BxB]
   simp [BNw,szs,h1,h3]
end
section
variable [Bt6]
set_option maxRecDepth 100000
def BBa:Btx := .seq (.ops [mv_ 59 6,mv_ 60 10,po_ 61 (.bin 3 .and (.t 60) (ci_ 15)),so_ 62 (.call 20 [.t 59,.t 61]),mv_ 63 6,mv_ 64 10,po_ 65 (.bin 3 .shr (.t 64) (.c (.int .u64 ((4:Nat):Int)))),po_ 66 (.bin 3 .and (.t 65) (ci_ 7)),so_ 67 (.call 20 [.t 63,.t 66]),mv_ 12 62,mv_ 13 67] [0,6,8,9,10,12,13])
 (.seq (.seq (.ops [mv_ 68 13,po_ 69 (.bin 3 .eql (.t 68) (ci_ 0))] [0,6,8,9,10,12,13,69])
 (.cond (.t 69)
 (.ops [po_ 13 (.mov (ci_ 65536))] [0,6,8,9,10,12,13])
 (.skip)))
 (.ops [mv_ 70 0,mv_ 11 70] [0,6,8,9,10,11,12,13]))
def BA1:Btx := .cond (.t 55)
 BBa
 (.skip)
def BA5:Btx := .seq (.ops [mv_ 56 10,po_ 57 (.bin 3 .and (.t 56) (ci_ 128)),po_ 58 (.bin 3 .gtr (.t 57) (ci_ 0)),mv_ 55 58] [0,6,8,9,10,11,12,13,55])
 BA1
def BA0:Btx := .cond (.t 51)
 (.seq (.ops [po_ 54 (.iface 34 (ci_ 30)),po_ 4 (.mov (.c (.slice none 0 0))),mv_ 5 54] [4,5])
  (.ret))
 BA5
def BBg:Btx := .ops [mv_ 103 6,mv_ 104 6,po_ 105 (.nilc (.t 104)),po_ 106 (.fieldA 0 0 (.t 105)),po_ 107 (.load false 1 (.t 106)),mv_ 108 13,po_ 109 (.slV 1 (.t 107) (some (.t 108)) none),po_ 110 (.nilc (.t 103)),po_ 111 (.fieldA 0 0 (.t 110)),⟨none,.s (.store 1 (.t 111) (.t 109)),none⟩] [0,6,8,9]
def BAW:Btx := .seq (.ops [mv_ 100 10,po_ 101 (.bin 3 .and (.t 100) (ci_ 128)),po_ 102 (.bin 3 .eql (.t 101) (ci_ 0))] [0,6,8,9,13,102])
 (.cond (.t 102)
 BBg
 (.skip))
def BAP:Btx := .seq (.ops [mv_ 92 9,mv_ 93 11,mv_ 94 12,mv_ 95 12,mv_ 96 13,po_ 97 (.bin 3 .add (.t 95) (.t 96)),po_ 98 (.slV 1 (.t 93) (some (.t 94)) (some (.t 97))),so_ 99 (.app 1 1 5 (.t 92) (.t 98)),mv_ 9 99] [0,6,8,9,10,13])
 BAW
def BAM:Btx := .seq (.seq (.ops [mv_ 71 6,po_ 72 (.nilc (.t 71)),po_ 73 (.fieldA 1 1 (.t 72)),po_ 74 (.load false 1 (.t 73)),mv_ 75 74,⟨some 76,.p (.mov (.t 13)),some ⟨75,false⟩⟩,⟨some 77,.p (.mov (.t 11)),some ⟨75,false⟩⟩,⟨some 78,.p (.lenV (.t 77)),some ⟨75,false⟩⟩,⟨some 79,.p (.mov (.t 12)),some ⟨75,false⟩⟩,⟨some 80,.p (.bin 3 .sub (.t 78) (.t 79)),some ⟨75,false⟩⟩,⟨some 81,.p (.bin 3 .gtr (.t 76) (.t 80)),some ⟨75,false⟩⟩,po_ 82 (.pick (.t 75) (.c (.bool true)) (.t 81)),mv_ 83 82,⟨some 84,.p (.mov (.t 9)),some ⟨83,false⟩⟩,⟨some 85,.p (.lenV (.t 84)),some ⟨83,false⟩⟩,⟨some 86,.p (.mov (.t 13)),some ⟨83,false⟩⟩,⟨some 87,.p (.bin 3 .add (.t 85) (.t 86)),some ⟨83,false⟩⟩,⟨some 88,.p (.mov (.t 8)),some ⟨83,false⟩⟩,⟨some 89,.p (.bin 3 .gtr (.t 87) (.t 88)),some ⟨83,false⟩⟩,po_ 90 (.pick (.t 83) (.c (.bool true)) (.t 89))] [0,6,8,9,10,11,12,13,90])
 (.cond (.t 90)
 (.seq (.ops [po_ 91 (.iface 34 (ci_ 30)),po_ 4 (.mov (.c (.slice none 0 0))),mv_ 5 91] [4,5])
  (.ret))
 (.skip)))
 BAP
def BAV:Btx := .seq (.block 2 (.seq (.ops [mv_ 52 10,po_ 53 (.bin 3 .eql (.t 52) (ci_ 0)),mv_ 51 53] [0,6,8,9,10,11,12,13,51])
 BA0))
 BAM
def BzR:Btx := .seq (.ops [mv_ 46 6,po_ 47 (.nilc (.t 46)),po_ 48 (.fieldA 0 0 (.t 47)),po_ 49 (.load false 1 (.t 48)),mv_ 50 10,mv_ 11 49,po_ 12 (.mov (ci_ 0)),mv_ 13 50] [0,6,8,9,10,11,12,13])
 BAV
def BzX:Btx := .block 1 (.seq (.ops [mv_ 44 6,so_ 45 (.call 19 [.t 44]),mv_ 10 45] [0,6,8,9,10])
 BzR)
def Bz7:Btx := .seq (.seq (.ops [mv_ 38 6,po_ 39 (.nilc (.t 38)),po_ 40 (.fieldA 0 0 (.t 39)),po_ 41 (.load false 1 (.t 40)),po_ 42 (.lenV (.t 41)),po_ 43 (.bin 3 .gtr (.t 42) (ci_ 0))] [0,6,8,9,43])
 (.cond (.t 43)
 (.skip)
 (.exit 0)))
 BzX
def BAb:Btx := .seq (.seq (.ops [mv_ 112 9,po_ 113 (.lenV (.t 112)),mv_ 114 8,po_ 115 (.bin 3 .neq (.t 113) (.t 114))] [9,115])
 (.cond (.t 115)
 (.seq (.ops [po_ 116 (.iface 34 (ci_ 30)),po_ 4 (.mov (.c (.slice none 0 0))),mv_ 5 116] [4,5])
  (.ret))
 (.skip)))
 (.seq (.ops [mv_ 117 9,mv_ 4 117,po_ 5 (.mov (.c .nilIface))] [4,5])
 (.ret))
def BAk:Btx := .seq (.block 0 (.own 9 1 (.loop [0,6,8,9] Bz7)))
 BAb
def BAi:Btx := .seq (.ops [mv_ 36 8,so_ 37 (.mks 1 1 (.val (.int .u8 ((0:Nat):Int))) (ci_ 0) (.t 36)),mv_ 9 37] [0,6,8,9])
 BAk
def Bz8:Btx := .seq (.seq (.ops [mv_ 21 6,po_ 22 (.nilc (.t 21)),po_ 23 (.fieldA 1 1 (.t 22)),po_ 24 (.load false 1 (.t 23)),mv_ 25 24,⟨some 26,.p (.mov (.t 7)),some ⟨25,false⟩⟩,⟨some 27,.p (.mov (.t 0)),some ⟨25,false⟩⟩,⟨some 28,.p (.lenV (.t 27)),some ⟨25,false⟩⟩,⟨some 29,.p (.bin 3 .neq (.t 26) (.t 28)),some ⟨25,false⟩⟩,po_ 30 (.pick (.t 25) (.c (.bool true)) (.t 29)),mv_ 31 30,⟨some 32,.p (.mov (.t 8)),some ⟨31,false⟩⟩,⟨some 33,.p (.bin 3 .gtr (.t 32) (ci_ 100000)),some ⟨31,false⟩⟩,po_ 34 (.pick (.t 31) (.c (.bool true)) (.t 33))] [0,6,8,34])
 (.cond (.t 34)
 (.seq (.ops [po_ 35 (.iface 34 (ci_ 30)),po_ 4 (.mov (.c (.slice none 0 0))),mv_ 5 35] [4,5])
  (.ret))
 (.skip)))
 BAi
def BzV:Btx := .seq (.ops [mv_ 17 6,so_ 18 (.call 18 [.t 17]),mv_ 19 6,so_ 20 (.call 18 [.t 19]),mv_ 7 18,mv_ 8 20] [0,6,7,8])
 Bz8
def BzI:Btx := .seq (.ops [mv_ 14 1,⟨some 15,.p (.build [.val (.slice none 0 0),.val (.bool false)] [1,1] [⟨0,.t 14⟩]),none⟩,so_ 16 (.box (.t 15)),mv_ 6 16] [0,6])
 BzV
def BEQ:Btx := .seq (.ops [po_ 4 (.mov (.c (.slice none 0 0))),po_ 5 (.mov (.c .nilIface))] [0,1])
 BzI
def BER:List VR:=[.tmp 4,.tmp 5]
theorem BIB:Tryd.f8.body.bind (trC Tryd.prog Tryd.f8.ntmps)=some (er BEQ):=by kernel_rfl
theorem BIj:trR Tryd.prog Tryd.f8.results.toList=some BER:=by kernel_rfl
def BEB:=Btw BBa.eq_1
def BEj:=Btw BA1.eq_1
def BEz:=Btw BA5.eq_1
def BEe:=Btw BA0.eq_1
def BEC:=Btw BBg.eq_1
def BEa:=Btw BAW.eq_1
def BEi:=Btw BAP.eq_1
def BD3:=Btw BAM.eq_1
def BEF:=Btw BAV.eq_1
def BDI:=Btw BzR.eq_1
def BDW:=Btw BzX.eq_1
def BDu:=Btw Bz7.eq_1
def BDD:=Btw BAb.eq_1
def BDz:=Btw BAk.eq_1
def BDF:=Btw BAi.eq_1
def BDR:=Btw Bz8.eq_1
def BDA:=Btw BzV.eq_1
def BDN:=Btw BzI.eq_1
def BGw:=Btw BEQ.eq_1
theorem BGy {K:TV→Prop} {e:Env} {H:List Ob}:res BER e H K=res [.tmp 4,.tmp 5] e H K:=Btv rfl
def BtF:=(aI_ (aI_ (aI_ (aI_ (aI_ @BEB @BEj) (aI_ @BEz @BEe)) (aI_ (aI_ @BEC @BEa) (aI_ @BEi @BD3))) (aI_ (aI_ (aI_ @BEF @BDI) (aI_ @BDW @BDu)) (aI_ (aI_ @BDD @BDz) (aI_ @BDF @BDR)))) (aI_ (aI_ @BDA @BDN) (aI_ @BGw @BGy)))
def BHa:=BBx 118 Tryd.func8 BIB BIj rfl
def BAT:Btx := .seq (.seq (.ops [mv_ 13 5,po_ 14 (.nilc (.t 13)),po_ 15 (.fieldA 1 1 (.t 14)),po_ 16 (.load false 1 (.t 15))] [2,3,16])
 (.cond (.t 16)
 (.seq (.ops [po_ 17 (.iface 34 (ci_ 30)),po_ 2 (.mov (ci_ 0)),po_ 3 (.mov (ci_ 0)),mv_ 4 17] [2,3,4])
  (.ret))
 (.skip)))
 (.seq (.ops [mv_ 18 2,mv_ 19 3,mv_ 2 18,mv_ 3 19,po_ 4 (.mov (.c .nilIface))] [2,3,4])
 (.ret))
def BAS:Btx := .seq (.ops [mv_ 9 5,so_ 10 (.call 18 [.t 9]),mv_ 11 5,so_ 12 (.call 18 [.t 11]),mv_ 2 10,mv_ 3 12] [2,3,5])
 BAT
def BBb:Btx := .seq (.ops [mv_ 6 0,⟨some 7,.p (.build [.val (.slice none 0 0),.val (.bool false)] [1,1] [⟨0,.t 6⟩]),none⟩,so_ 8 (.box (.t 7)),mv_ 5 8] [5])
 BAS
def BEM:Btx := .seq (.ops [po_ 2 (.mov (ci_ 0)),po_ 3 (.mov (ci_ 0)),po_ 4 (.mov (.c .nilIface))] [0])
 BBb
def BEp:List VR:=[.tmp 2,.tmp 3,.tmp 4]
theorem BH9:Tryd.f10.body.bind (trC Tryd.prog Tryd.f10.ntmps)=some (er BEM):=by kernel_rfl
theorem BID:trR Tryd.prog Tryd.f10.results.toList=some BEp:=by kernel_rfl
def BEu:=Btw BAT.eq_1
def BEs:=Btw BAS.eq_1
def BEL:=Btw BBb.eq_1
def BGE:=Btw BEM.eq_1
theorem BGJ {K:TV→Prop} {e:Env} {H:List Ob}:res BEp e H K=res [.tmp 2,.tmp 3,.tmp 4] e H K:=Btv rfl
def BAq:=(aI_ (aI_ (aI_ @BEu @BEs) (aI_ @BEL @BGE)) @BGJ)
def BHj:=BBx 20 Tryd.func10 BH9 BID rfl
def BC8:Btx := .seq (.ops [mv_ 28 11,mv_ 29 0,po_ 30 (.idxA 1 (.t 29) (ci_ 0)),po_ 31 (.load false 1 (.t 30)),po_ 32 (.conv .i64 (.t 31)),mv_ 33 12,mv_ 34 2,po_ 35 (.bin 3 .sub (.t 33) (.t 34)),po_ 36 (.bin 3 .mul (ci_ 8) (.t 35)),po_ 37 (.bin 3 .shl (.t 32) (.t 36)),po_ 38 (.bin 3 .add (.t 28) (.t 37)),mv_ 11 38] [0,1,2,3,11,12])
 (.ops [mv_ 39 0,po_ 40 (.slV 1 (.t 39) (some (ci_ 1)) none),mv_ 0 40] [0,1,2,3,11,12])
def BDh:Btx := .seq (.seq (.ops [mv_ 24 0,po_ 25 (.lenV (.t 24)),po_ 26 (.bin 3 .eql (.t 25) (ci_ 0))] [0,1,2,3,11,12,26])
 (.cond (.t 26)
 (.seq (.ops [mv_ 27 0,po_ 8 (.mov (ci_ 0)),mv_ 9 27,po_ 10 (.mov (.c (.bool false)))] [8,9,10])
  (.ret))
 (.skip)))
 BC8
def BDn:Btx := .seq (.block 1 (.seq (.seq (.ops [mv_ 19 1,mv_ 20 12,po_ 21 (.bin 3 .shr (.t 19) (.t 20)),po_ 22 (.bin 3 .rem (.t 21) (ci_ 2)),po_ 23 (.bin 3 .eql (.t 22) (ci_ 0))] [0,1,2,3,11,12,23])
 (.cond (.t 23)
 (.exit 1)
 (.skip)))
 BDh))
 (.ops [mv_ 17 12,po_ 18 (.bin 3 .add (.t 17) (ci_ 1)),mv_ 12 18] [0,1,2,3,11,12])
def BC5:Btx := .seq (.seq (.ops [mv_ 14 12,mv_ 15 3,po_ 16 (.bin 3 .leq (.t 14) (.t 15))] [0,1,2,3,11,12,16])
 (.cond (.t 16)
 (.skip)
 (.exit 0)))
 BDn
def BDd:Btx := .block 0 (.loop [0,1,2,3,11,12] BC5)
def BDj:Btx := .seq (.ops [mv_ 41 11,mv_ 42 0,mv_ 8 41,mv_ 9 42,po_ 10 (.mov (.c (.bool true)))] [8,9,10])
 (.ret)
def BDa:Btx := .seq (.seq (.ops [mv_ 13 2,mv_ 12 13] [0,1,2,3,11,12])
 BDd)
 BDj
def BC6:Btx := .seq (.ops [po_ 11 (.mov (ci_ 0))] [0,1,2,3,11])
 BDa
def BGX:Btx := .seq (.ops [po_ 8 (.mov (ci_ 0)),po_ 9 (.mov (.c (.slice none 0 0))),po_ 10 (.mov (.c (.bool false)))] [0,1,2,3])
 BC6
def BGG:List VR:=[.tmp 8,.tmp 9,.tmp 10]
theorem BKx:Tryd.f22.body.bind (trC Tryd.prog Tryd.f22.ntmps)=some (er BGX):=by kernel_rfl
theorem BKI:trR Tryd.prog Tryd.f22.results.toList=some BGG:=by kernel_rfl
def BGa:=Btw BC8.eq_1
def BFY:=Btw BDh.eq_1
def BGf:=Btw BDn.eq_1
def BF6:=Btw BC5.eq_1
def BF1:=Btw BDd.eq_1
def BGg:=Btw BDj.eq_1
def BGd:=Btw BDa.eq_1
def BFZ:=Btw BC6.eq_1
def BIA:=Btw BGX.eq_1
theorem BIh {K:TV→Prop} {e:Env} {H:List Ob}:res BGG e H K=res [.tmp 8,.tmp 9,.tmp 10] e H K:=Btv rfl
def Bxq:=(aI_ (aI_ (aI_ (aI_ @BGa @BFY) (aI_ @BGf @BF6)) (aI_ (aI_ @BF1 @BGg) (aI_ @BGd @BFZ))) (aI_ @BIA @BIh))
def BJB:=BBx 43 Tryd.func22 BKx BKI rfl
def BCs:Btx := .seq (.seq (.ops [mv_ 65 15,po_ 66 (.un .not (.t 65)),mv_ 67 66,⟨some 68,.p (.mov (.t 16)),some ⟨67,false⟩⟩,⟨some 69,.p (.un .not (.t 68)),some ⟨67,false⟩⟩,po_ 70 (.pick (.t 67) (.c (.bool true)) (.t 69))] [0,7,8,10,11,13,14,70])
 (.cond (.t 70)
 (.seq (.ops [po_ 4 (.mov (.c (.slice none 0 0))),po_ 5 (.mov (.c (.bool false)))] [4,5])
  (.ret))
 (.skip)))
 (.seq (.seq (.ops [mv_ 71 14,po_ 72 (.bin 3 .eql (.t 71) (ci_ 0))] [0,7,8,10,11,13,14,72])
 (.cond (.t 72)
 (.ops [po_ 14 (.mov (ci_ 65536))] [0,7,8,10,11,13,14])
 (.skip)))
 (.ops [mv_ 73 0,mv_ 12 73] [0,7,8,10,11,12,13,14]))
def BBU:Btx := .seq (.ops [mv_ 59 8,mv_ 60 11,so_ 61 (.call 22 [.t 59,.t 60,.c (.int .i64 ((4:Nat):Int)),.c (.int .i64 ((6:Nat):Int))]),mv_ 58 61,po_ 62 (.ext 0 (.t 58)),po_ 63 (.ext 1 (.t 58)),po_ 64 (.ext 2 (.t 58)),mv_ 14 62,mv_ 8 63,mv_ 16 64] [0,7,8,10,11,13,14,15,16])
 BCs
def BBF:Btx := .seq (.ops [mv_ 52 8,mv_ 53 11,so_ 54 (.call 22 [.t 52,.t 53,.c (.int .i64 ((0:Nat):Int)),.c (.int .i64 ((3:Nat):Int))]),mv_ 51 54,po_ 55 (.ext 0 (.t 51)),po_ 56 (.ext 1 (.t 51)),po_ 57 (.ext 2 (.t 51)),mv_ 13 55,mv_ 8 56,mv_ 15 57] [0,7,8,10,11,13,15])
 BBU
def BB9:Btx := .seq (.ops [po_ 16 (.mov (.c (.bool true)))] [0,7,8,10,11])
 BBF
def BCq:Btx := .seq (.ops [po_ 15 (.mov (.c (.bool true)))] [0,7,8,10,11])
 BB9
def BCj:Btx := .cond (.t 50)
 BCq
 (.skip)
def BCr:Btx := .seq (.ops [mv_ 88 10,mv_ 89 12,mv_ 90 13,mv_ 91 13,mv_ 92 14,po_ 93 (.bin 3 .add (.t 91) (.t 92)),po_ 94 (.slV 1 (.t 89) (some (.t 90)) (some (.t 93))),so_ 95 (.app 1 1 5 (.t 88) (.t 94)),mv_ 10 95] [0,7,8,10,11,14])
 (.seq (.ops [mv_ 96 11,po_ 97 (.bin 3 .lss (.t 96) (ci_ 128))] [0,7,8,10,14,97])
 (.cond (.t 97)
 (.ops [mv_ 98 8,mv_ 99 14,po_ 100 (.slV 1 (.t 98) (some (.t 99)) none),mv_ 8 100] [0,7,8,10])
 (.skip)))
def BBN:Btx := .seq (.seq (.ops [mv_ 74 14,mv_ 75 12,po_ 76 (.lenV (.t 75)),mv_ 77 13,po_ 78 (.bin 3 .sub (.t 76) (.t 77)),po_ 79 (.bin 3 .gtr (.t 74) (.t 78)),mv_ 80 79,⟨some 81,.p (.mov (.t 10)),some ⟨80,false⟩⟩,⟨some 82,.p (.lenV (.t 81)),some ⟨80,false⟩⟩,⟨some 83,.p (.mov (.t 14)),some ⟨80,false⟩⟩,⟨some 84,.p (.bin 3 .add (.t 82) (.t 83)),some ⟨80,false⟩⟩,⟨some 85,.p (.mov (.t 7)),some ⟨80,false⟩⟩,⟨some 86,.p (.bin 3 .gtr (.t 84) (.t 85)),some ⟨80,false⟩⟩,po_ 87 (.pick (.t 80) (.c (.bool true)) (.t 86))] [0,7,8,10,11,12,13,14,87])
 (.cond (.t 87)
 (.seq (.ops [po_ 4 (.mov (.c (.slice none 0 0))),po_ 5 (.mov (.c (.bool false)))] [4,5])
  (.ret))
 (.skip)))
 BCr
def BBT:Btx := .seq (.seq (.ops [mv_ 49 11,po_ 50 (.bin 3 .geq (.t 49) (ci_ 128))] [0,7,8,10,11,12,13,14,50])
 BCj)
 BBN
def BA4:Btx := .seq (.ops [mv_ 48 11,mv_ 14 48] [0,7,8,10,11,12,13,14])
 BBT
def BAO:Btx := .seq (.ops [po_ 13 (.mov (ci_ 0))] [0,7,8,10,11,12,13])
 BA4
def BA7:Btx := .seq (.ops [mv_ 47 8,mv_ 12 47] [0,7,8,10,11,12])
 BAO
def BAZ:Btx := .seq (.seq (.ops [mv_ 45 11,po_ 46 (.bin 3 .eql (.t 45) (ci_ 0))] [0,7,8,10,11,46])
 (.cond (.t 46)
 (.seq (.ops [po_ 4 (.mov (.c (.slice none 0 0))),po_ 5 (.mov (.c (.bool false)))] [4,5])
  (.ret))
 (.skip)))
 BA7
def BBd:Btx := .seq (.ops [mv_ 43 8,po_ 44 (.slV 1 (.t 43) (some (ci_ 1)) none),mv_ 8 44] [0,7,8,10,11])
 BAZ
def BAY:Btx := .block 1 (.seq (.ops [mv_ 39 8,po_ 40 (.idxA 1 (.t 39) (ci_ 0)),po_ 41 (.load false 1 (.t 40)),po_ 42 (.conv .i64 (.t 41)),mv_ 11 42] [0,7,8,10,11])
 BBd)
def BAN:Btx := .seq (.seq (.ops [mv_ 36 8,po_ 37 (.lenV (.t 36)),po_ 38 (.bin 3 .gtr (.t 37) (ci_ 0))] [0,7,8,10,38])
 (.cond (.t 38)
 (.skip)
 (.exit 0)))
 BAY
def BA8:Btx := .seq (.ops [mv_ 101 10,mv_ 102 10,po_ 103 (.lenV (.t 102)),mv_ 104 7,po_ 105 (.bin 3 .eql (.t 103) (.t 104)),mv_ 4 101,mv_ 5 105] [4,5])
 (.ret)
def BA2:Btx := .seq (.block 0 (.own 10 1 (.loop [0,7,8,10] BAN)))
 BA8
def BBf:Btx := .seq (.ops [po_ 10 (.mov (.c (.slice none 0 0)))] [0,7,8,10])
 BA2
def BAU:Btx := .seq (.seq (.ops [mv_ 24 9,po_ 25 (.un .not (.t 24)),mv_ 26 25,⟨some 27,.p (.mov (.t 6)),some ⟨26,false⟩⟩,⟨some 28,.p (.mov (.t 0)),some ⟨26,false⟩⟩,⟨some 29,.p (.lenV (.t 28)),some ⟨26,false⟩⟩,⟨some 30,.p (.bin 3 .neq (.t 27) (.t 29)),some ⟨26,false⟩⟩,po_ 31 (.pick (.t 26) (.c (.bool true)) (.t 30)),mv_ 32 31,⟨some 33,.p (.mov (.t 7)),some ⟨32,false⟩⟩,⟨some 34,.p (.bin 3 .gtr (.t 33) (ci_ 100000)),some ⟨32,false⟩⟩,po_ 35 (.pick (.t 32) (.c (.bool true)) (.t 34))] [0,7,8,35])
 (.cond (.t 35)
 (.seq (.ops [po_ 4 (.mov (.c (.slice none 0 0))),po_ 5 (.mov (.c (.bool false)))] [4,5])
  (.ret))
 (.skip)))
 BBf
def BAX:Btx := .seq (.ops [mv_ 18 1,so_ 19 (.call 21 [.t 18]),mv_ 17 19,po_ 20 (.ext 0 (.t 17)),po_ 21 (.ext 1 (.t 17)),po_ 22 (.ext 2 (.t 17)),po_ 23 (.ext 3 (.t 17)),mv_ 6 20,mv_ 7 21,mv_ 8 22,mv_ 9 23] [0,6,7,8,9])
 BAU
def BFU:Btx := .seq (.ops [po_ 4 (.mov (.c (.slice none 0 0))),po_ 5 (.mov (.c (.bool false)))] [0,1])
 BAX
def BFF:List VR:=[.tmp 4,.tmp 5]
theorem BJt:Tryd.f11.body.bind (trC Tryd.prog Tryd.f11.ntmps)=some (er BFU):=by kernel_rfl
theorem BJh:trR Tryd.prog Tryd.f11.results.toList=some BFF:=by kernel_rfl
def BFf:=Btw BCs.eq_1
def BFt:=Btw BBU.eq_1
def BE5:=Btw BBF.eq_1
def BFh:=Btw BB9.eq_1
def BFs:=Btw BCq.eq_1
def BFz:=Btw BCj.eq_1
def BEZ:=Btw BCr.eq_1
def BE2:=Btw BBN.eq_1
def BFw:=Btw BBT.eq_1
def BEA:=Btw BA4.eq_1
def BEg:=Btw BAO.eq_1
def BEb:=Btw BA7.eq_1
def BEx:=Btw BAZ.eq_1
def BD8:=Btw BBd.eq_1
def BD6:=Btw BAY.eq_1
def BEr:=Btw BAN.eq_1
def BEc:=Btw BA8.eq_1
def BD2:=Btw BA2.eq_1
def BD9:=Btw BBf.eq_1
def BEP:=Btw BAU.eq_1
def BD4:=Btw BAX.eq_1
def BHg:=Btw BFU.eq_1
theorem BHb {K:TV→Prop} {e:Env} {H:List Ob}:res BFF e H K=res [.tmp 4,.tmp 5] e H K:=Btv rfl
def BtI:=(aI_ (aI_ (aI_ (aI_ (aI_ @BFf @BFt) (aI_ @BE5 @BFh)) (aI_ (aI_ @BFs @BFz) (aI_ @BEZ @BE2))) (aI_ (aI_ (aI_ @BFw @BEA) (aI_ @BEg @BEb)) (aI_ (aI_ @BEx @BD8) (aI_ @BD6 @BEr)))) (aI_ (aI_ (aI_ @BEc @BD2) (aI_ @BD9 @BEP)) (aI_ (aI_ @BD4 @BHg) @BHb)))
def BHW:=BBx 106 Tryd.func11 BJt BJh rfl
end
section
open Go.RowKit
variable [Bt6]
def BVZ (g:Nat×List UInt8×Bool) (x:TV):Prop:=∃ (n:Nat) (r:List UInt8) (ok:Bool),x = .tup [i64 n,slB r,tb ok]∧r.length≤1000000∧n<2 ^ 32∧(ok=true→g=(n,r,false))∧(ok=false→g.2.2=true)
theorem BGx:∀ (f w i n:Nat) (r:List UInt8),(nbG f w i n r true).2.2=true
 | 0,_,_,_,_=>rfl
 | f+1,w,i,n,r=>by
  rw [nbG]
  split
  ·cases r with
   | nil=>exact BGx f _ _ _ _
   | cons b r=>exact BGx f _ _ _ _
  ·exact BGx f _ _ _ _
theorem BIu:∀ (f w i n:Nat) (r:List UInt8) (bad:Bool),nbG f (w % 2 ^ f) i n r bad=nbG f w i n r bad
 | 0,_,_,_,_,_=>rfl
 | f+1,w,i,n,r,bad=>by
  have h1:w % 2 ^ (f+1) % 2=w % 2:=by rw [Nat.pow_succ,Nat.mul_comm,Nat.mod_mul_right_mod]
  have h2:w % 2 ^ (f+1) / 2=w / 2 % 2 ^ f:=by rw [Nat.pow_succ,Nat.mul_comm,Nat.mod_mul_right_div_self]
  rw [nbG,nbG,h1,h2,BIu f,BIu f]
theorem BEI:∀ (f w i n:Nat) (r:List UInt8) (bad:Bool),w<2 ^ f→nbG (f+1) w i n r bad=nbG f w i n r bad
 | 0,w,_,_,_,_,h=>by rw [show w=0 from by omega]; exact BII
 | f+1,w,i,n,r,bad,h=>by
  have h2:w / 2<2 ^ f:=by rw [Nat.pow_succ] at h; omega
  rw [nbG]
  conv=>rhs; rw [nbG]
  rw [BEI f (w / 2) _ _ _ _ h2,BEI f (w / 2) _ _ _ _ h2]
theorem BMS (b:List UInt8) (w0 lo hi:Nat) (hl:b.length≤1000000) (hw:w0<256) (hlo:lo≤hi) (hh:hi≤7) (hlh:hi<lo+4):ByW Tryd.prog 22 [slB b,i64 w0,i64 lo,i64 hi] (BVZ (nbG (hi+1 - lo) (w0 / 2 ^ lo) 0 0 b false)):=by
 refine BtJ.toPureV (BJB (by simp) ?_)
 simp -dsimp (disch:=first | assumption | omega) only [↓BtC,Bty,BtA,BtB,eq_self,Nat.reduceEqDiff,↓reduceIte,Nat.reduceAdd,reduceCtorEq,↓Bxq]
 refine Byl (fun m e H'=>∃ (k n:Nat) (r:List UInt8),m=hi+1 - k∧lo≤k∧k≤hi+1∧n<2 ^ (8*(k - lo))∧r.length≤1000000∧nbG (hi+1 - k) (w0 / 2 ^ k) (k - lo) n r false=nbG (hi+1 - lo) (w0 / 2 ^ lo) 0 0 b false∧e=[(0,slB r),(1,i64 w0),(2,i64 lo),(3,i64 hi),(11,i64 n),(12,i64 k)]∧H'=[]) (hi+1 - lo) ?_ ?_
 ·exact ⟨lo,0,b,rfl,by omega,by omega,by simp,hl,by rw [Nat.sub_self],rfl,rfl⟩
 ·rintro m e H' ⟨k,n,r,rfl,hk1,hk2,hn,hr,he,rfl,rfl⟩
  simp -dsimp (disch:=first | assumption | omega) only [↓BtC,Bty,BtA,BtB,eq_self,Nat.reduceEqDiff,↓reduceIte,reduceCtorEq,↓Bxq]
  refine Bt0 (fun hk => ?_) (fun hk => ?_)
  ·obtain ⟨f,hf⟩:∃ f,hi+1 - k=f+1:=⟨hi - k,by omega⟩
   have hd:w0 / 2 ^ (k+1)=w0 / 2 ^ k / 2:=by rw [Nat.pow_succ,Nat.div_div_eq_div_mul]
   have hx:2 ^ (8*(k - lo))≤2 ^ 24:=Nat.pow_le_pow_right (by omega) (by omega)
   have hp:2 ^ (8*(k+1 - lo))=256*2 ^ (8*(k - lo)):=by
    rw [show 8*(k+1 - lo)=8+8*(k - lo) from by omega,Nat.pow_add]
   rw [hf,nbG] at he
   simp -dsimp (disch:=first | assumption | omega) only [↓BtC,Bty,BtA,BtB,eq_self,Nat.reduceEqDiff,↓reduceIte,reduceCtorEq,↓Bxq]
   refine Bt0 (fun h0 => ?_) (fun h0 => ?_)
   ·simp -dsimp (disch:=first | assumption | omega) only [↓BtC,Bty,BtA,BtB,eq_self,Nat.reduceEqDiff,↓reduceIte,reduceCtorEq]
    rw [if_neg (by omega)] at he
    exact BtV (hi+1 - (k+1)) (by omega) (by simp) ⟨k+1,n,r,rfl,by omega,by omega,by omega,hr,by rw [show hi+1 - (k+1)=f from by omega,hd,show k+1 - lo=k - lo+1 from by omega]; exact he,rfl,rfl⟩
   ·rw [if_pos (by omega)] at he
    cases r with
    | nil =>
     simp -dsimp (disch:=first | assumption | omega) only [↓BtC,Bty,BtA,BtB,eq_self,Nat.reduceEqDiff,↓reduceIte,reduceCtorEq,↓Bxq]
     exact ⟨0,[],false,rfl,by simp,by omega,(fun h=>by cases h),fun _=>by rw [←he]; exact BGx _ _ _ _ _⟩
    | cons y r =>
     have hy:=y.toNat_lt
     have hm:y.toNat*2 ^ (8*(k - lo))≤255*2 ^ (8*(k - lo)):=Nat.mul_le_mul_right _ (by omega)
     have hor:=BHP (x:=y.toNat) hn
     simp only [rdB,hor] at he
     simp only [List.length_cons] at hr
     simp -dsimp (disch:=first | assumption | omega) only [↓BtC,Bty,BtA,BtB,eq_self,Nat.reduceEqDiff,↓reduceIte,reduceCtorEq,Nat.reduceLeDiff,↓Bxq]
     exact BtV (hi+1 - (k+1)) (by omega) (by simp) ⟨k+1,_,r,rfl,by omega,by omega,by omega,by omega,by rw [show hi+1 - (k+1)=f from by omega,hd,show k+1 - lo=k - lo+1 from by omega]; exact he,rfl,rfl⟩
  ·rw [show hi+1 - k=0 from by omega,nbG] at he
   simp -dsimp (disch:=first | assumption | omega) only [↓BtC,Bty,BtA,BtB,eq_self,Nat.reduceEqDiff,↓reduceIte,reduceCtorEq,↓Bxq]
   have hx:2 ^ (8*(k - lo))≤2 ^ 32:=Nat.pow_le_pow_right (by omega) (by omega)
   exact ⟨n,r,true,rfl,hr,by omega,fun _=>he.symm,fun h=>by cases h⟩
end
section
open Go.RowKit Go.Extern.Stop Go.Stop Go.Extern
variable [Bt6]
end
section
open Go.RowKit
variable [Bt6] [BwJ]
abbrev eno (n:Int):TV := .ifc 34 (i64 n)
theorem BWL:ByW Tryd.prog 12 [.val .nilIface] (fun x=>x=i64 0):=by
 refine BtJ.toPure (Bxy Tryd.func12 BMj BLI (by simp [Tryd.f12]) ?_)
 simp (disch:=omega) only [BHJ,BHz,↓Bx2,↓BxX,↓Bww,↓ByG,↓BCH,↓Bt2,↓Bu5,↓BHu,↓Bx0,↓BXI,↓BSg,↓BtR,↓Buw,BGo,BGi,BtO,BtM,BvZ,Bvm,Buw,BtR,BCD,BNJ,eq_self,Bu4,↓reduceIte,Nat.reduceEqDiff,List.nil_append,List.length_nil,Nat.zero_add,BJE,Bool.false_xor,reduceCtorEq,eq_self]
end
end Go.Proofs.YthlbcfmbldcngaaDoor
