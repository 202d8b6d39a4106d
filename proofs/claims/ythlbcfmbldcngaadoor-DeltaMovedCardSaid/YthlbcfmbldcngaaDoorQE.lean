/- What the proof of DeltaMovedCard stands on (texts merged; names shortened by a program): part 5. -/
import Derived.Test.YthlbcfmbldcngaaDoorQD
import Derived.ProofKit
import Derived.Lib.LaidTab
import Derived.LaidHandle
import Derived.OpenShut
import Derived.ShutString
import Derived.ChangeOld
import Derived.Below
import Derived.Carry
import Derived.SizedLaws
import Derived.Test.YthlbcfmbldcngaaDoorProg
import Derived.WalkKit
import Derived.Deep.QuietTactic
import Derived.BigQuiet
import Derived.Sort.Walk0
import Derived.Shelf.SlSortCmp.NoneTotal
import Derived.Ground.SlsfProg
import Derived.KernelRfl
import Derived.WalkSpells
import Derived.WalkLawsBesides
import Derived.Lib.Hide
import Derived.Deep.OwnRows
import Derived.Laws.CopyOwn
import Derived.Deep.RegionHeld3
import Derived.Deep.DrawnRows
import Derived.RowKitTokens
set_option linter.defProp false
set_option linter.unusedSectionVars false
set_option linter.unusedSimpArgs false
set_option linter.unusedVariables false
namespace Go.Proofs.YthlbcfmbldcngaaDoor
theorem aI_ {a b:Prop} (x:a) (y:b):a∧b:=⟨x,y⟩
section
open Go.RowKit
variable [A7]
set_option autoImplicit false
universe u
class Tg {α:Sort u} (a:α):Type where
instance tg {α:Sort u} (a:α):Tg a:={}
def vif (t:Bool) (A B:Prop) [Tg A] [Tg B]:Prop:=if t=true then A else B
def A8 {α:Type} (o:Option α) (K:α→Prop) [Tg K]:Prop:=match o with | some y=>K y | none=>False
def CZ (A K:Prop) [Tg K]:Prop:=A∧K
def AZ {α:Type} (x:α) (K:α→Prop) [Tg K]:Prop:=K x
def vex (K:TV→Prop) [Tg K]:Prop:=∃ x,K x
def VC (P:Program) (f:FuncId) (xs:List TV) (H:List Ob) (K:TV→List Ob→Prop) [Tg K]:Prop:=Au P f xs H K
def VY (P:Program) (id ver:Nat) (xs:List TV) (H:List Ob) (K:TV→List Ob→Prop) [Tg K]:Prop:=OH P id ver xs H K
theorem OD {P:Program} {f:FuncId} {xs:List TV} {H:List Ob} {K:TV→List Ob→Prop} (h:Au P f xs H K):VC P f xs H K:=h
section
variable {A A' B K:Prop} {α:Type}
@[congr] theorem AlA {t t':Bool} (h:t=t'):vif t A B=vif t' A B:=by rw [h]
@[congr] theorem AjM {o o':Option α} {K:α→Prop} (h:o=o'):A8 o K=A8 o' K:=by rw [h]
@[congr] theorem AjD (h:A=A'):CZ A K=CZ A' K:=by rw [h]
@[congr] theorem AjI {x x':α} {K:α→Prop} (h:x=x'):AZ x K=AZ x' K:=by rw [h]
@[congr] theorem AkL {P:Program} {c:Ad} {Q:VEx→Env→List Ob→Prop} {e e':Env} {H H':List Ob} (he:e=e') (hH:H=H'):vwp P c Q e H=vwp P c Q e' H':=by rw [he,hH]
@[congr] theorem AmD {P:Program} {f:FuncId} {xs xs':List TV} {H H':List Ob} {K:TV→List Ob→Prop} (he:xs=xs') (hH:H=H'):VC P f xs H K=VC P f xs' H' K:=by rw [he,hH]
@[congr] theorem AmB {P:Program} {id ver:Nat} {xs xs':List TV} {H H':List Ob} {K:TV→List Ob→Prop} (he:xs=xs') (hH:H=H'):VY P id ver xs H K=VY P id ver xs' H' K:=by rw [he,hH]
theorem Afy:vif true A B=A:=by simp [vif]
theorem AcO:vif false A B=B:=by simp [vif]
theorem Akg {p:Prop} [Decidable p] (h:p):vif (decide p) A B=A:=by simp [vif,h]
theorem AkG {p:Prop} [Decidable p] (h:¬ p):vif (decide p) A B=B:=by simp [vif,h]
theorem Ajg {t:Bool}:vif (!t) A B=vif t B A:=by cases t<;>simp [vif]
theorem Ee {p:Prop} [Decidable p] (h1:p→A) (h2:¬ p→B):vif (decide p) A B:=by by_cases h:p<;>simp [vif,h,h1,h2]
theorem AiY {s t:Bool}:vif (s && t) A B=vif s (vif t A B) B:=by cases s<;>simp [vif]
theorem Alu {s t:Bool}:vif (s || t) A B=vif s A (vif t A B):=by cases s<;>simp [vif]
theorem Ac3 {y:α} {K:α→Prop}:A8 (some y) K=K y:=rfl
theorem Ag4 {β:Type} {f:α→β} {o:Option α} {K:β→Prop}:A8 (o.map f) K=A8 o fun y=>K (f y):=by cases o<;>rfl
theorem Ajh {cs:List α} {i:Nat} {K:α→Prop} (h:i<cs.length):A8 cs[i]? K=K cs[i]:=by rw [List.getElem?_eq_getElem h]; rfl
theorem AbY (h:A):CZ A K=K:=by simp [CZ,h]
theorem AkM:CZ True K=K:=by simp [CZ]
theorem Afd:CZ (A∧B) K=CZ A (CZ B K):=by simp [CZ,and_assoc]
theorem Ahv {x:α} {K:α→Prop}:AZ x K=K x:=rfl
end
def Gh:Option Ob→Nat→Option TV
 | some (.obj v x),ver=>if v=ver then some x else none
 | _,_=>none
theorem Afa {v:Nat} {x:TV}:Gh (some (.obj v x)) v=some x:=by simp [Gh]
section
variable {H l:List Ob} {o:Ob} {n k:Nat}
theorem Ami (h:H.length=n):(H++l)[n]?=l[0]?:=by rw [List.getElem?_append_right (by omega),h,Nat.sub_self]
theorem AhR (h:H.length=n):(H++l)[n+k]?=l[k]?:=by rw [List.getElem?_append_right (by omega)]; congr 1; omega
theorem Ake (h:n<H.length):(H++l)[n]?=H[n]?:=List.getElem?_append_left h
theorem Alq (h:n<H.length):(H.set n o)[n]?=some o:=by simp [h]
theorem Acn {m:Nat} (h:m≠n):(H.set m o)[n]?=H[n]?:=by rw [List.getElem?_set_ne h]
theorem AiU (h:H.length=n):(H++l).set n o=H++l.set 0 o:=by rw [List.set_append_right _ _ (by omega),h,Nat.sub_self]
theorem Agb (h:H.length=n):(H++l).set (n+k) o=H++l.set k o:=by rw [List.set_append_right _ _ (by omega)]; congr 2; omega
theorem AhX (h:n<H.length):(H++l).set n o=H.set n o++l:=List.set_append_left _ _ h
end
section
variable {P:Program} {e:Env} {H:List Ob}
def Ad0 (c a b:TV) (K:TV→Prop) [Tg K]:Prop:=match c with | .val (.bool t)=>K (if t then a else b) | _=>False
def AmF (t:TypeId) (op:BinOp) (x y:TV) (K:TV→Prop) [Tg K]:Prop:=match x,y with
  | .val u,.val v=>Ad1 u v=true∧(match Ei t op u v with | some r=>K (.val r) | none=>False)
  | _,_=>False
def Pun (op:UnOp) (x:TV) (K:TV→Prop) [Tg K]:Prop:=match x with
  | .val u=>(match unV op u with | some r=>K (.val r) | none=>False)
  | _=>False
def AgX (k:IntKind) (x:TV) (K:TV→Prop) [Tg K]:Prop:=match x with
  | .val (.int _ n)=>K (.val (.int k (k.wrap n)))
  | _=>False
def Amq (x:TV) (K:TV→Prop) [Tg K]:Prop:=match x with
  | .val (.string s)=>K (.val (.string s))
  | _=>False
def Ams (x:Option (List TV)) (K:TV→Prop) [Tg K]:Prop:=match x with
  | some cs=>(∀ y∈cs,Abj y)∧K (.val (.string (str (cs.map TT))))
  | none=>False
def YN (H:List Ob) (ag:Bool) (sz:Nat) (x:TV) (K:TV→Prop) [Tg K]:Prop:=match x with
  | .fp y=>V7 ag sz y∧K y
  | .op id ver p=>(match H[id]? with
   | some (.obj v x)=>v=ver∧(match J5 p x with | some y=>V7 ag sz y∧K y | none=>False)
   | _=>False)
  | _=>False
def Tq (i off:Nat) (x:TV) (K:TV→Prop) [Tg K]:Prop:=match x with
  | .op id ver p=>K (.op id ver (p++[(i,off)]))
  | .fp (.agg cs)=>Bv (cs.take i)=off∧(match cs[i]? with | some y=>K (.fp y) | none=>False)
  | _=>False
def Yk (ag:Bool) (sz i off:Nat) (x:TV) (K:TV→Prop) [Tg K]:Prop:=match x with
  | .agg cs=>Bv (cs.take i)=off∧(match cs[i]? with | some y=>V7 ag sz y∧K y | none=>False)
  | _=>False
def AaK (k:Nat) (x i:TV) (K:TV→Prop) [Tg K]:Prop:=match x,i with
  | .sl k' cs,.val (.int _ j)=>k'=k∧0≤j∧(match cs[j.toNat]? with | some y=>K (.fp y) | none=>False)
  | .os k' id ver p off n cp,.val (.int _ j)=>k'=k∧0≤j∧j<n∧K (.op id ver (p++[(off+j.toNat,(off+j.toNat)*k)]))
  | _,_=>False
def Vy (n k:Nat) (x i:TV) (K:TV→Prop) [Tg K]:Prop:=match x,i with
  | .fp (.arr n' k' cs),.val (.int _ j)=>k'=k∧n'=n∧0≤j∧(match cs[j.toNat]? with | some y=>K (.fp y) | none=>False)
  | .op id ver p,.val (.int _ j)=>0≤j∧j<n∧K (.op id ver (p++[(j.toNat,j.toNat*k)]))
  | _,_=>False
def AkZ (ag:Bool) (n k:Nat) (x i:TV) (K:TV→Prop) [Tg K]:Prop:=match x,i with
  | .arr n' k' cs,.val (.int _ j)=>k'=k∧n'=n∧0≤j∧(match cs[j.toNat]? with | some y=>V7 ag k y∧K y | none=>False)
  | _,_=>False
def AdL (x i:TV) (K:TV→Prop) [Tg K]:Prop:=match x,i with
  | .val (.string s),.val (.int _ j)=>0≤j∧(match (bl s)[j.toNat]? with | some b=>K (by8 b) | none=>False)
  | _,_=>False
def Akn (i:Nat) (x:TV) (K:TV→Prop) [Tg K]:Prop:=match x with
  | .tup xs=>(match xs[i]? with | some y=>K y | none=>False)
  | _=>False
def AgT (x:TV) (K:TV→Prop) [Tg K]:Prop:=match x with
  | .val (.string s)=>K (.val (.int .i64 (bl s).length))
  | _=>False
def Aa4 (x:TV) (K:TV→Prop) [Tg K]:Prop:=match x with
  | .val (.slice _ n _)=>K (.val (.int .i64 n))
  | .sl _ cs=>K (.val (.int .i64 cs.length))
  | .os _ _ _ _ _ n _=>K (.val (.int .i64 n))
  | _=>False
def WX (lo hi:Option TV) (len lim:Nat) (K:Nat→Nat→Prop) [Tg K]:Prop :=
 match (match lo with | none=>some 0 | some x=>(match x with | .val (.int _ i)=>some i | _=>none)),(match hi with | none=>some (len:Int) | some x=>(match x with | .val (.int _ i)=>some i | _=>none)) with
 | some l,some h=>(0≤l∧l≤h∧h≤lim)∧K l.toNat h.toNat
 | _,_=>False
def evO (e:Env):Option Opd→Option TV
 | none=>none
 | some x=>some (x.ev e)
theorem Ad7:evO e none=none:=Aa rfl
theorem AgH {x:Opd}:evO e (some x)=some (x.ev e):=Aa rfl
theorem AdK {lo hi:Option Opd} {len lim:Nat} {K:Nat→Nat→Prop}:bnd e lo hi len lim K=WX (evO e lo) (evO e hi) len lim K:=by
 cases lo<;>cases hi<;>rfl
def AmC (x:TV) (lo hi:Option TV) (K:TV→Prop) [Tg K]:Prop:=match x with
  | .val (.string s)=>WX lo hi (bl s).length (bl s).length fun l h=>K (.val (.string (str (((bl s).drop l).take (h - l)))))
  | _=>False
def AjL (k:Nat) (x:TV) (lo hi:Option TV) (K:TV→Prop) [Tg K]:Prop:=match x with
  | .sl k' cs=>k'=k∧WX lo hi cs.length cs.length fun l h=>K (.sl k ((cs.drop l).take (h - l)))
  | .os k' id ver p off n cp=>k'=k∧WX lo hi n cp fun l h=>K (.os k id ver p (off+l) (h - l) (cp - l))
  | .val (.slice ad 0 0)=>WX lo hi 0 0 fun l h=>K (.val (.slice ad 0 0))
  | _=>False
def AjJ (H:List Ob) (n k:Nat) (x:TV) (lo hi:Option TV) (K:TV→Prop) [Tg K]:Prop:=match x with
  | .fp (.arr n' k' cs)=>k'=k∧n'=n∧n≤9223372036854775807∧WX lo hi n n fun l h=>K (.sl k ((cs.drop l).take (h - l)))
  | .op id ver p=>(match H[id]? with
   | some (.obj v x)=>v=ver∧n≤9223372036854775807∧(match J5 p x with | some (.arr n' k' cs)=>k'=k∧n'=n∧WX lo hi n n fun l h=>K (.os k id ver p l (h - l) (n - l)) | _=>False)
   | _=>False)
  | _=>False
def Zn (t:TypeId) (x:TV) (K:TV→Prop) [Tg K]:Prop:=lays x=true∧K (.ifc t x)
def Alh (f:Fn) (first caps:List TV) (K:TV→Prop) [Tg K]:Prop:=(∀ x∈first++caps,CE x=false)∧K (.fn f first caps)
def Xt (x:TV) (K:TV→Prop) [Tg K]:Prop:=match x with
  | .op id ver p=>K (.op id ver p)
  | .fp y=>K (.fp y)
  | .fn (.func f) a b=>K (.fn (.func f) a b)
  | .ifc t y=>K (.ifc t y)
  | .val (.func (.func f) a b)=>K (.val (.func (.func f) a b))
  | _=>False
def AmA (x y:TV) (K:TV→Prop) [Tg K]:Prop:=match x,y with
  | .val (.int k a),.val (.int _ b)=>K (.val (.int k (if b<a then b else a)))
  | _,_=>False
def Amv (x y:TV) (K:TV→Prop) [Tg K]:Prop:=match x,y with
  | .val (.int k a),.val (.int _ b)=>K (.val (.int k (if b > a then b else a)))
  | _,_=>False
def U0 (g:GOp) (H:List Ob) (xs:List TV) (K:TV→Prop) [Tg K]:Prop:=match gev g H xs with
  | some y=>K y
  | none=>False
def AlF (neg:Bool) (x y:TV) (K:TV→Prop) [Tg K]:Prop:=match x,y with
  | .val (.bool a),.val (.bool b)=>K (.val (.bool (xor neg (a == b))))
  | _,_=>False
def AkJ (neg:Bool) (x y:Option Bool) (K:TV→Prop) [Tg K]:Prop:=match x,y with
  | some true,some b=>K (.val (.bool (xor neg b)))
  | some false,some true=>K (.val (.bool (xor neg false)))
  | _,_=>False
def XX (H:List Ob) (sz:Nat) (x v:TV) (K:TV→List Ob→Prop) [Tg K]:Prop:=(lays v=true∧Aw v=sz)∧(match x with
  | .op id ver p=>(match H[id]? with
   | some (.obj vr y)=>vr=ver∧(match QO p y v with | some y'=>K .any (H.set id (.obj ver y')) | none=>False)
   | _=>False)
  | _=>False)
def Amo (H:List Ob) (k bytes:Nat) (z l c:TV) (K:TV→List Ob→Prop) [Tg K]:Prop:=match l,c with
  | .val (.int _ l),.val (.int _ c)=>(0≤l∧l≤c∧(bytes:Int)*c≤281474976710656∧c≤9223372036854775807)∧K (.os k H.length 0 [] 0 l.toNat c.toNat) (H++[.obj 0 (.arr c.toNat k (List.replicate c.toNat z))])
  | _,_=>False
def AfJ (k bytes:Nat) (et:TypeId) (x:TV) (y:Option (List TV)) (H:List Ob) (K:TV→List Ob→Prop) [Tg K]:Prop:=match y with
  | some ys=>Vl k bytes et x ys H K
  | none=>False
def Zi (k:Nat) (x:TV) (y:Option (List TV)) (H:List Ob) (K:TV→List Ob→Prop) [Tg K]:Prop:=match y with
  | some ys=>Qi k x ys H K
  | none=>False
def AgQ (et:TypeId) (x y:TV) (H:List Ob) (K:TV→List Ob→Prop) [Tg K]:Prop:=match y with
  | .val (.string s)=>Vl 1 1 et x ((bl s).map by8) H K
  | _=>False
def Zq (x y:TV) (H:List Ob) (K:TV→List Ob→Prop) [Tg K]:Prop:=match y with
  | .val (.string s)=>Qi 1 x ((bl s).map by8) H K
  | _=>False
def Agc (P:Program) (f:FuncId) (x:Option (Nat×Nat×List UInt8)) (H:List Ob) (K:TV→List Ob→Prop) [Tg K]:Prop:=Aos P f∧(match x with
  | some (j,v,l)=>l.length≤9223372036854775807∧K (.val (.string (str l))) (H.set j (.gone v))
  | none=>False)
def AmJ (H:List Ob) (x:TV) (K:TV→List Ob→Prop) [Tg K]:Prop:=match x with
  | .val (.string s)=>(bl s).length≤9223372036854775807∧K (.os 1 H.length 0 [] 0 (bl s).length (bl s).length) (H++[.obj 0 (.arr (bl s).length 1 ((bl s).map by8))])
  | _=>False
def AaA (k bytes:Nat) (et:TypeId) (z x n:TV) (H:List Ob) (K:TV→List Ob→Prop) [Tg K]:Prop:=match x,n with
  | .val (.slice none 0 0),.val (.int .i64 j)=>(0≤j∧(bytes:Int)*j≤140737488355328∧j≤9223372036854775807)∧K (.os k H.length 0 [] 0 j.toNat j.toNat) (H++[.obj 0 (.arr j.toNat k (List.replicate j.toNat z))])
  | .os k' id ver p off m cp,.val (.int .i64 j)=>(0≤j∧(bytes:Int)*j≤140737488355328∧j≤9223372036854775807)∧Vl k bytes et (.os k' id ver p off m cp) (List.replicate j.toNat z) H K
  | _,_=>False
def AaN (H:List Ob) (K:TV→List Ob→Prop) [Tg K]:Prop:=K (.val (.bool true)) H∧K (.val (.bool false)) H
def Ahd (neg:Bool) (x:TV) (H:List Ob) (K:TV→List Ob→Prop) [Tg K]:Prop:=match x with
  | .val (.slice a _ _)=>K (.val (.bool (xor neg a.isNone))) H
  | .sl _ cs=>(cs=[]→K (.val (.bool true)) H∧K (.val (.bool false)) H)∧(cs≠[]→K (.val (.bool neg)) H)
  | .os _ _ _ _ _ n _=>(n=0→K (.val (.bool true)) H∧K (.val (.bool false)) H)∧(n≠0→K (.val (.bool neg)) H)
  | _=>False
def VE (P:Program) (x:TV) (args:List TV) (H:List Ob) (K:TV→List Ob→Prop) [Tg K]:Prop:=match x with
  | .fn (.func f) first caps=>SK P f=true∧Au P f (first++args++caps) H K
  | .val (.func (.func f) xs ys)=>(xs.isEmpty && ys.isEmpty)=true∧SK P f=true∧Au P f args H K
  | .yl id ver=>OH P id ver args H K
  | _=>False
def Al6 (P:Program) (nm:String) (x:TV) (args:List TV) (H:List Ob) (K:TV→List Ob→Prop) [Tg K]:Prop:=AmK P nm H x fun f r=>Au P f (r::args) H K
def AjG (P:Program) (q:Option (FuncId×Option (Bool×Nat))) (r:TV) (args:List TV) (H:List Ob) (K:TV→List Ob→Prop) [Tg K]:Prop:=match q with
 | some (f,none)=>SK P f=true∧Au P f (r::args) H K
 | some (f,some (ag,sz))=>SK P f=true∧ldT H ag sz r fun y=>Au P f (y::args) H K
 | none=>False
def Gd (q:Option Bool) (b:Bool) (A B:Prop) [Tg A] [Tg B]:Prop:=match q with
 | some t=>if t=b then A else B
 | none=>B
def evs (e:Env) (xs:List Opd):List TV:=xs.map (·.ev e)
theorem AhO:evs e []=[]:=Aa rfl
theorem Aga {x:Opd} {xs:List Opd}:evs e (x::xs)=x.ev e::evs e xs:=Aa rfl
def Qb (xs:List TV):Prop:=∀ x∈xs,CE x=false
theorem Acy:Qb []=True:=by simp [Qb]
theorem Aa7 {x:TV} {xs:List TV}:Qb (x::xs)=(CE x=false∧Qb xs):=by simp [Qb]
theorem Nz {args:List Opd}:(∀ x∈args,CE (x.ev e)=false)=Qb (evs e args):=by simp [Qb,evs]
section
variable {c c' a a' b b' x x' y y':TV} {K:TV→Prop} {KK:TV→List Ob→Prop} {lo lo' hi hi':Option TV} {ox ox':Option (List TV)} {q q' q2 q2':Option Bool} {xs xs':List TV} {A B:Prop} {H':List Ob}
@[congr] theorem AnP (h1:c=c') (h2:a=a') (h3:b=b'):Ad0 c a b K=Ad0 c' a' b' K:=by rw [h1,h2,h3]
@[congr] theorem Ao4 {t:TypeId} {op:BinOp} (h1:x=x') (h2:y=y'):AmF t op x y K=AmF t op x' y' K:=by rw [h1,h2]
@[congr] theorem Apx {op:UnOp} (h1:x=x'):Pun op x K=Pun op x' K:=by rw [h1]
@[congr] theorem AoM {k:IntKind} (h1:x=x'):AgX k x K=AgX k x' K:=by rw [h1]
@[congr] theorem Apc (h1:x=x'):Amq x K=Amq x' K:=by rw [h1]
@[congr] theorem AoW (h1:ox=ox'):Ams ox K=Ams ox' K:=by rw [h1]
@[congr] theorem AnZ {ag:Bool} {sz:Nat} (h1:x=x') (h2:H=H'):YN H ag sz x K=YN H' ag sz x' K:=by rw [h1,h2]
@[congr] theorem Akk {i o:Nat} (h1:x=x'):Tq i o x K=Tq i o x' K:=by rw [h1]
@[congr] theorem Amx {ag:Bool} {sz i o:Nat} (h1:x=x'):Yk ag sz i o x K=Yk ag sz i o x' K:=by rw [h1]
@[congr] theorem Anx {k:Nat} (h1:x=x') (h2:y=y'):AaK k x y K=AaK k x' y' K:=by rw [h1,h2]
@[congr] theorem AmH {n k:Nat} (h1:x=x') (h2:y=y'):Vy n k x y K=Vy n k x' y' K:=by rw [h1,h2]
@[congr] theorem Ao3 {ag:Bool} {n k:Nat} (h1:x=x') (h2:y=y'):AkZ ag n k x y K=AkZ ag n k x' y' K:=by rw [h1,h2]
@[congr] theorem Aow (h1:x=x') (h2:y=y'):AdL x y K=AdL x' y' K:=by rw [h1,h2]
@[congr] theorem Ao0 {i:Nat} (h1:x=x'):Akn i x K=Akn i x' K:=by rw [h1]
@[congr] theorem AnN (h1:x=x'):AgT x K=AgT x' K:=by rw [h1]
@[congr] theorem Aop (h1:x=x'):Aa4 x K=Aa4 x' K:=by rw [h1]
@[congr] theorem Ao8 {n m:Nat} {K:Nat→Nat→Prop} {n' m':Nat} (h1:lo=lo') (h2:hi=hi') (h3:n=n') (h4:m=m'):WX lo hi n m K=WX lo' hi' n' m' K:=by rw [h1,h2,h3,h4]
@[congr] theorem AoQ (h1:x=x') (h2:lo=lo') (h3:hi=hi'):AmC x lo hi K=AmC x' lo' hi' K:=by rw [h1,h2,h3]
@[congr] theorem Apd {k:Nat} (h1:x=x') (h2:lo=lo') (h3:hi=hi'):AjL k x lo hi K=AjL k x' lo' hi' K:=by rw [h1,h2,h3]
@[congr] theorem Ao6 {n k:Nat} (h0:H=H') (h1:x=x') (h2:lo=lo') (h3:hi=hi'):AjJ H n k x lo hi K=AjJ H' n k x' lo' hi' K:=by rw [h0,h1,h2,h3]
@[congr] theorem Amm {t:TypeId} (h1:x=x'):Zn t x K=Zn t x' K:=by rw [h1]
@[congr] theorem Ao2 {f:Fn} {ys ys':List TV} (h1:xs=xs') (h2:ys=ys'):Alh f xs ys K=Alh f xs' ys' K:=by rw [h1,h2]
@[congr] theorem Anq (h1:x=x'):Xt x K=Xt x' K:=by rw [h1]
@[congr] theorem Apj (h1:x=x') (h2:y=y'):AmA x y K=AmA x' y' K:=by rw [h1,h2]
@[congr] theorem AoU (h1:x=x') (h2:y=y'):Amv x y K=Amv x' y' K:=by rw [h1,h2]
@[congr] theorem Aph {g:GOp} {xs xs':List TV} (h1:H=H') (h2:xs=xs'):U0 g H xs K=U0 g H' xs' K:=by rw [h1,h2]
@[congr] theorem Apg {n:Bool} (h1:x=x') (h2:y=y'):AlF n x y K=AlF n x' y' K:=by rw [h1,h2]
@[congr] theorem Ape {n:Bool} (h1:q=q') (h2:q2=q2'):AkJ n q q2 K=AkJ n q' q2' K:=by rw [h1,h2]
@[congr] theorem Aml {sz:Nat} (h0:H=H') (h1:x=x') (h2:y=y'):XX H sz x y KK=XX H' sz x' y' KK:=by rw [h0,h1,h2]
@[congr] theorem Apk {k n:Nat} {z:TV} (h0:H=H') (h1:x=x') (h2:y=y'):Amo H k n z x y KK=Amo H' k n z x' y' KK:=by rw [h0,h1,h2]
@[congr] theorem Api {k n:Nat} {et:TypeId} (h0:H=H') (h1:x=x') (h2:ox=ox'):AfJ k n et x ox H KK=AfJ k n et x' ox' H' KK:=by rw [h0,h1,h2]
@[congr] theorem AnK {k:Nat} (h0:H=H') (h1:x=x') (h2:ox=ox'):Zi k x ox H KK=Zi k x' ox' H' KK:=by rw [h0,h1,h2]
@[congr] theorem Aox {et:TypeId} (h0:H=H') (h1:x=x') (h2:y=y'):AgQ et x y H KK=AgQ et x' y' H' KK:=by rw [h0,h1,h2]
@[congr] theorem Amy (h0:H=H') (h1:x=x') (h2:y=y'):Zq x y H KK=Zq x' y' H' KK:=by rw [h0,h1,h2]
@[congr] theorem An6 {P:Program} {f:FuncId} {r r':Option (Nat×Nat×List UInt8)} (h0:H=H') (h1:r=r'):Agc P f r H KK=Agc P f r' H' KK:=by rw [h0,h1]
@[congr] theorem Anb {k n:Nat} {et:TypeId} {z:TV} (h0:H=H') (h1:x=x') (h2:y=y'):AaA k n et z x y H KK=AaA k n et z x' y' H' KK:=by rw [h0,h1,h2]
@[congr] theorem Apa {n:Bool} (h0:H=H') (h1:x=x'):Ahd n x H KK=Ahd n x' H' KK:=by rw [h0,h1]
@[congr] theorem An4 (h0:H=H'):AaN H KK=AaN H' KK:=by rw [h0]
@[congr] theorem AoS (h0:H=H') (h1:x=x'):AmJ H x KK=AmJ H' x' KK:=by rw [h0,h1]
@[congr] theorem Amt (h0:H=H') (h1:x=x') (h2:xs=xs'):VE P x xs H KK=VE P x' xs' H' KK:=by rw [h0,h1,h2]
@[congr] theorem Ao1 {P:Program} {nm:String} (h0:H=H') (h1:x=x') (h2:xs=xs'):Al6 P nm x xs H KK=Al6 P nm x' xs' H' KK:=by rw [h0,h1,h2]
@[congr] theorem Ao7 {P:Program} {g g':Option (FuncId×Option (Bool×Nat))} (h:g=g') (h0:H=H') (h1:x=x') (h2:xs=xs'):AjG P g x xs H KK=AjG P g' x' xs' H' KK:=by rw [h,h0,h1,h2]
@[congr] theorem ApJ {b:Bool} (h1:q=q'):Gd q b A B=Gd q' b A B:=by rw [h1]
end
section
variable {K:TV→Prop} {KK:TV→List Ob→Prop} {x y i a b c:Opd} {lo hi:Option Opd}
theorem AmU:pop (.mov x) e H K=AZ (x.ev e) K:=Aa rfl
theorem AjT:pop (.pick c a b) e H K=Ad0 (c.ev e) (a.ev e) (b.ev e) K:=Aa rfl
theorem Anh {t:TypeId} {op:BinOp}:pop (.bin t op x y) e H K=AmF t op (x.ev e) (y.ev e) K:=Aa rfl
theorem ApA {op:UnOp}:pop (.un op x) e H K=Pun op (x.ev e) K:=Aa rfl
theorem Aj6 {k:IntKind}:pop (.conv k x) e H K=AgX k (x.ev e) K:=Aa rfl
theorem Am3:pop (.s2s x) e H K=Amq (x.ev e) K:=Aa rfl
theorem AmQ:pop (.b2s x) e H K=Ams (BA H 1 (x.ev e)) K:=Aa rfl
theorem Alf {ag:Bool} {sz:Nat}:pop (.load ag sz x) e H K=YN H ag sz (x.ev e) K:=Aa rfl
theorem Afq {n o:Nat}:pop (.fieldA n o x) e H K=Tq n o (x.ev e) K:=Aa rfl
theorem Ajx {ag:Bool} {sz n o:Nat}:pop (.field ag sz n o x) e H K=Yk ag sz n o (x.ev e) K:=Aa rfl
theorem AkU {k:Nat}:pop (.idxA k x i) e H K=AaK k (x.ev e) (i.ev e) K:=Aa rfl
theorem Ajr {n k:Nat}:pop (.idxAA n k x i) e H K=Vy n k (x.ev e) (i.ev e) K:=Aa rfl
theorem AnB {ag:Bool} {n k:Nat}:pop (.idx ag n k x i) e H K=AkZ ag n k (x.ev e) (i.ev e) K:=Aa rfl
theorem AjS:pop (.idxS x i) e H K=AdL (x.ev e) (i.ev e) K:=Aa rfl
theorem AnS {n:Nat}:pop (.ext n x) e H K=Akn n (x.ev e) K:=Aa rfl
theorem Ak9:pop (.lenS x) e H K=AgT (x.ev e) K:=Aa rfl
theorem AlL:pop (.lenV x) e H K=Aa4 (x.ev e) K:=Aa rfl
theorem AoL:pop (.slS x lo hi) e H K=AmC (x.ev e) (evO e lo) (evO e hi) K:=by
 show (match x.ev e with | .val (.string s)=>bnd e lo hi (bl s).length (bl s).length fun l h=>K (.val (.string (str (((bl s).drop l).take (h - l))))) | _=>False)=_
 simp only [AdK]; rfl
theorem Aod {k:Nat}:pop (.slV k x lo hi) e H K=AjL k (x.ev e) (evO e lo) (evO e hi) K:=by
 rw [Ahp]; simp only [AdK]; rfl
theorem AoI {n k:Nat}:pop (.slA n k x lo hi) e H K=AjJ H n k (x.ev e) (evO e lo) (evO e hi) K:=by
 rw [Anf]; simp only [AdK]; rfl
theorem AiV {t:TypeId}:pop (.iface t x) e H K=Zn t (x.ev e) K:=Aa rfl
theorem AnX {f:Fn} {xs ys:List Opd}:pop (.mkf f xs ys) e H K=Alh f (evs e xs) (evs e ys) K:=by
 rw [Am8]; unfold Alh evs; rw [←List.map_append]
 refine congrArg (· ∧ _) (propext ⟨fun h y hy => ?_,fun h y hy=>h _ (List.mem_map.2 ⟨y,hy,rfl⟩)⟩)
 obtain ⟨z,hz,rfl⟩:=List.mem_map.1 hy; exact h z hz
theorem Akp:pop (.nilc x) e H K=Xt (x.ev e) K:=Aa rfl
theorem Am4:pop (.min x y) e H K=AmA (x.ev e) (y.ev e) K:=Aa rfl
theorem AmL:pop (.max x y) e H K=Amv (x.ev e) (y.ev e) K:=Aa rfl
theorem AoG {g:GOp} {xs:List Opd}:pop (.gen g xs) e H K=U0 g H (evs e xs) K:=Aa rfl
theorem Aoa {n:Bool}:pop (.eqB x y n) e H K=AlF n (x.ev e) (y.ev e) K:=Aa rfl
theorem AnH {kd:Nat} {n:Bool}:pop (.eqN kd x y n) e H K=AkJ n (Dc kd (x.ev e)) (Dc kd (y.ev e)) K:=Aa rfl
theorem Ajy {zs:List TV} {szs:List Nat} {ps:List (Nat×Opd)}:pop (.build zs szs ps) e H K=CZ (DD e szs ps) (AZ (TV.agg (EE e zs ps)) K):=Aa rfl
theorem Ae8 {n k:Nat} {zs:List TV} {ps:List (Nat×Opd)}:pop (.buildA n k zs ps) e H K=CZ (DD e (List.replicate n k) ps) (CZ (Bg e ps) (AZ (TV.arr n k (EE e zs ps)) K)):=Aa rfl
theorem AnQ {k n:Nat} {z:TV} {ps:List (Nat×Opd)}:pop (.bsl k n z ps) e H K=CZ (DD e (List.replicate n k) ps) (CZ (Bg e ps∧n≤1000) (AZ (TV.sl k (EE e (List.replicate n z) ps)) K)):=by
 show ((_∧_∧_)∧_)=_
 simp only [CZ,AZ,and_assoc]
theorem AhM {z:TV}:sop P (.alloc z) e H KK=AZ (H.length) fun n=>AZ (H++[.obj 0 z]) fun H'=>KK (.op n 0 []) H':=Aa rfl
theorem Aet {z:TV} {t:TypeId}:sop P (.allocT z t) e H KK=AZ (H.length) fun n=>AZ (Aw z) fun m=>AZ (H++[.obj 0 z,.fact n 0 t m]) fun H'=>KK (.op n 0 []) H':=Aa rfl
theorem AlC {t:TypeId}:sop P (.boxT x t) e H KK=AZ (x.ev e) fun v=>CZ (lays v=true) (AZ (H.length) fun n=>AZ (Aw v) fun m=>AZ (H++[.obj 0 v,.fact n 0 t m]) fun H'=>KK (.op n 0 []) H'):=Aa rfl
theorem Akq {f:FuncId}:sop P (.bstr f x) e H KK=Agc P f (AaH H (x.ev e)) H KK:=Aa rfl
def AfP (x:TV) (H:List Ob) (K:TV→List Ob→Prop) [Tg K]:Prop:=match x with
 | .val (.string s)=>K (.op H.length 0 []) (H++[.sit (bl s) 0])
 | _=>False
@[congr] theorem AnF {x x':TV} {H':List Ob} (h1:x=x') (h2:H=H'):AfP x H KK=AfP x' H' KK:=by rw [h1,h2]
theorem AkV:sop P (.rngS x) e H KK=AfP (x.ev e) H KK:=Aa rfl
theorem Aer {s:ByteArray}:AfP (.val (.string s)) H KK=AZ H.length fun n=>AZ (H++[.sit (bl s) 0]) fun H'=>KK (.op n 0 []) H':=Aa rfl
def AbX:Option Ob→Option (List UInt8×Nat)
 | some (.sit s pos)=>some (s,pos)
 | _=>none
theorem Aec {s:List UInt8} {pos:Nat}:AbX (some (.sit s pos))=some (s,pos):=Aa rfl
def AdZ (x:TV) (H:List Ob) (K:TV→List Ob→Prop) [Tg K]:Prop:=match x with
 | .op id 0 []=>(match H[id]? with
  | some (.sit s pos)=>if pos<s.length then K (.tup [.val (.bool true),.val (.int .i64 (pos:Int)),.val (.int .i32 ((Utf8.decode (str s) pos).1:Int))]) (H.set id (.sit s (pos+(Utf8.decode (str s) pos).2))) else K (.tup [.val (.bool false)]) H
  | _=>False)
 | _=>False
@[congr] theorem AnE {x x':TV} {H':List Ob} (h1:x=x') (h2:H=H'):AdZ x H KK=AdZ x' H' KK:=by rw [h1,h2]
theorem Ak7:sop P (.nxtS x) e H KK=AdZ (x.ev e) H KK:=Aa rfl
theorem AgN {id:Nat}:AdZ (.op id 0 []) H KK=A8 (AbX H[id]?) fun p=>vif (decide (p.2<p.1.length))
  (AZ (H.set id (.sit p.1 (p.2+(Utf8.decode (str p.1) p.2).2))) fun H'=>KK (.tup [.val (.bool true),.val (.int .i64 (p.2:Int)),.val (.int .i32 ((Utf8.decode (str p.1) p.2).1:Int))]) H') (KK (.tup [.val (.bool false)]) H):=by
 unfold AdZ
 cases h:H[id]? with
 | none=>simp [AbX,A8,h]
 | some o =>
  cases o with
  | sit s pos=>simp only [h,AbX,A8,AZ]; by_cases hp:pos<s.length<;>simp [vif,hp]
  | _=>simp [AbX,A8,h]
theorem Aou:sop P (.box x) e H KK=AZ (x.ev e) fun v=>CZ (lays v=true) (AZ (H.length) fun n=>AZ (H++[.obj 0 v]) fun H'=>KK (.op n 0 []) H'):=Aa rfl
theorem Aeo {k n:Nat} {z:TV} {ps:List (Nat×Opd)}:sop P (.bslice k n z ps) e H KK=CZ (DD e (List.replicate n k) ps) (CZ (Bg e ps∧n≤1000) (AZ H.length fun m=>AZ (H++[.obj 0 (.arr n k (EE e (List.replicate n z) ps))]) fun H'=>KK (.os k m 0 [] 0 n n) H')):=by
 rw [Agy]; simp only [CZ,AZ,and_assoc]
def Un (kk:MK):Option Ob→Option (List (List UInt8×TV))
 | some (.mpo kk' es)=>if kk'=kk then some es else none
 | _=>none
def U6 (kk:MK):Option Ob→Option (List (List UInt8×TV))
 | some (.mpo kk' es)=>if kk'=kk then some es else none
 | some (.mpd kk' zs _)=>if kk'=kk then some (zs.map (·.2)) else none
 | _=>none
theorem Agv {kk:MK} {es:List (List UInt8×TV)}:U6 kk (some (.mpo kk es))=some es:=by simp [U6]
theorem Ajv {kk:MK} {zs:List (Nat×List UInt8×TV)} {cl:Nat}:U6 kk (some (.mpd kk zs cl))=some (zs.map (·.2)):=by simp [U6]
def Y0:Option Ob→Option (List (List UInt8×TV))
 | some (.mpo _ es)=>some es
 | some (.mpd _ zs _)=>some (zs.map (·.2))
 | _=>none
theorem Agz {kk:MK} {es:List (List UInt8×TV)}:Y0 (some (.mpo kk es))=some es:=by simp [Y0]
theorem Aju {kk:MK} {zs:List (Nat×List UInt8×TV)} {cl:Nat}:Y0 (some (.mpd kk zs cl))=some (zs.map (·.2)):=by simp [Y0]
theorem Ahs {kk:MK} {es:List (List UInt8×TV)}:stO (some (.mpo kk es))=some (kk,Ub 0 es,es.length):=Aa rfl
theorem Aho {kk:MK} {zs:List (Nat×List UInt8×TV)} {cl:Nat}:stO (some (.mpd kk zs cl))=some (kk,zs,cl):=Aa rfl
def AdS (x:TV) (H:List Ob) (K:TV→List Ob→Prop) [Tg K]:Prop:=match x with
 | .mp id 0=>(match stO H[id]? with
  | some (_,_,cl)=>K (.op H.length 0 []) (H++[.mit id [] cl])
  | none=>False)
 | _=>False
@[congr] theorem AnU {x x':TV} {H':List Ob} (h1:x=x') (h2:H=H'):AdS x H KK=AdS x' H' KK:=by rw [h1,h2]
theorem Akw:sop P (.rngM x) e H KK=AdS (x.ev e) H KK:=Aa rfl
theorem Ags {id:Nat}:AdS (.mp id 0) H KK=A8 (stO H[id]?) fun p=>AZ H.length fun n=>AZ (H++[.mit id [] p.2.2]) fun H'=>KK (.op n 0 []) H':=by
 unfold AdS
 cases h:stO H[id]? with
 | none=>simp [A8,h]
 | some o=>obtain ⟨a,b,c⟩:=o; simp [A8,AZ,h]
def WE:Option Ob→Option (Nat×List Nat×Nat)
 | some (.mit m sn cl)=>some (m,sn,cl)
 | _=>none
theorem AfK {m cl:Nat} {sn:List Nat}:WE (some (.mit m sn cl))=some (m,sn,cl):=Aa rfl
def AcE (x:TV) (H:List Ob) (K:TV→List Ob→Prop) [Tg K]:Prop:=match x with
 | .op id 0 []=>(match H[id]? with
  | some (.mit m sn cl)=>(match stO H[m]? with
   | some (kk,zs,cl')=>(cl'=cl∧∀ z∈zs,z.1<cl)∧(∀ z∈zs,z.1∉sn→K (.tup [.val (.bool true),kTV kk z.2.1,z.2.2]) (H.set id (.mit m (sn++[z.1]) cl)))∧((∀ z∈zs,z.1∈sn)→K (.tup [.val (.bool false)]) H)
   | none=>False)
  | _=>False)
 | _=>False
@[congr] theorem Ano {x x':TV} {H':List Ob} (h1:x=x') (h2:H=H'):AcE x H KK=AcE x' H' KK:=by rw [h1,h2]
theorem AlZ:sop P (.nxtM x) e H KK=AcE (x.ev e) H KK:=Aa rfl
def Amk (id m:Nat) (sn:List Nat) (cl:Nat) (kk:MK) (zs:List (Nat×List UInt8×TV)) (cl':Nat) (H:List Ob) (K:TV→List Ob→Prop) [Tg K]:Prop :=
 (cl'=cl∧∀ z∈zs,z.1<cl)∧(∀ z∈zs,z.1∉sn→K (.tup [.val (.bool true),kTV kk z.2.1,z.2.2]) (H.set id (.mit m (sn++[z.1]) cl)))∧((∀ z∈zs,z.1∈sn)→K (.tup [.val (.bool false)]) H)
@[congr] theorem AoV {id m:Nat} {sn sn':List Nat} {cl c2:Nat} {kk:MK} {zs zs':List (Nat×List UInt8×TV)} {cl' c2':Nat} {H':List Ob} (h1:sn=sn') (h2:cl=c2) (h3:zs=zs') (h4:cl'=c2') (h5:H=H'):Amk id m sn cl kk zs cl' H KK=Amk id m sn' c2 kk zs' c2' H' KK:=by rw [h1,h2,h3,h4,h5]
theorem Aek {id:Nat}:AcE (.op id 0 []) H KK=A8 (WE H[id]?) fun p=>A8 (stO H[p.1]?) fun q=>Amk id p.1 p.2.1 p.2.2 q.1 q.2.1 q.2.2 H KK:=by
 unfold AcE
 cases h:H[id]? with
 | none=>simp [WE,A8,h]
 | some o =>
  cases o with
  | mit m sn cl =>
   simp only [h,WE,A8]
   cases h2:stO H[m]? with
   | none=>simp
   | some q=>obtain ⟨a,b,c⟩:=q; simp only [Amk]
  | _=>simp [WE,A8,h]
def Al9 (p:Nat×List Nat×Nat) (q:MK×List (Nat×List UInt8×TV)×Nat):Option TV:=match p.2.1.getLast? with
 | some s=>if q.2.2=p.2.2 then (match q.2.1.find? (·.1 == s) with
  | some z=>some (.tup [kTV q.1 z.2.1,z.2.2])
  | none=>none) else none
 | none=>none
def AjC (kk:MK) (o:Option Ob):Option (List (Nat×List UInt8×TV)×Nat):=match stO o with
 | some (kk',zs,cl)=>if kk'=kk then some (zs,cl) else none
 | none=>none
theorem AgS {kk:MK} {es:List (List UInt8×TV)}:AjC kk (some (.mpo kk es))=some (Ub 0 es,es.length):=by simp [AjC,stO]
theorem Afw {kk:MK} {zs:List (Nat×List UInt8×TV)} {cl:Nat}:AjC kk (some (.mpd kk zs cl))=some (zs,cl):=by simp [AjC,stO]
def AcW (kk:MK) (m k:TV) (H:List Ob) (K:TV→List Ob→Prop) [Tg K]:Prop:=match m,Bq kk k with
 | .mp id 0,some kb=>(match stO H[id]? with
  | some (kk',zs,cl)=>kk'=kk∧K .any (H.set id (.mpd kk (zs.eraseIdx (U9 kb (zs.map (·.2)))) cl))
  | none=>False)
 | _,_=>False
@[congr] theorem Ann {kk:MK} {H':List Ob} {m m' k k':TV} (h1:m=m') (h2:k=k') (h4:H=H'):AcW kk m k H KK=AcW kk m' k' H' KK:=by rw [h1,h2,h4]
theorem Aku {kk:MK} {m k:Opd}:sop P (.delM kk m k) e H KK=AcW kk (m.ev e) (k.ev e) H KK:=Aa rfl
theorem Aef {kk:MK} {id:Nat} {kx:TV}:AcW kk (.mp id 0) kx H KK=A8 (AjC kk H[id]?) fun p=>A8 (Bq kk kx) fun kb=>AZ (p.1.eraseIdx (U9 kb (p.1.map (·.2)))) fun zs=>AZ (H.set id (.mpd kk zs p.2)) fun H'=>KK .any H':=by
 unfold AcW AjC
 cases h:stO H[id]? with
 | none=>cases Bq kk kx<;>simp [h,A8]
 | some q =>
  obtain ⟨kk',zs,cl⟩:=q
  by_cases hk:kk'=kk
  ·subst hk; cases Bq kk' kx<;>simp [h,A8,AZ]
  ·cases Bq kk kx<;>simp [h,A8,hk]
def AmG (H:List Ob) (x:TV) (K:TV→List Ob→Prop) [Tg K]:Prop:=match x with
 | .os k id ver [] off n cp=>n≠0∧obV H[id]?=some ver∧K (.os k id ver [] off n cp) H
 | _=>False
@[congr] theorem AoR {H':List Ob} {x x':TV} (h0:H=H') (h1:x=x'):AmG H x KK=AmG H' x' KK:=by rw [h0,h1]
theorem Aol {x:Opd}:sop P (.cvS x) e H KK=AmG H (x.ev e) KK:=Aa rfl
theorem AiB {k id ver off n cp:Nat}:AmG H (.os k id ver [] off n cp) KK=CZ (n≠0) (CZ (obV H[id]?=some ver) (KK (.os k id ver [] off n cp) H)):=Aa rfl
theorem Al4 {v:Nat} {y:TV}:obV (some (.obj v y))=some v:=Aa rfl
def AcB (k:Nat) (z x:TV) (H:List Ob) (K:TV→List Ob→Prop) [Tg K]:Prop:=match x with
 | .os k' id ver p off n cp=>Qi k (.os k' id ver p off n cp) (List.replicate n z) H fun _ H'=>K .any H'
 | .val (.slice none 0 0)=>K .any H
 | _=>False
@[congr] theorem Aob {k:Nat} {z x x':TV} {H':List Ob} (h1:x=x') (h2:H=H'):AcB k z x H KK=AcB k z x' H' KK:=by rw [h1,h2]
theorem Al7 {k:Nat} {z:TV}:sop P (.clrS k z x) e H KK=AcB k z (x.ev e) H KK:=Aa rfl
theorem Ab8 {k:Nat} {z:TV}:AcB k z (.val (.slice none 0 0)) H KK=KK .any H:=Aa rfl
theorem Ae2 {k id ver off n cp:Nat} {p:List (Nat×Nat)} {z:TV}:AcB k z (.os k id ver p off n cp) H KK=AZ (List.replicate n z) fun ys=>Zi k (.os k id ver p off n cp) (some ys) H fun _ H'=>KK .any H':=Aa rfl
theorem Ad2 {kk:MK} {es:List (List UInt8×TV)}:Un kk (some (.mpo kk es))=some es:=by simp [Un]
theorem Aky {l:List UInt8}:Bq .str (.val (.string (str l)))=some l:=by simp [Bq,bl,str]
theorem Akm {n:Nat} {l:List UInt8}:Bq (.arr n) (.arr n 1 (l.map by8))=some l:=by
 unfold Bq; simp only [Ri,PH,and_self,if_true]
theorem Aid {z:TV} {r:Option TV}:Ul z false r=r.getD z:=by simp [Ul]
theorem Ai7 {z:TV} {r:Option TV}:Ul z true r = .tup [r.getD z,.val (.bool r.isSome)]:=by simp [Ul]
def AjK (x:TV) (A:Prop) [Tg A]:Prop:=match x with
 | .val (.int _ _)=>A
 | _=>False
@[congr] theorem AoT {x x':TV} {A:Prop} (h:x=x'):AjK x A=AjK x' A:=by rw [h]
theorem AhE {q:IntKind} {n:Int} {A:Prop}:AjK (.val (.int q n)) A=A:=by simp [AjK]
theorem AkQ {kk:MK}:sop P (.mkm kk none) e H KK=AZ H.length fun n=>AZ (H++[.mpo kk []]) fun H'=>KK (.mp n 0) H':=by simp [sop,AZ]
theorem Alj {kk:MK}:sop P (.mkm kk (some x)) e H KK=AjK (x.ev e) (AZ H.length fun n=>AZ (H++[.mpo kk []]) fun H'=>KK (.mp n 0) H'):=by
 simp only [sop,AZ,AjK]
 cases x.ev e with
 | val v=>cases v<;>simp
 | _=>simp
def AcX (kk:MK) (m k v:TV) (H:List Ob) (K:TV→List Ob→Prop) [Tg K]:Prop:=match m,Bq kk k with
 | .mp id 0,some kb=>(match H[id]? with
  | some (.mpo kk' es)=>(kk'=kk∧lays v=true)∧K .any (H.set id (.mpo kk (UW kb v es)))
  | _=>False)
 | _,_=>False
@[congr] theorem Aom {kk:MK} {H':List Ob} {m m' k k' v v':TV} (h1:m=m') (h2:k=k') (h3:v=v') (h4:H=H'):AcX kk m k v H KK=AcX kk m' k' v' H' KK:=by rw [h1,h2,h3,h4]
theorem Ak1 {kk:MK} {m k:Opd}:sop P (.mupd kk m k x) e H KK=AcX kk (m.ev e) (k.ev e) (x.ev e) H KK:=Aa rfl
def AbP (kk:MK) (z m k:TV) (H:List Ob) (K:TV→List Ob→Prop) [Tg K]:Prop:=match m,Bq kk k with
 | .mp id 0,some kb=>(match H[id]? with
  | some (.mpo kk' es)=>kk'=kk∧K (.tup [(OB kb es).getD z,.val (.int .i64 (U9 kb es))]) (H.set id (.mpo kk (UW kb ((OB kb es).getD z) es)))
  | _=>False)
 | _,_=>False
@[congr] theorem AnL {kk:MK} {H':List Ob} {z m m' k k':TV} (h1:m=m') (h2:k=k') (h4:H=H'):AbP kk z m k H KK=AbP kk z m' k' H' KK:=by rw [h1,h2,h4]
theorem Ak8 {kk:MK} {z:TV} {m k:Opd}:sop P (.ment kk z m k) e H KK=AbP kk z (m.ev e) (k.ev e) H KK:=Aa rfl
def Adc (m st v:TV) (H:List Ob) (K:TV→List Ob→Prop) [Tg K]:Prop:=match m,st with
 | .mp id 0,.val (.int _ j)=>(match H[id]? with
  | some (.mpo kk es)=>(0≤j∧lays v=true)∧(match es[j.toNat]? with
   | some (k,_)=>K .any (H.set id (.mpo kk (es.set j.toNat (k,v))))
   | none=>False)
  | _=>False)
 | _,_=>False
@[congr] theorem Ane {H':List Ob} {m m' st st' v v':TV} (h1:m=m') (h2:st=st') (h3:v=v') (h4:H=H'):Adc m st v H KK=Adc m' st' v' H' KK:=by rw [h1,h2,h3,h4]
theorem Aj7 {m st:Opd}:sop P (.mest m st x) e H KK=Adc (m.ev e) (st.ev e) (x.ev e) H KK:=Aa rfl
theorem AiX {sz:Nat}:sop P (.store sz x y) e H KK=XX H sz (x.ev e) (y.ev e) KK:=Aa rfl
theorem An0 {k n:Nat} {z:TV}:sop P (.mks k n z x y) e H KK=Amo H k n z (x.ev e) (y.ev e) KK:=Aa rfl
theorem Aoe {k n:Nat} {et:TypeId}:sop P (.app k n et x y) e H KK=AfJ k n et (x.ev e) (BA H k (y.ev e)) H KK:=Aa rfl
theorem Aj4 {et:TypeId}:sop P (.appS et x y) e H KK=AgQ et (x.ev e) (y.ev e) H KK:=Aa rfl
theorem Ali {k:Nat}:sop P (.copy k x y) e H KK=Zi k (x.ev e) (BA H k (y.ev e)) H KK:=Aa rfl
theorem AhF:sop P (.copyS x y) e H KK=Zq (x.ev e) (y.ev e) H KK:=Aa rfl
theorem Amd {k n:Nat} {et:TypeId} {z:TV}:sop P (.appZ k n et z x y) e H KK=AaA k n et z (x.ev e) (y.ev e) H KK:=Aa rfl
theorem Am5 {n:Bool}:sop P (.eqS x n) e H KK=Ahd n (x.ev e) H KK:=Aa rfl
theorem An2:sop P (.s2b x) e H KK=AmJ H (x.ev e) KK:=Aa rfl
theorem Alg {f:FuncId} {args:List Opd}:sop P (.call f args) e H KK=AZ (evs e args) fun xs=>CZ (Qb xs) (VC P f xs H KK):=by
 rw [XY,Nz]; rfl
theorem Anv {nm:String} {args:List Opd}:sop P (.inv x nm args) e H KK=AZ (evs e args) fun xs=>CZ (Qb xs) (Al6 P nm (x.ev e) xs H KK):=by
 show ((∀ y∈args,CE (y.ev e)=false)∧_)=_
 rw [Nz]; rfl
theorem Aje {args:List Opd}:sop P (.callv x args) e H KK=AZ (evs e args) fun xs=>CZ (Qb xs) (VE P (x.ev e) xs H KK):=by
 rw [AiT,Nz]; rfl
end
section
variable {K:TV→Prop} {KK:TV→List Ob→Prop} {x y:TV} {cs ys:List TV} {n n' k k':Nat} {id ver off cp:Nat} {p:List (Nat×Nat)} {j:Int} {q:IntKind} {lo hi:Option TV}
theorem Agp {t:Bool}:Ad0 (.val (.bool t)) x y K=vif t (K x) (K y):=by cases t<;>simp [Ad0,vif]
theorem Ajs {t:TypeId} {op:BinOp} {u v:Value}:AmF t op (.val u) (.val v) K=CZ (Ad1 u v=true) (A8 (Ei t op u v) fun r=>AZ (TV.val r) K):=by
 show (_∧_)=_; cases Ei t op u v<;>rfl
theorem AkE {op:UnOp} {u:Value}:Pun op (.val u) K=A8 (unV op u) fun r=>AZ (TV.val r) K:=by
 unfold Pun; simp only; cases unV op u<;>rfl
theorem Agf {k:IntKind}:AgX k (.val (.int q j)) K=AZ (TV.val (.int k (k.wrap j))) K:=Aa rfl
theorem AiO {s:ByteArray}:Amq (.val (.string s)) K=K (.val (.string s)):=Aa rfl
theorem Ajq:Ams (some cs) K=CZ (∀ y∈cs,Abj y) (AZ (TV.val (.string (str (cs.map TT)))) K):=Aa rfl
theorem Agu {ag:Bool} {sz:Nat}:YN H ag sz (.fp y) K=CZ (V7 ag sz y) (K y):=Aa rfl
theorem Ad5 {ag:Bool} {sz:Nat}:YN H ag sz (.op id ver p) K=A8 (Gh H[id]? ver) fun x=>A8 (J5 p x) fun y=>CZ (V7 ag sz y) (K y):=by
 unfold YN
 simp only
 cases h:H[id]? with
 | none=>simp [Gh,A8]
 | some o =>
  cases o with
  | gone v=>simp [Gh,A8]
  | ice v m y=>simp [Gh,A8]
  | fact i v t m=>simp [Gh,A8]
  | bld v t l=>simp [Gh,A8]
  | lp st pe fn N en ps ca cb=>simp [Gh,A8]
  | mpo kk es=>simp [Gh,A8]
  | mpd kk zs cl=>simp [Gh,A8]
  | mit m sn cl=>simp [Gh,A8]
  | sit s pos=>simp [Gh,A8]
  | obj v x =>
   by_cases hv:v=ver
   ·subst hv; simp only [Gh,A8,CZ,if_true,true_and]; cases J5 p x<;>rfl
   ·simp [Gh,A8,hv]
theorem Aat {i o:Nat}:Tq i o (.op id ver p) K=AZ (p++[(i,o)]) fun p=>K (.op id ver p):=Aa rfl
theorem AaJ {i o:Nat}:Tq i o (.fp (.agg cs)) K=CZ (Bv (cs.take i)=o) (A8 cs[i]? fun y=>K (.fp y)):=by
 unfold Tq; simp only; cases cs[i]?<;>rfl
theorem AbT {ag:Bool} {sz i o:Nat}:Yk ag sz i o (.agg cs) K=CZ (Bv (cs.take i)=o) (A8 cs[i]? fun y=>CZ (V7 ag sz y) (K y)):=by
 unfold Yk; simp only; cases cs[i]?<;>rfl
theorem Aed:AaK k (.sl k cs) (.val (.int q j)) K=CZ (0≤j) (A8 cs[j.toNat]? fun y=>K (.fp y)):=by
 unfold AaK; simp only [true_and]; cases cs[j.toNat]?<;>rfl
theorem AeN:AaK k (.os k id ver p off n cp) (.val (.int q j)) K=CZ (0≤j∧j<n) (AZ (off+j.toNat) fun m=>AZ (p++[(m,m*k)]) fun p=>K (.op id ver p)):=by
 show (k=k∧_)=_; simp [CZ,AZ,and_assoc]
theorem AcV:Vy n k (.fp (.arr n k cs)) (.val (.int q j)) K=CZ (0≤j) (A8 cs[j.toNat]? fun y=>K (.fp y)):=by
 unfold Vy; simp only [true_and]; cases cs[j.toNat]?<;>rfl
theorem AdB:Vy n k (.op id ver p) (.val (.int q j)) K=CZ (0≤j∧j<n) (AZ j.toNat fun m=>AZ (p++[(m,m*k)]) fun p=>K (.op id ver p)):=by
 show (_∧_)=_; simp [CZ,AZ,and_assoc]
theorem AhU {ag:Bool}:AkZ ag n k (.arr n k cs) (.val (.int q j)) K=CZ (0≤j) (A8 cs[j.toNat]? fun y=>CZ (V7 ag k y) (K y)):=by
 unfold AkZ; simp only [true_and]; cases cs[j.toNat]?<;>rfl
theorem Ae3 {s:ByteArray}:AdL (.val (.string s)) (.val (.int q j)) K=CZ (0≤j) (A8 (bl s)[j.toNat]? fun b=>K (by8 b)):=by
 unfold AdL; simp only; cases (bl s)[j.toNat]?<;>rfl
theorem Ajm {i:Nat}:Akn i (.tup cs) K=A8 cs[i]? K:=by
 unfold Akn; simp only; cases cs[i]?<;>rfl
theorem Afu {s:ByteArray}:AgT (.val (.string s)) K=AZ (TV.val (.int .i64 (bl s).length)) K:=Aa rfl
theorem Ad9:Aa4 (.sl k cs) K=AZ (TV.val (.int .i64 cs.length)) K:=Aa rfl
theorem AgC:Aa4 (.os k id ver p off n cp) K=K (.val (.int .i64 n)):=Aa rfl
theorem AcN {ad:Option Addr} {c:Nat}:Aa4 (.val (.slice ad n c)) K=K (.val (.int .i64 n)):=Aa rfl
section
variable {len lim:Nat} {KN:Nat→Nat→Prop} {l h:Int} {q2:IntKind}
theorem Aia:WX none none len lim KN=CZ (len≤lim) (KN 0 len):=by
 show ((0≤(0:Int)∧(0:Int)≤(len:Int)∧(len:Int)≤lim)∧KN (Int.toNat 0) (Int.toNat len))=_
 simp [CZ]
theorem AiA:WX (some (.val (.int q l))) none len lim KN=CZ (0≤l∧l≤len∧(len:Int)≤lim) (AZ l.toNat fun l=>KN l len):=by
 show ((0≤l∧l≤(len:Int)∧(len:Int)≤lim)∧KN l.toNat (Int.toNat len))=_
 simp [CZ,AZ]
theorem Ajl:WX none (some (.val (.int q h))) len lim KN=CZ (0≤h∧h≤lim) (AZ h.toNat fun h=>KN 0 h):=by
 show ((0≤(0:Int)∧0≤h∧h≤lim)∧KN (Int.toNat 0) h.toNat)=_
 simp [CZ,AZ]
theorem AiJ:WX (some (.val (.int q l))) (some (.val (.int q2 h))) len lim KN=CZ (0≤l∧l≤h∧h≤lim) (AZ l.toNat fun l=>AZ h.toNat fun h=>KN l h):=Aa rfl
end
theorem Ajn {s:ByteArray}:AmC (.val (.string s)) lo hi K=WX lo hi (bl s).length (bl s).length fun l h=>AZ (((bl s).drop l).take (h - l)) fun r=>K (.val (.string (str r))):=Aa rfl
theorem Aic:AjL k (.sl k cs) lo hi K=WX lo hi cs.length cs.length fun l h=>AZ ((cs.drop l).take (h - l)) fun r=>K (.sl k r):=by
 exact propext ⟨fun h=>h.2,fun h=>⟨rfl,h⟩⟩
theorem Ais:AjL k (.os k id ver p off n cp) lo hi K=WX lo hi n cp fun l h=>AZ (off+l) fun o=>AZ (h - l) fun m=>AZ (cp - l) fun c=>K (.os k id ver p o m c):=by
 exact propext ⟨fun h=>h.2,fun h=>⟨rfl,h⟩⟩
theorem AeT {ad:Option Addr}:AjL k (.val (.slice ad 0 0)) lo hi K=WX lo hi 0 0 fun l h=>K (.val (.slice ad 0 0)):=Aa rfl
theorem Aiv:AjJ H n k (.fp (.arr n k cs)) lo hi K=CZ (n≤9223372036854775807) (WX lo hi n n fun l h=>AZ ((cs.drop l).take (h - l)) fun r=>K (.sl k r)):=by
 exact propext ⟨fun h=>⟨h.2.2.1,h.2.2.2⟩,fun h=>⟨rfl,rfl,h.1,h.2⟩⟩
def Yl:Option TV→Nat→Nat→Option (List TV)
 | some (.arr n' k' cs),n,k=>if n'=n∧k'=k then some cs else none
 | _,_,_=>none
theorem Afo:Yl (some (.arr n k cs)) n k=some cs:=by simp [Yl]
theorem Ahz:AjJ H n k (.op id ver p) lo hi K=A8 (Gh H[id]? ver) fun x=>CZ (n≤9223372036854775807) (A8 (Yl (J5 p x) n k) fun _=>WX lo hi n n fun l h=>AZ (h - l) fun m=>AZ (n - l) fun c=>K (.os k id ver p l m c)):=by
 unfold AjJ
 simp only
 cases h:H[id]? with
 | none=>simp [Gh,A8]
 | some o =>
  cases o with
  | gone v=>simp [Gh,A8]
  | ice v m y=>simp [Gh,A8]
  | fact i v t m=>simp [Gh,A8]
  | bld v t l=>simp [Gh,A8]
  | lp st pe fn N en ps ca cb=>simp [Gh,A8]
  | mpo kk es=>simp [Gh,A8]
  | mpd kk zs cl=>simp [Gh,A8]
  | mit m sn cl=>simp [Gh,A8]
  | sit s pos=>simp [Gh,A8]
  | obj v x =>
   by_cases hv:v=ver
   ·simp only [Gh,A8,hv,CZ,AZ,if_true,true_and]
    congr 1
    cases hg:J5 p x with
    | none=>simp [Yl]
    | some y =>
     cases y with
     | arr n2 k2 ds =>
      by_cases h1:n2=n
      ·by_cases h2:k2=k
       ·simp [Yl,h1,h2]; exact Iff.rfl
       ·simp [Yl,h1,h2]
      ·simp [Yl,h1]
     | _=>simp [Yl]
   ·simp [Gh,A8,hv]
theorem Acx {t:TypeId}:Zn t x K=CZ (lays x=true) (K (.ifc t x)):=Aa rfl
theorem AiH {f:Fn}:Alh f cs ys K=CZ (Qb (cs++ys)) (K (.fn f cs ys)):=Aa rfl
theorem AfY:Xt (.op id ver p) K=K (.op id ver p):=Aa rfl
theorem Ae0:Xt (.fp y) K=K (.fp y):=Aa rfl
theorem AeP {f:FuncId} {a b:List TV}:Xt (.fn (.func f) a b) K=K (.fn (.func f) a b):=Aa rfl
theorem Ads {t:TypeId}:Xt (.ifc t y) K=K (.ifc t y):=Aa rfl
theorem Aah {f:FuncId} {a b:Array Value}:Xt (.val (.func (.func f) a b)) K=K (.val (.func (.func f) a b)):=Aa rfl
section
variable {a b:Int} {q2:IntKind}
theorem AiR:AmA (.val (.int q a)) (.val (.int q2 b)) K=vif (decide (b<a)) (K (.val (.int q b))) (K (.val (.int q a))):=by
 show K _=_
 by_cases h:b<a<;>simp [vif,h]
theorem AhY:Amv (.val (.int q a)) (.val (.int q2 b)) K=vif (decide (a<b)) (K (.val (.int q b))) (K (.val (.int q a))):=by
 show K _=_
 by_cases h:a<b<;>simp [vif,h]
theorem Ae1 {q1 q2 q3:IntKind} {l h m:Int}:U0 (.sl3 k) H [.sl k cs,.val (.int q1 l),.val (.int q2 h),.val (.int q3 m)] K=CZ (0≤l∧l≤h∧h≤m∧m≤cs.length) (AZ ((cs.drop l.toNat).take (h.toNat - l.toNat)) fun r=>K (.sl k r)):=by
 unfold U0 gev CZ AZ
 simp only [true_and]
 by_cases hc:0≤l∧l≤h∧h≤m∧m≤cs.length
 ·rw [if_pos hc]; simp [hc]
 ·rw [if_neg hc]; simp only [hc,false_and]
theorem Afh {sh:List EL} {b:Bool} {xs ys:List TV}:U0 (.eqR sh b) H [.agg xs,.agg ys] K=A8 (WF sh xs ys) fun r=>AZ (TV.val (.bool (xor b r))) K:=by
 have hg:gev (.eqR sh b) H [.agg xs,.agg ys]=(WF sh xs ys).map fun r => .val (.bool (xor b r)):=by unfold gev; rfl
 unfold U0 A8 AZ
 rw [hg]
 cases WF sh xs ys<;>rfl
theorem AgP:WF [] [] []=some true:=Aa rfl
theorem Aki {l:List EL} {k:IntKind} {a b:Int} {xs ys:List TV}:WF (.i::l) (.val (.int k a)::xs) (.val (.int k b)::ys)=(WF l xs ys).map fun r=>(a == b) && r:=by rw [WF,if_pos rfl]
theorem AjQ {l:List EL} {a b:ByteArray} {xs ys:List TV}:WF (.s::l) (.val (.string a)::xs) (.val (.string b)::ys)=(WF l xs ys).map fun r=>(a == b) && r:=Aa rfl
theorem Ama {l:List EL} {n:Nat} {a b:List UInt8} {xs ys:List TV}:WF (.b n::l) (.arr n 1 (a.map by8)::xs) (.arr n 1 (b.map by8)::ys)=(WF l xs ys).map fun r=>(a == b) && r:=by
 rw [WF]
 simp only [Ri,PH,and_self,if_true]
theorem Af3 {n:Nat} {b:Bool} {xs ys:List UInt8}:U0 (.eqA n b) H [.arr n 1 (xs.map by8),.arr n 1 (ys.map by8)] K=AZ (TV.val (.bool (xor b (xs == ys)))) K:=by
 unfold U0 gev AZ
 simp only [Ri,PH,and_self,if_true]
theorem Afp {q:IntKind} {n:Int}:U0 .r2s H [.val (.int q n)] K=AZ (TV.val (.string (Utf8.encode n))) K:=Aa rfl
theorem AeO {t t':TypeId}:U0 (.tas t) H [.ifc t' x] K=CZ (t'=t) (K x):=by
 unfold U0 gev CZ
 by_cases h:t'=t<;>simp [h]
theorem Adf {a:Option Addr} {l n:Nat}:U0 .capV H [.val (.slice a l n)] K=AZ (TV.val (.int .i64 (n:Int))) K:=Aa rfl
theorem AfI {n:Nat}:U0 (.s2a n k) H [.sl k cs] K=CZ (0<n∧n≤cs.length) (AZ (cs.take n) fun r=>K (.fp (.arr n k r))):=by
 unfold U0 gev CZ AZ
 simp only [true_and]
 by_cases hc:0<n∧n≤cs.length
 ·rw [if_pos hc]; simp [hc]
 ·rw [if_neg hc]; simp only [hc,false_and]
theorem AkH {s t:Bool}:AlF false (.val (.bool s)) (.val (.bool t)) K=AZ (TV.val (.bool (s == t))) K:=by
 show K _=_; simp [AZ]
theorem Aj0 {s t:Bool}:AlF true (.val (.bool s)) (.val (.bool t)) K=AZ (TV.val (.bool (!(s == t)))) K:=by
 show K _=_; simp [AZ]
theorem AkA {m b:Bool}:AkJ m (some true) (some b) K=AZ (TV.val (.bool (xor m b))) K:=Aa rfl
theorem AkD {m:Bool}:AkJ m (some false) (some true) K=AZ (TV.val (.bool (xor m false))) K:=Aa rfl
end
theorem AfT {kk:MK} {m:Nat} {kx v:TV}:AcX kk (.mp m 0) kx v H KK=A8 (Un kk H[m]?) fun es=>A8 (Bq kk kx) fun kb=>CZ (lays v=true) (AZ (UW kb v es) fun es'=>AZ (H.set m (.mpo kk es')) fun H'=>KK .any H'):=by
 unfold AcX
 cases hh:H[m]? with
 | none=>cases Bq kk kx<;>simp [hh,Un,A8]
 | some o =>
  cases o with
  | mpo kk' es =>
   by_cases hk:kk'=kk
   ·subst hk; cases Bq kk' kx<;>simp [hh,Un,A8,CZ,AZ]
   ·cases Bq kk kx<;>simp [hh,Un,A8,hk]
  | _=>cases Bq kk kx<;>simp [hh,Un,A8]
theorem AgB {kk:MK} {m:Nat} {kx z:TV}:AbP kk z (.mp m 0) kx H KK=A8 (Un kk H[m]?) fun es=>A8 (Bq kk kx) fun kb=>AZ ((OB kb es).getD z) fun y=>AZ (U9 kb es) fun p=>AZ (UW kb y es) fun es'=>AZ (H.set m (.mpo kk es')) fun H'=>KK (.tup [y,.val (.int .i64 (p:Int))]) H':=by
 unfold AbP
 cases hh:H[m]? with
 | none=>cases Bq kk kx<;>simp [hh,Un,A8]
 | some o =>
  cases o with
  | mpo kk' es =>
   by_cases hk:kk'=kk
   ·subst hk; cases Bq kk' kx<;>simp [hh,Un,A8,AZ]
   ·cases Bq kk kx<;>simp [hh,Un,A8,hk]
  | _=>cases Bq kk kx<;>simp [hh,Un,A8]
def VP:Option Ob→Option (MK×List (List UInt8×TV))
 | some (.mpo kk es)=>some (kk,es)
 | _=>none
theorem AbO {kk:MK} {es:List (List UInt8×TV)}:VP (some (.mpo kk es))=some (kk,es):=by simp [VP]
theorem Agj {m j:Nat} {q:IntKind} {v:TV}:Adc (.mp m 0) (.val (.int q (j:Int))) v H KK=A8 (VP H[m]?) fun p=>CZ (lays v=true) (A8 p.2[j]? fun y=>AZ (p.2.set j (y.1,v)) fun es'=>AZ (H.set m (.mpo p.1 es')) fun H'=>KK .any H'):=by
 unfold Adc
 cases hh:H[m]? with
 | none=>simp [hh,VP,A8]
 | some o =>
  cases o with
  | mpo kk' es =>
   simp only [hh,VP,A8,CZ,AZ,Int.natCast_nonneg,true_and,Int.toNat_natCast]
   cases es[j]?<;>simp
  | _=>simp [hh,VP,A8]
theorem Aby {kk:MK} {z kx:TV} {ok:Bool} {m:Nat}:U0 (.look kk z ok) H [.mp m 0,kx] K=A8 (U6 kk H[m]?) fun es=>A8 (Bq kk kx) fun kb=>AZ (Ul z ok (OB kb es)) K:=by
 unfold U0 gev WI
 cases hh:H[m]? with
 | none=>cases hb:Bq kk kx<;>simp [hh,hb,U6,A8]
 | some o =>
  cases o with
  | mpo kk' es =>
   by_cases hk:kk'=kk
   ·subst hk; cases hb:Bq kk' kx<;>simp [hh,hb,U6,A8,AZ]
   ·cases hb:Bq kk kx<;>simp [hh,hb,U6,A8,hk]
  | mpd kk' zs cl =>
   by_cases hk:kk'=kk
   ·subst hk; cases hb:Bq kk' kx<;>simp [hh,hb,U6,A8,AZ]
   ·cases hb:Bq kk kx<;>simp [hh,hb,U6,A8,hk]
  | _=>cases hb:Bq kk kx<;>simp [hh,hb,U6,A8]
theorem Aa0 {kk:MK} {z kx:TV} {ok:Bool}:U0 (.look kk z ok) H [.val (.map none),kx] K=A8 (Bq kk kx) fun kb=>AZ (Ul z ok none) K:=by
 unfold U0 gev WI
 cases hb:Bq kk kx<;>simp [hb,A8,AZ]
theorem Ady {m:Nat}:U0 .lenM H [.mp m 0] K=A8 (Y0 H[m]?) fun p=>AZ p.length fun n=>AZ (TV.val (.int .i64 (n:Int))) K:=by
 unfold U0 gev AeY
 cases hh:H[m]? with
 | none=>simp [hh,Y0,A8]
 | some o=>cases o<;>simp [hh,Y0,A8,AZ]
theorem Ac1 {id:Nat}:U0 .entM H [.op id 0 []] K=A8 (WE H[id]?) fun p=>A8 (stO H[p.1]?) fun q=>A8 (Al9 p q) K:=by
 unfold U0 gev AmE
 cases hh:H[id]? with
 | none=>simp [hh,WE,A8]
 | some o =>
  cases o with
  | mit m sn cl =>
   simp only [hh,WE,A8,Al9]
   cases h2:stO H[m]? with
   | none=>simp
   | some q =>
    obtain ⟨kk,zs,cl'⟩:=q
    cases h3:sn.getLast? with
    | none=>simp
    | some s =>
     by_cases hc:cl'=cl
     ·subst hc; cases hf:zs.find? (·.1 == s)<;>simp [hf]
     ·simp [hc]
  | _=>simp [hh,WE,A8]
theorem AcS {sz:Nat}:XX H sz (.op id ver p) y KK=CZ (lays y=true∧Aw y=sz) (A8 (Gh H[id]? ver) fun z=>A8 (QO p z y) fun z'=>AZ (H.set id (.obj ver z')) fun H'=>KK .any H'):=by
 unfold XX
 simp only [CZ]
 congr 1
 cases h:H[id]? with
 | none=>simp [Gh,A8]
 | some o =>
  cases o with
  | gone v=>simp [Gh,A8]
  | ice v m y=>simp [Gh,A8]
  | fact i v t m=>simp [Gh,A8]
  | bld v t l=>simp [Gh,A8]
  | lp st pe fn N en ps ca cb=>simp [Gh,A8]
  | mpo kk es=>simp [Gh,A8]
  | mpd kk zs cl=>simp [Gh,A8]
  | mit m sn cl=>simp [Gh,A8]
  | sit s pos=>simp [Gh,A8]
  | obj v x =>
   by_cases hv:v=ver
   ·subst hv; simp only [Gh,A8,AZ,if_true,true_and]; cases QO p x y<;>rfl
   ·simp [Gh,A8,hv]
theorem Ajt {z:TV} {l c:Int} {q2:IntKind} {bytes:Nat}:Amo H k bytes z (.val (.int q l)) (.val (.int q2 c)) KK=CZ (0≤l∧l≤c∧(bytes:Int)*c≤281474976710656∧c≤9223372036854775807) (AZ l.toNat fun l=>AZ c.toNat fun c=>AZ H.length fun m=>AZ (H++[.obj 0 (.arr c k (List.replicate c z))]) fun H'=>KK (.os k m 0 [] 0 l c) H'):=Aa rfl
theorem AeE {bytes:Nat} {et:TypeId}:AfJ k bytes et (.val (.slice none 0 0)) (some ys) H KK=CZ (ys.length*bytes≤140737488355328∧ys.length≤9223372036854775807) (AZ ys.length fun n=>AZ H.length fun m=>AZ (H++[.obj 1 (.arr n k ys)]) fun H'=>KK (.os k m 1 [] 0 n n) H'):=Aa rfl
def Zd:Option TV→Nat→Option (List TV)
 | some (.arr _ k' cs),k=>if k'=k then some cs else none
 | _,_=>none
theorem Aeq:Zd (some (.arr n k cs)) k=some cs:=by simp [Zd]
theorem Af7 {v n2:Nat} {et:TypeId}:AfA (some (.obj v (.arr n2 k cs))) v k et off n ys=some (.obj (v+1) (.arr (n+ys.length) k ((cs.drop off).take n++ys))):=by simp [AfA]
theorem Aab {v:Nat} {et:TypeId} {l m:List UInt8}:AfA (some (.bld v et l)) v 1 et 0 n (m.map by8)=some (.bld (v+1) et (l.take n++m)):=by
 simp only [AfA,Ri,PH,and_self,if_true]
theorem AbE {v:Nat} {et:TypeId} {l:List UInt8} {b:UInt8}:AfA (some (.bld v et l)) v 1 et 0 n [by8 b]=some (.bld (v+1) et (l.take n++[b])):=Aab (m:=[b])
theorem AfW {v n2:Nat}:AjF (some (.obj v (.arr n2 k cs)))=cs.length:=by simp [AjF]
theorem AfF {v:Nat} {et:TypeId} {l:List UInt8}:AjF (some (.bld v et l))=l.length:=by simp [AjF]
theorem AhK {bytes:Nat} {et:TypeId}:AfJ k bytes et (.os k id ver [] off n cp) (some ys) H KK=A8 (AfA H[id]? ver k et off n ys) fun o=>CZ (off+n≤AjF H[id]?∧(n+ys.length)*bytes≤140737488355328∧n+ys.length≤9223372036854775807)
   (AZ (n+ys.length) fun m=>AZ (H.set id o) fun H'=>KK (.os k id (ver+1) [] 0 m m) H'):=by
 unfold AfJ Vl
 simp only [true_and]
 cases h:AfA H[id]? ver k et off n ys with
 | none=>simp [A8]
 | some o=>simp [A8,CZ,AZ]
theorem Ae7 {s:ByteArray} {et:TypeId}:AgQ et x (.val (.string s)) H KK=AZ ((bl s).map by8) fun ys=>AfJ 1 1 et x (some ys) H KK:=Aa rfl
def An7:Option TV→Option Nat
 | some (.arr n _ _)=>some n
 | _=>none
theorem AiE:An7 (some (.arr n k cs))=some n:=Aa rfl
theorem Aey:Zi k (.os k id ver p off n cp) (some ys) H KK=A8 (Gh H[id]? ver) fun z=>A8 (Zd (J5 p z) k) fun cs=>A8 (An7 (J5 p z)) fun N=>CZ (off+n≤cs.length) (A8 (QO p z (.arr N k (cs.take off++(ys.take n++cs.drop (off+min ys.length n))))) fun z' =>
  AZ (H.set id (.obj ver z')) fun H'=>AZ (TV.val (.int .i64 (min ys.length n:Nat))) fun r=>KK r H'):=by
 unfold Zi Qi
 simp only [true_and]
 cases h:H[id]? with
 | none=>simp [Gh,A8]
 | some o =>
  cases o with
  | gone v=>simp [Gh,A8]
  | ice v m y=>simp [Gh,A8]
  | fact i v t m=>simp [Gh,A8]
  | bld v t l=>simp [Gh,A8]
  | lp st pe fn N en ps ca cb=>simp [Gh,A8]
  | mpo kk es=>simp [Gh,A8]
  | mpd kk zs cl=>simp [Gh,A8]
  | mit m sn cl=>simp [Gh,A8]
  | sit s pos=>simp [Gh,A8]
  | obj v x =>
   by_cases hv:v=ver
   ·simp only [Gh,A8,hv,if_true,true_and]
    cases hg:J5 p x with
    | none=>simp [Zd]
    | some y =>
     cases y with
     | arr n2 k2 ds =>
      by_cases h1:k2=k
      ·subst h1; simp only [Zd,An7,CZ,AZ,if_true,true_and]; refine congrArg (_ ∧ ·) ?_; cases QO p x (.arr n2 k2 (ds.take off++(ys.take n++ds.drop (off+min ys.length n))))<;>rfl
      ·simp [Zd,h1]
     | _=>simp [Zd]
   ·simp [Gh,A8,hv]
theorem AbG {s:ByteArray}:Zq x (.val (.string s)) H KK=AZ ((bl s).map by8) fun ys=>Zi 1 x (some ys) H KK:=Aa rfl
theorem Ad8 {f:FuncId} {j v:Nat} {l:List UInt8}:Agc P f (some (j,v,l)) H KK=CZ (Aos P f) (CZ (l.length≤9223372036854775807) (AZ (H.set j (.gone v)) fun H'=>KK (.val (.string (str l))) H')):=Aa rfl
def Ale (o:Option Ob) (j v n:Nat) (a:TV):Option (Nat×Nat×List UInt8):=match o with
 | some (.bld v3 t l)=>if v3=v∧t=Xr∧n=l.length∧Aw a=1 then some (j,v,l) else none
 | _=>none
def AgW (H:List Ob) (j v n:Nat) (a:TV):Option (Nat×Nat×List UInt8):=Ale H[j]? j v n a
def Aaw (H:List Ob) (q:Option TV):Option (Nat×Nat×List UInt8):=match q with
 | some (.agg [a,.os 1 j v2 [] 0 n cp])=>AgW H j v2 n a
 | _=>none
theorem AeZ {id ver:Nat} {p:List (Nat×Nat)}:AaH H (.op id ver p)=Aaw H ((Gh H[id]? ver).bind (J5 p)):=by
 unfold AaH
 simp only []
 cases h:H[id]? with
 | none=>simp [Gh,Aaw]
 | some o =>
  cases o with
  | obj v y =>
   by_cases hv:v=ver
   ·simp only [Gh,hv,if_true,Option.bind_some]
    unfold Aaw AgW Ale
    rfl
   ·simp [Gh,Aaw,hv]
  | _=>simp [Gh,Aaw]
theorem AgY {a:TV} {j v n cp:Nat}:Aaw H (some (.agg [a,.os 1 j v [] 0 n cp]))=AgW H j v n a:=Aa rfl
theorem AfO {a:TV} {j v n:Nat}:AgW H j v n a=Ale H[j]? j v n a:=Aa rfl
theorem AhI {a:TV} {j v n:Nat} {l:List UInt8} (hn:n=l.length) (ha:Aw a=1):Ale (some (.bld v 5 l)) j v n a=some (j,v,l):=by
 simp [Ale,hn,ha,Xr]
theorem Aie {s:ByteArray}:AmJ H (.val (.string s)) KK=CZ ((bl s).length≤9223372036854775807) (AZ (bl s).length fun n=>AZ ((bl s).map by8) fun r=>AZ H.length fun m=>AZ (H++[.obj 0 (.arr n 1 r)]) fun H'=>KK (.os 1 m 0 [] 0 n n) H'):=Aa rfl
theorem Aew {et:TypeId} {z:TV} {j:Nat} {bytes:Nat}:AaA k bytes et z (.os k id ver [] off n cp) (.val (.int .i64 (j:Int))) H KK=CZ ((bytes:Int)*j≤140737488355328∧(j:Int)≤9223372036854775807) (AfJ k bytes et (.os k id ver [] off n cp) (some (List.replicate j z)) H KK):=by
 unfold AaA AfJ
 simp only [Int.toNat_natCast]
 exact propext ⟨fun h=>⟨h.1.2,h.2⟩,fun h=>⟨⟨Int.natCast_nonneg _,h.1⟩,h.2⟩⟩
theorem Agn {et:TypeId} {z:TV} {j:Int} {bytes:Nat}:AaA k bytes et z (.val (.slice none 0 0)) (.val (.int .i64 j)) H KK=CZ (0≤j∧(bytes:Int)*j≤140737488355328∧j≤9223372036854775807) (AZ j.toNat fun n=>AZ H.length fun m=>AZ (H++[.obj 0 (.arr n k (List.replicate n z))]) fun H'=>KK (.os k m 0 [] 0 n n) H'):=Aa rfl
theorem Afb {n:Bool} {a:Option Addr} {l c:Nat}:Ahd n (.val (.slice a l c)) H KK=KK (.val (.bool (xor n a.isNone))) H:=Aa rfl
theorem Ai8 {n:Bool}:Ahd n (.sl k cs) H KK=vif (decide (cs.length=0)) (AaN H KK) (KK (.val (.bool n)) H):=by
 unfold Ahd vif AaN
 by_cases h:cs=[]
 ·subst h; simp
 ·have h2:¬ cs.length=0:=fun e=>h (List.length_eq_zero_iff.1 e)
  simp [h,h2]
theorem Ai5 {n:Bool} {m off l cp:Nat} {p:List (Nat×Nat)}:Ahd n (.os k m ver p off l cp) H KK=vif (decide (l=0)) (AaN H KK) (KK (.val (.bool n)) H):=by
 unfold Ahd vif AaN
 by_cases h:l=0
 ·subst h; simp
 ·simp [h]
theorem AcQ {f:FuncId} {a b:List TV}:VE P (.fn (.func f) a b) cs H KK=CZ (SK P f=true) (AZ (a++cs++b) fun xs=>VC P f xs H KK):=Aa rfl
theorem AaV {f:FuncId}:VE P (.val (.func (.func f) #[] #[])) cs H KK=CZ (SK P f=true) (VC P f cs H KK):=by
 exact propext ⟨fun h=>⟨h.2.1,h.2.2⟩,fun h=>⟨rfl,h.1,h.2⟩⟩
theorem Ace:VE P (.yl id ver) cs H KK=VY P id ver cs H KK:=Aa rfl
theorem Ai4 {nm:String} {t:TypeId}:Al6 P nm (.ifc t x) cs H KK=AjG P (Aes P t nm) x cs H KK:=by
 unfold Al6 AmK AjG
 show (match Aes P t nm with | some (f,none)=>_ | some (f,some (ag,sz))=>_ | none=>False)=_
 rcases Aes P t nm with _ | ⟨f,_ | ⟨ag,sz⟩⟩<;>rfl
theorem AkT {f:FuncId}:AjG P (some (f,none)) x cs H KK=CZ (SK P f=true) (AZ (x::cs) fun xs=>VC P f xs H KK):=Aa rfl
theorem Aka {f:FuncId} {ag:Bool} {sz:Nat}:AjG P (some (f,some (ag,sz))) x cs H KK=CZ (SK P f=true) (YN H ag sz x fun y=>AZ (y::cs) fun xs=>VC P f xs H KK):=Aa rfl
theorem AoB {t:Bool} {A B:Prop}:Gd (some t) true A B=vif t A B:=Aa rfl
theorem Aov {t:Bool} {A B:Prop}:Gd (some t) false A B=vif t B A:=by cases t<;>simp [Gd,vif]
theorem ApB {b:Bool} {A B:Prop}:Gd none b A B=B:=Aa rfl
end
section
variable {Q:VEx→Env→List Ob→Prop} {l:List VO} {kp:List Nat} {a b:Ad}
def AeA (x:TV) (A B:Prop) [Tg A] [Tg B]:Prop:=match x with
  | .val (.bool t)=>if t=true then A else B
  | _=>False
@[congr] theorem An1 {x x':TV} {A B:Prop} (h:x=x'):AeA x A B=AeA x' A B:=by rw [h]
theorem Af9 {t:Bool} {A B:Prop}:AeA (.val (.bool t)) A B=vif t A B:=Aa rfl
theorem AoA:vwp P (.ops l kp) Q e H=TK P l (fun e H=>AZ (forget kp e) fun e=>Q .nor e H) e H:=Aa rfl
def AfU (zs:List Nat) (e:Env) (H:List Ob) (K:Env→List Ob→Prop) [Tg K]:Prop:=AjB zs K e H
@[congr] theorem AnR {zs:List Nat} {e e':Env} {H H':List Ob} {K:Env→List Ob→Prop} (h1:e=e') (h2:H=H'):AfU zs e H K=AfU zs e' H' K:=by rw [h1,h2]
theorem AnG {K:Env→List Ob→Prop}:AfU [] e H K=K e H:=Aa rfl
theorem AlK {l r:List VO} {zs kp:List Nat}:vwp P (.opsZ l zs r kp) Q e H=TK P l (fun e H=>AfU zs e H fun e H=>TK P r (fun e H=>AZ (forget kp e) fun e=>Q .nor e H) e H) e H:=Aa rfl
theorem Amf {n:Nat}:vwp P (.draw n l kp) Q e H=(vq P (l.take n) (fun e=>TK P (l.drop n) (fun e H=>AZ (forget kp e) fun e=>Q .nor e H) e H) e H):=Aa rfl
def Thn (P:Program) (b:Ad) (Q:VEx→Env→List Ob→Prop):VEx→Env→List Ob→Prop:=fun x e H=>match x with | .nor=>vwp P b Q e H | .exit i=>Q (.exit i) e H | .ret=>Q .ret e H | .pan u=>Q (.pan u) e H
theorem AiC:Thn P b Q .nor e H=vwp P b Q e H:=Aa rfl
theorem AgE {i:Nat}:Thn P b Q (.exit i) e H=Q (.exit i) e H:=Aa rfl
theorem Aip:Thn P b Q .ret e H=Q .ret e H:=Aa rfl
theorem Ana:vwp P (.seq a b) Q e H=vwp P a (Thn P b Q) e H:=Aa rfl
def Blk (id:Nat) (Q:VEx→Env→List Ob→Prop):VEx→Env→List Ob→Prop:=fun x e H=>match x with | .nor=>Q .nor e H | .exit i=>if i=id then Q .nor e H else Q (.exit i) e H | .ret=>Q .ret e H | .pan u=>Q (.pan u) e H
theorem Aiw {id:Nat}:Blk id Q .nor e H=Q .nor e H:=Aa rfl
theorem Agh {id:Nat}:Blk id Q (.exit id) e H=Q .nor e H:=by simp [Blk]
theorem Y2 {id i:Nat} (h:i≠id):Blk id Q (.exit i) e H=Q (.exit i) e H:=by simp [Blk,h]
theorem AiZ {id:Nat}:Blk id Q .ret e H=Q .ret e H:=Aa rfl
theorem AiK {id:Nat}:vwp P (.block id a) Q e H=vwp P a (Blk id Q) e H:=Aa rfl
theorem AkI {c:Opd}:vwp P (.cond c a b) Q e H=AeA (c.ev e) (vwp P a Q e H) (vwp P b Q e H):=Aa rfl
def Rnd (n0:Nat) (lv:List Nat) (Q:VEx→Env→List Ob→Prop) (I:Nat→Env→List Ob→Prop) (n:Nat):VEx→Env→List Ob→Prop:=fun x e H=>match x with
 | .nor=>∃ m g,m<n∧(n0≤g∧(H.length≤g∨(Qo g (forget lv e)=true∧Rx g (H.take g)=true)))∧I m (forget lv e) (H.take g)
 | .exit i=>Q (.exit i) e H | .ret=>Q .ret e H | .pan u=>Q (.pan u) e H
section
variable {n0:Nat} {lv:List Nat} {I:Nat→Env→List Ob→Prop} {n:Nat}
theorem Agl {i:Nat}:Rnd n0 lv Q I n (.exit i) e H=Q (.exit i) e H:=Aa rfl
theorem AiP:Rnd n0 lv Q I n .ret e H=Q .ret e H:=Aa rfl
theorem Ba (m:Nat) (hm:m<n) (h:n0≤H.length) (hR:I m (forget lv e) H):Rnd n0 lv Q I n .nor e H:=by
 refine ⟨m,H.length,hm,⟨h,.inl (Nat.le_refl _)⟩,?_⟩
 rw [List.take_length]; exact hR
end
theorem KH {lv:List Nat} {H0:List Ob} (I:Nat→Env→List Ob→Prop) (n:Nat) (h0:I n (forget lv e) H0)
  (hs:∀ n e H,I n e H→vwp P a (Rnd H0.length lv Q I n) e H):vwp P (.loop lv a) Q e H0:=by
 rw [Yb]
 exact ⟨I,n,h0,hs⟩
theorem AiI {f:Opd} {ps:List Nat} {g:FuncId} {first caps:List TV} (hf:f.ev e = .fn (.func g) first caps) (hg:SK P g=true) (ha:SN a=true) (hb:SN b=true)
  (h:∀ (N:Nat) (fn:FuncId) (ca cb:Code),Zm P N ps ca cb a b→Au P g (first++[.yl H.length 0]++caps) (H++[.lp .ready none fn N e ps ca cb]) (VG Q e H.length)):vwp P (.rfunc f ps a b) Q e H:=by
 rw [vwp,hf]; exact ⟨ha,hb,hg,h⟩
theorem o_g {d s:Nat} {o:VOp} {b:Bool} {r:List VO} {K:Env→List Ob→Prop}:TK P (⟨some d,o,some (s,b)⟩::r) K e H=UN e s fun e q=>Gd q b (vop P o e H (fun x H=>TK P r K ((d,x)::e) H)) (TK P r K ((d,.val undef)::e) H):=by
 rw [VB]; refine congrArg (UN e s) ?_; funext e q; cases q<;>rfl
def Adk (x:TV) (e:Env) (s:Nat) (Q:Env→Option Bool→Prop) [Tg Q]:Prop:=match x with
 | .val v=>Q e (isB v)
 | .any=>(∀ t,Q ((s,.val (.bool t))::e) (some t))∧∀ v,isB v=none→Q ((s,.val v)::e) none
 | _=>False
@[congr] theorem AnO {x x':TV} {s:Nat} {Q:Env→Option Bool→Prop} (h:x=x'):Adk x e s Q=Adk x' e s Q:=by rw [h]
theorem Ako {s:Nat} {Q:Env→Option Bool→Prop}:UN e s Q=Adk (get e s) e s Q:=Aa rfl
theorem Aio {b:Bool} {s:Nat} {Q:Env→Option Bool→Prop}:Adk (.val (.bool b)) e s Q=Q e (some b):=Aa rfl
theorem AhH {s:Nat} {Q:Env→Option Bool→Prop}:Adk (.val undef) e s Q=Q e none:=Aa rfl
theorem u_c {d:Nat} {f:FuncId} {args:List Opd} {r:List VO} {K:Env→Prop}:vq P (⟨some d,.s (.call f args),none⟩::r) K e H=AZ (evs e args) fun xs=>CZ (Qb xs) (vex fun x=>VC P f xs H (fun y H'=>y=x∧H'=H)∧vq P r K ((d,x)::e) H):=by
 rw [ApD,Nz]; rfl
def Gq (x:TV) (b:Bool) (A B:Prop) [Tg A] [Tg B]:Prop:=match x with
 | .val v=>if isB v=some b then A else B
 | _=>False
@[congr] theorem ApI {x x':TV} {b:Bool} {A B:Prop} (h:x=x'):Gq x b A B=Gq x' b A B:=by rw [h]
theorem ApG {t:Bool} {A B:Prop}:Gq (.val (.bool t)) true A B=vif t A B:=by cases t<;>simp [Gq,vif,isB]
theorem Apw {b:Bool} {A B:Prop}:Gq (.val undef) b A B=B:=by simp [Gq,isB,undef]
theorem Apz {t:Bool} {A B:Prop}:Gq (.val (.bool t)) false A B=vif t B A:=by cases t<;>simp [Gq,vif,isB]
theorem u_g {d s:Nat} {o:VOp} {b:Bool} {r:List VO} {K:Env→Prop}:vq P (⟨some d,o,some (s,b)⟩::r) K e H=Gq (get e s) b (Vj P o e H fun x=>vq P r K ((d,x)::e) H) (vq P r K ((d,.val undef)::e) H):=Aa rfl
theorem Apq {f:FuncId} {args:List Opd} {k:TV→Prop}:Vj P (.s (.call f args)) e H k=AZ (evs e args) fun xs=>CZ (Qb xs) (vex fun x=>VC P f xs H (fun y H'=>y=x∧H'=H)∧k x):=by
 rw [Aiq,Nz]; rfl
def Amb (P:Program) (x:TV) (s k:Nat) (c:Ad) (Q:VEx→Env→List Ob→Prop) (e:Env) (H:List Ob):Prop:=match x with
  | .val (.slice none 0 0)=>vwp P c Q ((s,.os k H.length 0 [] 0 0 0)::e) (H++[.obj 0 (.arr 0 k [])])
  | _=>vwp P c Q e H
@[congr] theorem Ao9 {x x':TV} {s k:Nat} (h:x=x'):Amb P x s k a Q e H=Amb P x' s k a Q e H:=by rw [h]
theorem Ant {s k:Nat}:vwp P (.own s k a) Q e H=Amb P (get e s) s k a Q e H:=Aa rfl
theorem AfC {s k:Nat}:Amb P (.val (.slice none 0 0)) s k a Q e H=vwp P a Q ((s,.os k H.length 0 [] 0 0 0)::e) (H++[.obj 0 (.arr 0 k [])]):=Aa rfl
theorem AhQ {s k k' id ver off n cp:Nat} {p:List (Nat×Nat)}:Amb P (.os k' id ver p off n cp) s k a Q e H=vwp P a Q e H:=Aa rfl
end
theorem Am6 {t:Nat} {K:TV→Prop}:res [.tmp t] e H K=AZ (get e t) K:=Aa rfl
theorem Aj1 {t:Nat} {r:List VR} {K:List TV→Prop}:Yr (.tmp t::r) e H K=AZ (get e t) fun x=>Yr r e H fun xs=>K (x::xs):=Aa rfl
def Ao5 (K:TV→Prop) (xs:List TV):Prop:=match xs with
 | [x]=>K x
 | xs=>(∀ x∈xs,CE x=false)∧K (.tup xs)
theorem AeQ {x y:TV} {l:List TV} {K:TV→Prop}:Ao5 K (x::y::l)=CZ (Qb (x::y::l)) (AZ (TV.tup (x::y::l)) K):=Aa rfl
theorem Akb {r s:VR} {l:List VR} {K:TV→Prop}:res (r::s::l) e H K=Yr (r::s::l) e H (Ao5 K):=Aa rfl
theorem Al8 {a sz:Nat} {ag:Bool} {K:TV→Prop}:res [.cell a ag sz] e H K=pop (.load ag sz (.t a)) e H K:=Aa rfl
theorem AmN {K:TV→Prop}:res [] e H K=K (.tup []):=by rw [Ab0]; simp
end
def VCP (P:Program) (f:FuncId) (xs:List TV) (H:List Ob) (K:TV→List Ob→Prop) (KP:Value→List Ob→Prop) [Tg K] [Tg KP]:Prop:=Tc P f xs H K KP
@[congr] theorem AlI {P:Program} {f:FuncId} {xs xs':List TV} {H H':List Ob} {K:TV→List Ob→Prop} {KP:Value→List Ob→Prop} (he:xs=xs') (hH:H=H'):VCP P f xs H K KP=VCP P f xs' H' K KP:=by rw [he,hH]
def AjN (x:TV) (K:Value→Prop) [Tg K]:Prop:=match x with
 | .val (.iface t v)=>K (.iface t v)
 | .ifc t (.val v)=>K (.iface t v)
 | _=>False
@[congr] theorem AoX {x x':TV} {K:Value→Prop} (h:x=x'):AjN x K=AjN x' K:=by rw [h]
theorem AfV {t:TypeId} {v:Value} {K:Value→Prop}:AjN (.ifc t (.val v)) K=K (.iface t v):=Aa rfl
theorem Ajz {t:TypeId} {v:Value} {K:Value→Prop}:AjN (.val (.iface t v)) K=K (.iface t v):=Aa rfl
section
variable {P:Program} {e:Env} {H:List Ob} {r:List VO} {K:Env→List Ob→Prop} {PP:Value→List Ob→Prop} {Q:VEx→Env→List Ob→Prop}
@[congr] theorem Aix {l:List VO} {e':Env} {H':List Ob} (he:e=e') (hH:H=H'):P9 P PP l K e H=P9 P PP l K e' H':=by rw [he,hH]
@[congr] theorem Ah2 {o:VOp} {e':Env} {H':List Ob} {KK:TV→List Ob→Prop} (he:e=e') (hH:H=H'):pvop P PP o e H KK=pvop P PP o e' H' KK:=by rw [he,hH]
theorem Aj9 {l:List VO} {kp:List Nat}:vwp P (.pops l kp) Q e H=P9 P (fun u H=>Q (.pan u) (Zf l e) H) l (fun e H=>AZ (forget kp e) fun e=>Q .nor e H) e H:=Aa rfl
theorem AiG {n:Nat} {l:List VO} {kp:List Nat}:vwp P (.pdraw n l kp) Q e H=(vq P (l.take n) (fun e=>P9 P (fun u H=>Q (.pan u) [] H) (l.drop n) (fun e H=>AZ (forget kp e) fun e=>Q .nor e H) e H) e H):=Aa rfl
theorem Alt:P9 P PP [] K e H=K e H:=Aa rfl
theorem ApE {d:Nat} {o:VOp}:P9 P PP (⟨some d,o,none⟩::r) K e H=pvop P PP o e H (fun x H=>P9 P PP r K ((d,x)::e) H):=Aa rfl
theorem Aoc {o:VOp}:P9 P PP (⟨none,o,none⟩::r) K e H=pvop P PP o e H (fun x H=>P9 P PP r K e H):=Aa rfl
theorem Apr {d s:Nat} {o:VOp} {b:Bool}:P9 P PP (⟨some d,o,some (s,b)⟩::r) K e H=UN e s fun e q=>Gd q b (pvop P PP o e H (fun x H=>P9 P PP r K ((d,x)::e) H)) (P9 P PP r K ((d,.val undef)::e) H):=by
 show Lc (pvop P PP) _ K e H=_
 rw [Lc]
 refine congrArg (UN e s) ?_; funext e q; cases q<;>rfl
theorem Ame {o:POp} {KK:TV→List Ob→Prop}:pvop P PP (.p o) e H KK=pop o e H fun x=>KK x H:=Aa rfl
theorem AcA {f:FuncId} {args:List Opd} {KK:TV→List Ob→Prop}:pvop P PP (.s (.call f args)) e H KK=AZ (evs e args) fun xs=>CZ (Qb xs) (VCP P f xs H KK PP):=by
 show ((∀ x∈args,CE (x.ev e)=false)∧_)=_
 rw [Nz]; rfl
theorem AfX {x:Opd} {KK:TV→List Ob→Prop}:pvop P PP (.s (.pan x)) e H KK=AjN (x.ev e) (fun u=>PP u H):=by
 show (match x.ev e with | .val (.iface t v)=>PP (.iface t v) H | .ifc t (.val v)=>PP (.iface t v) H | _=>False)=_
 unfold AjN
 split<;>simp_all
theorem Aay {z:TV} {KK:TV→List Ob→Prop}:pvop P PP (.s (.alloc z)) e H KK=sop P (.alloc z) e H KK:=Aa rfl
theorem Af8 {x:Opd} {KK:TV→List Ob→Prop}:pvop P PP (.s (.box x)) e H KK=sop P (.box x) e H KK:=Aa rfl
theorem Yw {k n:Nat} {z:TV} {ps:List (Nat×Opd)} {KK:TV→List Ob→Prop}:pvop P PP (.s (.bslice k n z ps)) e H KK=sop P (.bslice k n z ps) e H KK:=Aa rfl
theorem AaC {sz:Nat} {x v:Opd} {KK:TV→List Ob→Prop}:pvop P PP (.s (.store sz x v)) e H KK=sop P (.store sz x v) e H KK:=Aa rfl
theorem AfH {k bytes:Nat} {z:TV} {l c:Opd} {KK:TV→List Ob→Prop}:pvop P PP (.s (.mks k bytes z l c)) e H KK=sop P (.mks k bytes z l c) e H KK:=Aa rfl
theorem Agw {k bytes:Nat} {et:TypeId} {x y:Opd} {KK:TV→List Ob→Prop}:pvop P PP (.s (.app k bytes et x y)) e H KK=sop P (.app k bytes et x y) e H KK:=Aa rfl
theorem Adn {et:TypeId} {x y:Opd} {KK:TV→List Ob→Prop}:pvop P PP (.s (.appS et x y)) e H KK=sop P (.appS et x y) e H KK:=Aa rfl
theorem Adi {k n:Nat} {et:TypeId} {z:TV} {x y:Opd} {KK:TV→List Ob→Prop}:pvop P PP (.s (.appZ k n et z x y)) e H KK=sop P (.appZ k n et z x y) e H KK:=Aa rfl
theorem Aex {x:Opd} {n:Bool} {KK:TV→List Ob→Prop}:pvop P PP (.s (.eqS x n)) e H KK=sop P (.eqS x n) e H KK:=Aa rfl
theorem AeH {x:Opd} {KK:TV→List Ob→Prop}:pvop P PP (.s (.s2b x)) e H KK=sop P (.s2b x) e H KK:=Aa rfl
theorem Adr {k:Nat} {x y:Opd} {KK:TV→List Ob→Prop}:pvop P PP (.s (.copy k x y)) e H KK=sop P (.copy k x y) e H KK:=Aa rfl
theorem AaO {x y:Opd} {KK:TV→List Ob→Prop}:pvop P PP (.s (.copyS x y)) e H KK=sop P (.copyS x y) e H KK:=Aa rfl
theorem AaQ {x:Opd} {args:List Opd} {KK:TV→List Ob→Prop}:pvop P PP (.s (.callv x args)) e H KK=sop P (.callv x args) e H KK:=Aa rfl
theorem AgL {x:Opd} {nm:String} {args:List Opd} {KK:TV→List Ob→Prop}:pvop P PP (.s (.inv x nm args)) e H KK=sop P (.inv x nm args) e H KK:=Aa rfl
theorem AgZ {kk:MK} {h:Option Opd} {KK:TV→List Ob→Prop}:pvop P PP (.s (.mkm kk h)) e H KK=sop P (.mkm kk h) e H KK:=Aa rfl
theorem Aci {kk:MK} {m k x:Opd} {KK:TV→List Ob→Prop}:pvop P PP (.s (.mupd kk m k x)) e H KK=sop P (.mupd kk m k x) e H KK:=Aa rfl
theorem Abt {kk:MK} {z:TV} {m k:Opd} {KK:TV→List Ob→Prop}:pvop P PP (.s (.ment kk z m k)) e H KK=sop P (.ment kk z m k) e H KK:=Aa rfl
theorem Ab2 {m st x:Opd} {KK:TV→List Ob→Prop}:pvop P PP (.s (.mest m st x)) e H KK=sop P (.mest m st x) e H KK:=Aa rfl
theorem Zh {z:TV} {t:TypeId} {KK:TV→List Ob→Prop}:pvop P PP (.s (.allocT z t)) e H KK=sop P (.allocT z t) e H KK:=Aa rfl
theorem Abz {x:Opd} {t:TypeId} {KK:TV→List Ob→Prop}:pvop P PP (.s (.boxT x t)) e H KK=sop P (.boxT x t) e H KK:=Aa rfl
theorem AdQ {x:Opd} {KK:TV→List Ob→Prop}:pvop P PP (.s (.rngS x)) e H KK=sop P (.rngS x) e H KK:=Aa rfl
theorem Adg {x:Opd} {KK:TV→List Ob→Prop}:pvop P PP (.s (.nxtS x)) e H KK=sop P (.nxtS x) e H KK:=Aa rfl
theorem AcH {x:Opd} {KK:TV→List Ob→Prop}:pvop P PP (.s (.rngM x)) e H KK=sop P (.rngM x) e H KK:=Aa rfl
theorem Adl {x:Opd} {KK:TV→List Ob→Prop}:pvop P PP (.s (.nxtM x)) e H KK=sop P (.nxtM x) e H KK:=Aa rfl
theorem Ac9 {kk:MK} {m k:Opd} {KK:TV→List Ob→Prop}:pvop P PP (.s (.delM kk m k)) e H KK=sop P (.delM kk m k) e H KK:=Aa rfl
theorem Afj {x:Opd} {KK:TV→List Ob→Prop}:pvop P PP (.s (.cvS x)) e H KK=sop P (.cvS x) e H KK:=Aa rfl
theorem Adv {k:Nat} {z:TV} {x:Opd} {KK:TV→List Ob→Prop}:pvop P PP (.s (.clrS k z x)) e H KK=sop P (.clrS k z x) e H KK:=Aa rfl
theorem AdD {f:FuncId} {x:Opd} {KK:TV→List Ob→Prop}:pvop P PP (.s (.bstr f x)) e H KK=sop P (.bstr f x) e H KK:=Aa rfl
theorem AiW {b:Ad} {u:Value}:Thn P b Q (.pan u) e H=Q (.pan u) e H:=Aa rfl
theorem Ah7 {id:Nat} {u:Value}:Blk id Q (.pan u) e H=Q (.pan u) e H:=Aa rfl
theorem Ajj {n0:Nat} {lv:List Nat} {I:Nat→Env→List Ob→Prop} {n:Nat} {u:Value}:Rnd n0 lv Q I n (.pan u) e H=Q (.pan u) e H:=Aa rfl
theorem Aa3 {vr:List VR} {R:TV→List Ob→Prop} {RP:Value→List Ob→Prop}:Ac6 vr R RP .ret e H=res vr e H fun x=>R x H:=Aa rfl
theorem Aa8 {vr:List VR} {R:TV→List Ob→Prop} {RP:Value→List Ob→Prop}:Ac6 vr R RP .nor e H=res vr e H fun x=>R x H:=Aa rfl
theorem Aap {vr:List VR} {R:TV→List Ob→Prop} {RP:Value→List Ob→Prop} {u:Value}:Ac6 vr R RP (.pan u) e H=RP u H:=Aa rfl
def XE (P:Program) (PP:Value→List Ob→Prop) (Ss:SsT) (l:List VO) (K:Env→List Ob→Prop) (e:Env) (H:List Ob):Prop:=Lc (pvopS P PP Ss) l K e H
@[congr] theorem Aiu {Ss:SsT} {l:List VO} {e':Env} {H':List Ob} (he:e=e') (hH:H=H'):XE P PP Ss l K e H=XE P PP Ss l K e' H':=by rw [he,hH]
@[congr] theorem Ahj {Ss:SsT} {o:VOp} {e':Env} {H':List Ob} {KK:TV→List Ob→Prop} (he:e=e') (hH:H=H'):pvopS P PP Ss o e H KK=pvopS P PP Ss o e' H' KK:=by rw [he,hH]
theorem Ah9 {n:Nat} {l:List VO} {kp:List Nat}:vwp P (.sdraw n l kp) Q e H=(vq P (l.take (nOf n)) (fun e=>XE P (fun u H=>Q (.pan u) [] H) (ssN n l) (l.drop (nOf n)) (fun e H=>AZ (forget kp e) fun e=>Q .nor e H) e H) e H):=Aa rfl
section
variable {Ss:SsT}
theorem AjO:XE P PP Ss [] K e H=K e H:=Aa rfl
theorem ApC {d:Nat} {o:VOp}:XE P PP Ss (⟨some d,o,none⟩::r) K e H=pvopS P PP Ss o e H (fun x H=>XE P PP Ss r K ((d,x)::e) H):=Aa rfl
theorem Anj {o:VOp}:XE P PP Ss (⟨none,o,none⟩::r) K e H=pvopS P PP Ss o e H (fun x H=>XE P PP Ss r K e H):=Aa rfl
theorem Akt {o:POp} {KK:TV→List Ob→Prop}:pvopS P PP Ss (.p o) e H KK=pop o e H fun x=>KK x H:=Aa rfl
theorem AbK {f:FuncId} {args:List Opd} {KK:TV→List Ob→Prop}:pvopS P PP Ss (.s (.call f args)) e H KK=AZ (evs e args) fun xs=>CZ (Qb xs) (VCP P f xs H (fun x H'=>KK x H'∧OA Ss.l e H H') PP):=by
 show ((∀ x∈args,CE (x.ev e)=false)∧_)=_
 rw [Nz]; rfl
theorem Aba {sz:Nat} {x v:Opd} {KK:TV→List Ob→Prop}:pvopS P PP Ss (.s (.store sz x v)) e H KK=sop P (.store sz x v) e H fun x H'=>KK x H'∧OA Ss.st e H H':=Aa rfl
theorem Aau {z:TV} {KK:TV→List Ob→Prop}:pvopS P PP Ss (.s (.alloc z)) e H KK=sop P (.alloc z) e H KK:=Aa rfl
theorem Aeb {k bytes:Nat} {z:TV} {l c:Opd} {KK:TV→List Ob→Prop}:pvopS P PP Ss (.s (.mks k bytes z l c)) e H KK=sop P (.mks k bytes z l c) e H KK:=Aa rfl
theorem Aem {k bytes:Nat} {et:TypeId} {x y:Opd} {KK:TV→List Ob→Prop}:pvopS P PP Ss (.s (.app k bytes et x y)) e H KK=vif Ss.ap (sop P (.app k bytes et x y) e H fun x H'=>KK x H'∧OA Ss.l e H H') (sop P (.app k bytes et x y) e H KK):=by
 show sop P (.app k bytes et x y) e H (fun x H'=>KK x H'∧(Ss.ap=true→OA Ss.l e H H'))=_
 unfold vif
 split
 ·rename_i h
  congr 1; funext x H'; simp [h]
 ·rename_i h
  congr 1; funext x H'; simp [h]
theorem Acf {et:TypeId} {x y:Opd} {KK:TV→List Ob→Prop}:pvopS P PP Ss (.s (.appS et x y)) e H KK=sop P (.appS et x y) e H KK:=Aa rfl
theorem AkR {n:Nat}:nOf n=n % 10000:=Aa rfl
theorem AlR {n:Nat} {l:List VO}:(ssN n l).ap=decide (10000≤n):=Aa rfl
theorem AgI {x:Opd} {KK:TV→List Ob→Prop}:pvopS P PP Ss (.s (.s2b x)) e H KK=sop P (.s2b x) e H KK:=Aa rfl
theorem YJ {k n:Nat} {z:TV} {ps:List (Nat×Opd)} {KK:TV→List Ob→Prop}:pvopS P PP Ss (.s (.bslice k n z ps)) e H KK=sop P (.bslice k n z ps) e H KK:=Aa rfl
end
theorem Aev {e:Env} {H H':List Ob}:OA [] e H H':=OA.nil
theorem Aih {s:Nat} {Ss:List Nat} {e:Env} {H H':List Ob} {id ver:Nat} {p:List (Nat×Nat)} (h:get e s = .op id ver p) (h1:H'[id]?=H[id]?) (h2:OA Ss e H H'):OA (s::Ss) e H H':=fun t ht id' hg=>by
 rcases List.mem_cons.1 ht with rfl | ht
 ·rw [h] at hg; cases hg; exact h1
 ·exact h2 t ht id' hg
theorem AhD {s:Nat} {Ss:List Nat} {e:Env} {H H':List Ob} (h:(match get e s with | .op _ _ _=>false | .os _ _ _ _ _ _ _=>false | _=>true)=true) (h2:OA Ss e H H'):OA (s::Ss) e H H':=fun t ht id' hg=>by
 rcases List.mem_cons.1 ht with rfl | ht
 ·revert hg h
  cases get e t<;>simp [Amj]
 ·exact h2 t ht id' hg
end
def Ak:=(aI_ (aI_ (aI_ (aI_ (aI_ (aI_ (aI_ (aI_ @AmU @AjT) (aI_ @Anh @ApA)) (aI_ (aI_ @Aj6 @Am3) (aI_ @AmQ @Alf))) (aI_ (aI_ (aI_ @Afq @Ajx) (aI_ @AkU @Ajr)) (aI_ (aI_ @AnB @AjS) (aI_ @AnS @Ak9)))) (aI_ (aI_ (aI_ (aI_ @AlL @AoL) (aI_ @Aod @AoI)) (aI_ (aI_ @AiV @AnX) (aI_ @Akp @Am4))) (aI_ (aI_ (aI_ @AmL @Aoa) (aI_ @AnH @AoG)) (aI_ (aI_ @Ajy @Ae8) (aI_ @AnQ @AhM))))) (aI_ (aI_ (aI_ (aI_ (aI_ @Aet @Aou) (aI_ @AlC @Akq)) (aI_ (aI_ @AkV @Ak7) (aI_ @Akw @AlZ))) (aI_ (aI_ (aI_ @Aku @Al7) (aI_ @Aol @Aeo)) (aI_ (aI_ @AiX @An0) (aI_ @Aoe @Aj4)))) (aI_ (aI_ (aI_ (aI_ @Ali @AhF) (aI_ @An2 @Amd)) (aI_ (aI_ @Am5 @AkQ) (aI_ @Alj @Ak1))) (aI_ (aI_ (aI_ @Ak8 @Aj7) (aI_ @Alg @Aje)) (aI_ (aI_ @Anv @AoA) (aI_ @AlK @AnG)))))) (aI_ (aI_ (aI_ (aI_ (aI_ (aI_ @Amf @OV) (aI_ @Ana @AiK)) (aI_ (aI_ @AkI @Xl) (aI_ @P5 @Aik))) (aI_ (aI_ (aI_ @Ant @Amc) (aI_ @Akc @Bc)) (aI_ (aI_ @Dl @VN) (aI_ @NE @o_g)))) (aI_ (aI_ (aI_ (aI_ @Ako @Adm) (aI_ @Am1 @AcJ)) (aI_ (aI_ @Anl @u_c) (aI_ @u_g @AiS))) (aI_ (aI_ (aI_ @Apq @AO) (aI_ @XC @Am6)) (aI_ (aI_ @Al8 @AmN) (aI_ @Akb @Zy))))) (aI_ (aI_ (aI_ (aI_ (aI_ @Aj1 @XA) (aI_ @AeQ @AiC)) (aI_ (aI_ @AgE @Aip) (aI_ @Aiw @Agh))) (aI_ (aI_ (aI_ @Y2 @AiZ) (aI_ @Agl @AiP)) (aI_ (aI_ @Aj9 @AiG) (aI_ @Ah9 @AjO)))) (aI_ (aI_ (aI_ (aI_ @ApC @Anj) (aI_ @Akt @AbK)) (aI_ (aI_ @Aba @Aau) (aI_ @Aeb @Aem))) (aI_ (aI_ (aI_ @Acf @AgI) (aI_ @YJ @Alt)) (aI_ (aI_ @ApE @Aoc) (aI_ @Apr @Ame))))))) (aI_ (aI_ (aI_ (aI_ (aI_ (aI_ @AcA @AfX) (aI_ @Aay @Af8)) (aI_ (aI_ @Yw @AaC) (aI_ @AfH @Agw))) (aI_ (aI_ (aI_ @Adn @AeH) (aI_ @Adi @Aex)) (aI_ (aI_ @Adr @AaO) (aI_ @AaQ @AgL)))) (aI_ (aI_ (aI_ (aI_ @AgZ @Aci) (aI_ @Abt @Ab2)) (aI_ (aI_ @Zh @Abz) (aI_ @AdQ @Adg))) (aI_ (aI_ (aI_ @AcH @Adl) (aI_ @Ac9 @Adv)) (aI_ (aI_ @Afj @AdD) (aI_ @AiW @Ah7))))) (aI_ (aI_ @Ajj @Aa3) (aI_ @Aa8 @Aap))))
def Ae:=(aI_ (aI_ (aI_ (aI_ (aI_ (aI_ (aI_ (aI_ @AkR @AlR) (aI_ @Ajz @AfV)) (aI_ (aI_ @Afy @AcO) (aI_ @Ajg @AiY))) (aI_ (aI_ (aI_ @Alu @Akg) (aI_ @AkG @Ac3)) (aI_ (aI_ @Ag4 @Ajh) (aI_ @Afd @AkM)))) (aI_ (aI_ (aI_ (aI_ @AbY @Ahv) (aI_ @Afa @Ami)) (aI_ (aI_ @AhR @Ake) (aI_ @Alq @Acn))) (aI_ (aI_ (aI_ @AiU @Agb) (aI_ @AhX @Agp)) (aI_ (aI_ @Ajs @AkE) (aI_ @Agf @AiO))))) (aI_ (aI_ (aI_ (aI_ (aI_ @Ajq @Agu) (aI_ @Ad5 @Aat)) (aI_ (aI_ @AaJ @AbT) (aI_ @Aed @AeN))) (aI_ (aI_ (aI_ @AcV @AdB) (aI_ @AhU @Ae3)) (aI_ (aI_ @Ajm @Afu) (aI_ @Ad9 @AgC)))) (aI_ (aI_ (aI_ (aI_ @AcN @Aia) (aI_ @AiA @Ajl)) (aI_ (aI_ @AiJ @Ajn) (aI_ @Aic @Ais))) (aI_ (aI_ (aI_ @AeT @Aiv) (aI_ @Afo @Ahz)) (aI_ (aI_ @Acx @AiH) (aI_ @AfY @Ae0)))))) (aI_ (aI_ (aI_ (aI_ (aI_ (aI_ @AeP @Ads) (aI_ @Aah @AiR)) (aI_ (aI_ @AhY @AkH) (aI_ @Aj0 @AkA))) (aI_ (aI_ (aI_ @AkD @Ae1) (aI_ @Af3 @Afh)) (aI_ (aI_ @AgP @Aki) (aI_ @AjQ @Ama)))) (aI_ (aI_ (aI_ (aI_ @Aby @Aa0) (aI_ @Ady @Afp)) (aI_ (aI_ @AfI @Adf) (aI_ @AeO @Agn))) (aI_ (aI_ (aI_ @Aew @Afb) (aI_ @Ai8 @Ai5)) (aI_ (aI_ @Ad2 @AbO) (aI_ @Agv @Ajv))))) (aI_ (aI_ (aI_ (aI_ (aI_ @Agz @Aju) (aI_ @Ahs @Aho)) (aI_ (aI_ @Ags @Aek) (aI_ @AfK @Aef))) (aI_ (aI_ (aI_ @AgS @Afw) (aI_ @Ab8 @Ae2)) (aI_ (aI_ @AiB @Al4) (aI_ @Ac1 @Aky)))) (aI_ (aI_ (aI_ (aI_ @Akm @Aid) (aI_ @Ai7 @AhE)) (aI_ (aI_ @AfT @AgB) (aI_ @Agj @Option.getD_none.{0}))) (aI_ (aI_ (aI_ @Option.getD_some.{0} @AcS) (aI_ @Ajt @AeE)) (aI_ (aI_ @Aeq @Af7) (aI_ @Aab @AbE))))))) (aI_ (aI_ (aI_ (aI_ (aI_ (aI_ @AfW @AfF) (aI_ @AhK @Ae7)) (aI_ (aI_ @AiE @Aey) (aI_ @AbG @Aie))) (aI_ (aI_ (aI_ @Ad8 @Aer) (aI_ @AgN @Aec)) (aI_ (aI_ @AeZ @AgY) (aI_ @AfO @AhI)))) (aI_ (aI_ (aI_ (aI_ @AcQ @Ai4) (aI_ @AkT @Aka)) (aI_ (aI_ @AaV @Ace) (aI_ @AoB @Aov))) (aI_ (aI_ (aI_ @ApB @Af9) (aI_ @Aio @AhH)) (aI_ (aI_ @ApG @Apz) (aI_ @Apw @AfC))))) (aI_ (aI_ (aI_ @AhQ @Ad7) (aI_ @AgH @AhO)) (aI_ (aI_ @Aga @Acy) @Aa7))))
def Ai:=(aI_ (aI_ (aI_ (aI_ (aI_ (aI_ (aI_ (aI_ @Gl @Afe) (aI_ @YE @Aim)) (aI_ (aI_ @Ajd @Ah3) (aI_ @AeV @Ae5))) (aI_ (aI_ (aI_ @Agi @AeM) (aI_ @AhT @Ajc)) (aI_ (aI_ @AhJ @AbR) (aI_ @Acd @ZJ)))) (aI_ (aI_ (aI_ (aI_ @Afn @WG) (aI_ @Zp @Ac5)) (aI_ (aI_ @AbM @AcD) (aI_ @Xu @AgK))) (aI_ (aI_ (aI_ @Aea @Aeg) (aI_ @Agm @Aca)) (aI_ (aI_ @Ahy @AcI) (aI_ @Ahx @AeB))))) (aI_ (aI_ (aI_ (aI_ (aI_ @Ad6 @AeR) (aI_ @AgA @Aht)) (aI_ (aI_ @AiQ @Ai0) (aI_ @XJ @Abv))) (aI_ (aI_ (aI_ @Af1 @AeK) (aI_ @Ag1 @Aee)) (aI_ (aI_ @AdF @AeL) (aI_ @Afz @Cm)))) (aI_ (aI_ (aI_ (aI_ @Ac2 @KF) (aI_ @AgR @Aez)) (aI_ (aI_ @AeJ @Abk) (aI_ @AdM @AeF))) (aI_ (aI_ (aI_ @Afg @Agt) (aI_ @Acl @Ac4)) (aI_ (aI_ @FD @EY) (aI_ @AcG @Acm)))))) (aI_ (aI_ (aI_ (aI_ (aI_ (aI_ @AdP @AbL) (aI_ @Aaq @ZZ)) (aI_ (aI_ @JK @YI) (aI_ @Yc @Aa6))) (aI_ (aI_ (aI_ @Agk @Abp) (aI_ @Yn @WB)) (aI_ (aI_ @UA @Uo) (aI_ @ApH @Hr)))) (aI_ (aI_ (aI_ (aI_ @Nw @WC) (aI_ @Ht @KI)) (aI_ (aI_ @Zw @AB) (aI_ @Az @EM))) (aI_ (aI_ (aI_ @DN @ET) (aI_ @AaD @YG)) (aI_ (aI_ @AaM @UU) (aI_ @Ab9 @Aai))))) (aI_ (aI_ (aI_ (aI_ (aI_ @YY @Xm) (aI_ @Wq @Vr)) (aI_ (aI_ @BP @Agq) (aI_ @Ab0 @Afx))) (aI_ (aI_ (aI_ @Zy @AgM) (aI_ @XA @AO)) (aI_ (aI_ @XC @Ko) (aI_ @Ag0 @AbH)))) (aI_ (aI_ (aI_ (aI_ @AiN @AeD) (aI_ @AdU @Ajp)) (aI_ (aI_ @Aej @Af6) (aI_ @AeU @Yd))) (aI_ (aI_ (aI_ @VZ @AiD) (aI_ @AiM @AlD)) (aI_ (aI_ @AhN @Ai1) (aI_ @AhP @Ahn))))))) (aI_ (aI_ (aI_ @Aep @Acw) (aI_ @AdE @Af0)) (aI_ (aI_ @AaX @Abx) @AjW)))
theorem AaF {α β:Type} {f:α→β} {l:List α} {i:Nat}:(l.map f).drop i=(l.drop i).map f:=List.map_drop.symm
theorem Aaz {α β:Type} {f:α→β} {l:List α} {i:Nat}:(l.map f).take i=(l.take i).map f:=List.map_take.symm
theorem AjZ {b:UInt8}:IntKind.i64.wrap (b.toNat:Int)=b.toNat:=EP (by omega) (by have:=b.toNat_lt; omega)
theorem Al0 {n:Nat}:IntKind.u8.wrap (n:Int)=((UInt8.ofNat n).toNat:Int):=by
 rw [IntKind.wrap_u8,UInt8.toNat_ofNat']; omega
theorem Alz {α:Type} {n i:Nat} {a:α} (h:i<n):(List.replicate n a)[i]?=some a:=by simp [h]
section
variable {a b c:Nat}
theorem Afl:(a:Int)*(b:Int)=((a*b:Nat):Int):=Aa rfl
theorem AfL (h:b≤a):(a:Int) - (b:Int)=((a - b:Nat):Int):=by omega
theorem AgU:(a:Int) / (b:Int)=((a / b:Nat):Int):=Aa rfl
theorem AeW:(a:Int) % (b:Int)=((a % b:Nat):Int):=Aa rfl
variable {t:TypeId} {k2:IntKind}
theorem AlH (h1:b≤63) (h2:a*2 ^ b≤9223372036854775807):Ei t .shl (.int .i64 (a:Int)) (.int k2 (b:Int))=some (.int .i64 ((a*2 ^ b:Nat):Int)):=by
 have e:(a:Int)*2 ^ ((b:Int).toNat)=((a*2 ^ b:Nat):Int):=by rw [Int.toNat_natCast,Int.natCast_mul,Int.natCast_pow]; rfl
 rw [Ail (by omega) (by omega) (by rw [e]; omega) (by rw [e]; omega),e]
theorem Alp (h1:b≤63):Ei t .shr (.int .i64 (a:Int)) (.int k2 (b:Int))=some (.int .i64 ((a / 2 ^ b:Nat):Int)):=by
 have e:(a:Int) / 2 ^ ((b:Int).toNat)=((a / 2 ^ b:Nat):Int):=by rw [Int.toNat_natCast,Int.natCast_ediv,Int.natCast_pow]; rfl
 rw [Ajb (by omega) (by omega) (by omega),e]
variable {k:IntKind}
theorem Ak6 (h:b≠0):Ei t .rem (.int k (a:Int)) (.int k (b:Int))=some (.int k ((a % b:Nat):Int)):=by rw [AlE (by omega) (by omega),Int.natCast_emod]
theorem Ala (h:b≠0) (h2:a≤9223372036854775807):Ei t .quo (.int .i64 (a:Int)) (.int .i64 (b:Int))=some (.int .i64 ((a / b:Nat):Int)):=by rw [Aor (by omega) (by omega) (by omega),Int.natCast_ediv]
end
theorem Au.toPureV {P:Program} {f:FuncId} {args:List TV} {R:TV→Prop} (h:Au P f args [] fun x H'=>A8 (frz H' x) R):NF P f args R :=
 Au.toPure (h.mono fun x H' hx=>by
  cases hf:frz H' x with
  | none=>rw [hf] at hx; exact hx
  | some y=>rw [hf] at hx; exact hx)
abbrev mv_ (d s:Nat):VO:=⟨some d,.p (.mov (.t s)),none⟩
abbrev po_ (d:Nat) (p:POp):VO:=⟨some d,.p p,none⟩
abbrev so_ (d:Nat) (q:SOp):VO:=⟨some d,.s q,none⟩
abbrev ci_ (n:Nat):Opd := .c (.int .i64 (n:Int))
theorem Sz {P:Program} {f:FuncId} {fn:Func} {vc:Ad} {vr:List VR} (n:Nat) (hf:P.funcs[f]?=some fn) (ht:fn.body.bind (trC P fn.ntmps)=some (er vc)) (hr:trR P fn.results.toList=some vr) (hn:fn.ntmps=n) :
  ∀ ⦃args:List TV⦄ ⦃H:List Ob⦄ ⦃R:TV→List Ob→Prop⦄,args.length≤n→vwp P vc (Vs vr R) (WU 0 args) H→Au P f args H R:=fun _ _ _ h1 h2=>Ie hf ht hr (hn▸h1) h2
theorem Ac {c c':Ad} (h:c=c'):∀ (P:Program) (Q:VEx→Env→List Ob→Prop) (e:Env) (H:List Ob),vwp P c Q e H=vwp P c' Q e H:=fun _ _ _ _=>by rw [h]
theorem Af {α:Type}:(∀ {l:List α} {i:Nat} {a:α},(l.set i a).length=l.length)∧(∀ {l m:List α},(l++m).length=l.length+m.length)∧(∀ {a:α} {l:List α},(a::l).length=l.length+1)∧([]:List α).length=0:=⟨List.length_set,List.length_append,List.length_cons,List.length_nil⟩
theorem Au.toFreshV {P:Program} {f:FuncId} {args:List TV} {R:TV→Prop} (h:Au P f args [] fun x H'=>A8 (frs H' x) R):LK P f args R :=
 Au.toFresh (h.mono fun x H' hx=>by
  cases hf:frs H' x with
  | none=>rw [hf] at hx; exact hx
  | some y=>rw [hf] at hx; exact hx)
theorem Ag3 {α:Type} {l:List α} {n:Nat} (h:l.length≤n):l.take n=l:=List.take_of_length_le h
theorem AoH {α:Type} {c:Prop} [Decidable c] {a b:α} (h:c):(if c then a else b)=a:=if_pos h
theorem AnV {α:Type} {c:Prop} [Decidable c] {a b:α} (h:¬ c):(if c then a else b)=b:=if_neg h
theorem YS {α:Type} {l:List α} {n:Nat} (h:n≤l.length):(l.take n).length=n:=by simp [h]
theorem WQ {α:Type} {l:List α} {i:Nat}:(l.drop i).take (l.length - i)=l.drop i:=List.take_of_length_le (by simp)
theorem AgG {a b:Nat}:a+b - a=b:=Nat.add_sub_cancel_left a b
theorem Af4 {α:Type} {l m:List α}:(l++m).take l.length=l:=List.take_left
theorem AfS {α:Type} {l m:List α}:(l++m).drop l.length=m:=List.drop_left
theorem Agr {a b:Nat}:a+b - b=a:=Nat.add_sub_cancel a b
def Aj:=(aI_ (aI_ (aI_ (aI_ (aI_ (aI_ (aI_ @Af4 @AfS) (aI_ @AgG @WQ)) (aI_ (aI_ @YS @List.length_drop.{0}) (aI_ @AoH @AnV))) (aI_ (aI_ (aI_ @Ag3 @Agr) (aI_ @Nat.zero_le @Dn)) (aI_ (aI_ @List.nil_append.{0} @List.length_nil.{0}) (aI_ @List.length_cons.{0} @List.cons_append.{0})))) (aI_ (aI_ (aI_ (aI_ @List.getElem?_cons_zero.{0} @List.getElem?_cons_succ.{0}) (aI_ @List.set_cons_zero.{0} @List.set_cons_succ.{0})) (aI_ (aI_ @List.map_cons.{0,0} @List.map_nil.{0,0}) (aI_ @BC @AeC))) (aI_ (aI_ (aI_ @true_and @and_true) (aI_ @List.take_zero.{0} @List.take_succ_cons.{0})) (aI_ (aI_ @List.drop_succ_cons.{0} @List.take_nil.{0}) (aI_ @List.drop_nil.{0} @Nat.zero_add))))) (aI_ (aI_ (aI_ (aI_ (aI_ @Xv @YD) (aI_ @Alm @XP)) (aI_ (aI_ @AbW @Tz) (aI_ @AmT @Y8))) (aI_ (aI_ (aI_ @AnJ @Afi) (aI_ @An9 @Ak6)) (aI_ (aI_ @Ala @Ahg) (aI_ @AdI @Ab7)))) (aI_ (aI_ (aI_ (aI_ @Abm @UK) (aI_ @VK @AdN)) (aI_ (aI_ @AbJ @AdX) (aI_ @AbV @Aco))) (aI_ (aI_ (aI_ @Bool.false_xor @Bool.true_xor) (aI_ @AoD @An5)) (aI_ (aI_ @Aot @decide_true) (aI_ @decide_false @Bool.not_true)))))) (aI_ (aI_ (aI_ (aI_ (aI_ (aI_ @Bool.not_false @not_true_eq_false) (aI_ @not_false_eq_true @Bool.false_eq_true)) (aI_ (aI_ @Bool.true_eq_false @Option.bind_some.{0,0}) (aI_ @Option.map_some.{0,0} @Bool.and_self))) (aI_ (aI_ (aI_ @and_self @Nat.sub_zero) (aI_ @Nat.mul_one @List.length_map.{0,0})) (aI_ (aI_ @Int.toNat_natCast @List.getElem?_map.{0,0}) (aI_ @Int.natCast_nonneg @List.length_append.{0})))) (aI_ (aI_ (aI_ (aI_ @List.drop_zero.{0} @AaF) (aI_ @Aaz @AfB)) (aI_ (aI_ @Af5 @Aei) (aI_ @QT @YX))) (aI_ (aI_ (aI_ @Zg @Ah4) (aI_ @List.replicate_zero.{0} @List.take_length.{0})) (aI_ (aI_ @List.length_set.{0} @List.length_replicate.{0}) (aI_ @AjZ @EP))))) (aI_ (aI_ (aI_ (aI_ @Al0 @List.set_set.{0}) (aI_ @List.getElem?_nil.{0} @Alz)) (aI_ (aI_ @Afl @AfL) (aI_ @AgU @AeW))) (aI_ @AlH @Alp))))
end
section
open Go.RowKit
variable [A7]
theorem AaZ {g:Nat} {x:GV} (h:Qe g=some x):(g,x)∈A7.l:=by
 unfold Qe at h
 obtain ⟨p,hp,rfl⟩:=Option.map_eq_some_iff.1 h
 have h1:=List.mem_of_find?_eq_some hp
 have h2:=List.find?_some hp
 have h3:p.1=g:=by simpa using h2
 obtain ⟨a,b⟩:=p
 simp only at h3; subst h3; exact h1
section
omit [A7]
theorem Ajf {P:Program} {w:World} {name:String} {g:Nat} {cs:Array Value} (hg:P.globalNamed name=some g) (h:w.var? P name=some cs):∃ t fr,w.heap[g]?=some (.cells cs t fr):=by
 unfold World.var? at h
 rw [hg,Option.bind_some] at h
 split at h
 ·rename_i c t fr hh; cases h; exact ⟨t,fr,hh⟩
 ·cases h
variable {P:Program} {w:World} {fuel:Nat} {cs:List Value}
end
end
section
open Go.RowKit Go.WideShapes Go.ChangeShapes
variable [A7]
set_option autoImplicit false
def came (w:World):Ctx:=⟨fun _ _=>none,[],fun b=>b<w.heap.size⟩
def LV (P:Program) (t:TypeId) {α:Type} (f:α→TV) (ok:α→Prop):Prop :=
 ∀ {H:Type} (enc:TypeId×Value→H) (w:World) (fuel:Nat) (cs:List Value) (d:DataW H) (ps:List MemPlace),DataW.trod enc P w 0 (fun _=>true) true fuel t cs=some (d,ps)→(d.weights P t).all (· ≤ reachBytes)=true→∃ a,Ag (came w) w (f a) cs∧ok a
theorem XK {α β:Type} {f:α→Option β}:∀ {l:List α} {xs:List β},l.mapM f=some xs→xs.length=l.length∧∀ (i:Nat) a,l[i]?=some a→∃ x,xs[i]?=some x∧f a=some x
 | [],xs,h=>by simp at h; subst h; simp
 | a::l,xs,h=>by
  rw [List.mapM_cons] at h
  cases hf:f a with
  | none=>rw [hf] at h; cases h
  | some y =>
   rw [hf] at h
   cases hl:l.mapM f with
   | none=>rw [hl] at h; cases h
   | some ys =>
    rw [hl] at h
    have e:xs=y::ys:=by simpa using h.symm
    subst e
    obtain ⟨h1,h2⟩:=XK hl
    refine ⟨by simp [h1],fun i b hb => ?_⟩
    cases i with
    | zero=>simp at hb; subst hb; exact ⟨y,by simp,hf⟩
    | succ i=>simpa using h2 i b (by simpa using hb)
theorem Tf {β:Type} {f:Nat→Option β} {n:Nat} {xs:List β} (h:(List.range n).mapM f=some xs):xs.length=n∧∀ i,i<n→∃ x,xs[i]?=some x∧f i=some x:=by
 obtain ⟨h1,h2⟩:=XK h
 exact ⟨by simpa using h1,fun i hi=>h2 i i (by simp [hi])⟩
section
variable {P:Program} {t e:TypeId}
theorem Xi {H:Type} {enc:TypeId×Value→H} {w:World} {fuel:Nat} {cs:List Value} {x:DataW H×List MemPlace} (h:DataW.trod enc P w 0 (fun _=>true) true fuel t cs=some x):∃ n,fuel=n+1:=by
 cases fuel with
 | zero=>simp [DataW.trod] at h
 | succ n=>exact ⟨n,rfl⟩
theorem VJ {k:IntKind} (ht:P.underlying t=some (.int k)):LV P t (fun n => .val (.int k n)) (fun n=>(Lit.int k n).wf=true):=by
 intro H enc w fuel cs d ps h _
 obtain ⟨n,rfl⟩:=Xi h
 unfold DataW.trod at h; rw [ht] at h
 split at h<;>rename_i h1<;>try (simp at h1; done)
 all_goals try (cases h; done)
 all_goals try (simp only [Option.some.injEq,TypeDesc.int.injEq] at h1)
 all_goals first
  | (subst h1; split at h; (rename_i hc; obtain ⟨rfl,hw⟩:=hc; cases h; exact ⟨_,by rw [Ag]; exact ⟨rfl,rfl⟩,hw⟩); cases h)
  | (simp at h1; done)
  | (simp at h; done)
end
theorem Qj {H:Type} {P:Program} {e:TypeId} {d:DataW H} {n:Nat} (hn:n∈d.weights P e):∀ {ds:List (DataW H)},d∈ds→n∈DataW.weightsAll P e ds
 | d0::ds,h=>by
  simp only [DataW.weightsAll,List.mem_append]
  rcases List.mem_cons.1 h with rfl | h
  ·exact Or.inl hn
  ·exact Or.inr (Qj hn h)
theorem Ju {l m:List Nat} (h:m.all (· ≤ reachBytes)=true) (hs:∀ n∈l,n∈m):l.all (· ≤ reachBytes)=true:=List.all_eq_true.2 fun n hn=>List.all_eq_true.1 h n (hs n hn)
theorem AhG (a:Addr) (i j:Nat):(a.add i).add j=a.add (i+j):=by
 unfold Addr.add
 by_cases h1:i=0<;>by_cases h2:j=0<;>simp [h1,h2,Nat.add_assoc]
theorem AfR (b off i:Nat):(⟨b,off,none⟩:Addr).add i=⟨b,off+i,none⟩:=by
 unfold Addr.add
 by_cases h1:i=0<;>simp [h1]
theorem Aa1 {w:World} {a:Addr} {n:Nat} {us:List Value} (h:w.cells? 0 a n=some us):us.length=n∧∀ i,i<n→∃ u,us[i]?=some u∧w.cell? (a.add i)=some u:=by
 unfold World.cells? at h
 rw [if_pos (Nat.zero_le _)] at h
 exact Tf h
theorem XV {α:Type} {f:α→TV} {ok:α→Prop} {k:Nat} (hw:∀ a,ok a→Aw (f a)=k) {w:World} {b off:Nat}:∀ (n i0:Nat),(∀ i,i<n→∃ us a,Ag (came w) w (f a) us∧ok a∧us.length=k∧Cc w b (off+(i0+i)*k) us) →
  ∃ (l:List α) (us:List Value),l.length=n∧(∀ a∈l,ok a)∧Ah (came w) w (l.map f) us∧us.length=n*k∧Cc w b (off+i0*k) us
 | 0,i0,_=>⟨[],[],rfl,by simp,by rw [List.map_nil,Ah],by simp,fun j u h=>by simp at h⟩
 | n+1,i0,h=>by
  obtain ⟨us,a,h1,h2,h3,h4⟩:=h 0 (by omega)
  obtain ⟨l,vs,k1,k2,k3,k4,k5⟩:=XV hw n (i0+1) (fun i hi=>by
   obtain ⟨us,a,h1,h2,h3,h4⟩:=h (i+1) (by omega)
   exact ⟨us,a,h1,h2,h3,by rw [show i0+1+i=i0+(i+1) from by omega]; exact h4⟩)
  refine ⟨a::l,us++vs,by simp [k1],fun c hc => ?_,?_,?_,?_⟩
  ·rcases List.mem_cons.1 hc with rfl | hc
   ·exact h2
   ·exact k2 c hc
  ·rw [List.map_cons,Ah]; exact ⟨us,vs,rfl,h1,k3⟩
  ·rw [List.length_append,h3,k4,Nat.succ_mul,Nat.add_comm]
  ·intro j u hj
   by_cases hjk:j<k
   ·rw [List.getElem?_append_left (by omega)] at hj
    have:=h4 j u hj
    rwa [Nat.add_zero] at this
   ·rw [List.getElem?_append_right (by omega),h3] at hj
    have:=k5 (j - k) u hj
    rw [show off+(i0+1)*k+(j - k)=off+i0*k+j from by rw [Nat.succ_mul]; omega] at this
    exact this
section
variable {P:Program} {t e:TypeId} {α:Type} {f:α→TV} {ok:α→Prop} {k B:Nat}
theorem Uc (ht:P.underlying t=some (.slice e)) (hk:P.cellsOf e=k) (hB:P.bytesOf e=B) (hc:LV P e f ok) (hw:∀ a,ok a→Aw (f a)=k) (h0:k≠0) :
  LV P t (fun l:List α => .sl k (l.map f)) (fun l=>(∀ a∈l,ok a)∧l.length*B≤140737488351232∧l.length≤9223372036854775807):=by
 intro H enc w fuel cs d ps h hwt
 obtain ⟨n,rfl⟩:=Xi h
 unfold DataW.trod at h; rw [ht] at h
 split at h<;>rename_i h1<;>try (simp at h1; done)
 all_goals first
  | (simp at h; done)
  | skip
 ·cases h
  refine ⟨[],?_,by simp,by simp,by simp⟩
  rw [Ag]; exact ⟨by simp,.inl ⟨rfl,none,0,rfl,by omega⟩⟩
 ·rename_i a len cap
  simp only [Option.some.injEq,TypeDesc.slice.injEq] at h1
  subst h1
  split at h
  ·rename_i hcond
   obtain ⟨-,hlc,hcm⟩:=hcond
   rw [Option.bind_eq_some_iff] at h
   obtain ⟨elems,he,h⟩:=h
   rw [if_pos rfl,Option.map_eq_some_iff] at h
   obtain ⟨rest,hr,h⟩:=h
   simp only [Prod.mk.injEq] at h
   obtain ⟨rfl,rfl⟩:=h
   obtain ⟨e1,e2⟩:=Tf he
   obtain ⟨r1,_⟩:=Tf hr
   unfold maxLen at hcm
   simp only [DataW.weights,ht,List.all_cons,Bool.and_eq_true,decide_eq_true_eq,reachBytes,List.length_map,e1,r1,hB] at hwt
   have hcapB:cap*B≤140737488351232:=by have:=of_decide_eq_true hwt.1; rwa [Nat.add_sub_cancel' hlc] at this
   have hlen:len*B≤140737488351232:=Nat.le_trans (Nat.mul_le_mul_right _ hlc) hcapB
   have hwe:(DataW.weightsAll P e (elems.map (·.1))).all (· ≤ reachBytes)=true:=Ju (m:=DataW.weightsAll P e (elems.map (·.1))++DataW.weightsAll P e (rest.map (·.1))) hwt.2 (fun n hn=>List.mem_append_left _ hn)
   obtain ⟨b,off,spot⟩:=a
   have key:∀ i,i<len→∃ us a,Ag (came w) w (f a) us∧ok a∧us.length=k∧(∀ j u,us[j]?=some u→w.cell? ((⟨b,off,spot⟩:Addr).add (i*k+j))=some u):=by
    intro i hi
    obtain ⟨x,hx,hxe⟩:=e2 i hi
    rw [Option.bind_eq_some_iff] at hxe
    obtain ⟨us,hus,htr⟩:=hxe
    rw [hk] at hus
    obtain ⟨c1,c2⟩:=Aa1 hus
    obtain ⟨a,ha,hok⟩:=hc enc w n us x.1 x.2 htr (Ju hwe fun m hm=>Qj hm (List.mem_map.2 ⟨x,List.mem_of_getElem? hx,rfl⟩))
    refine ⟨us,a,ha,hok,c1,fun j u hj => ?_⟩
    have hjk:j<k:=by rw [←c1]; exact (List.getElem?_eq_some_iff.1 hj).1
    obtain ⟨u',hu',hcu⟩:=c2 j hjk
    rw [hj] at hu'; cases hu'
    rw [AhG] at hcu
    exact hcu
   by_cases hl0:len=0
   ·subst hl0
    refine ⟨[],?_,by simp,by simp,by simp⟩
    rw [Ag]; exact ⟨by simp,.inl ⟨rfl,_,cap,rfl,hcm⟩⟩
   ·have hsp:spot=none:=by
     obtain ⟨us,a,_,_,c1,c2⟩:=key 0 (by omega)
     have hu:us[0]?=some us[0]:=List.getElem?_eq_getElem (by omega)
     have:=c2 0 _ hu
     simpa [Addr.add] using World.cell?_spot this
    subst hsp
    obtain ⟨l,us,l1,l2,l3,l4,l5⟩:=XV (f:=f) (ok:=ok) hw (w:=w) (b:=b) (off:=off) len 0 (fun i hi=>by
     obtain ⟨us,a,h1,h2,h3,h4⟩:=key i hi
     refine ⟨us,a,h1,h2,h3,fun j u hj => ?_⟩
     have:=h4 j u hj
     rw [AfR] at this
     rw [Nat.zero_add,Nat.add_assoc]; exact this)
    refine ⟨l,?_,l2,by rw [l1]; exact hlen,by omega⟩
    rw [Ag]
    refine ⟨fun x hx => ?_,.inr ⟨b,off,cap,us,by rw [List.length_map,l1],by rw [List.length_map,l1]; exact hlc,hcm,?_,l3,by simpa using l5⟩⟩
    ·obtain ⟨a,ha,rfl⟩:=List.mem_map.1 hx; exact hw a (l2 a ha)
    ·have hus:0<us.length:=by rw [l4]; exact Nat.mul_pos (by omega) (by omega)
     exact Ait (l5 0 us[0] (List.getElem?_eq_getElem hus))
  ·cases h
end
section
variable {P:Program} {t e:TypeId} {α:Type} {f:α→TV} {ok:α→Prop} {k:Nat}
theorem Nh {β:Type} {g:β→TV} {ok':β→Prop} (h:LV P t f ok) (hm:∀ a,ok a→∃ b,f a=g b∧ok' b):LV P t g ok':=by
 intro H enc w fuel cs d ps h1 h2
 obtain ⟨a,h3,h4⟩:=h enc w fuel cs d ps h1 h2
 obtain ⟨b,h5,h6⟩:=hm a h4
 exact ⟨b,by rw [←h5]; exact h3,h6⟩
theorem Ado (ht:P.underlying t=some (.int .u8)):LV P t by8 (fun _=>True) :=
 Nh (VJ ht) fun n h=>by
  have:=bounds_u8 h
  refine ⟨UInt8.ofNat n.toNat,?_,trivial⟩
  rw [by8,UInt8.toNat_ofNat',Nat.mod_eq_of_lt (by omega)]
  congr 2; omega
theorem VF (ht:P.underlying t=some (.int .i64)):LV P t i64 (fun n => -9223372036854775808≤n∧n≤9223372036854775807) :=
 Nh (VJ ht) fun n h=>⟨n,rfl,by have:=bounds_i64 h; omega⟩
theorem Py (ht:P.underlying t=some (.slice e)) (he:P.underlying e=some (.int .u8)) (hk:P.cellsOf e=1) (hB:P.bytesOf e=1):LV P t slB (fun l=>l.length≤140737488351232) :=
 Nh (Uc ht hk hB (Ado he) (fun _ _=>rfl) (by omega)) fun l h=>⟨l,rfl,by have:=h.2; omega⟩
end
def WP (P:Program) (off:Nat) (fs:List Field) {α:Type} (f:α→List TV) (ok:α→Prop):Prop :=
 ∀ {H:Type} (enc:TypeId×Value→H) (w:World) (fuel:Nat) (cs:List Value) (xs:List (DataW H×List MemPlace)),(fs.mapM fun fd=>DataW.trod enc P w 0 (fun _=>true) true fuel fd.type ((cs.drop fd.offset).take (P.cellsOf fd.type)))=some xs→(DataW.weightsEach P (fs.map (·.type)) (xs.map (·.1))).all (· ≤ reachBytes)=true →
  cs.length=off+(fs.map fun fd=>P.cellsOf fd.type).sum→∃ a,Ah (came w) w (f a) (cs.drop off)∧ok a
theorem YO {P:Program} {off:Nat}:WP P off [] (fun _:Unit=>[]) (fun _=>True):=by
 intro H enc w fuel cs xs _ _ hl
 refine ⟨(),?_,trivial⟩
 rw [Ah]; exact List.drop_eq_nil_of_le (by simp at hl; omega)
theorem OQ {P:Program} {off n:Nat} {fd:Field} {fs:List Field} {α β:Type} {f:α→TV} {ok:α→Prop} {g:β→List TV} {ok':β→Prop} (h0:fd.offset=off) (hn:P.cellsOf fd.type=n) (hc:LV P fd.type f ok) (hr:WP P (off+n) fs g ok') :
  WP P off (fd::fs) (fun x:α×β=>f x.1::g x.2) (fun x=>ok x.1∧ok' x.2):=by
 intro H enc w fuel cs xs hx hw hl
 rw [List.mapM_cons] at hx
 cases h1:DataW.trod enc P w 0 (fun _=>true) true fuel fd.type ((cs.drop fd.offset).take (P.cellsOf fd.type)) with
 | none=>rw [h1] at hx; cases hx
 | some y =>
  rw [h1] at hx
  cases h2:(fs.mapM fun fd=>DataW.trod enc P w 0 (fun _=>true) true fuel fd.type ((cs.drop fd.offset).take (P.cellsOf fd.type))) with
  | none=>rw [h2] at hx; cases hx
  | some ys =>
   rw [h2] at hx
   have e:xs=y::ys:=by simpa using hx.symm
   subst e
   simp only [List.map_cons,DataW.weightsEach] at hw
   obtain ⟨a,ha,hoka⟩:=hc enc w fuel _ y.1 y.2 h1 (Ju hw fun n hn=>List.mem_append_left _ hn)
   obtain ⟨b,hb,hokb⟩:=hr enc w fuel cs ys h2 (Ju hw fun n hn=>List.mem_append_right _ hn) (by simp [hn] at hl ⊢; omega)
   refine ⟨(a,b),?_,hoka,hokb⟩
   rw [Ah]
   refine ⟨(cs.drop off).take n,cs.drop (off+n),?_,by rw [←h0,←hn]; exact ha,hb⟩
   rw [←List.drop_drop,List.take_append_drop]
theorem WY {P:Program} {t:TypeId} {fs:Array Field} {α:Type} {f:α→List TV} {ok:α→Prop} (ht:P.underlying t=some (.struct fs)) (hn:P.cellsOf t=(fs.toList.map fun fd=>P.cellsOf fd.type).sum) (hc:WP P 0 fs.toList f ok) :
  LV P t (fun a => .agg (f a)) ok:=by
 intro H enc w fuel cs d ps h hwt
 obtain ⟨m,rfl⟩:=Xi h
 unfold DataW.trod at h; rw [ht] at h
 split at h<;>rename_i h1<;>try (simp at h1; done)
 all_goals first
  | (simp at h; done)
  | exact ((‹∀ (fs_1:Array Field),some (TypeDesc.struct fs)=some (TypeDesc.struct fs_1)→False› : ∀ (fs_1:Array Field),some (TypeDesc.struct fs)=some (TypeDesc.struct fs_1)→False) fs rfl).elim
  | skip
 cases h1
 split at h
 ·rename_i hlen
  rw [Option.map_eq_some_iff] at h
  obtain ⟨xs,hx,h⟩:=h
  simp only [Prod.mk.injEq] at h
  obtain ⟨rfl,rfl⟩:=h
  simp only [DataW.weights,ht] at hwt
  obtain ⟨a,ha,hok⟩:=hc enc w m _ xs hx hwt (by rw [hlen,hn,Nat.zero_add])
  exact ⟨a,by rw [Ag]; rw [List.drop_zero] at ha; exact ha,hok⟩
 ·cases h
def Rt (P:Program) (ts:List TypeId) {α:Type} (f:α→List TV) (ok:α→Prop):Prop :=
 ∀ {H:Type} (enc:TypeId×Value→H) (w:World) (vs:List Value) (ds:List (DataW H)) (ps:List MemPlace),DataW.TrodAll enc P w 0 (fun _=>true) true ts vs ds ps→(∀ (j:Nat) t v,ts[j]?=some t→vs[j]?=some v→∃ base,Value.okWide P w .any base t v)→(DataW.weightsEach P ts ds).all (· ≤ reachBytes)=true→∃ a,AY (came w) w (f a) vs∧ok a
theorem Wu {P:Program}:Rt P [] (fun _:Unit=>[]) (fun _=>True):=by
 intro H enc w vs ds ps h _ _
 obtain ⟨rfl,rfl,rfl⟩:=trodAll_nil h
 exact ⟨(),by rw [AY],trivial⟩
def AcR (P:Program) (t:TypeId) (b:Bool):Prop:=∀ w base v,Value.okWide P w .any base t v→if b then ∃ cs,v = .agg cs else v.cells = #[v]
theorem O4 {P:Program} {t e:TypeId} (ht:P.underlying t=some (.slice e)):AcR P t false:=fun w _ v h=>by obtain ⟨_,_,_,rfl⟩:=okWide_slice ht h; rfl
theorem Adt {c:Ctx} {P:Program} {w:World} {t:TypeId} {v:Value} {x:TV} {b:Bool} (hf:AcR P t b) {base:Nat} (hv:Value.okWide P w .any base t v) (hx:Uf x=b):v=mkV x v.cells.toList:=by
 have h:=hf w base v hv
 cases b with
 | true =>
  simp only [if_true] at h
  obtain ⟨cs,rfl⟩:=h
  rw [ZW hx]; simp [Value.cells]
 | false =>
  simp only [Bool.false_eq_true,if_false] at h
  rw [h]
  exact (Uu hx).symm
theorem KQ {P:Program} {t:TypeId} {ts:List TypeId} {α β:Type} {f:α→TV} {ok:α→Prop} {g:β→List TV} {ok':β→Prop} {b:Bool} (hc:LV P t f ok) (hf:AcR P t b) (hm:∀ a,Uf (f a)=b) (hr:Rt P ts g ok') :
  Rt P (t::ts) (fun x:α×β=>f x.1::g x.2) (fun x=>ok x.1∧ok' x.2):=by
 intro H enc w vs ds ps h hv hw
 obtain ⟨v,vs',d,ds',p,q,rfl,rfl,rfl,h0,r0⟩:=trodAll_cons h
 simp only [DataW.weightsEach] at hw
 obtain ⟨fuel,hfu⟩:=h0
 obtain ⟨a,ha,hoka⟩:=hc enc w fuel _ d p hfu (Ju hw fun n hn=>List.mem_append_left _ hn)
 obtain ⟨b,hb,hokb⟩:=hr enc w vs' ds' q r0 (fun j t v h1 h2=>hv (j+1) t v (by simpa using h1) (by simpa using h2)) (Ju hw fun n hn=>List.mem_append_right _ hn)
 refine ⟨(a,b),AY.cons.2 ⟨v,vs',rfl,.inr (.inr ⟨v.cells.toList,ha,Adt (c:=came w) hf (hv 0 t v rfl rfl).choose_spec (hm a)⟩),hb⟩,hoka,hokb⟩
theorem RN {H:Type} {enc:TypeId×Value→H} {P:Program} (hl:laidOutB P=true) {W W':World} (hb:Below W.heap.size W W'):∀ {ts:List TypeId} {vs:List Value} {ds:List (DataW H)} {ps:List MemPlace},(ts.all fun t=>P.readableRec t && decide (t<P.types.size))=true →
  DataW.TrodAll enc P W 0 (fun _=>true) true ts vs ds ps→DataW.TrodAll enc P W' 0 (fun b=>decide (b<W.heap.size)) true ts vs ds ps
 | [],vs,ds,ps,_,h=>by
  obtain ⟨rfl,rfl,rfl⟩:=trodAll_nil h
  exact trodAll_mk0
 | t::ts,vs,ds,ps,hr,h=>by
  obtain ⟨v,vs',d,ds',p,q,rfl,rfl,rfl,h0,r0⟩:=trodAll_cons h
  simp only [List.all_cons,Bool.and_eq_true,decide_eq_true_eq] at hr
  refine trodAll_cons_mk (Below.trod hl hr.1.1 hr.1.2 h0 hb ?_) (RN hl hb (by simpa using hr.2) r0)
  obtain ⟨m,hm⟩:=h0
  exact DataW.trod_lt m _ _ _ hm
theorem MS.below {F F':Nat→Prop} {w w':World} (h:MS F w F' w'):Below w.heap.size w w':=⟨h.os,h.tape,h.output,h.size,fun k hk=>h.same k hk⟩
theorem Akf {P:Program} {f:FuncId} {ts:List TypeId} {α:Type} {g:α→List TV} {ok:α→Prop} (hc:Rt P ts g ok) (hlaw:∀ a,ok a→NF P f (g a) (fun x=>x=tb true)) {H:Type} {enc:TypeId×Value→H} {w:World} {args:Array Value} {ds:List (DataW H)} {ps:List MemPlace}
  (h:DataW.TrodAll enc P w 0 (fun _=>true) true ts args.toList ds ps) (hv:∀ (j:Nat) t v,ts[j]?=some t→args.toList[j]?=some v→∃ base,Value.okWide P w .any base t v) (hw:(DataW.weightsEach P ts ds).all (· ≤ reachBytes)=true) (hg:MB (fun b=>b<w.heap.size) w) :
  Calls P f args w fun e w'=>e = .returned (.bool true)∧Below w.heap.size w w':=by
 obtain ⟨a,ha,hok⟩:=hc enc w args.toList ds ps h hv hw
 have:=hlaw a hok (fun _ _=>none) (fun b=>b<w.heap.size) w args.toList ⟨fun b h=>h,hg⟩ ha
 rw [Array.toArray_toList] at this
 refine this.mono ?_
 rintro e w' ⟨v,x,F',rfl,rfl,hx,hst⟩
 rw [Rep.val] at hx
 exact ⟨by rw [hx],hst.below⟩
end
section
open Go.RowKit Go.Sort
variable [A7]
def cfR (rank:Nat→Int) (k n x y:Nat):Int:=if rank x - rank y≠0∨k=0 then rank x - rank y else (if x+k<n then rank (x+k) else -1) - (if y+k<n then rank (y+k) else -1)
theorem AeX {a b:Int} (h:a=b):Ending.returned (.int .i64 a) = .returned (.int .i64 b):=by rw [h]
set_option maxHeartbeats 4000000 in
set_option maxRecDepth 100000 in
theorem Rk {rank:Nat→Int} {k n x y:Nat} (hr:∀ j,-1000000≤rank j∧rank j≤1000000) (hk:k≤1000000) (hn:n≤1000000) (hx:x<n) (hy:y<n) {pr pk pn:Addr} {bb oo cap:Nat} {w:World}
  (h1:w.cell? pr=some (.slice (some ⟨bb,oo,none⟩) n cap)) (h2:w.cell? pk=some (.int .i64 (k:Int))) (h3:w.cell? pn=some (.int .i64 (n:Int))) (h4:∀ j,j<n→w.cell? ⟨bb,oo+j,none⟩=some (.int .i64 (rank j))) :
  Calls Tryd.prog 35 #[.int .i64 (x:Int),.int .i64 (y:Int),.pointer (some pr),.pointer (some pk),.pointer (some pn)] w fun e w'=>e = .returned (.int .i64 (cfR rank k n x y))∧∃ q os',w'=grow (w.drewN q) os':=by
 have hx4:=h4 x hx
 have hy4:=h4 y hy
 have hrx:=hr x
 have hry:=hr y
 go_enter Tryd.func35,Tryd.ntmps35
 go_wp2
 go_quiet (fail)
 go_wp2
 all_goals go_ret
 all_goals refine ⟨AeX ?_,nq,#[],by rw [grow_empty]⟩
 all_goals have hxk:=hr (x+k)
 all_goals have hyk:=hr (y+k)
 all_goals try simp only [beq_iff_eq,beq_eq_false_iff_ne,ne_eq] at *
 all_goals try unfold wrap64
 all_goals unfold cfR
 all_goals (repeat' split)<;>omega
end
section
open Go.RowKit Go.Sort Go.Shelf
variable [A7]
def UE {M:Nat} (x:Fin (M+1)):Value := .int .i64 (x.val:Int)
def Ag6 {M:Nat} (x:Fin (M+1)):TV:=i64 (x.val:Int)
theorem AgJ {M off:Nat} {pre post:List Value} {d s:List (Fin (M+1))} (h1:pre.length=off) (h2:s.length=d.length):putCells UE off s.toArray (pre++d.map UE++post).toArray=(pre++s.map UE++post).toArray:=by
 apply Array.ext_getElem?
 intro t
 simp only [putCells,Array.getElem?_mapIdx,List.getElem?_toArray,List.size_toArray]
 by_cases ha:t<off
 ·rw [List.append_assoc,List.append_assoc,List.getElem?_append_left (by omega),List.getElem?_append_left (by omega)]
  cases pre[t]? with
  | none=>rfl
  | some y=>simp [show ¬ (off≤t) by omega]
 ·obtain ⟨u,rfl⟩:∃ u,t=off+u:=⟨t - off,by omega⟩
  have A:∀ m:List Value,(pre++(m++post))[off+u]?=(m++post)[u]?:=fun m=>by rw [List.getElem?_append_right (by omega),h1,Nat.add_sub_cancel_left]
  rw [List.append_assoc,List.append_assoc,A,A]
  by_cases hb:u<d.length
  ·have hs:u<s.length:=by omega
   rw [List.getElem?_append_left (by simpa using hb),List.getElem?_append_left (by simpa using hs),List.getElem?_eq_getElem (by simpa using hb),List.getElem?_eq_getElem (by simpa using hs)]
   simp [hs]
  ·rw [List.getElem?_append_right (by simp; omega),List.getElem?_append_right (by simp; omega),List.length_map,List.length_map,h2]
   cases post[u - d.length]? with
   | none=>rfl
   | some y=>simp [hb]
theorem YB {P:Program} {ρ:Ren} (L:SlLaysF.n6 P ρ) {M:Nat} {cf:Fin (M+1)→Fin (M+1)→Int} (hO:SWO (ltOf cf)) {g:Nat} (eg:∀ args w,(callFunc g args).run P w = .ok (.enter g args) w)
  {id ver A cp:Nat} {d:List (Fin (M+1))} {fT:TV} {H:List Ob} {K:TV→List Ob→Prop}
  (hf:∀ β F w v,Sim ⟨β,H,F⟩ w→AaL ⟨β,H,F⟩ w fT v→∃ cb,v = .func (.func g) #[] cb∧∀ b o,β id ver=some (b,o)→∀ off size,CmpLays1 P g cb UE cf b off size w)
  (hid:H[id]?=some (.obj ver (.arr A 1 (d.map Ag6)))) (hd0:d≠[]) (hb:d.length<4611686018427387904)
  (hK:∀ s:List (Fin (M+1)),s.Perm d→s.Pairwise (fun x y=>ltOf cf y x=false)→K (.tup []) (H.set id (.obj ver (.arr A 1 (s.map Ag6))))):Au P (ρ.f 6) [.os 1 id ver [] 0 d.length cp,fT] H K:=by
 have hr:∀ (c:Ctx) (w:World) (x:Fin (M+1)) (us:List Value),Ag c w (Ag6 x) us↔us=[UE x]:=fun c w x us=>by
  unfold Ag6 UE
  rw [Ag]
  exact ⟨fun h=>h.1,fun h=>⟨h,rfl⟩⟩
 intro β F w vs hs hv
 obtain ⟨u,us,rfl,h2,h3⟩:=AY.cons.1 hv
 obtain ⟨u2,us2,rfl,h4,h5⟩:=AY.cons.1 h3
 rw [AY.nil] at h5; subst h5
 obtain ⟨cb,rfl,hcmp⟩:=hf β F w u2 hs h4
 rcases h2 with h | h | ⟨ux,h2,rfl⟩
 ·cases h
 ·cases h
 have hn0:d.length≠0:=fun h=>hd0 (List.length_eq_zero_iff.1 h)
 rw [Ag] at h2
 rcases h2.2 with ⟨e,_⟩ | ⟨b,o,cap,t,m,hb1,rfl,hb2,hb3,hb4,hb5,hb6⟩
 ·exact absurd e hn0
 rcases hs.ob id _ hid with ⟨k0,_⟩ | ⟨b',off',pre,vs,post,t',fr,k1,k2,k3,k4,k5⟩
 ·have k0':β id ver=none:=k0
  have hb1':β id ver=some (b,o):=hb1
  rw [k0'] at hb1'; cases hb1'
 have hb1':β id ver=some (b,o):=hb1
 have k1':β id ver=some (b',off'):=k1
 rw [k1'] at hb1'
 obtain ⟨rfl,rfl⟩:b'=b∧off'=o:=by simpa using hb1'
 rw [Ag] at k5
 obtain ⟨c1,c2,c3⟩:=k5
 have hmap:∀ (l:List (Fin (M+1))) us,Ah (Ctx.bare ⟨β,H,F⟩) w (l.map Ag6) us↔us=l.map UE:=by
  intro l
  induction l with
  | nil=>intro us; rw [List.map_nil,Ah]; rfl
  | cons x l ih =>
   intro us
   rw [List.map_cons,Ah,List.map_cons]
   constructor
   ·rintro ⟨a,b,rfl,e1,e2⟩; rw [(hr _ _ _ _).1 e1,(ih _).1 e2]; rfl
   ·rintro rfl; exact ⟨_,_,rfl,(hr _ _ _ _).2 rfl,(ih _).2 rfl⟩
 rw [hmap] at c3
 subst c3
 have hlt:b'<w.heap.size:=(Array.getElem?_eq_some_iff.1 k2).1
 have hH:Holds UE w b' off' d.toArray:=by
  intro j hj
  have hj':j<d.length:=by simpa using hj
  have e1:(d.toArray[j]!)=d[j]:=by rw [getElem!_pos _ j hj]; simp
  rw [e1]
  constructor
  ·rw [cell_of_row w b' _ _ _ _ k2]
   simp only [List.getElem?_toArray]
   rw [List.append_assoc,List.getElem?_append_right (by omega),k4,Nat.add_sub_cancel_left,List.getElem?_append_left (by simpa using hj'),List.getElem?_map,List.getElem?_eq_getElem hj']
   rfl
  ·simp only [World.frozen?,k2]
   have:=k3.2 (off'+j) (by simp only [List.length_append,List.length_map]; omega)
   simpa using this
 have hsz:d.toArray.size<4611686018427387904:=by simp; omega
 have hS:=Any.slices_SortFunc_eq L UE (fun x=>rfl) cf hO g cb b' off' cap d.toArray w eg (hcmp b' off' k1' _ _) hH hlt hsz
 have hz:(off'+C9 []+0*1)=off':=by simp [C9]
 rw [hz]
 have hz2:d.length=d.toArray.size:=by simp
 rw [hz2]
 refine hS.mono ?_
 rintro _ w' ⟨rfl,q,os,rfl⟩
 have hsort:=pdq_sorts (ltOf cf) hO d.toArray 0 d.toArray.size (Lib.bitLen d.toArray.size) true true (Nat.zero_le _) (Nat.le_refl _) (Or.inl rfl)
 generalize pdq (ltOf cf) d.toArray 0 d.toArray.size (Lib.bitLen d.toArray.size) true true=r at *
 obtain ⟨⟨p1,_,p3⟩,p2⟩:=hsort
 obtain ⟨s,rfl⟩:∃ s:List (Fin (M+1)),r=s.toArray:=⟨r.toList,(Array.toArray_toList).symm⟩
 have hsl:s.length=d.length:=by simpa using p1
 have hperm:s.Perm d:=by
  have e1:s.toArray.extract 0 d.toArray.size=s.toArray:=by rw [←p1]; simp
  have e2:d.toArray.extract 0 d.toArray.size=d.toArray:=by simp
  rw [e1,e2] at p3; simpa using p3
 have hpw:s.Pairwise (fun x y=>ltOf cf y x=false):=by
  rw [List.pairwise_iff_getElem]
  intro i j hi hj hij
  have:=p2 i j (Nat.zero_le _) hij (by simp; omega)
  rw [getElem!_pos s.toArray j (by simpa using hj),getElem!_pos s.toArray i (by simpa using hi)] at this
  simpa using this
 clear p1 p2 p3
 have hw1:(sortWorld UE w b' off' q s.toArray os).heap[b']?=some (.cells (pre++s.map UE++post).toArray t' fr):=by
  show ((w.heap.modify b' (onCells (putCells UE off' s.toArray)))++os)[b']?=_
  rw [Array.getElem?_append,if_pos (by simpa using hlt),Array.getElem?_modify,if_pos rfl,k2]
  simp only [Option.map_some,onCells]
  rw [AgJ k4 hsl]
 have hw2:∀ b2,b2<w.heap.size→b2≠b'→(sortWorld UE w b' off' q s.toArray os).heap[b2]?=w.heap[b2]?:=by
  intro b2 hb2 hne
  show ((w.heap.modify b' (onCells (putCells UE off' s.toArray)))++os)[b2]?=_
  rw [Array.getElem?_append,if_pos (by simpa using hb2),Array.getElem?_modify,if_neg (Ne.symm hne)]
 generalize hgen:sortWorld UE w b' off' q s.toArray os=w2 at hw1 hw2 ⊢
 have o1:w2.os=w.os∧w2.tape=w.tape∧w2.output=w.output∧w.heap.size≤w2.heap.size:=by
  rw [←hgen]
  refine ⟨rfl,rfl,rfl,?_⟩
  simp [sortWorld,putRow,mapBlock,Sort.ahead,grow]
 have hK:=hK s hperm hpw
 obtain ⟨t1,t2⟩:=hs.turn (β':=β) (o' := .obj ver (.arr A 1 (s.map Ag6))) (w':=w2) hid rfl rfl (Nat.le_refl _) (fun _ _ _=>rfl) (fun b1 off e => .inl ⟨off,e⟩) o1.1 o1.2.1 o1.2.2.1 o1.2.2.2
  (fun b1 hb1=>by
   by_cases e:b1=b'
   ·subst e
    simp only [World.shape?,hw1,k2]
    simp only [List.size_toArray,List.length_append,List.length_map]
    rw [hsl]
   ·exact Bh (hw2 b1 hb1 e))
  (fun b1 hb1 hne=>hw2 b1 hb1 fun e=>hne off' (e▸k1'))
  (fun hm => .inr ⟨b',off',pre,s.map UE,post,t',fr,k1,hw1,by
   have:(pre++s.map UE++post).length=(pre++d.map UE++post).length:=by simp only [List.length_append,List.length_map,hsl]
   rw [this]; exact k3,k4,by
   rw [Ag]
   refine ⟨by rw [List.length_map,hsl,←c1,List.length_map],fun x hx => ?_,?_⟩
   ·obtain ⟨y,_,rfl⟩:=List.mem_map.1 hx; rfl
   ·have:∀ (c:Ctx) (l:List (Fin (M+1))),Ah c w2 (l.map Ag6) (l.map UE):=by
     intro c l
     induction l with
     | nil=>rw [List.map_nil,Ah]; rfl
     | cons x l ih=>rw [List.map_cons,Ah,List.map_cons]; exact ⟨_,_,rfl,(hr _ _ _ _).2 rfl,ih⟩
    exact this _ _⟩)
 exact ⟨_,_,β,_,F,rfl,hK,t1,t2,.inr ⟨[],[],rfl,rfl,AY.nil.2 rfl⟩⟩
end
end Go.Proofs.YthlbcfmbldcngaaDoor
namespace Go.Proofs
open Go.Shelf
def Tryd.sortL_ren:Go.Shelf.Ren:=⟨fun | 6=>36 | 15=>43 | 14=>42 | 28=>52 | 29=>53 | 20=>44 | 21=>45 | 22=>46 | 23=>47 | 24=>48 | 25=>49 | 26=>50 | 27=>51 | 46=>54 | 47=>55 | 48=>56 | 49=>57 | 50=>58 | 57=>59 | n=>n,fun | 22=>58 | 24=>3 | 25=>86 | 3=>3 | 39=>37 | 0=>0 | 53=>113 | 55=>115 | 4=>4 | 46=>107 | 45=>106 | 50=>64 | 5=>5 | 9=>9 | 66=>116 | 70=>120 | 76=>122 | 77=>44 | n=>n,fun | n=>n⟩
theorem Tryd.sortL:Go.Proofs.SlLaysF.n6 Tryd.prog Tryd.sortL_ren:={
 mixed:=by kernel_rfl
 f6:=⟨Tryd.f36.name,by decide,Tryd.func36.trans (congrArg some (by kernel_rfl))⟩
 f14:=⟨Tryd.f42.name,by decide,Tryd.func42.trans (congrArg some (by kernel_rfl))⟩
 f15:=Tryd.func43.trans (congrArg some (by kernel_rfl))
 f20:=⟨Tryd.f44.name,by decide,Tryd.func44.trans (congrArg some (by kernel_rfl))⟩
 f21:=⟨Tryd.f45.name,by decide,Tryd.func45.trans (congrArg some (by kernel_rfl))⟩
 f22:=⟨Tryd.f46.name,by decide,Tryd.func46.trans (congrArg some (by kernel_rfl))⟩
 f23:=⟨Tryd.f47.name,by decide,Tryd.func47.trans (congrArg some (by kernel_rfl))⟩
 f24:=⟨Tryd.f48.name,by decide,Tryd.func48.trans (congrArg some (by kernel_rfl))⟩
 f25:=⟨Tryd.f49.name,by decide,Tryd.func49.trans (congrArg some (by kernel_rfl))⟩
 f26:=⟨Tryd.f50.name,by decide,Tryd.func50.trans (congrArg some (by kernel_rfl))⟩
 f27:=⟨Tryd.f51.name,by decide,Tryd.func51.trans (congrArg some (by kernel_rfl))⟩
 f28:=Tryd.func52.trans (congrArg some (by kernel_rfl))
 f29:=Tryd.func53.trans (congrArg some (by kernel_rfl))
 f46:=⟨Tryd.f54.name,by decide,Tryd.func54.trans (congrArg some (by kernel_rfl))⟩
 f47:=Tryd.func55.trans (congrArg some (by kernel_rfl))
 f48:=Tryd.func56.trans (congrArg some (by kernel_rfl))
 f49:=⟨Tryd.f57.name,by decide,Tryd.func57.trans (congrArg some (by kernel_rfl))⟩
 f50:=⟨Tryd.f58.name,by decide,Tryd.func58.trans (congrArg some (by kernel_rfl))⟩
 f57:=⟨Tryd.f59.name,by decide,Tryd.func59.trans (congrArg some (by kernel_rfl))⟩
 t0:=Tryd.underlying0
 a0:=Tryd.isAgg0
 z0:=Tryd.sizeOf0
 v0:=Tryd.zeroValue0
 t3:=Tryd.underlying3
 a3:=Tryd.isAgg3
 z3:=Tryd.sizeOf3
 v3:=Tryd.zeroValue3
 t4:=Tryd.underlying4
 a4:=Tryd.isAgg4
 z4:=Tryd.sizeOf4
 v4:=Tryd.zeroValue4
 t5:=Tryd.underlying5
 a5:=Tryd.isAgg5
 z5:=Tryd.sizeOf5
 v5:=Tryd.zeroValue5
 t9:=Tryd.underlying9
 a9:=Tryd.isAgg9
 z9:=Tryd.sizeOf9
 v9:=Tryd.zeroValue9
 t22:=Tryd.underlying58
 a22:=Tryd.isAgg58
 z22:=Tryd.sizeOf58
 v22:=Tryd.zeroValue58
 a24:=Tryd.isAgg3
 z24:=Tryd.sizeOf3
 t25:=Tryd.underlying86
 a25:=Tryd.isAgg86
 z25:=Tryd.sizeOf86
 v25:=Tryd.zeroValue86
 t39:=Tryd.underlying37
 a39:=Tryd.isAgg37
 z39:=Tryd.sizeOf37
 v39:=Tryd.zeroValue37
 t45:=Tryd.underlying106
 a45:=Tryd.isAgg106
 z45:=Tryd.sizeOf106
 v45:=Tryd.zeroValue106
 t46:=Tryd.underlying107
 a46:=Tryd.isAgg107
 z46:=Tryd.sizeOf107
 v46:=Tryd.zeroValue107
 t50:=Tryd.underlying64
 a50:=Tryd.isAgg64
 z50:=Tryd.sizeOf64
 v50:=Tryd.zeroValue64
 t53:=Tryd.underlying113
 a53:=Tryd.isAgg113
 z53:=Tryd.sizeOf113
 v53:=Tryd.zeroValue113
 t55:=Tryd.underlying115
 a55:=Tryd.isAgg115
 z55:=Tryd.sizeOf115
 v55:=Tryd.zeroValue115
 t66:=Tryd.underlying116
 a66:=Tryd.isAgg116
 z66:=Tryd.sizeOf116
 v66:=Tryd.zeroValue116
 t70:=Tryd.underlying120
 a70:=Tryd.isAgg120
 z70:=Tryd.sizeOf120
 v70:=Tryd.zeroValue120
 t76:=Tryd.underlying122
 a76:=Tryd.isAgg122
 z76:=Tryd.sizeOf122
 v76:=Tryd.zeroValue122
 t77:=Tryd.underlying44
 a77:=Tryd.isAgg44
 z77:=Tryd.sizeOf44
 v77:=Tryd.zeroValue44 }
end Go.Proofs
namespace Go.Proofs.YthlbcfmbldcngaaDoor
section
open Go.RowKit Go.Sort Go.Shelf
variable [A7]
def pR (rank:Nat→Int) (k n x:Nat):Int:=if x+k<n then rank (x+k) else -1
theorem ZK {rank:Nat→Int} {k n x y:Nat}:cfR rank k n x y<0↔rank x<rank y∨(rank x=rank y∧k≠0∧pR rank k n x<pR rank k n y):=by
 unfold cfR
 have e:(if x+k<n then rank (x+k) else -1) - (if y+k<n then rank (y+k) else -1)=pR rank k n x - pR rank k n y:=rfl
 rw [e]
 generalize pR rank k n x=p
 generalize pR rank k n y=q
 split<;>omega
def cfF (rank:Nat→Int) (k M:Nat) (x y:Fin (M+1)):Int:=cfR rank k (M+1) x.val y.val
theorem Apu (rank:Nat→Int) (k M:Nat):SWO (ltOf (cfF rank k M)) where
 irrefl x:=by
  unfold ltOf cfF
  rw [decide_eq_false_iff_not,ZK]; omega
 trans x y z h1 h2:=by
  unfold ltOf cfF at *
  rw [decide_eq_true_eq,ZK] at *; omega
 ntrans x y z h1 h2:=by
  unfold ltOf cfF at *
  rw [decide_eq_false_iff_not,ZK] at *; omega
theorem Ku {β:Nat→Nat→Option (Nat×Nat)} {H:List Ob} {F:Nat→Prop} {w:World} {id ver b o:Nat} {x:TV} (hs:Sim ⟨β,H,F⟩ w) (hid:H[id]?=some (.obj ver x)) (hb:β id ver=some (b,o)) :
  ∃ us,Ag ⟨β,H,F⟩ w x us∧Cc w b o us∧b<w.heap.size:=by
 rcases hs.ob id _ hid with ⟨k0,_⟩ | ⟨b',off',pre,vs,post,t',fr,k1,k2,k3,k4,k5⟩
 ·have k0':β id ver=none:=k0
  rw [hb] at k0'; cases k0'
 ·have k1':β id ver=some (b',off'):=k1
  rw [hb] at k1'
  obtain ⟨rfl,rfl⟩:b=b'∧o=off':=by simpa using k1'
  refine ⟨vs,k5,fun j u hj => ?_,(Array.getElem?_eq_some_iff.1 k2).1⟩
  have hjl:=(List.getElem?_eq_some_iff.1 hj).1
  rw [cell_of_row w b _ _ _ _ k2]
  simp only [List.getElem?_toArray]
  rw [List.append_assoc,List.getElem?_append_right (by omega),k4,Nat.add_sub_cancel_left,List.getElem?_append_left hjl]
  exact hj
theorem AaB {β:Nat→Nat→Option (Nat×Nat)} {H:List Ob} {F:Nat→Prop} {w:World} {id ver:Nat} {v:Value} (h:AaL ⟨β,H,F⟩ w (.op id ver []) v):∃ b o,β id ver=some (b,o)∧v = .pointer (some ⟨b,o,none⟩):=by
 rcases h with h | h | ⟨us,h,rfl⟩
 ·cases h
 ·cases h
 ·rw [Ag] at h
  obtain ⟨_,b,o,hb,rfl⟩:=h
  exact ⟨b,o,hb,rfl⟩
theorem Xf {c:Ctx} {w:World}:∀ {l:List Nat} {us:List Value},Ah c w (l.map fun p:Nat=>i64 (p:Int)) us→us=l.map fun p:Nat=>Value.int .i64 (p:Int)
 | [],us,h=>by rw [List.map_nil,Ah] at h; exact h
 | a::l,us,h=>by
  rw [List.map_cons,Ah] at h
  obtain ⟨x,y,rfl,h1,h2⟩:=h
  rw [Ag] at h1
  rw [h1.1,Xf h2]; rfl
theorem Adx {M k:Nat} {ranks:List Nat} (hrl:ranks.length=M+1) (hrb:∀ r∈ranks,r≤1000000) (hk:k≤1000000) (hM:M+1≤1000000) {H:List Ob} {id i5 kr vr cp i8 i3 ver:Nat} {x0:TV}
  (g0:H[id]?=some (.obj ver x0)) (g5:H[i5]?=some (.obj 0 (.os 1 kr vr [] 0 (M+1) cp))) (gk:H[kr]?=some (.obj vr (.arr (M+1) 1 (ranks.map fun p:Nat=>i64 (p:Int))))) (g8:H[i8]?=some (.obj 0 (i64 (k:Int)))) (g3:H[i3]?=some (.obj 0 (i64 ((M+1:Nat):Int))))
  (n5:i5≠id) (nk:kr≠id) (n8:i8≠id) (n3:i3≠id) :
  ∀ β F w v,Sim ⟨β,H,F⟩ w→AaL ⟨β,H,F⟩ w (.fn (.func 35) [] [.op i5 0 [],.op i8 0 [],.op i3 0 []]) v→∃ cb,v = .func (.func 35) #[] cb∧∀ b o,β id ver=some (b,o)→∀ off size,CmpLays1 Tryd.prog 35 cb UE (cfF (fun j=>(ranks.getD j 0:Nat)) k M) b off size w:=by
 intro β F w v hs hv
 rcases hv with h | h | ⟨us,h,rfl⟩
 ·cases h
 ·cases h
 rw [Ag] at h
 obtain ⟨as1,bs,rfl,ha,hb⟩:=h
 rw [AY.nil] at ha; subst ha
 obtain ⟨u5,us,rfl,h5,hb⟩:=AY.cons.1 hb
 obtain ⟨u8,us,rfl,h8,hb⟩:=AY.cons.1 hb
 obtain ⟨u3,us,rfl,h3,hb⟩:=AY.cons.1 hb
 rw [AY.nil] at hb; subst hb
 obtain ⟨b5,o5,e5,rfl⟩:=AaB h5
 obtain ⟨b8,o8,e8,rfl⟩:=AaB h8
 obtain ⟨b3,o3,e3,rfl⟩:=AaB h3
 refine ⟨_,rfl,fun b o hbo off size => ?_⟩
 -- what lies there
 obtain ⟨us5,r5,c5,l5⟩:=Ku hs g5 e5
 obtain ⟨us8,r8,c8,l8⟩:=Ku hs g8 e8
 obtain ⟨us3,r3,c3,l3⟩:=Ku hs g3 e3
 rw [Ag] at r8 r3
 rw [r8.1] at c8
 rw [r3.1] at c3
 rw [Ag] at r5
 obtain ⟨bb,oo,cap,t,m,q1,q2⟩:∃ bb oo cap t m,β kr vr=some (bb,oo)∧us5=[.slice (some ⟨bb,oo+C9 []+0*1,none⟩) (M+1) cap]:=by
  rcases r5.2 with ⟨e,_⟩ | ⟨bb,oo,cap,t,m,q1,q2,_⟩
  ·omega
  ·exact ⟨bb,oo,cap,t,m,q1,q2⟩
 rw [q2] at c5
 obtain ⟨usk,rk,ck,lk⟩:=Ku hs gk q1
 rw [Ag] at rk
 have hck:=Xf rk.2.2
 rw [hck] at ck
 have hz:oo+C9 []+0*1=oo:=by simp [C9]
 rw [hz] at c5
 -- other blocks
 have d5:b5≠b:=fun e=>n5 (hs.inj i5 id _ _ b5 o5 o g5 g0 rfl rfl e5 (by rw [e]; exact hbo))
 have d8:b8≠b:=fun e=>n8 (hs.inj i8 id _ _ b8 o8 o g8 g0 rfl rfl e8 (by rw [e]; exact hbo))
 have d3:b3≠b:=fun e=>n3 (hs.inj i3 id _ _ b3 o3 o g3 g0 rfl rfl e3 (by rw [e]; exact hbo))
 have dk:bb≠b:=fun e=>nk (hs.inj kr id _ _ bb oo o gk g0 rfl rfl q1 (by rw [e]; exact hbo))
 intro mm os dk2 hsz x y
 have hw2:∀ b2 (j:Nat),b2<w.heap.size→b2≠b→(sortWorld UE w b off mm dk2 os).cell? ⟨b2,j,none⟩=w.cell? ⟨b2,j,none⟩:=by
  intro b2 j hb2 hne
  have:(sortWorld UE w b off mm dk2 os).heap[b2]?=w.heap[b2]?:=by
   show ((w.heap.modify b (onCells (putCells UE off dk2)))++os)[b2]?=_
   rw [Array.getElem?_append,if_pos (by simpa using hb2),Array.getElem?_modify,if_neg (Ne.symm hne)]
  simp only [World.cell?,this]
 have hrank:∀ j,-1000000≤((ranks.getD j 0:Nat):Int)∧((ranks.getD j 0:Nat):Int)≤1000000:=fun j=>by
  rw [List.getD_eq_getElem?_getD]
  cases hj:ranks[j]? with
  | none=>simp
  | some r=>have:=hrb r (List.mem_of_getElem? hj); simp; omega
 refine Rk (rank:=fun j=>((ranks.getD j 0:Nat):Int)) (k:=k) (n:=M+1) (x:=x.val) (y:=y.val) hrank hk hM x.isLt y.isLt (pr:=⟨b5,o5,none⟩) (pk:=⟨b8,o8,none⟩) (pn:=⟨b3,o3,none⟩) (bb:=bb) (oo:=oo) (cap:=cap) ?_ ?_ ?_ ?_
 ·rw [hw2 _ _ l5 d5]; exact c5 0 _ rfl
 ·rw [hw2 _ _ l8 d8]; exact c8 0 _ rfl
 ·rw [hw2 _ _ l3 d3]; exact c3 0 _ rfl
 ·intro j hj
  rw [hw2 _ _ lk dk]
  refine ck j _ ?_
  rw [List.getElem?_map,List.getD_eq_getElem?_getD,List.getElem?_eq_getElem (by omega)]
  rfl
end
section
open Go.RowKit Go.Sort Go.Shelf
variable [A7]
theorem AcL {P:Program} {ρ:Ren} (L:SlLaysF.n6 P ρ) {id ver cp:Nat} {g:Nat} {caps:List TV} {H:List Ob} {K:TV→List Ob→Prop} (hK:K (.tup []) H) :
  Au P (ρ.f 6) [.os 1 id ver [] 0 0 cp,.fn (.func g) [] caps] H K:=by
 intro β F w vs hs hv
 obtain ⟨u,us,rfl,h2,h3⟩:=AY.cons.1 hv
 obtain ⟨u2,us2,rfl,h4,h5⟩:=AY.cons.1 h3
 rw [AY.nil] at h5; subst h5
 rcases h2 with h | h | ⟨ux,h2,rfl⟩
 ·cases h
 ·cases h
 obtain ⟨p0,c0,rfl⟩:∃ p0 c0,ux=[.slice p0 0 c0]:=by
  rw [Ag] at h2
  rcases h2.2 with ⟨_,a0,e,_⟩ | ⟨b,o,cap,t,m,_,e,_⟩
  ·exact ⟨a0,0,e⟩
  ·exact ⟨_,cap,e⟩
 have L0:SlLaysF0.n6 P ρ:={ L with }
 refine (AnyF.slices_SortFunc_none L0 p0 c0 u2 w).mono ?_
 rintro _ _ ⟨rfl,rfl⟩
 exact ⟨_,_,β,_,F,rfl,hK,hs,Ar.refl _ _,.inr ⟨[],[],rfl,rfl,AY.nil.2 rfl⟩⟩
theorem Y1 {N k:Nat} {ranks:List Nat} (hrl:ranks.length=N) (hrb:∀ r∈ranks,r≤1000000) (hk:k≤1000000) (hM:N≤1000000) {H:List Ob} {i5 kr vr cp i8 i3 x y:Nat} (hx:x<N) (hy:y<N)
  (g5:H[i5]?=some (.obj 0 (.os 1 kr vr [] 0 N cp))) (gk:H[kr]?=some (.obj vr (.arr N 1 (ranks.map fun p:Nat=>i64 (p:Int))))) (g8:H[i8]?=some (.obj 0 (i64 (k:Int)))) (g3:H[i3]?=some (.obj 0 (i64 (N:Int)))) {K:TV→List Ob→Prop}
  (hK:K (i64 (cfR (fun j=>(ranks.getD j 0:Nat)) k N x y)) H):Au Tryd.prog 35 [i64 (x:Int),i64 (y:Int),.op i5 0 [],.op i8 0 [],.op i3 0 []] H K:=by
 intro β F w vs hs hv
 obtain ⟨ux,us,rfl,hvx,hv⟩:=AY.cons.1 hv
 obtain ⟨uy,us,rfl,hvy,hv⟩:=AY.cons.1 hv
 obtain ⟨u5,us,rfl,h5,hv⟩:=AY.cons.1 hv
 obtain ⟨u8,us,rfl,h8,hv⟩:=AY.cons.1 hv
 obtain ⟨u3,us,rfl,h3,hv⟩:=AY.cons.1 hv
 rw [AY.nil] at hv; subst hv
 have ex:ux = .int .i64 (x:Int):=Rep.val.1 (Or.inl hvx:Rep _ _ _ _)
 have ey:uy = .int .i64 (y:Int):=Rep.val.1 (Or.inl hvy:Rep _ _ _ _)
 subst ex ey
 obtain ⟨b5,o5,e5,rfl⟩:=AaB h5
 obtain ⟨b8,o8,e8,rfl⟩:=AaB h8
 obtain ⟨b3,o3,e3,rfl⟩:=AaB h3
 obtain ⟨us5,r5,c5,l5⟩:=Ku hs g5 e5
 obtain ⟨us8,r8,c8,l8⟩:=Ku hs g8 e8
 obtain ⟨us3,r3,c3,l3⟩:=Ku hs g3 e3
 rw [Ag] at r8 r3
 rw [r8.1] at c8
 rw [r3.1] at c3
 rw [Ag] at r5
 obtain ⟨bb,oo,cap,t,m,q1,q2⟩:∃ bb oo cap t m,β kr vr=some (bb,oo)∧us5=[.slice (some ⟨bb,oo+C9 []+0*1,none⟩) N cap]:=by
  rcases r5.2 with ⟨e,_⟩ | ⟨bb,oo,cap,t,m,q1,q2,_⟩
  ·omega
  ·exact ⟨bb,oo,cap,t,m,q1,q2⟩
 rw [q2] at c5
 obtain ⟨usk,rk,ck,lk⟩:=Ku hs gk q1
 rw [Ag] at rk
 have hck:=Xf rk.2.2
 rw [hck] at ck
 have hz:oo+C9 []+0*1=oo:=by simp [C9]
 rw [hz] at c5
 have hrank:∀ j,-1000000≤((ranks.getD j 0:Nat):Int)∧((ranks.getD j 0:Nat):Int)≤1000000:=fun j=>by
  rw [List.getD_eq_getElem?_getD]
  cases hj:ranks[j]? with
  | none=>simp
  | some r=>have:=hrb r (List.mem_of_getElem? hj); simp; omega
 refine (Rk (rank:=fun j=>((ranks.getD j 0:Nat):Int)) (k:=k) (n:=N) (x:=x) (y:=y) hrank hk hM hx hy (pr:=⟨b5,o5,none⟩) (pk:=⟨b8,o8,none⟩) (pn:=⟨b3,o3,none⟩) (bb:=bb) (oo:=oo) (cap:=cap) (c5 0 _ rfl) (c8 0 _ rfl) (c3 0 _ rfl) (fun j hj=>by
  refine ck j _ ?_
  rw [List.getElem?_map,List.getD_eq_getElem?_getD,List.getElem?_eq_getElem (by omega)]
  rfl)).mono ?_
 rintro e w' ⟨rfl,q,os',rfl⟩
 have hst:MS F w F (grow (w.drewN q) os'):=⟨rfl,rfl,rfl,by show w.heap.size≤(w.heap++os').size; simp,fun b hb=>by
  show (w.heap++os')[b]?=w.heap[b]?
  rw [Array.getElem?_append,if_pos hb],fun _ h=>h,fun _ _ h=>h,fun b hb=>by
  show b<(w.heap++os').size
  have:=hs.lt b hb
  simp; omega⟩
 exact ⟨_,_,β,H,F,rfl,hK,hst.sim hs,hst.later,Rep.of_val⟩
end
section
open Go.RowKit Go.Sort
variable [A7]
abbrev EH (l:List Nat):List TV:=l.map fun p:Nat=>i64 (p:Int)
structure Rf (H0 H:List Ob) (n kr kn:Nat) (ps ranks nexts:List Nat):Prop where
 pre:∀ i,i<H0.length→H[i]?=H0[i]?
 len:H0.length+5≤H.length
 on:H[H0.length]?=some (.obj 0 (i64 (n:Int)))
 ol:H[H0.length+1]?=some (.obj 0 (.arr n 1 (EH ps)))
 oc:H[H0.length+4]?=some (.obj 0 (.os 1 kr 0 [] 0 n n))
 orr:H[kr]?=some (.obj 0 (.arr n 1 (EH ranks)))
 ox:H[kn]?=some (.obj 0 (.arr n 1 (EH nexts)))
 kk:(kr=H0.length+2∧kn=H0.length+3)∨(kr=H0.length+3∧kn=H0.length+2)
 pl:ps.length=n
 rl:ranks.length=n
 xl:nexts.length=n
 rb:∀ a∈ranks,a≤1000000
 xb:∀ a∈nexts,a≤1000000
theorem Rf.more {H0 H:List Ob} {n kr kn:Nat} {ps ranks nexts:List Nat} (h:Rf H0 H n kr kn ps ranks nexts) (T:List Ob):Rf H0 (H++T) n kr kn ps ranks nexts:=by
 have hl:=h.len
 have hk:=h.kk
 have e:∀ i,i<H.length→(H++T)[i]?=H[i]?:=fun i hi=>List.getElem?_append_left hi
 exact ⟨fun i hi=>(e i (by omega)).trans (h.pre i hi),by simp; omega,(e _ (by omega)).trans h.on,(e _ (by omega)).trans h.ol,(e _ (by omega)).trans h.oc,(e _ (by omega)).trans h.orr,(e _ (by omega)).trans h.ox,h.kk,h.pl,h.rl,h.xl,h.rb,h.xb⟩
theorem Rf.upd {H0 H:List Ob} {n kr kn:Nat} {ps ranks nexts:List Nat} (h:Rf H0 H n kr kn ps ranks nexts) {id:Nat} {o:Ob} (h1:id≠H0.length) (h2:H0.length≤id) {ps' ranks' nexts':List Nat}
  (g1:(H.set id o)[H0.length+1]?=some (.obj 0 (.arr n 1 (EH ps')))) (g2:(H.set id o)[H0.length+4]?=some (.obj 0 (.os 1 kr 0 [] 0 n n))) (g3:(H.set id o)[kr]?=some (.obj 0 (.arr n 1 (EH ranks')))) (g4:(H.set id o)[kn]?=some (.obj 0 (.arr n 1 (EH nexts'))))
  (q1:ps'.length=n) (q2:ranks'.length=n) (q3:nexts'.length=n) (q4:∀ a∈ranks',a≤1000000) (q5:∀ a∈nexts',a≤1000000):Rf H0 (H.set id o) n kr kn ps' ranks' nexts' :=
 ⟨fun i hi=>by rw [List.getElem?_set_ne (by omega)]; exact h.pre i hi,by rw [List.length_set]; exact h.len,by rw [List.getElem?_set_ne h1]; exact h.on,g1,g2,g3,g4,h.kk,q1,q2,q3,q4,q5⟩
theorem Rf.setL {H0 H:List Ob} {n kr kn:Nat} {ps ranks nexts:List Nat} (h:Rf H0 H n kr kn ps ranks nexts) {ps':List Nat} (hl:ps'.length=n):Rf H0 (H.set (H0.length+1) (.obj 0 (.arr n 1 (EH ps')))) n kr kn ps' ranks nexts:=by
 have hk:=h.kk
 have hlen:=h.len
 exact h.upd (by omega) (by omega) (by rw [List.getElem?_set_self (by omega)]) (by rw [List.getElem?_set_ne (by omega)]; exact h.oc) (by rw [List.getElem?_set_ne (by omega)]; exact h.orr) (by rw [List.getElem?_set_ne (by omega)]; exact h.ox) hl h.rl h.xl h.rb h.xb
theorem Rf.setR {H0 H:List Ob} {n kr kn:Nat} {ps ranks nexts:List Nat} (h:Rf H0 H n kr kn ps ranks nexts) {r':List Nat} (hl:r'.length=n) (hb:∀ a∈r',a≤1000000):Rf H0 (H.set kr (.obj 0 (.arr n 1 (EH r')))) n kr kn ps r' nexts:=by
 have hk:=h.kk
 have hlen:=h.len
 exact h.upd (by omega) (by omega) (by rw [List.getElem?_set_ne (by omega)]; exact h.ol) (by rw [List.getElem?_set_ne (by omega)]; exact h.oc) (by rw [List.getElem?_set_self (by omega)]) (by rw [List.getElem?_set_ne (by omega)]; exact h.ox) h.pl hl h.xl hb h.xb
theorem Rf.setX {H0 H:List Ob} {n kr kn:Nat} {ps ranks nexts:List Nat} (h:Rf H0 H n kr kn ps ranks nexts) {r':List Nat} (hl:r'.length=n) (hb:∀ a∈r',a≤1000000):Rf H0 (H.set kn (.obj 0 (.arr n 1 (EH r')))) n kr kn ps ranks r':=by
 have hk:=h.kk
 have hlen:=h.len
 exact h.upd (by omega) (by omega) (by rw [List.getElem?_set_ne (by omega)]; exact h.ol) (by rw [List.getElem?_set_ne (by omega)]; exact h.oc) (by rw [List.getElem?_set_ne (by omega)]; exact h.orr) (by rw [List.getElem?_set_self (by omega)]) h.pl h.rl hl h.rb hb
theorem Rf.swap {H0 H:List Ob} {n kr kn:Nat} {ps ranks nexts:List Nat} (h:Rf H0 H n kr kn ps ranks nexts):Rf H0 (H.set (H0.length+4) (.obj 0 (.os 1 kn 0 [] 0 n n))) n kn kr ps nexts ranks:=by
 have hk:=h.kk
 have hlen:=h.len
 exact ⟨fun i hi=>by rw [List.getElem?_set_ne (by omega)]; exact h.pre i hi,by rw [List.length_set]; exact h.len,by rw [List.getElem?_set_ne (by omega)]; exact h.on,by rw [List.getElem?_set_ne (by omega)]; exact h.ol,by rw [List.getElem?_set_self (by omega)],by rw [List.getElem?_set_ne (by omega)]; exact h.ox,by rw [List.getElem?_set_ne (by omega)]; exact h.orr,by omega,h.pl,h.xl,h.rl,h.xb,h.rb⟩
theorem UQ {l:List Nat} {i a:Nat}:(EH l).set i (i64 (a:Int))=EH (l.set i a):=by unfold EH; rw [List.map_set]
theorem AmI {l:List Nat} {i a B:Nat} (h:∀ x∈l,x≤B) (ha:a≤B):∀ x∈l.set i a,x≤B:=fun x hx=>by
 rcases List.mem_or_eq_of_mem_set hx with h1 | h1
 ·exact h x h1
 ·omega
abbrev AdR (ranks:List Nat) (k n x y:Nat):Int:=cfR (fun j=>((ranks.getD j 0:Nat):Int)) k n x y
def dnP (ranks ps:List Nat) (k n:Nat):Nat→Nat
 | 0=>0
 | i+1=>dnP ranks ps k n i+(if AdR ranks k n (ps.getD i 0) (ps.getD (i+1) 0)=0 then 0 else 1)
theorem Ahl {ranks ps:List Nat} {k n:Nat}:∀ i,dnP ranks ps k n i≤i
 | 0=>Nat.le_refl _
 | i+1=>by have:=Ahl (ranks:=ranks) (ps:=ps) (k:=k) (n:=n) i; rw [dnP]; split<;>omega
def Jw (ranks:List Nat) (k n:Nat) (ps:List Nat):Prop:=ps.Pairwise fun x y=>¬ AdR ranks k n y x<0
theorem Ahf {M:Nat}:∀ {ps:List Nat},(∀ p∈ps,p<M+1)→∃ d:List (Fin (M+1)),d.map (fun x=>x.val)=ps
 | [],_=>⟨[],rfl⟩
 | p::ps,h=>by
  obtain ⟨d,hd⟩:=Ahf (M:=M) (ps:=ps) fun q hq=>h q (by simp [hq])
  exact ⟨⟨p,h p (by simp)⟩::d,by rw [List.map_cons,hd]⟩
end
section
variable [A7]
set_option maxRecDepth 100000
def OL:Ad := .seq (.ops [mv_ 41 6,mv_ 42 1,mv_ 43 7,mv_ 44 8,po_ 45 (.slV 1 (.t 42) (some (.t 43)) (some (.t 44))),so_ 46 (.call 16 [.t 41,.t 45]),mv_ 6 46] [1,5,6,8,9,10])
 (.seq (.ops [mv_ 47 6,mv_ 48 9,mv_ 49 10,so_ 50 (.call 17 [.t 47,.t 48,.t 49]),mv_ 6 50] [1,5,6,8,10])
 (.seq (.ops [mv_ 51 8,mv_ 52 10,po_ 53 (.bin 3 .add (.t 51) (.t 52)),mv_ 8 53] [1,5,6,8])
 (.ops [mv_ 54 8,mv_ 7 54] [1,5,6,7,8])))
def OT:Ad := .seq (.seq (.ops [mv_ 37 10,po_ 38 (.bin 3 .lss (.t 37) (ci_ 8))] [1,5,6,7,8,9,10,38])
 (.cond (.t 38)
 (.seq (.ops [mv_ 39 8,po_ 40 (.bin 3 .add (.t 39) (ci_ 1)),mv_ 8 40] [1,5,6,7,8])
  (.exit 1))
 (.skip)))
 OL
def PE:Ad := .block 1 (.seq (.ops [mv_ 30 5,mv_ 31 1,mv_ 32 8,po_ 33 (.slV 1 (.t 31) (some (.t 32)) none),so_ 34 (.call 15 [.t 30,.t 33]),mv_ 29 34,po_ 35 (.ext 0 (.t 29)),po_ 36 (.ext 1 (.t 29)),mv_ 9 35,mv_ 10 36] [1,5,6,7,8,9,10])
 OT)
def O0:Ad := .seq (.seq (.ops [mv_ 25 8,mv_ 26 1,po_ 27 (.lenV (.t 26)),po_ 28 (.bin 3 .lss (.t 25) (.t 27))] [1,5,6,7,8,28])
 (.cond (.t 28)
 (.skip)
 (.exit 0)))
 PE
def Pz:Ad := .block 0 (.loop [1,5,6,7,8] O0)
def OU:Ad := .seq (.ops [mv_ 55 6,mv_ 56 1,mv_ 57 7,po_ 58 (.slV 1 (.t 56) (some (.t 57)) none),so_ 59 (.call 16 [.t 55,.t 58]),mv_ 4 59] [4])
 (.ret)
def O7:Ad := .seq (.seq (.ops [po_ 8 (.mov (ci_ 0))] [1,5,6,7,8])
 Pz)
 OU
def OM:Ad := .seq (.ops [po_ 7 (.mov (ci_ 0))] [1,5,6,7])
 O7
def OG:Ad := .seq (.ops [mv_ 19 0,po_ 20 (.lenV (.t 19)),so_ 21 (.call 14 [.c (.slice none 0 0),.t 20]),mv_ 22 1,po_ 23 (.lenV (.t 22)),so_ 24 (.call 14 [.t 21,.t 23]),mv_ 6 24] [1,5,6])
 OM
def IB:Ad := .seq (.ops [mv_ 17 0,so_ 18 (.call 13 [.t 17]),mv_ 5 18] [0,1,5])
 OG
def Og:Ad := .seq (.seq (.ops [mv_ 11 0,po_ 12 (.lenV (.t 11)),mv_ 13 1,po_ 14 (.lenV (.t 13)),po_ 15 (.max (.t 12) (.t 14)),po_ 16 (.bin 3 .gtr (.t 15) (ci_ 100000))] [0,1,16])
 (.cond (.t 16)
 (.seq (.ops [po_ 4 (.mov (.c (.slice none 0 0)))] [4])
  (.ret))
 (.skip)))
 IB
def TW:Ad := .seq (.ops [po_ 4 (.mov (.c (.slice none 0 0)))] [0,1])
 Og
def OO:List VR:=[.tmp 4]
theorem XM:Tryd.f5.body.bind (trC Tryd.prog Tryd.f5.ntmps)=some (er TW):=by kernel_rfl
theorem Xw:trR Tryd.prog Tryd.f5.results.toList=some OO:=by kernel_rfl
def TM:=Ac OL.eq_1
def LX:=Ac OT.eq_1
def TG:=Ac PE.eq_1
def Md:=Ac O0.eq_1
def TF:=Ac Pz.eq_1
def TL:=Ac OU.eq_1
def TB:=Ac O7.eq_1
def TP:=Ac OM.eq_1
def SQ:=Ac OG.eq_1
def Sm:=Ac IB.eq_1
def Kr:=Ac Og.eq_1
def Qh:=Ac TW.eq_1
theorem Vf {K:TV→Prop} {e:Env} {H:List Ob}:res OO e H K=res [.tmp 4] e H K:=Aa rfl
def Xh:=Sz 60 Tryd.func5 XM Xw rfl
def I9:Ad := .seq (.block 1 (.draw 4 [mv_ 22 3,po_ 23 (.nilc (.t 22)),po_ 24 (.fieldA 2 2 (.t 23)),po_ 25 (.load false 1 (.t 24)),mv_ 26 0,mv_ 27 4,po_ 28 (.slV 1 (.t 26) (some (.t 27)) none),po_ 29 (.gen (.s2a 16 1) [.t 28]),po_ 30 (.load true 16 (.t 29)),mv_ 31 4,⟨none,.s (.mupd (.arr 16) (.t 25) (.t 30) (.t 31)),none⟩] [0,3,4]))
 (.ops [mv_ 20 4,po_ 21 (.bin 3 .add (.t 20) (ci_ 16)),mv_ 4 21] [0,3,4])
def I7:Ad := .seq (.seq (.ops [mv_ 15 4,po_ 16 (.bin 3 .add (.t 15) (ci_ 16)),mv_ 17 0,po_ 18 (.lenV (.t 17)),po_ 19 (.bin 3 .leq (.t 16) (.t 18))] [0,3,4,19])
 (.cond (.t 19)
 (.skip)
 (.exit 0)))
 I9
def IW:Ad := .block 0 (.loop [0,3,4] I7)
def Ji:Ad := .seq (.ops [mv_ 32 3,mv_ 2 32] [2])
 (.ret)
def I8:Ad := .seq (.seq (.ops [po_ 4 (.mov (ci_ 0))] [0,3,4])
 IW)
 Ji
def Ja:Ad := .seq (.ops [mv_ 11 3,so_ 12 (.mkm (.arr 16) none),po_ 13 (.nilc (.t 11)),po_ 14 (.fieldA 2 2 (.t 13)),⟨none,.s (.store 1 (.t 14) (.t 12)),none⟩] [0,3])
 I8
def IX:Ad := .cond (.t 10)
 Ja
 (.skip)
def Je:Ad := .seq (.ops [mv_ 33 3,mv_ 34 0,so_ 35 (.call 24 [.t 34]),po_ 36 (.nilc (.t 33)),po_ 37 (.fieldA 1 1 (.t 36)),⟨none,.s (.store 1 (.t 37) (.t 35)),none⟩] [3])
 (.seq (.ops [mv_ 38 3,mv_ 2 38] [2])
 (.ret))
def IV:Ad := .seq (.seq (.ops [mv_ 8 0,po_ 9 (.lenV (.t 8)),po_ 10 (.bin 3 .gtr (.t 9) (ci_ 20000))] [0,3,10])
 IX)
 Je
def H7:Ad := .seq (.ops [mv_ 5 0,⟨some 6,.p (.build [.val (.slice none 0 0),.val (.slice none 0 0),.val (.map none)] [1,1,1] [⟨0,.t 5⟩]),none⟩,so_ 7 (.box (.t 6)),mv_ 3 7] [0,3])
 IV
def L9:Ad := .seq (.ops [po_ 2 (.mov (.c (.pointer none)))] [0])
 H7
def Lr:List VR:=[.tmp 2]
theorem SX:Tryd.f13.body.bind (trC Tryd.prog Tryd.f13.ntmps)=some (er L9):=by kernel_rfl
theorem Tm:trR Tryd.prog Tryd.f13.results.toList=some Lr:=by kernel_rfl
def Om:=Ac I9.eq_1
def G8:=Ac I7.eq_1
def Oh:=Ac IW.eq_1
def Ox:=Ac Ji.eq_1
def Oj:=Ac I8.eq_1
def Oi:=Ac Ja.eq_1
def GM:=Ac IX.eq_1
def Oz:=Ac Je.eq_1
def GH:=Ac IV.eq_1
def FQ:=Ac H7.eq_1
def JE:=Ac L9.eq_1
theorem JH {K:TV→Prop} {e:Env} {H:List Ob}:res Lr e H K=res [.tmp 2] e H K:=Aa rfl
def Rl:=Sz 39 Tryd.func13 SX Tm rfl
def D9:Ad := .seq (.seq (.ops [mv_ 5 1,po_ 6 (.bin 3 .gtr (.t 5) (ci_ 127))] [0,1,6])
 (.cond (.t 6)
 (.skip)
 (.exit 0)))
 (.seq (.block 1 (.ops [mv_ 9 0,mv_ 10 1,po_ 11 (.conv .u8 (.t 10)),po_ 12 (.bin 5 .or (.t 11) (.c (.int .u8 ((128:Nat):Int)))),⟨some 13,.s (.bslice 1 1 (.val (.int .u8 ((0:Nat):Int))) [⟨0,.t 12⟩]),none⟩,so_ 14 (.app 1 1 5 (.t 9) (.t 13)),mv_ 0 14] [0,1]))
 (.ops [mv_ 7 1,po_ 8 (.bin 3 .shr (.t 7) (.c (.int .u64 ((7:Nat):Int)))),mv_ 1 8] [0,1]))
def Eh:Ad := .seq (.ops [mv_ 15 0,mv_ 16 1,po_ 17 (.conv .u8 (.t 16)),⟨some 18,.s (.bslice 1 1 (.val (.int .u8 ((0:Nat):Int))) [⟨0,.t 17⟩]),none⟩,so_ 19 (.app 1 1 5 (.t 15) (.t 18)),mv_ 4 19] [4])
 (.ret)
def Ip:Ad := .seq (.block 0 (.own 0 1 (.loop [0,1] D9)))
 Eh
def KC:Ad := .seq (.ops [po_ 4 (.mov (.c (.slice none 0 0)))] [0,1])
 Ip
def F5:List VR:=[.tmp 4]
theorem RS:Tryd.f14.body.bind (trC Tryd.prog Tryd.f14.ntmps)=some (er KC):=by kernel_rfl
theorem RU:trR Tryd.prog Tryd.f14.results.toList=some F5:=by kernel_rfl
def Gi:=Ac D9.eq_1
def Nk:=Ac Eh.eq_1
def F6:=Ac Ip.eq_1
def I5:=Ac KC.eq_1
theorem Qa {K:TV→Prop} {e:Env} {H:List Ob}:res F5 e H K=res [.tmp 4] e H K:=Aa rfl
def Q7:=Sz 20 Tryd.func14 RS RU rfl
def EN:Ad := .seq (.seq (.ops [mv_ 32 7,po_ 33 (.un .not (.t 32))] [1,2,6,33])
 (.cond (.t 33)
 (.seq (.ops [po_ 4 (.mov (ci_ 0)),po_ 5 (.mov (ci_ 0))] [4,5])
  (.ret))
 (.skip)))
 (.seq (.ops [mv_ 34 6,po_ 35 (.load false 1 (.t 2)),po_ 36 (.nilc (.t 35)),po_ 37 (.fieldA 0 0 (.t 36)),po_ 38 (.load false 1 (.t 37)),mv_ 39 6,po_ 40 (.slV 1 (.t 38) (some (.t 39)) none),mv_ 41 1,so_ 42 (.call 25 [.t 40,.t 41]),mv_ 4 34,mv_ 5 42] [4,5])
 (.ret))
def EJ:Ad := .seq (.draw 10 [po_ 22 (.load false 1 (.t 2)),po_ 23 (.nilc (.t 22)),po_ 24 (.fieldA 2 2 (.t 23)),po_ 25 (.load false 1 (.t 24)),mv_ 26 1,po_ 27 (.gen (.s2a 16 1) [.t 26]),po_ 28 (.load true 16 (.t 27)),po_ 29 (.gen (.look (.arr 16) (.val (.int .i64 ((0:Nat):Int))) true) [.t 25,.t 28]),mv_ 21 29,po_ 30 (.ext 0 (.t 21)),po_ 31 (.ext 1 (.t 21)),mv_ 6 30,mv_ 7 31] [1,2,6,7])
 EN
def ES:Ad := .seq (.seq (.ops [mv_ 18 1,po_ 19 (.lenV (.t 18)),po_ 20 (.bin 3 .lss (.t 19) (ci_ 16))] [1,2,20])
 (.cond (.t 20)
 (.seq (.ops [po_ 4 (.mov (ci_ 0)),po_ 5 (.mov (ci_ 0))] [4,5])
  (.ret))
 (.skip)))
 EJ
def EG:Ad := .cond (.t 17)
 ES
 (.skip)
def ER:Ad := .ops [po_ 90 (.load false 1 (.t 2)),po_ 91 (.nilc (.t 90)),po_ 92 (.fieldA 1 1 (.t 91)),po_ 93 (.load false 1 (.t 92)),mv_ 94 11,po_ 95 (.idxA 1 (.t 93) (.t 94)),po_ 96 (.load false 1 (.t 95)),mv_ 97 12,mv_ 4 96,mv_ 5 97] [1,2,4,5,56,57,58]
def EQ:Ad := .seq (.ops [mv_ 87 12,mv_ 88 5,po_ 89 (.bin 3 .gtr (.t 87) (.t 88))] [1,2,4,5,11,12,56,57,58,89])
 (.cond (.t 89)
 ER
 (.skip))
def EK:Ad := .seq (.draw 4 [po_ 73 (.load false 1 (.t 2)),po_ 74 (.nilc (.t 73)),po_ 75 (.fieldA 0 0 (.t 74)),po_ 76 (.load false 1 (.t 75)),po_ 77 (.load false 1 (.t 2)),po_ 78 (.nilc (.t 77)),po_ 79 (.fieldA 1 1 (.t 78)),po_ 80 (.load false 1 (.t 79)),mv_ 81 11,po_ 82 (.idxA 1 (.t 80) (.t 81)),po_ 83 (.load false 1 (.t 82)),po_ 84 (.slV 1 (.t 76) (some (.t 83)) none),mv_ 85 1,so_ 86 (.call 25 [.t 84,.t 85]),mv_ 12 86] [1,2,4,5,11,12,56,57,58])
 EQ
def EO:Ad := .cond (.t 72)
 EK
 (.skip)
def EI:Ad := .seq (.ops [mv_ 62 11,po_ 63 (.bin 3 .geq (.t 62) (ci_ 0)),mv_ 64 63,⟨some 65,.p (.mov (.t 11)),some ⟨64,true⟩⟩,⟨some 66,.p (.load false 1 (.t 2)),some ⟨64,true⟩⟩,⟨some 67,.p (.nilc (.t 66)),some ⟨64,true⟩⟩,⟨some 68,.p (.fieldA 1 1 (.t 67)),some ⟨64,true⟩⟩,⟨some 69,.p (.load false 1 (.t 68)),some ⟨64,true⟩⟩,⟨some 70,.p (.lenV (.t 69)),some ⟨64,true⟩⟩,⟨some 71,.p (.bin 3 .lss (.t 65) (.t 70)),some ⟨64,true⟩⟩,po_ 72 (.pick (.t 64) (.t 71) (.c (.bool false)))] [1,2,4,5,11,56,57,58,72])
 EO
def Ep:Ad := .seq (.block 1 (.seq (.ops [po_ 60 (.idxA 1 (.t 56) (.t 58)),po_ 61 (.load false 1 (.t 60)),mv_ 11 61] [1,2,4,5,11,56,57,58])
 EI))
 (.ops [po_ 98 (.bin 3 .add (.t 58) (ci_ 1)),mv_ 58 98] [1,2,4,5,56,57,58])
def Ew:Ad := .seq (.cond (.t 59)
 (.skip)
 (.exit 0))
 Ep
def Ez:Ad := .seq (.ops [po_ 59 (.bin 3 .lss (.t 58) (.t 57))] [1,2,4,5,56,57,58,59])
 Ew
def Eu:Ad := .block 0 (.loop [1,2,4,5,56,57,58] Ez)
def EC:Ad := .seq (.ops [mv_ 99 4,mv_ 100 5,mv_ 4 99,mv_ 5 100] [4,5])
 (.ret)
def Et:Ad := .seq (.seq (.ops [mv_ 53 8,po_ 54 (.bin 3 .sub (.t 53) (ci_ 1)),mv_ 55 8,⟨some 56,.s (.bslice 1 2 (.val (.int .i64 ((0:Nat):Int))) [⟨0,.t 54⟩,⟨1,.t 55⟩]),none⟩,po_ 57 (.lenV (.t 56)),po_ 58 (.mov (ci_ 0))] [1,2,4,5,56,57,58])
 Eu)
 EC
def Eo:Ad := .seq (.ops [po_ 44 (.load false 1 (.t 2)),po_ 45 (.nilc (.t 44)),po_ 46 (.fieldA 1 1 (.t 45)),po_ 47 (.load false 1 (.t 46)),mv_ 48 1,po_ 49 (.mkf (.func 27) [] [.t 2]),so_ 50 (.call 26 [.t 47,.t 48,.t 49]),mv_ 43 50,po_ 51 (.ext 0 (.t 43)),po_ 52 (.ext 1 (.t 43)),mv_ 8 51,mv_ 9 52] [1,2,4,5,8])
 Et
def Ey:Ad := .seq (.seq (.ops [po_ 13 (.load false 1 (.t 2)),po_ 14 (.nilc (.t 13)),po_ 15 (.fieldA 2 2 (.t 14)),po_ 16 (.load false 1 (.t 15)),po_ 17 (.eqN 2 (.t 16) (.c (.map none)) true)] [1,2,4,5,17])
 EG)
 Eo
def GG:Ad := .seq (.ops [so_ 2 (.box (.t 0)),po_ 4 (.mov (ci_ 0)),po_ 5 (.mov (ci_ 0))] [1,2,4,5])
 Ey
def GK:List VR:=[.tmp 4,.tmp 5]
theorem Oq:Tryd.f15.body.bind (trC Tryd.prog Tryd.f15.ntmps)=some (er GG):=by kernel_rfl
theorem Ot:trR Tryd.prog Tryd.f15.results.toList=some GK:=by kernel_rfl
def Ef:=Ac EN.eq_1
def JR:=Ac EJ.eq_1
def Ed:=Ac ES.eq_1
def Cj:=Ac EG.eq_1
def Jz:=Ac ER.eq_1
def Ec:=Ac EQ.eq_1
def Jv:=Ac EK.eq_1
def CG:=Ac EO.eq_1
def CB:=Ac EI.eq_1
def Cb:=Ac Ep.eq_1
def Bl:=Ac Ew.eq_1
def Bo:=Ac Ez.eq_1
def Jl:=Ac Eu.eq_1
def Jn:=Ac EC.eq_1
def Jp:=Ac Et.eq_1
def Jm:=Ac Eo.eq_1
def Cf:=Ac Ey.eq_1
def Dk:=Ac GG.eq_1
theorem BV {K:TV→Prop} {e:Env} {H:List Ob}:res GK e H K=res [.tmp 4,.tmp 5] e H K:=Aa rfl
def Nq:=Sz 101 Tryd.func15 Oq Ot rfl
def Jh:Ad := .ops [mv_ 5 8] [2,5]
def Jg:Ad := .block 1 (.ops [po_ 9 (.load false 1 (.t 2)),mv_ 10 5,po_ 11 (.lenV (.t 10)),po_ 12 (.conv .u8 (.t 11)),⟨some 13,.s (.bslice 1 1 (.val (.int .u8 ((0:Nat):Int))) [⟨0,.t 12⟩]),none⟩,so_ 14 (.app 1 1 5 (.t 9) (.t 13)),mv_ 15 5,so_ 16 (.app 1 1 5 (.t 14) (.t 15)),⟨none,.s (.store 1 (.t 2) (.t 16)),none⟩] [])
def IZ:Ad := .seq (.ops [po_ 17 (.load false 1 (.t 2)),mv_ 4 17] [4])
 (.ret)
def IM:Ad := .seq (.seq (.ops [mv_ 6 1,so_ 7 (.call 29 [.t 6,.c (.int .i64 ((127:Nat):Int))])] [2,4,7])
 (.block 0 (.rfunc (.t 7) [8] Jh Jg)))
 IZ
def LU:Ad := .seq (.ops [so_ 2 (.box (.t 0)),po_ 4 (.mov (.c (.slice none 0 0)))] [1,2,4])
 IM
def MH:List VR:=[.tmp 4]
theorem TA:Tryd.f16.body.bind (trC Tryd.prog Tryd.f16.ntmps)=some (er LU):=by kernel_rfl
theorem TD:trR Tryd.prog Tryd.f16.results.toList=some MH:=by kernel_rfl
def Oo:=Ac Jh.eq_1
def Ov:=Ac Jg.eq_1
def Ou:=Ac IZ.eq_1
def Ol:=Ac IM.eq_1
def QU:=Ac LU.eq_1
theorem Q3 {K:TV→Prop} {e:Env} {H:List Ob}:res MH e H K=res [.tmp 4] e H K:=Aa rfl
def RG:=Sz 18 Tryd.func16 TA TD rfl
def H9:Ad := .seq (.draw 4 [mv_ 38 0,mv_ 39 8,po_ 40 (.idxA 1 (.t 38) (.t 39)),po_ 41 (.load false 1 (.t 40)),mv_ 42 9,po_ 43 (.bin 5 .shl (.c (.int .u8 ((1:Nat):Int))) (.t 42)),po_ 44 (.bin 5 .or (.t 41) (.t 43)),po_ 45 (.idxA 1 (.t 38) (.t 39)),⟨none,.s (.store 1 (.t 45) (.t 44)),none⟩] [0,1,2,7,8,10,30,31])
 (.ops [mv_ 46 0,mv_ 47 10,po_ 48 (.conv .u8 (.t 47)),⟨some 49,.s (.bslice 1 1 (.val (.int .u8 ((0:Nat):Int))) [⟨0,.t 48⟩]),none⟩,so_ 50 (.app 1 1 5 (.t 46) (.t 49)),mv_ 0 50] [0,1,2,7,8,30,31])
def HY:Ad := .cond (.t 37)
 H9
 (.skip)
def Hy:Ad := .seq (.ops [mv_ 35 10,po_ 36 (.bin 3 .and (.t 35) (ci_ 255)),po_ 37 (.bin 3 .gtr (.t 36) (ci_ 0))] [0,1,2,7,8,9,10,30,31,37])
 HY
def H8:Ad := .seq (.block 3 (.seq (.ops [mv_ 33 31,po_ 34 (.idx false 6 1 (.t 30) (.t 31)),mv_ 9 33,mv_ 10 34] [0,1,2,7,8,9,10,30,31])
 Hy))
 (.ops [po_ 51 (.bin 3 .add (.t 31) (ci_ 1)),mv_ 31 51] [0,1,2,7,8,30,31])
def Hz:Ad := .seq (.cond (.t 32)
 (.skip)
 (.exit 2))
 H8
def Il:Ad := .seq (.ops [po_ 32 (.bin 3 .lss (.t 31) (ci_ 6))] [0,1,2,7,8,30,31,32])
 Hz
def Ia:Ad := .block 2 (.own 0 1 (.loop [0,1,2,7,8,30,31] Il))
def Iu:Ad := .seq (.ops [mv_ 52 1,mv_ 53 7,po_ 54 (.bin 3 .add (.t 52) (.t 53)),mv_ 1 54] [0,1,2,7])
 (.ops [mv_ 55 2,mv_ 56 7,po_ 57 (.bin 3 .sub (.t 55) (.t 56)),mv_ 2 57] [0,1,2])
def Iz:Ad := .seq (.seq (.ops [mv_ 20 1,mv_ 21 1,po_ 22 (.bin 3 .shr (.t 21) (.c (.int .u64 ((8:Nat):Int)))),mv_ 23 1,po_ 24 (.bin 3 .shr (.t 23) (.c (.int .u64 ((16:Nat):Int)))),mv_ 25 1,po_ 26 (.bin 3 .shr (.t 25) (.c (.int .u64 ((24:Nat):Int)))),mv_ 27 7,mv_ 28 7,po_ 29 (.bin 3 .shr (.t 28) (.c (.int .u64 ((8:Nat):Int)))),⟨some 30,.p (.buildA 6 1 [.val (.int .i64 ((0:Nat):Int)),.val (.int .i64 ((0:Nat):Int)),.val (.int .i64 ((0:Nat):Int)),.val (.int .i64 ((0:Nat):Int)),.val (.int .i64 ((0:Nat):Int)),.val (.int .i64 ((0:Nat):Int))] [⟨0,.t 20⟩,⟨1,.t 22⟩,⟨2,.t 24⟩,⟨3,.t 26⟩,⟨4,.t 27⟩,⟨5,.t 29⟩]),none⟩,po_ 31 (.mov (ci_ 0))] [0,1,2,7,8,30,31])
 Ia)
 Iu
def GL:Ad := .seq (.ops [mv_ 17 0,⟨some 18,.s (.bslice 1 1 (.val (.int .u8 ((0:Nat):Int))) [⟨0,.c (.int .u8 ((128:Nat):Int))⟩]),none⟩,so_ 19 (.app 1 1 5 (.t 17) (.t 18)),mv_ 0 19] [0,1,2,7,8])
 Iz
def DW:Ad := .seq (.ops [mv_ 15 0,po_ 16 (.lenV (.t 15)),mv_ 8 16] [0,1,2,7,8])
 GL
def GY:Ad := .block 1 (.seq (.ops [mv_ 13 2,po_ 14 (.min (.t 13) (ci_ 65535)),mv_ 7 14] [0,1,2,7])
 DW)
def GR:Ad := .seq (.seq (.ops [mv_ 11 2,po_ 12 (.bin 3 .gtr (.t 11) (ci_ 0))] [0,1,2,12])
 (.cond (.t 12)
 (.skip)
 (.exit 0)))
 GY
def DR:Ad := .seq (.ops [mv_ 58 0,mv_ 6 58] [6])
 (.ret)
def GI:Ad := .seq (.block 0 (.own 0 1 (.loop [0,1,2] GR)))
 DR
def Kw:Ad := .seq (.ops [po_ 6 (.mov (.c (.slice none 0 0)))] [0,1,2])
 GI
def Gj:List VR:=[.tmp 6]
theorem RF:Tryd.f17.body.bind (trC Tryd.prog Tryd.f17.ntmps)=some (er Kw):=by kernel_rfl
theorem SE:trR Tryd.prog Tryd.f17.results.toList=some Gj:=by kernel_rfl
def ND:=Ac H9.eq_1
def Gp:=Ac HY.eq_1
def FZ:=Ac Hy.eq_1
def F9:=Ac H8.eq_1
def DC:=Ac Hz.eq_1
def Dz:=Ac Il.eq_1
def NL:=Ac Ia.eq_1
def NI:=Ac Iu.eq_1
def NK:=Ac Iz.eq_1
def MO:=Ac GL.eq_1
def MR:=Ac DW.eq_1
def Fj:=Ac GY.eq_1
def Di:=Ac GR.eq_1
def LP:=Ac DR.eq_1
def MM:=Ac GI.eq_1
def PX:=Ac Kw.eq_1
theorem PS {K:TV→Prop} {e:Env} {H:List Ob}:res Gj e H K=res [.tmp 6] e H K:=Aa rfl
def Q9:=Sz 59 Tryd.func17 RF SE rfl
def Na:Ad := .sdraw 10 [mv_ 24 4,mv_ 25 7,po_ 26 (.load false 1 (.t 5)),mv_ 27 7,mv_ 28 7,mv_ 29 0,mv_ 30 7,po_ 31 (.idxA 1 (.t 29) (.t 30)),po_ 32 (.load false 1 (.t 31)),po_ 33 (.conv .i64 (.t 32)),po_ 34 (.idxA 1 (.t 24) (.t 25)),⟨none,.s (.store 1 (.t 34) (.t 28)),none⟩,po_ 35 (.idxA 1 (.t 26) (.t 27)),⟨none,.s (.store 1 (.t 35) (.t 33)),none⟩] [0,3,4,5,6,20,21]
def MZ:Ad := .seq (.block 1 (.seq (.ops [mv_ 23 21,mv_ 7 23] [0,3,4,5,6,7,20,21])
 Na))
 (.ops [po_ 36 (.bin 3 .add (.t 21) (ci_ 1)),mv_ 21 36] [0,3,4,5,6,20,21])
def MX:Ad := .seq (.cond (.t 22)
 (.skip)
 (.exit 0))
 MZ
def MQ:Ad := .seq (.ops [po_ 22 (.bin 3 .lss (.t 21) (.t 20))] [0,3,4,5,6,20,21,22])
 MX
def Nb:Ad := .block 0 (.loop [0,3,4,5,6,20,21] MQ)
def Ld:Ad := .ops [mv_ 76 6,mv_ 77 11,po_ 78 (.idxA 1 (.t 76) (.t 77)),po_ 79 (.load false 1 (.t 78)),po_ 80 (.bin 3 .add (.t 79) (ci_ 1)),po_ 81 (.idxA 1 (.t 76) (.t 77)),⟨none,.s (.store 1 (.t 81) (.t 80)),none⟩] [3,4,5,6,8,9,44,45,46]
def LG:Ad := .seq (.ops [mv_ 67 9,mv_ 68 4,mv_ 69 10,po_ 70 (.bin 3 .sub (.t 69) (ci_ 1)),po_ 71 (.idxA 1 (.t 68) (.t 70)),po_ 72 (.load false 1 (.t 71)),mv_ 73 11,so_ 74 (.callv (.t 67) [.t 72,.t 73]),po_ 75 (.bin 3 .neq (.t 74) (ci_ 0))] [3,4,5,6,8,9,11,44,45,46,75])
 (.cond (.t 75)
 Ld
 (.skip))
def MV:Ad := .seq (.ops [mv_ 56 6,mv_ 57 11,mv_ 58 6,mv_ 59 4,mv_ 60 10,po_ 61 (.bin 3 .sub (.t 60) (ci_ 1)),po_ 62 (.idxA 1 (.t 59) (.t 61)),po_ 63 (.load false 1 (.t 62)),po_ 64 (.idxA 1 (.t 58) (.t 63)),po_ 65 (.load false 1 (.t 64)),po_ 66 (.idxA 1 (.t 56) (.t 57)),⟨none,.s (.store 1 (.t 66) (.t 65)),none⟩] [3,4,5,6,8,9,10,11,44,45,46])
 LG
def L6:Ad := .cond (.t 55)
 MV
 (.skip)
def Kv:Ad := .seq (.ops [mv_ 54 10,po_ 55 (.bin 3 .gtr (.t 54) (ci_ 0))] [3,4,5,6,8,9,10,11,44,45,46,55])
 L6
def Ky:Ad := .seq (.ops [mv_ 51 6,mv_ 52 11,po_ 53 (.idxA 1 (.t 51) (.t 52)),⟨none,.s (.store 1 (.t 53) (ci_ 0)),none⟩] [3,4,5,6,8,9,10,11,44,45,46])
 Kv
def KA:Ad := .seq (.block 5 (.seq (.ops [mv_ 48 46,po_ 49 (.idxA 1 (.t 44) (.t 46)),po_ 50 (.load false 1 (.t 49)),mv_ 10 48,mv_ 11 50] [3,4,5,6,8,9,10,11,44,45,46])
 Ky))
 (.ops [po_ 82 (.bin 3 .add (.t 46) (ci_ 1)),mv_ 46 82] [3,4,5,6,8,9,44,45,46])
def Kt:Ad := .seq (.cond (.t 47)
 (.skip)
 (.exit 4))
 KA
def KD:Ad := .seq (.ops [po_ 47 (.bin 3 .lss (.t 46) (.t 45))] [3,4,5,6,8,9,44,45,46,47])
 Kt
def J6:Ad := .block 4 (.loop [3,4,5,6,8,9,44,45,46] KD)
def F8:Ad := .seq (.ops [mv_ 83 6,po_ 84 (.load false 1 (.t 5)),⟨none,.s (.store 1 (.t 5) (.t 83)),none⟩,mv_ 6 84] [3,4,5,6,8])
 (.seq (.ops [po_ 85 (.load false 1 (.t 8)),po_ 86 (.load false 1 (.t 3)),po_ 87 (.bin 3 .geq (.t 85) (.t 86))] [3,4,5,6,8,87])
 (.cond (.t 87)
 (.seq (.ops [mv_ 88 4,mv_ 2 88] [2])
  (.ret))
 (.skip)))
def FV:Ad := .seq (.seq (.ops [mv_ 44 4,po_ 45 (.lenV (.t 44)),po_ 46 (.mov (ci_ 0))] [3,4,5,6,8,9,44,45,46])
 J6)
 F8
def KE:Ad := .seq (.ops [mv_ 41 4,mv_ 42 9,so_ 43 (.call 36 [.t 41,.t 42])] [3,4,5,6,8,9])
 FV
def J9:Ad := .seq (.seq (.ops [po_ 89 (.load false 1 (.t 8))] [3,4,5,6,89])
 (.ops [so_ 8 (.alloc (.val (.int .i64 ((0:Nat):Int)))),⟨none,.s (.store 1 (.t 8) (.t 89)),none⟩] [3,4,5,6,8]))
 (.ops [po_ 37 (.load false 1 (.t 8)),po_ 38 (.bin 3 .mul (ci_ 2) (.t 37)),po_ 39 (.max (ci_ 1) (.t 38)),⟨none,.s (.store 1 (.t 8) (.t 39)),none⟩] [3,4,5,6,8])
def Kz:Ad := .seq (.block 3 (.seq (.ops [po_ 40 (.mkf (.func 35) [] [.t 5,.t 8,.t 3]),mv_ 9 40] [3,4,5,6,8,9])
 KE))
 J9
def Kq:Ad := .block 2 (.loop [3,4,5,6,8] Kz)
def D5:Ad := .seq (.ops [so_ 8 (.alloc (.val (.int .i64 ((0:Nat):Int)))),⟨none,.s (.store 1 (.t 8) (ci_ 0)),none⟩] [3,4,5,6,8])
 Kq
def D6:Ad := .seq (.seq (.ops [po_ 20 (.load false 1 (.t 3)),po_ 21 (.mov (ci_ 0))] [0,3,4,5,6,20,21])
 Nb)
 D5
def DK:List VR:=[.tmp 2]
theorem Vu:trR Tryd.prog Tryd.f24.results.toList=some DK:=by kernel_rfl
def Qy:=Ac Na.eq_1
def QR:=Ac MZ.eq_1
def JD:=Ac MX.eq_1
def JL:=Ac MQ.eq_1
def QJ:=Ac Nb.eq_1
def Qq:=Ac Ld.eq_1
def QF:=Ac LG.eq_1
def QN:=Ac MV.eq_1
def JG:=Ac L6.eq_1
def Jj:=Ac Kv.eq_1
def P7:=Ac Ky.eq_1
def P6:=Ac KA.eq_1
def I4:=Ac Kt.eq_1
def Jb:=Ac KD.eq_1
def Qc:=Ac J6.eq_1
def ED:=Ac F8.eq_1
def PY:=Ac FV.eq_1
def P8:=Ac KE.eq_1
def IL:=Ac J9.eq_1
def PZ:=Ac Kz.eq_1
def PU:=Ac Kq.eq_1
def PT:=Ac D5.eq_1
def PR:=Ac D6.eq_1
theorem Uh {K:TV→Prop} {e:Env} {H:List Ob}:res DK e H K=res [.tmp 2] e H K:=Aa rfl
def LW:Ad := .seq (.seq (.draw 16 [mv_ 6 5,mv_ 7 0,po_ 8 (.lenV (.t 7)),po_ 9 (.bin 3 .lss (.t 6) (.t 8)),mv_ 10 9,⟨some 11,.p (.mov (.t 5)),some ⟨10,true⟩⟩,⟨some 12,.p (.mov (.t 1)),some ⟨10,true⟩⟩,⟨some 13,.p (.lenV (.t 12)),some ⟨10,true⟩⟩,⟨some 14,.p (.bin 3 .lss (.t 11) (.t 13)),some ⟨10,true⟩⟩,po_ 15 (.pick (.t 10) (.t 14) (.c (.bool false))),mv_ 16 15,⟨some 17,.p (.mov (.t 0)),some ⟨16,true⟩⟩,⟨some 18,.p (.mov (.t 5)),some ⟨16,true⟩⟩,⟨some 19,.p (.idxA 1 (.t 17) (.t 18)),some ⟨16,true⟩⟩,⟨some 20,.p (.load false 1 (.t 19)),some ⟨16,true⟩⟩,⟨some 21,.p (.mov (.t 1)),some ⟨16,true⟩⟩,⟨some 22,.p (.mov (.t 5)),some ⟨16,true⟩⟩,⟨some 23,.p (.idxA 1 (.t 21) (.t 22)),some ⟨16,true⟩⟩,⟨some 24,.p (.load false 1 (.t 23)),some ⟨16,true⟩⟩,⟨some 25,.p (.bin 5 .eql (.t 20) (.t 24)),some ⟨16,true⟩⟩,po_ 26 (.pick (.t 16) (.t 25) (.c (.bool false)))] [0,1,5,26])
 (.cond (.t 26)
 (.skip)
 (.exit 0)))
 (.block 1 (.ops [mv_ 27 5,po_ 28 (.bin 3 .add (.t 27) (ci_ 1)),mv_ 5 28] [0,1,5]))
def Nj:Ad := .seq (.ops [mv_ 29 5,mv_ 4 29] [4])
 (.ret)
def MW:Ad := .seq (.block 0 (.loop [0,1,5] LW))
 Nj
def MI:Ad := .seq (.ops [po_ 5 (.mov (ci_ 0))] [0,1,5])
 MW
def Qd:Ad := .seq (.ops [po_ 4 (.mov (ci_ 0))] [0,1])
 MI
def Qk:List VR:=[.tmp 4]
theorem Vd:Tryd.f25.body.bind (trC Tryd.prog Tryd.f25.ntmps)=some (er Qd):=by kernel_rfl
theorem Ve:trR Tryd.prog Tryd.f25.results.toList=some Qk:=by kernel_rfl
def Dt:=Ac LW.eq_1
def EZ:=Ac Nj.eq_1
def Qx:=Ac MW.eq_1
def Qz:=Ac MI.eq_1
def Uj:=Ac Qd.eq_1
theorem IK {K:TV→Prop} {e:Env} {H:List Ob}:res Qk e H K=res [.tmp 4] e H K:=Aa rfl
def U5:=Sz 30 Tryd.func25 Vd Ve rfl
end
section
open Go.RowKit Go.Sort
variable [A7]
theorem XH {α:Type} {l:List α} {i n:Nat} {a z x:α} (hl:l.length=i) (h:i<n):(l++List.replicate (n - i) z).set i x=(l++[x])++List.replicate (n - (i+1)) z:=by
 rw [List.set_append_right _ _ (by omega),hl,Nat.sub_self,show n - i=(n - (i+1))+1 by omega,List.replicate_succ,List.set_cons_zero,List.append_assoc]; rfl
set_option maxRecDepth 100000 in
theorem Aas {b:List UInt8} (hb:b.length≤20000) {H0:List Ob} {Q:VEx→Env→List Ob→Prop}
  {H:List Ob} (h:Rf H0 H b.length (H0.length+2) (H0.length+3) (List.replicate b.length 0) (List.replicate b.length 0) (List.replicate b.length 0))
  (hK:∀ H2,H2.length=H.length→Rf H0 H2 b.length (H0.length+2) (H0.length+3) (List.range b.length) (b.map UInt8.toNat) (List.replicate b.length 0)→vwp Tryd.prog D5 Q [(0,slB b),(3,.op H0.length 0 []),(4,.os 1 (H0.length+1) 0 [] 0 b.length b.length),(5,.op (H0.length+4) 0 []),(6,.os 1 (H0.length+3) 0 [] 0 b.length b.length),(20,i64 (b.length:Int)),(21,i64 (b.length:Int))] H2) :
  vwp Tryd.prog D6 Q [(0,slB b),(3,.op H0.length 0 []),(4,.os 1 (H0.length+1) 0 [] 0 b.length b.length),(5,.op (H0.length+4) 0 []),(6,.os 1 (H0.length+3) 0 [] 0 b.length b.length)] H:=by
 have q:=h.on
 simp -dsimp (disch:=first | assumption | omega | (simp only [Af];try omega)) only [↓Ak,Ae,Ai,Aj,eq_self,Nat.reduceEqDiff,↓reduceIte,reduceCtorEq,q,↓PR,↓QJ]
 refine KH (fun m e H2=>∃ (i:Nat),m=b.length - i∧i≤b.length∧H2.length=H.length∧Rf H0 H2 b.length (H0.length+2) (H0.length+3) (List.range i++List.replicate (b.length - i) 0) ((b.take i).map UInt8.toNat++List.replicate (b.length - i) 0) (List.replicate b.length 0) ∧
  e=[(0,slB b),(3,.op H0.length 0 []),(4,.os 1 (H0.length+1) 0 [] 0 b.length b.length),(5,.op (H0.length+4) 0 []),(6,.os 1 (H0.length+3) 0 [] 0 b.length b.length),(20,i64 (b.length:Int)),(21,i64 (i:Int))]) b.length ?_ ?_
 ·exact ⟨0,rfl,Nat.zero_le _,rfl,by simpa using h,rfl⟩
 rintro m e H2 ⟨i,rfl,hi,hlen,h2,rfl⟩
 by_cases hib:i<b.length
 ·obtain ⟨x,hg⟩:∃ x,b[i]?=some x:=⟨_,List.getElem?_eq_getElem hib⟩
  have ql:=h2.ol
  have qc:=h2.oc
  have qr:=h2.orr
  have hl2:=h2.len
  have hlx:=h2.pl
  have hrl:=h2.rl
  have hti:((b.take i).map UInt8.toNat).length=i:=by simp; omega
  have hx0:(List.range i++List.replicate (b.length - i) 0)[i]?=some 0:=by rw [List.getElem?_append_right (by simp),List.length_range,Nat.sub_self,List.getElem?_replicate,if_pos (by omega)]
  have hr0:((b.take i).map UInt8.toNat++List.replicate (b.length - i) 0)[i]?=some 0:=by rw [List.getElem?_append_right (by omega),hti,Nat.sub_self,List.getElem?_replicate,if_pos (by omega)]
  have hwi:∀ a:Int,Aw (i64 a)=1:=fun _=>Cm
  have e1:=XH (l:=List.range i) (n:=b.length) (z:=0) (a:=0) (x:=i) (by simp) hib
  have e2:=XH (l:=(b.take i).map UInt8.toNat) (n:=b.length) (z:=0) (a:=0) (x:=x.toNat) hti hib
  rw [←List.range_succ] at e1
  rw [show (b.take i).map UInt8.toNat++[x.toNat]=(b.take (i+1)).map UInt8.toNat by rw [List.take_add_one,hg,List.map_append]; rfl] at e2
  have hxb:x.toNat≤1000000:=by have:=x.toNat_lt; omega
  have hnew:=(h2.setL (ps':=List.range (i+1)++List.replicate (b.length - (i+1)) 0) (by simp; omega)).setR (r':=(b.take (i+1)).map UInt8.toNat++List.replicate (b.length - (i+1)) 0) (by simp; omega) (by rw [←e2]; exact AmI h2.rb hxb)
  generalize hX:List.range i++List.replicate (b.length - i) 0=X at *
  generalize hY:(b.take i).map UInt8.toNat++List.replicate (b.length - i) 0=Y at *
  simp -dsimp (disch:=first | assumption | omega | (simp only [Af];try omega)) only [↓Ak,Ae,Ai,Aj,eq_self,Nat.reduceEqDiff,Nat.reduceMod,↓reduceIte,reduceCtorEq,↓JL,hib,↓JD,↓QR,↓Qy,hg,ql,qc,qr,hx0,hr0,hwi]
  have hkk:∀ (e:Env) (u:TV) (Hx:List Ob) (j:Nat) (o:Ob),get e 5 = .op (H0.length+4) 0 []→get e 31 = .fp u→j≠H0.length+4→OA [5,31] e Hx (Hx.set j o):=fun e u Hx j o h5 h31 hj =>
   Aih h5 (List.getElem?_set_ne hj) (AhD (by rw [h31]) Aev)
  refine ⟨⟨?_,?_⟩,?_⟩
  rotate_left
  ·change OA [5,31] _ _ _; exact hkk _ (by8 x) _ _ _ (by simp [get]) (by simp [get]) (by omega)
  ·change OA [5,31] _ _ _; exact hkk _ (by8 x) _ _ _ (by simp [get]) (by simp [get]) (by omega)
  have f1:(TV.val (Value.int IntKind.i64 (x.toNat:Int)))=i64 (x.toNat:Int):=rfl
  rw [f1,UQ,UQ,e1,e2]
  exact Ba (b.length - (i+1)) (by omega) (by simp; omega) ⟨i+1,rfl,by omega,by simp [hlen],hnew,by simp [forget,get]⟩
 ·have hi2:i=b.length:=by omega
  subst hi2
  have:=hK H2 hlen (by simpa using h2)
  simp -dsimp (disch:=first | assumption | omega | (simp only [Af];try omega)) only [↓Ak,Ae,Ai,Aj,eq_self,Nat.reduceEqDiff,↓reduceIte,reduceCtorEq,↓JL,↓JD]
  exact this
end
section
open Go.RowKit Go.Sort
variable [A7]
abbrev fnP (H0 k8:Nat):TV := .fn (.func 35) [] [.op (H0+4) 0 [],.op k8 0 [],.op H0 0 []]
theorem Zz:SK Tryd.prog 35=true:=Aa (by kernel_rfl)
theorem AdC {l:List Nat} {i:Nat} (h:i<l.length):l[i]?=some (l.getD i 0):=by rw [List.getD_eq_getElem?_getD,List.getElem?_eq_getElem h]; rfl
theorem KT {l:List Nat} {i x:Nat} (h:l[i]?=some x):l.getD i 0=x:=by rw [List.getD_eq_getElem?_getD,h]; rfl
set_option maxRecDepth 100000 in
theorem Aa5 {n:Nat} (hn:n≤20000) {k:Nat} (hk:k≤40000) {H0:List Ob} {Q:VEx→Env→List Ob→Prop} {kr kn k8:Nat} {ps ranks nexts:List Nat} (hps:ps.Perm (List.range n))
  {H:List Ob} (h:Rf H0 H n kr kn ps ranks nexts) (h8:H0.length+5≤k8) (g8:H[k8]?=some (.obj 0 (i64 (k:Int))))
  (hK:∀ H2 nexts',H2.length=H.length→Rf H0 H2 n kr kn ps ranks nexts'→H2[k8]?=some (.obj 0 (i64 (k:Int)))→(∀ i,i<n→nexts'.getD (ps.getD i 0) 0=dnP ranks ps k n i) →
   vwp Tryd.prog F8 Q [(3,.op H0.length 0 []),(4,.os 1 (H0.length+1) 0 [] 0 n n),(5,.op (H0.length+4) 0 []),(6,.os 1 kn 0 [] 0 n n),(8,.op k8 0 []),(9,fnP H0.length k8),(44,.os 1 (H0.length+1) 0 [] 0 n n),(45,i64 (n:Int)),(46,i64 (n:Int))] H2) :
  vwp Tryd.prog FV Q [(3,.op H0.length 0 []),(4,.os 1 (H0.length+1) 0 [] 0 n n),(5,.op (H0.length+4) 0 []),(6,.os 1 kn 0 [] 0 n n),(8,.op k8 0 []),(9,fnP H0.length k8)] H:=by
 have hpn:∀ i x,ps[i]?=some x→x<n:=fun i x hx=>by
  have:=hps.mem_iff.1 (List.mem_of_getElem? hx)
  simpa using this
 have hnd:∀ i j x,ps[i]?=some x→ps[j]?=some x→i=j:=fun i j x hi hj=>by
  have hd:ps.Nodup:=hps.nodup_iff.2 List.nodup_range
  obtain ⟨hi1,hi2⟩:=List.getElem?_eq_some_iff.1 hi
  obtain ⟨hj1,hj2⟩:=List.getElem?_eq_some_iff.1 hj
  rcases Nat.lt_trichotomy i j with hlt | he | hlt
  ·exact absurd (hi2.trans hj2.symm) (List.pairwise_iff_getElem.1 hd i j hi1 hj1 hlt)
  ·exact he
  ·exact absurd (hj2.trans hi2.symm) (List.pairwise_iff_getElem.1 hd j i hj1 hi1 hlt)
 simp -dsimp (disch:=first | assumption | omega | (simp only [Af];try omega)) only [↓Ak,Ae,Ai,Aj,eq_self,Nat.reduceEqDiff,↓reduceIte,↓PY,↓Qc]
 refine KH (fun m e H2=>∃ (j:Nat) (nexts':List Nat),m=n - j∧j≤n∧H2.length=H.length∧Rf H0 H2 n kr kn ps ranks nexts'∧H2[k8]?=some (.obj 0 (i64 (k:Int)))∧(∀ i,i<j→nexts'.getD (ps.getD i 0) 0=dnP ranks ps k n i) ∧
  e=[(3,.op H0.length 0 []),(4,.os 1 (H0.length+1) 0 [] 0 n n),(5,.op (H0.length+4) 0 []),(6,.os 1 kn 0 [] 0 n n),(8,.op k8 0 []),(9,fnP H0.length k8),(44,.os 1 (H0.length+1) 0 [] 0 n n),(45,i64 (n:Int)),(46,i64 (j:Int))]) n ?_ ?_
 ·exact ⟨0,nexts,rfl,Nat.zero_le _,rfl,h,g8,fun i hi=>by omega,rfl⟩
 rintro m e H2 ⟨j,nx,rfl,hj,hlen,h2,g2,hd,rfl⟩
 by_cases hjn:j<n
 ·have ql:=h2.ol
  have qx:=h2.ox
  have hkk:=h2.kk
  have hl2:=h2.len
  have hpl:=h2.pl
  have hxl:=h2.xl
  have h8l:k8<H2.length:=(List.getElem?_eq_some_iff.1 g2).1
  obtain ⟨x,hx⟩:∃ x,ps[j]?=some x:=⟨_,List.getElem?_eq_getElem (by omega)⟩
  have hxn:=hpn j x hx
  obtain ⟨nx0,hnx0⟩:∃ y,nx[x]?=some y:=⟨_,List.getElem?_eq_getElem (by omega)⟩
  have hwi:∀ a:Int,Aw (i64 a)=1:=fun _=>Cm
  have s1:=h2.setX (r':=nx.set x 0) (by simp; omega) (AmI h2.xb (by omega))
  simp -dsimp (disch:=first | assumption | omega | (simp only [Af];try omega)) only [↓Ak,Ae,Ai,Aj,eq_self,Nat.reduceEqDiff,↓reduceIte,↓Jb,hjn,↓I4,↓P6,↓P7,hx,hnx0,hwi,ql,qx]
  have f0:∀ (l:List Nat) (y a:Nat),(EH l).set y (TV.val (Value.int IntKind.i64 (a:Int)))=EH (l.set y a):=fun _ _ _=>UQ
  rw [f0]
  have g3:(H2.set kn (.obj 0 (.arr n 1 (EH (nx.set x 0)))))[k8]?=some (.obj 0 (i64 (k:Int))):=by rw [List.getElem?_set_ne (by omega)]; exact g2
  have l3:(H2.set kn (.obj 0 (.arr n 1 (EH (nx.set x 0))))).length=H.length:=by rw [List.length_set]; exact hlen
  generalize H2.set kn (.obj 0 (.arr n 1 (EH (nx.set x 0))))=H3 at *
  have hxs:(nx.set x 0)[x]?=some 0:=List.getElem?_set_self (by omega)
  have hget:∀ i y a,i<j→ps[i]?=some y→(nx.set x a).getD y 0=nx.getD y 0:=fun i y a hi hy=>by
   rw [List.getD_eq_getElem?_getD,List.getD_eq_getElem?_getD,List.getElem?_set_ne (fun e=>by subst e; have:=hnd i j x hy hx; omega)]
  -- what the round is to show
  have fin:∀ (H4:List Ob) (nx4:List Nat),H4.length=H.length→Rf H0 H4 n kr kn ps ranks nx4→H4[k8]?=some (.obj 0 (i64 (k:Int)))→(∀ i,i<j→nx4.getD (ps.getD i 0) 0=nx.getD (ps.getD i 0) 0)→nx4.getD x 0=dnP ranks ps k n j→∀ i,i<j+1→nx4.getD (ps.getD i 0) 0=dnP ranks ps k n i:=by
   intro H4 nx4 _ _ _ ho hnew i hi
   by_cases e:i=j
   ·subst e; rw [KT hx]; exact hnew
   ·rw [ho i (by omega)]; exact hd i (by omega)
  by_cases hj0:j=0
  ·subst hj0
   simp -dsimp (disch:=first | assumption | omega | (simp only [Af];try omega)) only [↓Ak,Ae,Ai,Aj,eq_self,Nat.reduceLT,Nat.reduceEqDiff,↓reduceIte,↓Jj,↓JG]
   exact Ba (n - 1) (by omega) (by omega) ⟨1,nx.set x 0,rfl,by omega,l3,s1,g3,fin H3 _ l3 s1 g3 (fun i hi=>by omega) (by rw [KT hxs,dnP]),rfl⟩
  ·obtain ⟨i,rfl⟩:∃ i,j=i+1:=⟨j - 1,by omega⟩
   obtain ⟨p,hp⟩:∃ p,ps[i]?=some p:=⟨_,List.getElem?_eq_getElem (by omega)⟩
   have hpn2:=hpn i p hp
   have hpx:x≠p:=fun e=>by subst e; have:=hnd i (i+1) x hp hx; omega
   have hpi:nx.getD p 0=dnP ranks ps k n i:=by have:=hd i (by omega); rw [KT hp] at this; exact this
   have hd4:dnP ranks ps k n i≤i:=Ahl i
   obtain ⟨d,hdp⟩:∃ d,nx[p]?=some d:=⟨_,List.getElem?_eq_getElem (by omega)⟩
   rw [KT hdp] at hpi
   have hdp2:(nx.set x 0)[p]?=some d:=by rw [List.getElem?_set_ne hpx]; exact hdp
   have q3l:=s1.ol
   have q3x:=s1.ox
   have h3xl:=s1.xl
   have s4:=s1.setX (r':=(nx.set x 0).set x d) (by simp; omega) (AmI s1.xb (by omega))
   have hjs:∀ t,Ei t .sub (.int .i64 ((i+1:Nat):Int)) (.int .i64 ((1:Nat):Int))=some (.int .i64 (i:Int)):=fun t=>by rw [Alm (by omega) (by omega)]; congr 2; omega
   simp -dsimp (disch:=first | assumption | omega | (simp only [Af];try omega)) only [↓Ak,Ae,Ai,Aj,eq_self,Nat.reduceEqDiff,↓reduceIte,↓Jj,↓JG,↓QN,hjs,hp,q3l,q3x,hdp2,hxs,hwi]
   rw [f0]
   rw [List.set_set] at s4 ⊢
   have g4:(H3.set kn (.obj 0 (.arr n 1 (EH (nx.set x d)))))[k8]?=some (.obj 0 (i64 (k:Int))):=by rw [List.getElem?_set_ne (by omega)]; exact g3
   have l4:(H3.set kn (.obj 0 (.arr n 1 (EH (nx.set x d))))).length=H.length:=by rw [List.length_set]; exact l3
   generalize H3.set kn (.obj 0 (.arr n 1 (EH (nx.set x d))))=H4 at *
   have q4l:=s4.ol
   have q4x:=s4.ox
   simp -dsimp (disch:=first | assumption | omega | (simp only [Af];try omega)) only [↓Ak,Ae,Ai,Aj,eq_self,Nat.reduceEqDiff,↓reduceIte,↓QF,hjs,hp,q4l]
   refine ⟨Zz,?_⟩
   refine OD (Y1 (k:=k) s4.rl s4.rb (by omega) (by omega) hpn2 hxn s4.oc s4.orr g4 s4.on ?_)
   have hxd:(nx.set x d)[x]?=some d:=List.getElem?_set_self (by omega)
   by_cases hc:AdR ranks k n p x=0
   ·have hdn:dnP ranks ps k n (i+1)=d:=by rw [dnP,KT hp,KT hx,if_pos hc,hpi]; omega
    rw [show cfR (fun j=>((ranks.getD j 0:Nat):Int)) k n p x=0 from hc]
    simp -dsimp (disch:=first | assumption | omega | (simp only [Af];try omega)) only [↓Ak,Ae,Ai,Aj,eq_self,Nat.reduceEqDiff,↓reduceIte]
    exact Ba (n - (i+2)) (by omega) (by omega) ⟨i+2,nx.set x d,rfl,by omega,l4,s4,g4,fin H4 _ l4 s4 g4 (fun i2 hi2=>hget i2 _ d hi2 (AdC (by omega))) (by rw [KT hxd,hdn]),rfl⟩
   ·have hdn:dnP ranks ps k n (i+1)=d+1:=by rw [dnP,KT hp,KT hx,if_neg hc,hpi]
    have hc2:cfR (fun j=>((ranks.getD j 0:Nat):Int)) k n p x≠0:=hc
    generalize cfR (fun j=>((ranks.getD j 0:Nat):Int)) k n p x=C at *
    have s5:=s4.setX (r':=(nx.set x d).set x (d+1)) (by simp; omega) (AmI s4.xb (by omega))
    have h4xl:=s4.xl
    simp -dsimp (disch:=first | assumption | omega | (simp only [Af];try omega)) only [↓Ak,Ae,Ai,Aj,eq_self,Nat.reduceEqDiff,↓reduceIte,↓Qq,q4x,hxd,hwi]
    rw [f0]
    rw [List.set_set] at s5 ⊢
    have g5:(H4.set kn (.obj 0 (.arr n 1 (EH (nx.set x (d+1))))))[k8]?=some (.obj 0 (i64 (k:Int))):=by rw [List.getElem?_set_ne (by omega)]; exact g4
    have l5:(H4.set kn (.obj 0 (.arr n 1 (EH (nx.set x (d+1)))))).length=H.length:=by rw [List.length_set]; exact l4
    exact Ba (n - (i+2)) (by omega) (by omega) ⟨i+2,nx.set x (d+1),rfl,by omega,l5,s5,g5,fin _ _ l5 s5 g5 (fun i2 hi2=>hget i2 _ (d+1) hi2 (AdC (by omega))) (by rw [KT (List.getElem?_set_self (by omega)),hdn]),rfl⟩
 ·have hi2:j=n:=by omega
  subst hi2
  have:=hK H2 nx hlen h2 g2 hd
  simp -dsimp (disch:=first | assumption | omega | (simp only [Af];try omega)) only [↓Ak,Ae,Ai,Aj,eq_self,Nat.reduceEqDiff,↓reduceIte,↓Jb,↓I4]
  exact this
end
section
open Go.RowKit Go.Sort
variable [A7]
theorem XD {M:Nat} {d:List (Fin (M+1))}:d.map Ag6=EH (d.map fun x=>x.val):=by
 rw [EH,List.map_map]; rfl
theorem AaT {ranks:List Nat} {k M:Nat} {s:List (Fin (M+1))} (h:s.Pairwise (fun x y=>ltOf (cfF (fun j=>((ranks.getD j 0:Nat):Int)) k M) y x=false)):Jw ranks k (M+1) (s.map fun x=>x.val):=by
 unfold Jw
 rw [List.pairwise_map]
 refine h.imp fun {x y} hxy => ?_
 unfold ltOf cfF at hxy
 have h2:=of_decide_eq_false hxy
 exact h2
theorem Agg {n k:Nat} (hn:n≤20000) (hk:k≤40000) {H0 H:List Ob} {kr kn k8:Nat} {ps ranks nexts:List Nat} (h:Rf H0 H n kr kn ps ranks nexts) (h8:H0.length+5≤k8) (g8:H[k8]?=some (.obj 0 (i64 (k:Int)))) (hps:ps.Perm (List.range n))
  {K:TV→List Ob→Prop} (hK:∀ H2 ps',H2.length=H.length→Rf H0 H2 n kr kn ps' ranks nexts→H2[k8]?=some (.obj 0 (i64 (k:Int)))→ps'.Perm (List.range n)→Jw ranks k n ps'→K (.tup []) H2) :
  Au Tryd.prog 36 [.os 1 (H0.length+1) 0 [] 0 n n,fnP H0.length k8] H K:=by
 have hkk:=h.kk
 cases n with
 | zero =>
  have hp0:ps=[]:=by have:=h.pl; exact List.eq_nil_of_length_eq_zero this
  exact AcL Tryd.sortL (hK H ps rfl h g8 hps (by rw [hp0]; exact List.Pairwise.nil))
 | succ M =>
  obtain ⟨d,hd⟩:=Ahf (M:=M) (ps:=ps) fun p hp=>by simpa using hps.mem_iff.1 hp
  have hdl:d.length=M+1:=by have:=h.pl; rw [←hd,List.length_map] at this; exact this
  have ol:=h.ol
  rw [←hd,←XD] at ol
  rw [show (TV.os 1 (H0.length+1) 0 [] 0 (M+1) (M+1)) = .os 1 (H0.length+1) 0 [] 0 d.length (M+1) by rw [hdl]]
  refine YB Tryd.sortL (Apu (fun j=>((ranks.getD j 0:Nat):Int)) k M) (g:=35) (fun args w=>Fa Zz) ?_ ol (by intro e; rw [e] at hdl; cases hdl) (by omega) ?_
  ·exact Adx h.rl h.rb (by omega) (by omega) ol h.oc h.orr g8 h.on (by omega) (by omega) (by omega) (by omega)
  ·intro s hs hsp
   rw [XD]
   have hl:(s.map fun x=>x.val).length=M+1:=by rw [List.length_map,hs.length_eq]; exact hdl
   refine hK _ _ (by rw [List.length_set]) (h.setL hl) (by rw [List.getElem?_set_ne (by omega)]; exact g8) ?_ (AaT hsp)
   have h1:=hs.map fun x=>x.val
   rw [hd] at h1
   exact h1.trans hps
set_option maxRecDepth 100000 in
theorem Aak {n:Nat} (hn:n≤20000) {H0:List Ob} {K:TV→List Ob→Prop} (R:Nat→List Nat→Prop) {ranks0 nexts0:List Nat} (hR0:R 0 ranks0)
  (hRs:∀ k ranks ps nexts,(k<2*n∨k=0)→R k ranks→ps.Perm (List.range n)→Jw ranks k n ps→nexts.length=n→(∀ i,i<n→nexts.getD (ps.getD i 0) 0=dnP ranks ps k n i)→R (max 1 (2*k)) nexts)
  (hK:∀ H' ps k ranks,H0.length+5≤H'.length→(∀ i,i<H0.length→H'[i]?=H0[i]?)→ps.Perm (List.range n)→R k ranks→Jw ranks k n ps→n≤k→H'[H0.length+1]?=some (.obj 0 (.arr n 1 (EH ps)))→K (.os 1 (H0.length+1) 0 [] 0 n n) H')
  {v0 v20 v21:TV} {H:List Ob} (h:Rf H0 H n (H0.length+2) (H0.length+3) (List.range n) ranks0 nexts0) :
  vwp Tryd.prog D5 (Vs DK K) [(0,v0),(3,.op H0.length 0 []),(4,.os 1 (H0.length+1) 0 [] 0 n n),(5,.op (H0.length+4) 0 []),(6,.os 1 (H0.length+3) 0 [] 0 n n),(20,v20),(21,v21)] H:=by
 have hl0:=h.len
 simp -dsimp (disch:=first | assumption | omega | (simp only [Af];try omega)) only [↓Ak,Ae,Ai,Aj,eq_self,Nat.reduceEqDiff,↓reduceIte,reduceCtorEq,↓PT,↓PU]
 refine KH (fun m e H2=>∃ (k k8 kr kn:Nat) (ps ranks nexts:List Nat),m=(if k=0 then 2*n+1 else 2*n - k)∧(k<2*n∨k=0)∧Rf H0 H2 n kr kn ps ranks nexts∧H0.length+5≤k8∧H2[k8]?=some (.obj 0 (i64 (k:Int)))∧H.length≤H2.length∧ps.Perm (List.range n)∧R k ranks ∧
  e=[(3,.op H0.length 0 []),(4,.os 1 (H0.length+1) 0 [] 0 n n),(5,.op (H0.length+4) 0 []),(6,.os 1 kn 0 [] 0 n n),(8,.op k8 0 [])]) (2*n+1) ?_ ?_
 ·exact ⟨0,H.length,_,_,_,_,_,by rw [if_pos rfl],.inr rfl,h.more _,hl0,by rw [List.getElem?_append_right (Nat.le_refl _),Nat.sub_self]; rfl,by simp,List.Perm.refl _,hR0,by simp [forget,get]⟩
 rintro m e H2 ⟨k,k8,kr,kn,ps,ranks,nexts,rfl,hkn,h2,h8,g8,hHl,hps,hR,rfl⟩
 have hk4:k≤40000:=by omega
 have h8l:k8<H2.length:=(List.getElem?_eq_some_iff.1 g8).1
 simp -dsimp (disch:=first | assumption | omega | (simp only [Af];try omega)) only [↓Ak,Ae,Ai,Aj,eq_self,Nat.reduceEqDiff,↓reduceIte,↓PZ,↓P8]
 refine OD (Agg hn (by omega) h2 h8 g8 hps fun H3 ps3 l3 h3 g3 hps3 hs3 => ?_)
 simp -dsimp (disch:=first | assumption | omega | (simp only [Af];try omega)) only [↓Ak,Ae,Ai,Aj,eq_self,Nat.reduceEqDiff,↓reduceIte]
 refine Aa5 hn (by omega) hps3 h3 h8 g3 fun H4 nx4 l4 h4 g4 hd4 => ?_
 have hkk:=h4.kk
 have hr5:=hRs k ranks ps3 nx4 hkn hR hps3 hs3 h4.xl hd4
 have q4c:=h4.oc
 have q4n:=h4.on
 have h5:=h4.swap
 have hll:k8<H4.length:=(List.getElem?_eq_some_iff.1 g4).1
 have g5:(H4.set (H0.length+4) (.obj 0 (.os 1 kn 0 [] 0 n n)))[k8]?=some (.obj 0 (i64 (k:Int))):=by rw [List.getElem?_set_ne (by omega)]; exact g4
 have l5:(H4.set (H0.length+4) (.obj 0 (.os 1 kn 0 [] 0 n n))).length=H2.length:=by rw [List.length_set]; omega
 have hl5:=h5.len
 by_cases hkn2:n≤k
 ·have hfin:=hK _ ps3 k ranks hl5 h5.pre hps3 hR hs3 hkn2 h5.ol
  simp -dsimp (disch:=first | assumption | omega | (simp only [Af];try omega)) only [↓Ak,Ae,Ai,Aj,eq_self,Nat.reduceEqDiff,↓reduceIte,↓ED,q4c,h5.on,g5,hkn2,↓Uh]
  exact hfin
 ·have hfo:∀ (X:List Ob) (a b:Ob),(X++[a]).set X.length b=X++[b]:=fun X a b=>by rw [List.set_append_right _ _ (Nat.le_refl _),Nat.sub_self]; rfl
  have hgo:∀ (X:List Ob) (a:Ob),(X++[a])[X.length]?=some a:=fun X a=>by rw [List.getElem?_append_right (Nat.le_refl _),Nat.sub_self]; rfl
  by_cases h12:1<2*k
  ·rw [Nat.max_eq_right (by omega)] at hr5
   simp -dsimp (disch:=first | assumption | omega | (simp only [Af];try omega)) only [↓Ak,Ae,Ai,Aj,eq_self,Nat.reduceEqDiff,↓reduceIte,↓ED,q4c,h5.on,g5,hkn2,↓IL,h12]
   refine Ba (2*n - 2*k) (by omega) (by simp; omega) ⟨2*k,H4.length,kn,kr,ps3,nx4,ranks,by rw [if_neg (by omega)],.inl (by omega),h5.more _,by have:=h4.len; omega,?_,by simp; omega,hps3,hr5,rfl⟩
   rw [List.getElem?_append_right (by simp),List.length_set,Nat.sub_self]; rfl
  ·have hk0:k=0:=by omega
   subst hk0
   simp -dsimp (disch:=first | assumption | omega | (simp only [Af];try omega)) only [↓Ak,Ae,Ai,Aj,eq_self,Nat.reduceEqDiff,Nat.reduceMul,↓reduceIte,↓ED,q4c,h5.on,g5,hkn2,↓IL,h12]
   refine Ba (2*n - 1) (by omega) (by simp; omega) ⟨1,H4.length,kn,kr,ps3,nx4,ranks,by rw [if_neg (by omega)],.inl (by omega),h5.more _,by have:=h4.len; omega,?_,by simp; omega,hps3,hr5,rfl⟩
   rw [List.getElem?_append_right (by simp),List.length_set,Nat.sub_self]; rfl
end
section
open Go.RowKit Go.Sort
variable [A7]
theorem Xx {c0:Ctx} {w0 w:World} {β:Nat→Nat→Option (Nat×Nat)} {H:List Ob} {F:Nat→Prop} (hs:Sim ⟨β,H,F⟩ w) (hl:Ar c0 w0 ⟨β,H,F⟩ w) (bs:List Nat) (ho:∀ b',Ctx.own ⟨β,H,F⟩ b'→b'<w0.heap.size∨b'∈bs) (hF:∀ b,F b→b<w0.heap.size)
  {z:TV} {vs:List Value} {b:Nat} {t:TypeId} (hz:Ag ⟨β,H,F⟩ w z vs) (hb:w.heap[b]?=some (.cells vs.toArray t (0,0))) (hnb:b∉bs) (hge:w0.heap.size≤b) :
  ∃ β',Sim ⟨β',H++[.obj 0 z],F⟩ w∧Ar c0 w0 ⟨β',H++[.obj 0 z],F⟩ w∧(∀ b',Ctx.own ⟨β',H++[.obj 0 z],F⟩ b'→b'<w0.heap.size∨b'∈b::bs)∧β' H.length 0=some (b,0)∧(∀ id,id<H.length→β' id 0=β id 0):=by
 have h1:¬ Ctx.own ⟨β,H,F⟩ b:=fun h=>(ho b h).elim (fun h=>by omega) hnb
 have h2:¬ F b:=fun h=>by have:=hF b h; omega
 have hm:=Wv hs (.obj 0 z) (some (b,0)) w (fun _ _=>rfl)
 have hget:∀ id y,(H++[Ob.obj 0 z])[id]?=some y→(id<H.length∧H[id]?=some y)∨(id=H.length∧y = .obj 0 z):=by
  intro id y h
  rcases Nat.lt_trichotomy id H.length with h1 | h1 | h1
  ·exact .inl ⟨h1,by rwa [List.getElem?_append_left h1] at h⟩
  ·subst h1; simp at h; exact .inr ⟨rfl,h.symm⟩
  ·rw [List.getElem?_eq_none (by simp; omega)] at h; cases h
 have hβ:∀ id y,H[id]?=some y→upd β H.length 0 (some (b,0)) id y.ver=β id y.ver:=fun id y h=>(hm.has id y.ver ⟨y,h,Nat.le_refl _⟩).2
 have hown:∀ b',Ctx.own ⟨upd β H.length 0 (some (b,0)),H++[.obj 0 z],F⟩ b'→Ctx.own ⟨β,H,F⟩ b'∨b'=b:=by
  rintro b' ⟨id,y,off,h1,h2,h3⟩
  rcases hget id y h1 with ⟨h4,h5⟩ | ⟨rfl,rfl⟩
  ·exact .inl ⟨id,y,off,h5,h2,by show β id y.ver=_; rw [←hβ id y h5]; exact h3⟩
  ·right
   have h3':upd β H.length 0 (some (b,0)) H.length 0=some (b',off):=h3
   rw [AA] at h3'; cases h3'; rfl
 refine ⟨upd β H.length 0 (some (b,0)),⟨fun id y hy => ?_,fun i j x y b' o1 o2 hx hy hlx hly e1 e2 => ?_,fun b' hb' hF => ?_,hs.lt,hs.glob⟩,hl.adopt hge rfl hm hown,fun b' hb' => ?_,AA,fun id hid=>Pm (by omega)⟩
 ·rcases hget id y hy with ⟨h4,h5⟩ | ⟨rfl,rfl⟩
  ·exact Xk.mono hm ⟨y,h5,Nat.le_refl _⟩ (fun _ _ _ _=>rfl) (hs.ob id y h5)
  ·exact .inr ⟨b,0,[],vs,[],t,(0,0),AA,by simpa using hb,XL _,rfl,Ag.mono hm hz⟩
 ·have e1':upd β H.length 0 (some (b,0)) i x.ver=some (b',o1):=e1
  have e2':upd β H.length 0 (some (b,0)) j y.ver=some (b',o2):=e2
  rcases hget i x hx with ⟨h4,h5⟩ | ⟨rfl,rfl⟩<;>rcases hget j y hy with ⟨k4,k5⟩ | ⟨rfl,rfl⟩
  ·rw [hβ i x h5] at e1'; rw [hβ j y k5] at e2'
   exact hs.inj i j x y b' o1 o2 h5 k5 hlx hly e1' e2'
  ·exfalso
   have e3:upd β H.length 0 (some (b,0)) H.length 0=some (b',o2):=e2'
   rw [AA] at e3; cases e3
   rw [hβ i x h5] at e1'
   exact h1 ⟨i,x,o1,h5,hlx,e1'⟩
  ·exfalso
   have e3:upd β H.length 0 (some (b,0)) H.length 0=some (b',o1):=e1'
   rw [AA] at e3; cases e3
   rw [hβ j y k5] at e2'
   exact h1 ⟨j,y,o2,k5,hly,e2'⟩
  ·rfl
 ·rcases hown b' hb' with h | h
  ·exact hs.apart b' h hF
  ·subst h; exact h2 hF
 ·rcases hown b' hb' with h | h
  ·rcases ho b' h with h | h
   ·exact .inl h
   ·exact .inr (List.mem_cons_of_mem _ h)
  ·exact .inr (by rw [h]; exact List.mem_cons_self)
theorem TQ {c:Ctx} {w:World} {n:Nat}:Ag c w (.arr n 1 (EH (List.replicate n 0))) (madeCells #[Value.int .i64 0] n).toList:=by
 have h:=VA (z := #[Value.int .i64 0]) (x := .val (.int .i64 0)) (fun c w=>by rw [Ag]; exact ⟨rfl,rfl⟩) (by simp) n c w
 have e:EH (List.replicate n 0)=List.replicate n (.val (.int .i64 0)):=by unfold EH; rw [List.map_replicate]; rfl
 rw [e]
 simpa using h
theorem Amh {n:Nat} (hn:n≤20000) {β:Nat→Nat→Option (Nat×Nat)} {F:Nat→Prop} {w w':World} {H0:List Ob} (hs:Sim ⟨β,H0,F⟩ w) (hst:MS F w F w') {l r x q:Nat} {t3 t5:TypeId} (h1:w.heap.size<l) (h2:w.heap.size<r) (h3:w.heap.size<x) (h4:w.heap.size<q) (d1:l≠r) (d2:l≠x) (d3:l≠q) (d4:r≠x) (d5:r≠q) (d6:x≠q)
  (g0:w'.heap[w.heap.size]?=some (.cells #[.int .i64 (n:Int)] t3 (0,0))) (gl:w'.heap[l]?=some (.cells (madeCells #[Value.int .i64 0] n) t3 (0,0))) (gr:w'.heap[r]?=some (.cells (madeCells #[Value.int .i64 0] n) t3 (0,0))) (gx:w'.heap[x]?=some (.cells (madeCells #[Value.int .i64 0] n) t3 (0,0)))
  (gq:w'.heap[q]?=some (.cells #[.slice (some ⟨r,0,none⟩) n n] t5 (0,0))) :
  ∃ β' H',H'.length=H0.length+5∧Rf H0 H' n (H0.length+2) (H0.length+3) (List.replicate n 0) (List.replicate n 0) (List.replicate n 0)∧Sim ⟨β',H',F⟩ w'∧Ar ⟨β,H0,F⟩ w ⟨β',H',F⟩ w' ∧
   β' H0.length 0=some (w.heap.size,0)∧β' (H0.length+1) 0=some (l,0)∧β' (H0.length+3) 0=some (x,0)∧β' (H0.length+4) 0=some (q,0):=by
 have hl0:Ar ⟨β,H0,F⟩ w ⟨β,H0,F⟩ w':=hst.later
 have hs0:Sim ⟨β,H0,F⟩ w':=hst.sim hs
 have ho0:∀ b',Ctx.own ⟨β,H0,F⟩ b'→b'<w.heap.size∨b'∈[]:=fun b' h => .inl (hs.own_lt h)
 have hF:∀ b,F b→b<w.heap.size:=hs.lt
 have hsh:∀ b,w'.heap[b]?=some (.cells (madeCells #[Value.int .i64 0] n) t3 (0,0))→w'.shape? b=some (t3,n):=fun b hb=>by
  unfold World.shape?; rw [hb]
  simp [madeCells]
 obtain ⟨β1,s1,l1,o1,e1,k1⟩:=Xx hs0 hl0 [] ho0 hF (z:=i64 (n:Int)) (vs:=[.int .i64 (n:Int)]) (by rw [Ag]; exact ⟨rfl,rfl⟩) g0 (by simp) (Nat.le_refl _)
 obtain ⟨β2,s2,l2,o2,e2,k2⟩:=Xx s1 l1 _ o1 hF (TQ (n:=n)) (by simpa using gl) (by simp; omega) (by omega)
 obtain ⟨β3,s3,l3,o3,e3,k3⟩:=Xx s2 l2 _ o2 hF (TQ (n:=n)) (by simpa using gr) (by simp; omega) (by omega)
 obtain ⟨β4,s4,l4,o4,e4,k4⟩:=Xx s3 l3 _ o3 hF (TQ (n:=n)) (by simpa using gx) (by simp; omega) (by omega)
 simp only [List.length_append,List.length_cons,List.length_nil,Nat.zero_add] at e2 e3 e4 k2 k3 k4
 obtain ⟨β5,s5,l5,o5,e5,k5⟩:=Xx s4 l4 _ o4 hF (z := .os 1 (H0.length+2) 0 [] 0 n n) (vs:=[.slice (some ⟨r,0,none⟩) n n]) (by
  rw [Ag]
  refine ⟨⟨.obj 0 (.arr n 1 (EH (List.replicate n 0))),?_,Nat.le_refl _⟩,.inr ⟨r,0,n,t3,n,?_,?_,Nat.le_refl _,by omega,hsh r gr,by simp [C9],Nat.le_refl _⟩⟩
  ·show (H0++_++_++_++_)[H0.length+2]?=_
   simp [List.getElem?_append]
  ·show β4 (H0.length+2) 0=_
   rw [k4 _ (by omega),show H0.length+2=H0.length+1+1 by omega]; exact e3
  ·simp [C9]) (by simpa using gq) (by simp; omega) (by omega)
 simp only [List.length_append,List.length_cons,List.length_nil,Nat.zero_add] at e5 k5
 refine ⟨β5,_,?_,?_,s5,l5,?_,?_,?_,?_⟩
 ·simp
 ·refine ⟨fun i hi => ?_,by simp,by simp [List.getElem?_append],by simp [List.getElem?_append],by simp [List.getElem?_append],by simp [List.getElem?_append],by simp [List.getElem?_append],.inl ⟨rfl,rfl⟩,by simp,by simp,by simp,fun a ha=>by rw [(List.mem_replicate.1 ha).2]; omega,fun a ha=>by rw [(List.mem_replicate.1 ha).2]; omega⟩
  simp only [List.append_assoc]
  rw [List.getElem?_append_left hi]
 ·rw [k5 _ (by omega),k4 _ (by omega),k3 _ (by omega),k2 _ (by omega)]; exact e1
 ·rw [k5 _ (by omega),k4 _ (by omega),k3 _ (by omega)]; exact e2
 ·rw [k5 _ (by omega)]; exact e4
 ·exact e5
def Ak5 (β:Nat→Nat→Option (Nat×Nat)) (F:Nat→Prop) (w:World) (H0:List Ob) (K:TV→List Ob→Prop):Ending→World→Prop:=fun e w'=>∃ v x β' H' F',e = .returned v∧K x H'∧Sim ⟨β',H',F'⟩ w'∧Ar ⟨β,H0,F⟩ w ⟨β',H',F'⟩ w'∧Rep ⟨β',H',F'⟩ w' x v
theorem Ajo {b:List UInt8} (hb:b.length≤20000) {β:Nat→Nat→Option (Nat×Nat)} {F:Nat→Prop} {w:World} {H0:List Ob} {K:TV→List Ob→Prop} (R:Nat→List Nat→Prop) (hR0:R 0 (b.map UInt8.toNat))
  (hRs:∀ k ranks ps nexts,(k<2*b.length∨k=0)→R k ranks→ps.Perm (List.range b.length)→Jw ranks k b.length ps→nexts.length=b.length→(∀ i,i<b.length→nexts.getD (ps.getD i 0) 0=dnP ranks ps k b.length i)→R (max 1 (2*k)) nexts)
  (hK:∀ H' ps k ranks,H0.length+5≤H'.length→(∀ i,i<H0.length→H'[i]?=H0[i]?)→ps.Perm (List.range b.length)→R k ranks→Jw ranks k b.length ps→b.length≤k→H'[H0.length+1]?=some (.obj 0 (.arr b.length 1 (EH ps)))→K (.os 1 (H0.length+1) 0 [] 0 b.length b.length) H')
  (hs:Sim ⟨β,H0,F⟩ w) {va:Value} (hva:Rep ⟨β,H0,F⟩ w (slB b) va)
  {code:Code} {fn:Func} (ht:trC Tryd.prog fn.ntmps code=some (er D6)) (hr:trR Tryd.prog fn.results.toList=some DK)
  {a':Act} {w':World} (hst:MS F w F w') (hd:a'.defers=[]) (hz:a'.tmps.size=fn.ntmps) {l r x q:Nat} {t3 t5:TypeId} (q0:a'.tmps.getD 0 undef=va) (q3:a'.tmps.getD 3 undef = .pointer (some ⟨w.heap.size,0,none⟩)) (q4:a'.tmps.getD 4 undef = .slice (some ⟨l,0,none⟩) b.length b.length) (q5:a'.tmps.getD 5 undef = .pointer (some ⟨q,0,none⟩)) (q6:a'.tmps.getD 6 undef = .slice (some ⟨x,0,none⟩) b.length b.length)
  (q17:a'.tmps.getD 17 undef = .slice (some ⟨r,0,none⟩) b.length b.length)
  (dd:w.heap.size<l∧w.heap.size<r∧w.heap.size<x∧w.heap.size<q∧l≠r∧l≠x∧l≠q∧r≠x∧r≠q∧x≠q)
  (gg:w'.heap[w.heap.size]?=some (.cells #[.int .i64 (b.length:Int)] t3 (0,0))∧w'.heap[l]?=some (.cells (madeCells #[Value.int .i64 0] b.length) t3 (0,0))∧w'.heap[r]?=some (.cells (madeCells #[Value.int .i64 0] b.length) t3 (0,0))∧w'.heap[x]?=some (.cells (madeCells #[Value.int .i64 0] b.length) t3 (0,0)) ∧
   w'.heap[q]?=some (.cells #[.slice (some ⟨r,0,none⟩) b.length b.length] t5 (0,0))) :
  code.wp Tryd.prog (bodyPostM Fence.wide 0 Tryd.prog fn (Ak5 β F w H0 K)) a' w':=by
 obtain ⟨h1,h2,h3,h4,d1,d2,d3,d4,d5,d6⟩:=dd
 obtain ⟨g0,gl,gr,gx,gq⟩:=gg
 obtain ⟨β1,H1,hl1,hp,hs1,hla,b0,b1,b3,b4⟩:=Amh hb hs hst h1 h2 h3 h4 d1 d2 d3 d4 d5 d6 g0 gl gr gx gq
 have hh:∀ (id:Nat) (o:Ob),H1[id]?=some o→o.ver=0→Ctx.has ⟨β1,H1,F⟩ id 0:=fun id o ho hv=>⟨o,ho,by omega⟩
 have hsl:∀ (id bl:Nat) (ps:List Nat),H1[id]?=some (.obj 0 (.arr b.length 1 (EH ps)))→β1 id 0=some (bl,0)→w'.heap[bl]?=some (.cells (madeCells #[Value.int .i64 0] b.length) t3 (0,0))→Rep ⟨β1,H1,F⟩ w' (.os 1 id 0 [] 0 b.length b.length) (.slice (some ⟨bl,0,none⟩) b.length b.length):=fun id bl ps ho hb1 hw=>by
  refine .inl (.inr (.inr ⟨[.slice (some ⟨bl,0,none⟩) b.length b.length],?_,rfl⟩))
  rw [Ag]
  exact ⟨hh id _ ho rfl,.inr ⟨bl,0,b.length,t3,b.length,hb1,by simp [C9],Nat.le_refl _,by omega,by unfold World.shape?; rw [hw]; simp [madeCells],by simp [C9],Nat.le_refl _⟩⟩
 have hpt:∀ (id bl:Nat) (o:Ob),H1[id]?=some o→o.ver=0→β1 id 0=some (bl,0)→Rep ⟨β1,H1,F⟩ w' (.op id 0 []) (.pointer (some ⟨bl,0,none⟩)):=fun id bl o ho hv hb1=>by
  refine .inl (.inr (.inr ⟨[.pointer (some ⟨bl,0,none⟩)],?_,rfl⟩))
  rw [Ag]
  exact ⟨hh id _ ho hv,bl,0,hb1,by simp [C9]⟩
 refine (wpIn_wide (n:=0)).1 ?_
 refine Rh (ro:=none) (nn:=0) (B:=w'.heap.size) (D:=[]) (D0:=[]) D6 (.inl rfl) ht (Aas hb hp (Q:=Vs DK K) fun H2 hl2 h2'=>Aak hb R hR0 hRs hK h2') hs1 ⟨⟨fun s => ?_,hs1.glob⟩,hz,hd⟩ JV.nil (Nat.le_refl _) ?_
 ·by_cases e0:s=0
  ·subst e0; rw [q0]; exact Rep.mono (hla.mono hs) hva
  by_cases e3:s=3
  ·subst e3; rw [q3]; exact hpt _ _ _ hp.on rfl b0
  by_cases e4:s=4
  ·subst e4; rw [q4]; exact hsl _ _ _ hp.ol b1 gl
  by_cases e5:s=5
  ·subst e5; rw [q5]; exact hpt _ _ _ hp.oc rfl b4
  by_cases e6:s=6
  ·subst e6; rw [q6]; exact hsl _ _ _ hp.ox b3 gx
  have e:get [(0,slB b),(3,.op H0.length 0 []),(4,.os 1 (H0.length+1) 0 [] 0 b.length b.length),(5,.op (H0.length+4) 0 []),(6,.os 1 (H0.length+3) 0 [] 0 b.length b.length)] s = .any:=by
   simp only [get,Ne.symm e0,Ne.symm e3,Ne.symm e4,Ne.symm e5,Ne.symm e6,if_false]
  rw [e]; exact Rep.any
 ·intro x e' H' β' F' w2 a2 D' k1 k2 k3 km k4
  have fin:res DK e' H' (fun x=>K x H')→LeavesInM Fence.wide 0 Tryd.prog fn a2.tmps (Ak5 β F w H0 K) a2.defers .returning w2:=fun h=>by
   rw [k3.defers]
   obtain ⟨wF,e1,e2,e3,e4⟩:=JV.shut (D0:=[]) (u := .returning) (by simp) (P:=Tryd.prog) (FF:=Fence.wide) (n:=0) (fn:=fn) (tmps:=a2.tmps) (R:=Ak5 β F w H0 K) km k2
   obtain ⟨y,v,r1,r2,r3⟩:=AdA (fn:=fn) (a:=a2) e2 ⟨fun s=>Rep.mono e3 (k3.env.1 s),e2.glob⟩ hr h
   exact e1 ⟨v,r1,v,y,β',H',F',rfl,r3,e2,hla.trans (e4 _ _ (Nat.le_refl _) k4),r2⟩
  cases x with
  | nor=>exact fin k1
  | ret=>exact fin k1
  | exit i=>exact k1.elim
  | pan u=>exact k1.elim
end
end Go.Proofs.YthlbcfmbldcngaaDoor
namespace Go.Proofs.YthlbcfmbldcngaaDoor.Kit
open Go.RowKit
def Ug (w w':World):Prop:=Below w.heap.size w w'
theorem Ug.refl (w:World):Ug w w:=Below.refl _ _
theorem Ug.trans {a b c:World} (h:Ug a b) (k:Ug b c):Ug a c:=Below.trans h (Below.mono k (Below.size h))
theorem Ug.alloc {a b:World} (h:Ug a b) (o:Obj):Ug a (b.alloc o):=Below.alloc h (Below.size h) o
theorem Ug.cell {w w':World} (h:Ug w w') {p:Addr} {v:Value} (hv:w.cell? p=some v):w'.cell? p=some v:=by
 rw [Below.cell h (World.block_lt_of_cell? w p hv)]; exact hv
def Bs (w:World) (a:Option Addr) (l:List UInt8):Prop :=
 ∀ j,j<l.length→∃ b off,a=some ⟨b,off,none⟩∧w.cell? ⟨b,off+j,none⟩=some (.int .u8 (l.getD j 0).toNat)
theorem Bs.keep {w w':World} {a:Option Addr} {l:List UInt8} (h:Bs w a l) (k:Ug w w'):Bs w' a l:=fun j hj =>
 let ⟨b,off,e,hc⟩:=h j hj; ⟨b,off,e,k.cell hc⟩
theorem Bs.nil (w:World) (a:Option Addr):Bs w a []:=fun j hj=>absurd hj (by simp)
theorem Bs.take {w:World} {a:Option Addr} {l:List UInt8} (h:Bs w a l) (n:Nat):Bs w a (l.take n):=fun j hj=>by
 have hj':j<l.length:=by simp at hj; omega
 have hjn:j<n:=by simp at hj; omega
 obtain ⟨b,off,e,hc⟩:=h j hj'
 exact ⟨b,off,e,by rw [hc]; simp [List.getD,hjn]⟩
theorem Bs.drop {w:World} {b off:Nat} {l:List UInt8} (h:Bs w (some ⟨b,off,none⟩) l) (n:Nat):Bs w (some ⟨b,off+n,none⟩) (l.drop n):=fun j hj=>by
 have hj':n+j<l.length:=by simp at hj; omega
 obtain ⟨b',off',e,hc⟩:=h (n+j) hj'
 simp only [Option.some.injEq,Addr.mk.injEq,and_true] at e
 obtain ⟨rfl,rfl⟩:=e
 refine ⟨b,off+n,rfl,?_⟩
 rw [Nat.add_assoc,hc]
 simp [List.getD]
def bv (l:List UInt8):List Value:=l.map fun x => .int .u8 (x.toNat:Int)
@[simp] theorem AkF (l:List UInt8):(bv l).length=l.length:=by simp [bv]
theorem Ah8 (l:List UInt8) (j:Nat) (h:j<l.length):(bv l)[j]?=some (.int .u8 ((l.getD j 0).toNat:Int)):=by simp [bv,List.getD,h]
theorem Bs.src {w:World} {a:Option Addr} {l:List UInt8} (h:Bs w a l) (hp:0<(bv l).length):∃ ad,a=some ad∧∀ j v,(bv l)[j]?=some v→w.cell? (ad.add j)=some v:=by
 obtain ⟨b,off,rfl,_⟩:=h 0 (by simpa using hp)
 refine ⟨_,rfl,fun j v hv => ?_⟩
 have hj:j<l.length:=by
  rcases Nat.lt_or_ge j l.length with h1 | h1
  ·exact h1
  ·rw [List.getElem?_eq_none (by simpa using h1)] at hv; cases hv
 obtain ⟨b',off',e,hc⟩:=h j hj
 simp only [Option.some.injEq,Addr.mk.injEq,and_true] at e
 obtain ⟨rfl,rfl⟩:=e
 rw [Ah8 l j hj] at hv
 rw [show (⟨b,off,none⟩:Addr).add j=⟨b,off+j,none⟩ from by simp [Addr.add],hc]; exact hv
theorem AdT (x:UInt8):(x.toNat:Int)<256:=by have:=UInt8.toNat_lt x; omega
theorem Bs.at {w:World} {a:Option Addr} {l:List UInt8} (h:Bs w a l) {j:Nat} (hj:j<l.length) :
  ∃ b off x,a=some ⟨b,off,none⟩∧w.cell? ⟨b,off+j,none⟩=some (.int .u8 (x.toNat:Int))∧(x.toNat:Int)<256∧Hid (x=l.getD j 0):=by
 obtain ⟨b,off,e,hc⟩:=h j hj
 exact ⟨b,off,l.getD j 0,e,hc,AdT _,rfl⟩
theorem Bs.at' {w:World} {b off:Nat} {l:List UInt8} (h:Bs w (some ⟨b,off,none⟩) l) {j:Nat} (hj:j<l.length) :
  ∃ x,w.cell? ⟨b,off+j,none⟩=some (.int .u8 (x.toNat:Int))∧(x.toNat:Int)<256∧Hid (x=l.getD j 0):=by
 obtain ⟨b',off',e,hc⟩:=h j hj
 simp only [Option.some.injEq,Addr.mk.injEq,and_true] at e
 obtain ⟨rfl,rfl⟩:=e
 exact ⟨l.getD j 0,hc,AdT _,rfl⟩
end Go.Proofs.YthlbcfmbldcngaaDoor.Kit
namespace Go.Proofs.YthlbcfmbldcngaaDoor
section
open Go.RowKit Kit Go.Sort
variable [A7]
attribute [local go_sem ↓] Go.wp_at_zero Go.wp_at_succ
theorem Ael:(Tryd.prog.info? 3).map (fun i=>(i.zero,i.size,i.bytes))=some (some (.int .i64 0),1,8):=by kernel_rfl
def KU (b:Nat) (n:Int) (w:World):Prop:=b<w.heap.size∧w.cell? ⟨b,0,none⟩=some (.int .i64 n)
theorem KU.alloc {b:Nat} {n:Int} {w:World} {o:Obj} (h:KU b n w):KU b n (w.alloc o):=⟨by simp; have:=h.1; omega,by rw [World.cell?_alloc_lt _ _ _ h.1]; exact h.2⟩
theorem KU.drew {b:Nat} {n:Int} {w:World} (h:KU b n w):KU b n w.drew:=⟨h.1,by rw [World.cell?_drew]; exact h.2⟩
theorem KU.start {n:Int} {w:World} {t:TypeId}:KU w.heap.size n (w.alloc (.cells #[.int .i64 n] t)):=⟨by simp,by simp⟩
theorem Zr (w:World) (o0 o1 o2 o3 o4:Obj):(((((w.alloc o0).alloc o1).alloc o2).alloc o3).alloc o4).drew.heap=((((w.heap.push o0).push o1).push o2).push o3).push o4:=rfl
theorem UG (w:World) (o0 o1 o2 o3 o4:Obj):(((((w.alloc o0).alloc o1).alloc o2).alloc o3).alloc o4).drew.heap[w.heap.size]?=some o0∧(((((w.alloc o0).alloc o1).alloc o2).alloc o3).alloc o4).drew.heap[w.heap.size+1]?=some o1∧(((((w.alloc o0).alloc o1).alloc o2).alloc o3).alloc o4).drew.heap[w.heap.size+1+1]?=some o2 ∧
  (((((w.alloc o0).alloc o1).alloc o2).alloc o3).alloc o4).drew.heap[w.heap.size+1+1+1]?=some o3∧(((((w.alloc o0).alloc o1).alloc o2).alloc o3).alloc o4).drew.heap[w.heap.size+1+1+1+1]?=some o4:=by
 rw [Zr]
 have p01:¬ (w.heap.size=w.heap.size+1):=by omega
 have p02:¬ (w.heap.size=w.heap.size+1+1):=by omega
 have p03:¬ (w.heap.size=w.heap.size+1+1+1):=by omega
 have p04:¬ (w.heap.size=w.heap.size+1+1+1+1):=by omega
 have p12:¬ (w.heap.size+1=w.heap.size+1+1):=by omega
 have p13:¬ (w.heap.size+1=w.heap.size+1+1+1):=by omega
 have p14:¬ (w.heap.size+1=w.heap.size+1+1+1+1):=by omega
 have p23:¬ (w.heap.size+1+1=w.heap.size+1+1+1):=by omega
 have p24:¬ (w.heap.size+1+1=w.heap.size+1+1+1+1):=by omega
 have p34:¬ (w.heap.size+1+1+1=w.heap.size+1+1+1+1):=by omega
 simp only [Array.getElem?_push,Array.size_push,p01,p02,p03,p04,p12,p13,p14,p23,p24,p34,if_false,if_true,and_self]
theorem Aif (F:Nat→Prop) (w:World) (hF:∀ b,F b→b<w.heap.size) (o0 o1 o2 o3 o4:Obj):MS F w F (((((w.alloc o0).alloc o1).alloc o2).alloc o3).alloc o4).drew:=by
 refine ⟨rfl,rfl,rfl,?_,fun b hb => ?_,fun _ h=>h,fun _ _ h=>h,fun b hb => ?_⟩
 ·rw [Zr]; simp; omega
 ·rw [Zr]
  have h1:b≠w.heap.size:=by omega
  have h2:b≠w.heap.size+1:=by omega
  have h3:b≠w.heap.size+1+1:=by omega
  have h4:b≠w.heap.size+1+1+1:=by omega
  have h5:b≠w.heap.size+1+1+1+1:=by omega
  simp only [Array.getElem?_push,Array.size_push,h1,h2,h3,h4,h5,if_false]
 ·have:=hF b hb
  rw [Zr]; simp; omega
set_option maxHeartbeats 0 in
set_option maxRecDepth 100000 in
theorem Aiy {b:List UInt8} (hb:b.length≤20000) {H0:List Ob} {K:TV→List Ob→Prop} (R:Nat→List Nat→Prop) (hR0:R 0 (b.map UInt8.toNat))
  (hRs:∀ k ranks ps nexts,(k<2*b.length∨k=0)→R k ranks→ps.Perm (List.range b.length)→Jw ranks k b.length ps→nexts.length=b.length→(∀ i,i<b.length→nexts.getD (ps.getD i 0) 0=dnP ranks ps k b.length i)→R (max 1 (2*k)) nexts)
  (hK:∀ H' ps k ranks,H0.length+5≤H'.length→(∀ i,i<H0.length→H'[i]?=H0[i]?)→ps.Perm (List.range b.length)→R k ranks→Jw ranks k b.length ps→b.length≤k→H'[H0.length+1]?=some (.obj 0 (.arr b.length 1 (EH ps)))→K (.os 1 (H0.length+1) 0 [] 0 b.length b.length) H') :
  Au Tryd.prog 24 [slB b] H0 K:=by
 intro β F w vs hs hv
 obtain ⟨u,us,rfl,hu,hv⟩:=AY.cons.1 hv
 rw [AY.nil] at hv; subst hv
 have hva:Rep ⟨β,H0,F⟩ w (slB b) u := .inl hu
 obtain ⟨a,ca,rfl⟩:∃ a ca,u = .slice a b.length ca:=by
  rcases hu with h | h | ⟨us,h,rfl⟩
  ·cases h
  ·cases h
  rw [Ag] at h
  rcases h.2 with ⟨h0,a,cap,e,_⟩ | ⟨bb,off,cap,vs,e,_⟩
  ·have hb0:b=[]:=by simpa using h0
   subst hb0; rw [e]; exact ⟨a,cap,rfl⟩
  ·rw [e,List.length_map]; exact ⟨_,cap,rfl⟩
 have hmk:=run_make_row' (P:=Tryd.prog) 58 3 (.int .i64 0) 8 Tryd.underlying58 Ael rfl .i64 .i64 b.length (by omega) (by omega)
 have hlt:=hs.lt
 have hend:=@Ajo _ b hb β F w H0 K R hR0 hRs hK hs _ hva
 generalize hn:b.length=n at *
 change Calls _ _ _ w (Ak5 β F w H0 K)
 generalize Ak5 β F w H0 K=RR at *
 clear hRs hK hs hva hu
 refine (callsIn_wide (n:=0)).1 (callsIn_of_wp_marks Tryd.func24 rfl trivial (wpIn_wide.2 ?_))
 simp only [Tryd.ntmps24,List.size_toArray,List.length_cons,List.length_nil,Nat.reduceAdd,Nat.reduceSub,Array.replicate_succ,Array.replicate_zero,List.push_toArray,List.append_toArray,List.nil_append,List.cons_append]
 go_wp2
 rename_i KK hKK
 go_region_held3 (fun w'=>w.heap.size<w'.heap.size∧w'.cell? ⟨w.heap.size,0,none⟩=some (.int .i64 (n:Int))) ((change KU _ _ _)<;>(repeat' (first | with_reducible exact KU.start | with_reducible apply KU.drew | with_reducible apply KU.alloc))) (fail)
 all_goals refine hKK _ _ ?_
 all_goals refine hend (t3:=3) (t5:=58) (by kernel_rfl) Vu (Aif F w hlt _ _ _ _ _) rfl rfl rfl rfl rfl rfl rfl rfl (by omega) ?_
 all_goals refine ⟨(UG w _ _ _ _ _).1,?_,?_,?_,?_⟩
 all_goals first | with_reducible exact (UG w _ _ _ _ _).2.1 | with_reducible exact (UG w _ _ _ _ _).2.2.1 | with_reducible exact (UG w _ _ _ _ _).2.2.2.1 | with_reducible exact (UG w _ _ _ _ _).2.2.2.2
end
end Go.Proofs.YthlbcfmbldcngaaDoor
