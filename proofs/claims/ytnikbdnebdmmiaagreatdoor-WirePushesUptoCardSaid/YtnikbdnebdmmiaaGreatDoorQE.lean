/- What the proof of WirePushesUptoCard stands on (texts merged; names shortened by a program): part 5. -/
import Derived.Test.YtnikbdnebdmmiaaGreatDoorQD
import Derived.ProofKit
import Derived.Lib.LaidTab
import Derived.LaidHandle
import Derived.Handed
import Derived.ShapedOpen
import Derived.Shelf.Vars
import Derived.OpenShut
import Derived.ShutString
import Derived.ChangeOld
import Derived.Below
import Derived.Carry
import Derived.SizedLaws
import Derived.Lib.ItoaNum
import Derived.Lib.ItoaLen
import Derived.Test.YtnikbdnebdmmiaaGreatDoorProg
import Derived.KernelRfl
import Derived.Shelf.Strings.Builder1
import Derived.Shelf.Strings.Builder2
import Derived.Shelf.Strings.OnBuilder
import Derived.Shelf.Small.Utf8
import Derived.Shelf.Small.Strs
import Derived.Shelf.Strconv.Atoi
import Derived.Shelf.Strconv.Itoa0
import Derived.Shelf.Strconv.Itoa1
import Derived.Shelf.LaysM
import Derived.Shelf.Strconv.Itoa2
import Derived.Shelf.Strconv.Itoa3
import Derived.Shelf.Strconv.AtoiErrFast
import Derived.Shelf.Strconv.ParseIntEmpty
import Derived.Shelf.Strconv.AtoiFail
import Derived.Shelf.Strconv.Clone
import Derived.Shelf.Strconv.SyntaxError
import Derived.Shelf.LaysC
import Derived.Shelf.Strconv.ToError
import Derived.Shelf.Strconv.Lower
import Derived.Shelf.Strconv.ParseUint10
import Derived.Shelf.Strconv.ParseUint10Empty
import Derived.Shelf.Strconv.ParseUint10Any
import Derived.Shelf.Strconv.ParseInt10
import Derived.Shelf.Strconv.AtoiLong
import Derived.Shelf.Strconv.AtoiInnerAll
import Derived.Shelf.Strconv.RangeError
import Derived.Shelf.Strconv.ToErrorRange
import Derived.Shelf.Strconv.AtoiAll
import Derived.Shelf.Strings.Search1
import Derived.Shelf.Strings.Search2
import Derived.Shelf.Strings.Search3
import Derived.Shelf.Strings.Count
import Derived.Shelf.Strings.Shaped
import Derived.Shelf.Strings.Prefix
import Derived.Shelf.Strings.Runes
import Derived.Shelf.Unicode.DecodeSlow
import Derived.Shelf.Bytes.Small
import Derived.WalkKit
import Derived.Lib.Builder
import Derived.Lib.UnsafeStr
import Derived.Laws.Externs
import Derived.Shelf.RegionOpenPlain
import Derived.Shelf.Lay
set_option linter.defProp false
set_option linter.unusedSectionVars false
set_option linter.unusedSimpArgs false
set_option linter.unusedVariables false
namespace Go.Proofs.YtnikbdnebdmmiaaGreatDoor
theorem aI_ {a b:Prop} (x:a) (y:b):a∧b:=⟨x,y⟩
section
open Go.RowKit
variable [AyT]
set_option autoImplicit false
universe u
class Tg {α:Sort u} (a:α):Type where
instance tg {α:Sort u} (a:α):Tg a:={}
def vif (t:Bool) (A B:Prop) [Tg A] [Tg B]:Prop:=if t=true then A else B
def Azm {α:Type} (o:Option α) (K:α→Prop) [Tg K]:Prop:=match o with | some y=>K y | none=>False
def AAG (A K:Prop) [Tg K]:Prop:=A∧K
def Azj {α:Type} (x:α) (K:α→Prop) [Tg K]:Prop:=K x
def vex (K:TV→Prop) [Tg K]:Prop:=∃ x,K x
def VC (P:Program) (f:FuncId) (xs:List TV) (H:List Ob) (K:TV→List Ob→Prop) [Tg K]:Prop:=AyJ P f xs H K
def VY (P:Program) (id ver:Nat) (xs:List TV) (H:List Ob) (K:TV→List Ob→Prop) [Tg K]:Prop:=AIt P id ver xs H K
theorem AMH {P:Program} {f:FuncId} {xs:List TV} {H:List Ob} {K:TV→List Ob→Prop} (h:AyJ P f xs H K):VC P f xs H K:=h
section
variable {A A' B K:Prop} {α:Type}
@[congr] theorem A8E {t t':Bool} (h:t=t'):vif t A B=vif t' A B:=by rw [h]
@[congr] theorem A7v {o o':Option α} {K:α→Prop} (h:o=o'):Azm o K=Azm o' K:=by rw [h]
@[congr] theorem A7y (h:A=A'):AAG A K=AAG A' K:=by rw [h]
@[congr] theorem A7s {x x':α} {K:α→Prop} (h:x=x'):Azj x K=Azj x' K:=by rw [h]
@[congr] theorem A8y {P:Program} {c:AyD} {Q:VEx→Env→List Ob→Prop} {e e':Env} {H H':List Ob} (he:e=e') (hH:H=H'):vwp P c Q e H=vwp P c Q e' H':=by rw [he,hH]
@[congr] theorem BaM {P:Program} {f:FuncId} {xs xs':List TV} {H H':List Ob} {K:TV→List Ob→Prop} (he:xs=xs') (hH:H=H'):VC P f xs H K=VC P f xs' H' K:=by rw [he,hH]
@[congr] theorem BaB {P:Program} {id ver:Nat} {xs xs':List TV} {H H':List Ob} {K:TV→List Ob→Prop} (he:xs=xs') (hH:H=H'):VY P id ver xs H K=VY P id ver xs' H' K:=by rw [he,hH]
theorem A2R:vif true A B=A:=by simp [vif]
theorem A0Y:vif false A B=B:=by simp [vif]
theorem A71 {p:Prop} [Decidable p] (h:p):vif (decide p) A B=A:=by simp [vif,h]
theorem A7W {p:Prop} [Decidable p] (h:¬ p):vif (decide p) A B=B:=by simp [vif,h]
theorem A5a {t:Bool}:vif (!t) A B=vif t B A:=by cases t<;>simp [vif]
theorem A6t {s t:Bool}:vif (s && t) A B=vif s (vif t A B) B:=by cases s<;>simp [vif]
theorem A92 {s t:Bool}:vif (s || t) A B=vif s A (vif t A B):=by cases s<;>simp [vif]
theorem AYH {y:α} {K:α→Prop}:Azm (some y) K=K y:=rfl
theorem A1G {β:Type} {f:α→β} {o:Option α} {K:β→Prop}:Azm (o.map f) K=Azm o fun y=>K (f y):=by cases o<;>rfl
theorem A43 {cs:List α} {i:Nat} {K:α→Prop} (h:i<cs.length):Azm cs[i]? K=K cs[i]:=by rw [List.getElem?_eq_getElem h]; rfl
theorem AYZ (h:A):AAG A K=K:=by simp [AAG,h]
theorem A8W:AAG True K=K:=by simp [AAG]
theorem A2Y:AAG (A∧B) K=AAG A (AAG B K):=by simp [AAG,and_assoc]
theorem A7d {x:α} {K:α→Prop}:Azj x K=K x:=rfl
end
def AB0:Option Ob→Nat→Option TV
 | some (.obj v x),ver=>if v=ver then some x else none
 | _,_=>none
theorem A2k {v:Nat} {x:TV}:AB0 (some (.obj v x)) v=some x:=by simp [AB0]
section
variable {H l:List Ob} {o:Ob} {n k:Nat}
theorem A8i (h:H.length=n):(H++l)[n]?=l[0]?:=by rw [List.getElem?_append_right (by omega),h,Nat.sub_self]
theorem A5m (h:H.length=n):(H++l)[n+k]?=l[k]?:=by rw [List.getElem?_append_right (by omega)]; congr 1; omega
theorem A9t (h:n<H.length):(H++l)[n]?=H[n]?:=List.getElem?_append_left h
theorem A8Q (h:n<H.length):(H.set n o)[n]?=some o:=by simp [h]
theorem A1l {m:Nat} (h:m≠n):(H.set m o)[n]?=H[n]?:=by rw [List.getElem?_set_ne h]
theorem A6g (h:H.length=n):(H++l).set n o=H++l.set 0 o:=by rw [List.set_append_right _ _ (by omega),h,Nat.sub_self]
theorem A1A (h:H.length=n):(H++l).set (n+k) o=H++l.set k o:=by rw [List.set_append_right _ _ (by omega)]; congr 2; omega
theorem A5t (h:n<H.length):(H++l).set n o=H.set n o++l:=List.set_append_left _ _ h
end
section
variable {P:Program} {e:Env} {H:List Ob}
def A0r (c a b:TV) (K:TV→Prop) [Tg K]:Prop:=match c with | .val (.bool t)=>K (if t then a else b) | _=>False
def BaE (t:TypeId) (op:BinOp) (x y:TV) (K:TV→Prop) [Tg K]:Prop:=match x,y with
  | .val u,.val v=>A2r u v=true∧(match AAL t op u v with | some r=>K (.val r) | none=>False)
  | _,_=>False
def Pun (op:UnOp) (x:TV) (K:TV→Prop) [Tg K]:Prop:=match x with
  | .val u=>(match unV op u with | some r=>K (.val r) | none=>False)
  | _=>False
def A3Z (k:IntKind) (x:TV) (K:TV→Prop) [Tg K]:Prop:=match x with
  | .val (.int _ n)=>K (.val (.int k (k.wrap n)))
  | _=>False
def BaH (x:TV) (K:TV→Prop) [Tg K]:Prop:=match x with
  | .val (.string s)=>K (.val (.string s))
  | _=>False
def BaW (x:Option (List TV)) (K:TV→Prop) [Tg K]:Prop:=match x with
  | some cs=>(∀ y∈cs,AYo y)∧K (.val (.string (str (cs.map AN4))))
  | none=>False
def AWb (H:List Ob) (ag:Bool) (sz:Nat) (x:TV) (K:TV→Prop) [Tg K]:Prop:=match x with
  | .fp y=>ASg ag sz y∧K y
  | .op id ver p=>(match H[id]? with
   | some (.obj v x)=>v=ver∧(match AEo p x with | some y=>ASg ag sz y∧K y | none=>False)
   | _=>False)
  | _=>False
def AOz (i off:Nat) (x:TV) (K:TV→Prop) [Tg K]:Prop:=match x with
  | .op id ver p=>K (.op id ver (p++[(i,off)]))
  | .fp (.agg cs)=>Azk (cs.take i)=off∧(match cs[i]? with | some y=>K (.fp y) | none=>False)
  | _=>False
def AUk (ag:Bool) (sz i off:Nat) (x:TV) (K:TV→Prop) [Tg K]:Prop:=match x with
  | .agg cs=>Azk (cs.take i)=off∧(match cs[i]? with | some y=>ASg ag sz y∧K y | none=>False)
  | _=>False
def AYb (k:Nat) (x i:TV) (K:TV→Prop) [Tg K]:Prop:=match x,i with
  | .sl k' cs,.val (.int _ j)=>k'=k∧0≤j∧(match cs[j.toNat]? with | some y=>K (.fp y) | none=>False)
  | .os k' id ver p off n cp,.val (.int _ j)=>k'=k∧0≤j∧j<n∧K (.op id ver (p++[(off+j.toNat,(off+j.toNat)*k)]))
  | _,_=>False
def ASj (n k:Nat) (x i:TV) (K:TV→Prop) [Tg K]:Prop:=match x,i with
  | .fp (.arr n' k' cs),.val (.int _ j)=>k'=k∧n'=n∧0≤j∧(match cs[j.toNat]? with | some y=>K (.fp y) | none=>False)
  | .op id ver p,.val (.int _ j)=>0≤j∧j<n∧K (.op id ver (p++[(j.toNat,j.toNat*k)]))
  | _,_=>False
def A8R (ag:Bool) (n k:Nat) (x i:TV) (K:TV→Prop) [Tg K]:Prop:=match x,i with
  | .arr n' k' cs,.val (.int _ j)=>k'=k∧n'=n∧0≤j∧(match cs[j.toNat]? with | some y=>ASg ag k y∧K y | none=>False)
  | _,_=>False
def AYI (x i:TV) (K:TV→Prop) [Tg K]:Prop:=match x,i with
  | .val (.string s),.val (.int _ j)=>0≤j∧(match (bl s)[j.toNat]? with | some b=>K (by8 b) | none=>False)
  | _,_=>False
def A8T (i:Nat) (x:TV) (K:TV→Prop) [Tg K]:Prop:=match x with
  | .tup xs=>(match xs[i]? with | some y=>K y | none=>False)
  | _=>False
def A29 (x:TV) (K:TV→Prop) [Tg K]:Prop:=match x with
  | .val (.string s)=>K (.val (.int .i64 (bl s).length))
  | _=>False
def AX9 (x:TV) (K:TV→Prop) [Tg K]:Prop:=match x with
  | .val (.slice _ n _)=>K (.val (.int .i64 n))
  | .sl _ cs=>K (.val (.int .i64 cs.length))
  | .os _ _ _ _ _ n _=>K (.val (.int .i64 n))
  | _=>False
def ATn (lo hi:Option TV) (len lim:Nat) (K:Nat→Nat→Prop) [Tg K]:Prop :=
 match (match lo with | none=>some 0 | some x=>(match x with | .val (.int _ i)=>some i | _=>none)),(match hi with | none=>some (len:Int) | some x=>(match x with | .val (.int _ i)=>some i | _=>none)) with
 | some l,some h=>(0≤l∧l≤h∧h≤lim)∧K l.toNat h.toNat
 | _,_=>False
def evO (e:Env):Option Opd→Option TV
 | none=>none
 | some x=>some (x.ev e)
theorem A24:evO e none=none:=Ayz rfl
theorem A10 {x:Opd}:evO e (some x)=some (x.ev e):=Ayz rfl
theorem AZP {lo hi:Option Opd} {len lim:Nat} {K:Nat→Nat→Prop}:bnd e lo hi len lim K=ATn (evO e lo) (evO e hi) len lim K:=by
 cases lo<;>cases hi<;>rfl
def BaJ (x:TV) (lo hi:Option TV) (K:TV→Prop) [Tg K]:Prop:=match x with
  | .val (.string s)=>ATn lo hi (bl s).length (bl s).length fun l h=>K (.val (.string (str (((bl s).drop l).take (h - l)))))
  | _=>False
def A7o (k:Nat) (x:TV) (lo hi:Option TV) (K:TV→Prop) [Tg K]:Prop:=match x with
  | .sl k' cs=>k'=k∧ATn lo hi cs.length cs.length fun l h=>K (.sl k ((cs.drop l).take (h - l)))
  | .os k' id ver p off n cp=>k'=k∧ATn lo hi n cp fun l h=>K (.os k id ver p (off+l) (h - l) (cp - l))
  | .val (.slice ad 0 0)=>ATn lo hi 0 0 fun l h=>K (.val (.slice ad 0 0))
  | _=>False
def A7q (H:List Ob) (n k:Nat) (x:TV) (lo hi:Option TV) (K:TV→Prop) [Tg K]:Prop:=match x with
  | .fp (.arr n' k' cs)=>k'=k∧n'=n∧n≤9223372036854775807∧ATn lo hi n n fun l h=>K (.sl k ((cs.drop l).take (h - l)))
  | .op id ver p=>(match H[id]? with
   | some (.obj v x)=>v=ver∧n≤9223372036854775807∧(match AEo p x with | some (.arr n' k' cs)=>k'=k∧n'=n∧ATn lo hi n n fun l h=>K (.os k id ver p l (h - l) (n - l)) | _=>False)
   | _=>False)
  | _=>False
def AWW (t:TypeId) (x:TV) (K:TV→Prop) [Tg K]:Prop:=lays x=true∧K (.ifc t x)
def A9m (f:Fn) (first caps:List TV) (K:TV→Prop) [Tg K]:Prop:=(∀ x∈first++caps,AzF x=false)∧K (.fn f first caps)
def AUB (x:TV) (K:TV→Prop) [Tg K]:Prop:=match x with
  | .op id ver p=>K (.op id ver p)
  | .fp y=>K (.fp y)
  | .fn (.func f) a b=>K (.fn (.func f) a b)
  | .ifc t y=>K (.ifc t y)
  | .val (.func (.func f) a b)=>K (.val (.func (.func f) a b))
  | _=>False
def BaD (x y:TV) (K:TV→Prop) [Tg K]:Prop:=match x,y with
  | .val (.int k a),.val (.int _ b)=>K (.val (.int k (if b<a then b else a)))
  | _,_=>False
def BaS (x y:TV) (K:TV→Prop) [Tg K]:Prop:=match x,y with
  | .val (.int k a),.val (.int _ b)=>K (.val (.int k (if b > a then b else a)))
  | _,_=>False
def AQX (g:GOp) (H:List Ob) (xs:List TV) (K:TV→Prop) [Tg K]:Prop:=match gev g H xs with
  | some y=>K y
  | none=>False
def A7H (neg:Bool) (x y:TV) (K:TV→Prop) [Tg K]:Prop:=match x,y with
  | .val (.bool a),.val (.bool b)=>K (.val (.bool (xor neg (a == b))))
  | _,_=>False
def A7S (neg:Bool) (x y:Option Bool) (K:TV→Prop) [Tg K]:Prop:=match x,y with
  | some true,some b=>K (.val (.bool (xor neg b)))
  | some false,some true=>K (.val (.bool (xor neg false)))
  | _,_=>False
def AU6 (H:List Ob) (sz:Nat) (x v:TV) (K:TV→List Ob→Prop) [Tg K]:Prop:=(lays v=true∧AyL v=sz)∧(match x with
  | .op id ver p=>(match H[id]? with
   | some (.obj vr y)=>vr=ver∧(match AG6 p y v with | some y'=>K .any (H.set id (.obj ver y')) | none=>False)
   | _=>False)
  | _=>False)
def BaQ (H:List Ob) (k bytes:Nat) (z l c:TV) (K:TV→List Ob→Prop) [Tg K]:Prop:=match l,c with
  | .val (.int _ l),.val (.int _ c)=>(0≤l∧l≤c∧(bytes:Int)*c≤281474976710656∧c≤9223372036854775807)∧K (.os k H.length 0 [] 0 l.toNat c.toNat) (H++[.obj 0 (.arr c.toNat k (List.replicate c.toNat z))])
  | _,_=>False
def A5R (k bytes:Nat) (et:TypeId) (x:TV) (y:Option (List TV)) (H:List Ob) (K:TV→List Ob→Prop) [Tg K]:Prop:=match y with
  | some ys=>AUA k bytes et x ys H K
  | none=>False
def AWB (k:Nat) (x:TV) (y:Option (List TV)) (H:List Ob) (K:TV→List Ob→Prop) [Tg K]:Prop:=match y with
  | some ys=>ALu k x ys H K
  | none=>False
def A3m (et:TypeId) (x y:TV) (H:List Ob) (K:TV→List Ob→Prop) [Tg K]:Prop:=match y with
  | .val (.string s)=>AUA 1 1 et x ((bl s).map by8) H K
  | _=>False
def AXa (x y:TV) (H:List Ob) (K:TV→List Ob→Prop) [Tg K]:Prop:=match y with
  | .val (.string s)=>ALu 1 x ((bl s).map by8) H K
  | _=>False
def A4k (P:Program) (f:FuncId) (x:Option (Nat×Nat×List UInt8)) (H:List Ob) (K:TV→List Ob→Prop) [Tg K]:Prop:=Baz P f∧(match x with
  | some (j,v,l)=>l.length≤9223372036854775807∧K (.val (.string (str l))) (H.set j (.gone v))
  | none=>False)
def BaO (H:List Ob) (x:TV) (K:TV→List Ob→Prop) [Tg K]:Prop:=match x with
  | .val (.string s)=>(bl s).length≤9223372036854775807∧K (.os 1 H.length 0 [] 0 (bl s).length (bl s).length) (H++[.obj 0 (.arr (bl s).length 1 ((bl s).map by8))])
  | _=>False
def A2j (k bytes:Nat) (z x n:TV) (H:List Ob) (K:TV→List Ob→Prop) [Tg K]:Prop:=match x,n with
  | .val (.slice none 0 0),.val (.int .i64 j)=>(0≤j∧(bytes:Int)*j≤140737488355328∧j≤9223372036854775807)∧K (.os k H.length 0 [] 0 j.toNat j.toNat) (H++[.obj 0 (.arr j.toNat k (List.replicate j.toNat z))])
  | _,_=>False
def AWe (H:List Ob) (K:TV→List Ob→Prop) [Tg K]:Prop:=K (.val (.bool true)) H∧K (.val (.bool false)) H
def A4B (neg:Bool) (x:TV) (H:List Ob) (K:TV→List Ob→Prop) [Tg K]:Prop:=match x with
  | .val (.slice a _ _)=>K (.val (.bool (xor neg a.isNone))) H
  | .sl _ cs=>(cs=[]→K (.val (.bool true)) H∧K (.val (.bool false)) H)∧(cs≠[]→K (.val (.bool neg)) H)
  | .os _ _ _ _ _ n _=>(n=0→K (.val (.bool true)) H∧K (.val (.bool false)) H)∧(n≠0→K (.val (.bool neg)) H)
  | _=>False
def ASF (P:Program) (x:TV) (args:List TV) (H:List Ob) (K:TV→List Ob→Prop) [Tg K]:Prop:=match x with
  | .fn (.func f) first caps=>APD P f=true∧AyJ P f (first++args++caps) H K
  | .val (.func (.func f) xs ys)=>(xs.isEmpty && ys.isEmpty)=true∧APD P f=true∧AyJ P f args H K
  | .yl id ver=>AIt P id ver args H K
  | _=>False
def A8p (P:Program) (nm:String) (x:TV) (args:List TV) (H:List Ob) (K:TV→List Ob→Prop) [Tg K]:Prop:=Baw P nm H x fun f r=>AyJ P f (r::args) H K
def A7r (P:Program) (q:Option (FuncId×Option (Bool×Nat))) (r:TV) (args:List TV) (H:List Ob) (K:TV→List Ob→Prop) [Tg K]:Prop:=match q with
 | some (f,none)=>APD P f=true∧AyJ P f (r::args) H K
 | some (f,some (ag,sz))=>APD P f=true∧ldT H ag sz r fun y=>AyJ P f (y::args) H K
 | none=>False
def Gd (q:Option Bool) (b:Bool) (A B:Prop) [Tg A] [Tg B]:Prop:=match q with
 | some t=>if t=b then A else B
 | none=>B
def evs (e:Env) (xs:List Opd):List TV:=xs.map (·.ev e)
theorem A6N:evs e []=[]:=Ayz rfl
theorem A4y {x:Opd} {xs:List Opd}:evs e (x::xs)=x.ev e::evs e xs:=Ayz rfl
def AK9 (xs:List TV):Prop:=∀ x∈xs,AzF x=false
theorem AZp:AK9 []=True:=by simp [AK9]
theorem AX0 {x:TV} {xs:List TV}:AK9 (x::xs)=(AzF x=false∧AK9 xs):=by simp [AK9]
theorem AH0 {args:List Opd}:(∀ x∈args,AzF (x.ev e)=false)=AK9 (evs e args):=by simp [AK9,evs]
section
variable {c c' a a' b b' x x' y y':TV} {K:TV→Prop} {KK:TV→List Ob→Prop} {lo lo' hi hi':Option TV} {ox ox':Option (List TV)} {q q' q2 q2':Option Bool} {xs xs':List TV} {A B:Prop} {H':List Ob}
@[congr] theorem BcB (h1:c=c') (h2:a=a') (h3:b=b'):A0r c a b K=A0r c' a' b' K:=by rw [h1,h2,h3]
@[congr] theorem BdB {t:TypeId} {op:BinOp} (h1:x=x') (h2:y=y'):BaE t op x y K=BaE t op x' y' K:=by rw [h1,h2]
@[congr] theorem BdU {op:UnOp} (h1:x=x'):Pun op x K=Pun op x' K:=by rw [h1]
@[congr] theorem BbH {k:IntKind} (h1:x=x'):A3Z k x K=A3Z k x' K:=by rw [h1]
@[congr] theorem Bdn (h1:x=x'):BaH x K=BaH x' K:=by rw [h1]
@[congr] theorem Bdz (h1:ox=ox'):BaW ox K=BaW ox' K:=by rw [h1]
@[congr] theorem BcT {ag:Bool} {sz:Nat} (h1:x=x') (h2:H=H'):AWb H ag sz x K=AWb H' ag sz x' K:=by rw [h1,h2]
@[congr] theorem A9k {i o:Nat} (h1:x=x'):AOz i o x K=AOz i o x' K:=by rw [h1]
@[congr] theorem BaT {ag:Bool} {sz i o:Nat} (h1:x=x'):AUk ag sz i o x K=AUk ag sz i o x' K:=by rw [h1]
@[congr] theorem Bc3 {k:Nat} (h1:x=x') (h2:y=y'):AYb k x y K=AYb k x' y' K:=by rw [h1,h2]
@[congr] theorem BaV {n k:Nat} (h1:x=x') (h2:y=y'):ASj n k x y K=ASj n k x' y' K:=by rw [h1,h2]
@[congr] theorem Bdq {ag:Bool} {n k:Nat} (h1:x=x') (h2:y=y'):A8R ag n k x y K=A8R ag n k x' y' K:=by rw [h1,h2]
@[congr] theorem Bb0 (h1:x=x') (h2:y=y'):AYI x y K=AYI x' y' K:=by rw [h1,h2]
@[congr] theorem Bdc {i:Nat} (h1:x=x'):A8T i x K=A8T i x' K:=by rw [h1]
@[congr] theorem Bbe (h1:x=x'):A29 x K=A29 x' K:=by rw [h1]
@[congr] theorem BaX (h1:x=x'):AX9 x K=AX9 x' K:=by rw [h1]
@[congr] theorem BdF {n m:Nat} {K:Nat→Nat→Prop} {n' m':Nat} (h1:lo=lo') (h2:hi=hi') (h3:n=n') (h4:m=m'):ATn lo hi n m K=ATn lo' hi' n' m' K:=by rw [h1,h2,h3,h4]
@[congr] theorem Bds (h1:x=x') (h2:lo=lo') (h3:hi=hi'):BaJ x lo hi K=BaJ x' lo' hi' K:=by rw [h1,h2,h3]
@[congr] theorem Bdr {k:Nat} (h1:x=x') (h2:lo=lo') (h3:hi=hi'):A7o k x lo hi K=A7o k x' lo' hi' K:=by rw [h1,h2,h3]
@[congr] theorem Bdv {n k:Nat} (h0:H=H') (h1:x=x') (h2:lo=lo') (h3:hi=hi'):A7q H n k x lo hi K=A7q H' n k x' lo' hi' K:=by rw [h0,h1,h2,h3]
@[congr] theorem BaL {t:TypeId} (h1:x=x'):AWW t x K=AWW t x' K:=by rw [h1]
@[congr] theorem BdK {f:Fn} {ys ys':List TV} (h1:xs=xs') (h2:ys=ys'):A9m f xs ys K=A9m f xs' ys' K:=by rw [h1,h2]
@[congr] theorem BcQ (h1:x=x'):AUB x K=AUB x' K:=by rw [h1]
@[congr] theorem Bdl (h1:x=x') (h2:y=y'):BaD x y K=BaD x' y' K:=by rw [h1,h2]
@[congr] theorem BdJ (h1:x=x') (h2:y=y'):BaS x y K=BaS x' y' K:=by rw [h1,h2]
@[congr] theorem Bdi {g:GOp} {xs xs':List TV} (h1:H=H') (h2:xs=xs'):AQX g H xs K=AQX g H' xs' K:=by rw [h1,h2]
@[congr] theorem Bdd {n:Bool} (h1:x=x') (h2:y=y'):A7H n x y K=A7H n x' y' K:=by rw [h1,h2]
@[congr] theorem BdL {n:Bool} (h1:q=q') (h2:q2=q2'):A7S n q q2 K=A7S n q' q2' K:=by rw [h1,h2]
@[congr] theorem BaI {sz:Nat} (h0:H=H') (h1:x=x') (h2:y=y'):AU6 H sz x y KK=AU6 H' sz x' y' KK:=by rw [h0,h1,h2]
@[congr] theorem BdH {k n:Nat} {z:TV} (h0:H=H') (h1:x=x') (h2:y=y'):BaQ H k n z x y KK=BaQ H' k n z x' y' KK:=by rw [h0,h1,h2]
@[congr] theorem Bdp {k n:Nat} {et:TypeId} (h0:H=H') (h1:x=x') (h2:ox=ox'):A5R k n et x ox H KK=A5R k n et x' ox' H' KK:=by rw [h0,h1,h2]
@[congr] theorem Bbn {k:Nat} (h0:H=H') (h1:x=x') (h2:ox=ox'):AWB k x ox H KK=AWB k x' ox' H' KK:=by rw [h0,h1,h2]
@[congr] theorem Bc0 {et:TypeId} (h0:H=H') (h1:x=x') (h2:y=y'):A3m et x y H KK=A3m et x' y' H' KK:=by rw [h0,h1,h2]
@[congr] theorem BaC (h0:H=H') (h1:x=x') (h2:y=y'):AXa x y H KK=AXa x' y' H' KK:=by rw [h0,h1,h2]
@[congr] theorem BbX {P:Program} {f:FuncId} {r r':Option (Nat×Nat×List UInt8)} (h0:H=H') (h1:r=r'):A4k P f r H KK=A4k P f r' H' KK:=by rw [h0,h1]
@[congr] theorem BbG {k n:Nat} {z:TV} (h0:H=H') (h1:x=x') (h2:y=y'):A2j k n z x y H KK=A2j k n z x' y' H' KK:=by rw [h0,h1,h2]
@[congr] theorem Bdg {n:Bool} (h0:H=H') (h1:x=x'):A4B n x H KK=A4B n x' H' KK:=by rw [h0,h1]
@[congr] theorem BbD (h0:H=H'):AWe H KK=AWe H' KK:=by rw [h0]
@[congr] theorem BdD (h0:H=H') (h1:x=x'):BaO H x KK=BaO H' x' KK:=by rw [h0,h1]
@[congr] theorem Bax (h0:H=H') (h1:x=x') (h2:xs=xs'):ASF P x xs H KK=ASF P x' xs' H' KK:=by rw [h0,h1,h2]
@[congr] theorem BdA {P:Program} {nm:String} (h0:H=H') (h1:x=x') (h2:xs=xs'):A8p P nm x xs H KK=A8p P nm x' xs' H' KK:=by rw [h0,h1,h2]
@[congr] theorem Bdx {P:Program} {g g':Option (FuncId×Option (Bool×Nat))} (h:g=g') (h0:H=H') (h1:x=x') (h2:xs=xs'):A7r P g x xs H KK=A7r P g' x' xs' H' KK:=by rw [h,h0,h1,h2]
@[congr] theorem Beh {b:Bool} (h1:q=q'):Gd q b A B=Gd q' b A B:=by rw [h1]
end
section
variable {K:TV→Prop} {KK:TV→List Ob→Prop} {x y i a b c:Opd} {lo hi:Option Opd}
theorem Bcn:pop (.mov x) e H K=Azj (x.ev e) K:=Ayz rfl
theorem A8G:pop (.pick c a b) e H K=A0r (c.ev e) (a.ev e) (b.ev e) K:=Ayz rfl
theorem Bb3 {t:TypeId} {op:BinOp}:pop (.bin t op x y) e H K=BaE t op (x.ev e) (y.ev e) K:=Ayz rfl
theorem BdO {op:UnOp}:pop (.un op x) e H K=Pun op (x.ev e) K:=Ayz rfl
theorem A8M {k:IntKind}:pop (.conv k x) e H K=A3Z k (x.ev e) K:=Ayz rfl
theorem Bcy:pop (.s2s x) e H K=BaH (x.ev e) K:=Ayz rfl
theorem BcZ:pop (.b2s x) e H K=BaW (Azy H 1 (x.ev e)) K:=Ayz rfl
theorem A8o {ag:Bool} {sz:Nat}:pop (.load ag sz x) e H K=AWb H ag sz (x.ev e) K:=Ayz rfl
theorem A4A {n o:Nat}:pop (.fieldA n o x) e H K=AOz n o (x.ev e) K:=Ayz rfl
theorem A5D {ag:Bool} {sz n o:Nat}:pop (.field ag sz n o x) e H K=AUk ag sz n o (x.ev e) K:=Ayz rfl
theorem A9l {k:Nat}:pop (.idxA k x i) e H K=AYb k (x.ev e) (i.ev e) K:=Ayz rfl
theorem A6u {n k:Nat}:pop (.idxAA n k x i) e H K=ASj n k (x.ev e) (i.ev e) K:=Ayz rfl
theorem Bcp {ag:Bool} {n k:Nat}:pop (.idx ag n k x i) e H K=A8R ag n k (x.ev e) (i.ev e) K:=Ayz rfl
theorem A7J:pop (.idxS x i) e H K=AYI (x.ev e) (i.ev e) K:=Ayz rfl
theorem BaY {n:Nat}:pop (.ext n x) e H K=A8T n (x.ev e) K:=Ayz rfl
theorem A9G:pop (.lenS x) e H K=A29 (x.ev e) K:=Ayz rfl
theorem A8V:pop (.lenV x) e H K=AX9 (x.ev e) K:=Ayz rfl
theorem BbY:pop (.slS x lo hi) e H K=BaJ (x.ev e) (evO e lo) (evO e hi) K:=by
 show (match x.ev e with | .val (.string s)=>bnd e lo hi (bl s).length (bl s).length fun l h=>K (.val (.string (str (((bl s).drop l).take (h - l))))) | _=>False)=_
 simp only [AZP]; rfl
theorem Bcw {k:Nat}:pop (.slV k x lo hi) e H K=A7o k (x.ev e) (evO e lo) (evO e hi) K:=by
 rw [Bbu]; simp only [AZP]; rfl
theorem Bba {n k:Nat}:pop (.slA n k x lo hi) e H K=A7q H n k (x.ev e) (evO e lo) (evO e hi) K:=by
 rw [Bbm]; simp only [AZP]; rfl
theorem A52 {t:TypeId}:pop (.iface t x) e H K=AWW t (x.ev e) K:=Ayz rfl
theorem Bbz {f:Fn} {xs ys:List Opd}:pop (.mkf f xs ys) e H K=A9m f (evs e xs) (evs e ys) K:=by
 rw [Bcc]; unfold A9m evs; rw [←List.map_append]
 refine congrArg (· ∧ _) (propext ⟨fun h y hy => ?_,fun h y hy=>h _ (List.mem_map.2 ⟨y,hy,rfl⟩)⟩)
 obtain ⟨z,hz,rfl⟩:=List.mem_map.1 hy; exact h z hz
theorem A8s:pop (.nilc x) e H K=AUB (x.ev e) K:=Ayz rfl
theorem Bbp:pop (.min x y) e H K=BaD (x.ev e) (y.ev e) K:=Ayz rfl
theorem Bct:pop (.max x y) e H K=BaS (x.ev e) (y.ev e) K:=Ayz rfl
theorem Bbj {g:GOp} {xs:List Opd}:pop (.gen g xs) e H K=AQX g H (evs e xs) K:=Ayz rfl
theorem BbI {n:Bool}:pop (.eqB x y n) e H K=A7H n (x.ev e) (y.ev e) K:=Ayz rfl
theorem BcI {kd:Nat} {n:Bool}:pop (.eqN kd x y n) e H K=A7S n (AAP kd (x.ev e)) (AAP kd (y.ev e)) K:=Ayz rfl
theorem A5e {zs:List TV} {szs:List Nat} {ps:List (Nat×Opd)}:pop (.build zs szs ps) e H K=AAG (AAR e szs ps) (Azj (TV.agg (ABn e zs ps)) K):=Ayz rfl
theorem A3T {n k:Nat} {zs:List TV} {ps:List (Nat×Opd)}:pop (.buildA n k zs ps) e H K=AAG (AAR e (List.replicate n k) ps) (AAG (Azp e ps) (Azj (TV.arr n k (ABn e zs ps)) K)):=Ayz rfl
theorem Bce {k n:Nat} {z:TV} {ps:List (Nat×Opd)}:pop (.bsl k n z ps) e H K=AAG (AAR e (List.replicate n k) ps) (AAG (Azp e ps∧n≤1000) (Azj (TV.sl k (ABn e (List.replicate n z) ps)) K)):=by
 show ((_∧_∧_)∧_)=_
 simp only [AAG,Azj,and_assoc]
theorem A6U {z:TV}:sop P (.alloc z) e H KK=Azj (H.length) fun n=>Azj (H++[.obj 0 z]) fun H'=>KK (.op n 0 []) H':=Ayz rfl
theorem A4c {z:TV} {t:TypeId}:sop P (.allocT z t) e H KK=Azj (H.length) fun n=>Azj (AyL z) fun m=>Azj (H++[.obj 0 z,.fact n 0 t m]) fun H'=>KK (.op n 0 []) H':=Ayz rfl
theorem A8H {t:TypeId}:sop P (.boxT x t) e H KK=Azj (x.ev e) fun v=>AAG (lays v=true) (Azj (H.length) fun n=>Azj (AyL v) fun m=>Azj (H++[.obj 0 v,.fact n 0 t m]) fun H'=>KK (.op n 0 []) H'):=Ayz rfl
theorem A75 {f:FuncId}:sop P (.bstr f x) e H KK=A4k P f (AXX H (x.ev e)) H KK:=Ayz rfl
def A1s (x:TV) (H:List Ob) (K:TV→List Ob→Prop) [Tg K]:Prop:=match x with
 | .val (.string s)=>K (.op H.length 0 []) (H++[.sit (bl s) 0])
 | _=>False
@[congr] theorem BbP {x x':TV} {H':List Ob} (h1:x=x') (h2:H=H'):A1s x H KK=A1s x' H' KK:=by rw [h1,h2]
theorem A94:sop P (.rngS x) e H KK=A1s (x.ev e) H KK:=Ayz rfl
theorem A2e {s:ByteArray}:A1s (.val (.string s)) H KK=Azj H.length fun n=>Azj (H++[.sit (bl s) 0]) fun H'=>KK (.op n 0 []) H':=Ayz rfl
def A0t:Option Ob→Option (List UInt8×Nat)
 | some (.sit s pos)=>some (s,pos)
 | _=>none
theorem A3k {s:List UInt8} {pos:Nat}:A0t (some (.sit s pos))=some (s,pos):=Ayz rfl
def A0n (x:TV) (H:List Ob) (K:TV→List Ob→Prop) [Tg K]:Prop:=match x with
 | .op id 0 []=>(match H[id]? with
  | some (.sit s pos)=>if pos<s.length then K (.tup [.val (.bool true),.val (.int .i64 (pos:Int)),.val (.int .i32 ((Utf8.decode (str s) pos).1:Int))]) (H.set id (.sit s (pos+(Utf8.decode (str s) pos).2))) else K (.tup [.val (.bool false)]) H
  | _=>False)
 | _=>False
@[congr] theorem Bcm {x x':TV} {H':List Ob} (h1:x=x') (h2:H=H'):A0n x H KK=A0n x' H' KK:=by rw [h1,h2]
theorem A8b:sop P (.nxtS x) e H KK=A0n (x.ev e) H KK:=Ayz rfl
theorem A3b {id:Nat}:A0n (.op id 0 []) H KK=Azm (A0t H[id]?) fun p=>vif (decide (p.2<p.1.length))
  (Azj (H.set id (.sit p.1 (p.2+(Utf8.decode (str p.1) p.2).2))) fun H'=>KK (.tup [.val (.bool true),.val (.int .i64 (p.2:Int)),.val (.int .i32 ((Utf8.decode (str p.1) p.2).1:Int))]) H') (KK (.tup [.val (.bool false)]) H):=by
 unfold A0n
 cases h:H[id]? with
 | none=>simp [A0t,Azm,h]
 | some o =>
  cases o with
  | sit s pos=>simp only [h,A0t,Azm,Azj]; by_cases hp:pos<s.length<;>simp [vif,hp]
  | _=>simp [A0t,Azm,h]
theorem BcL:sop P (.box x) e H KK=Azj (x.ev e) fun v=>AAG (lays v=true) (Azj (H.length) fun n=>Azj (H++[.obj 0 v]) fun H'=>KK (.op n 0 []) H'):=Ayz rfl
theorem A1y {k n:Nat} {z:TV} {ps:List (Nat×Opd)}:sop P (.bslice k n z ps) e H KK=AAG (AAR e (List.replicate n k) ps) (AAG (Azp e ps∧n≤1000) (Azj H.length fun m=>Azj (H++[.obj 0 (.arr n k (ABn e (List.replicate n z) ps))]) fun H'=>KK (.os k m 0 [] 0 n n) H')):=by
 rw [A23]; simp only [AAG,Azj,and_assoc]
def APZ (kk:MK):Option Ob→Option (List (List UInt8×TV))
 | some (.mpo kk' es)=>if kk'=kk then some es else none
 | _=>none
def ARl (kk:MK):Option Ob→Option (List (List UInt8×TV))
 | some (.mpo kk' es)=>if kk'=kk then some es else none
 | some (.mpd kk' zs _)=>if kk'=kk then some (zs.map (·.2)) else none
 | _=>none
theorem A3N {kk:MK} {es:List (List UInt8×TV)}:ARl kk (some (.mpo kk es))=some es:=by simp [ARl]
theorem A5y {kk:MK} {zs:List (Nat×List UInt8×TV)} {cl:Nat}:ARl kk (some (.mpd kk zs cl))=some (zs.map (·.2)):=by simp [ARl]
def AVP:Option Ob→Option (List (List UInt8×TV))
 | some (.mpo _ es)=>some es
 | some (.mpd _ zs _)=>some (zs.map (·.2))
 | _=>none
theorem A1J {kk:MK} {es:List (List UInt8×TV)}:AVP (some (.mpo kk es))=some es:=by simp [AVP]
theorem A5G {kk:MK} {zs:List (Nat×List UInt8×TV)} {cl:Nat}:AVP (some (.mpd kk zs cl))=some (zs.map (·.2)):=by simp [AVP]
theorem A6y {kk:MK} {es:List (List UInt8×TV)}:stO (some (.mpo kk es))=some (kk,APw 0 es,es.length):=Ayz rfl
theorem A6a {kk:MK} {zs:List (Nat×List UInt8×TV)} {cl:Nat}:stO (some (.mpd kk zs cl))=some (kk,zs,cl):=Ayz rfl
def A0m (x:TV) (H:List Ob) (K:TV→List Ob→Prop) [Tg K]:Prop:=match x with
 | .mp id 0=>(match stO H[id]? with
  | some (_,_,cl)=>K (.op H.length 0 []) (H++[.mit id [] cl])
  | none=>False)
 | _=>False
@[congr] theorem Bcj {x x':TV} {H':List Ob} (h1:x=x') (h2:H=H'):A0m x H KK=A0m x' H' KK:=by rw [h1,h2]
theorem A9R:sop P (.rngM x) e H KK=A0m (x.ev e) H KK:=Ayz rfl
theorem A1B {id:Nat}:A0m (.mp id 0) H KK=Azm (stO H[id]?) fun p=>Azj H.length fun n=>Azj (H++[.mit id [] p.2.2]) fun H'=>KK (.op n 0 []) H':=by
 unfold A0m
 cases h:stO H[id]? with
 | none=>simp [Azm,h]
 | some o=>obtain ⟨a,b,c⟩:=o; simp [Azm,Azj,h]
def ATP:Option Ob→Option (Nat×List Nat×Nat)
 | some (.mit m sn cl)=>some (m,sn,cl)
 | _=>none
theorem A1I {m cl:Nat} {sn:List Nat}:ATP (some (.mit m sn cl))=some (m,sn,cl):=Ayz rfl
def AZz (x:TV) (H:List Ob) (K:TV→List Ob→Prop) [Tg K]:Prop:=match x with
 | .op id 0 []=>(match H[id]? with
  | some (.mit m sn cl)=>(match stO H[m]? with
   | some (kk,zs,cl')=>(cl'=cl∧∀ z∈zs,z.1<cl)∧(∀ z∈zs,z.1∉sn→K (.tup [.val (.bool true),kTV kk z.2.1,z.2.2]) (H.set id (.mit m (sn++[z.1]) cl)))∧((∀ z∈zs,z.1∈sn)→K (.tup [.val (.bool false)]) H)
   | none=>False)
  | _=>False)
 | _=>False
@[congr] theorem Ba1 {x x':TV} {H':List Ob} (h1:x=x') (h2:H=H'):AZz x H KK=AZz x' H' KK:=by rw [h1,h2]
theorem A9h:sop P (.nxtM x) e H KK=AZz (x.ev e) H KK:=Ayz rfl
def BaK (id m:Nat) (sn:List Nat) (cl:Nat) (kk:MK) (zs:List (Nat×List UInt8×TV)) (cl':Nat) (H:List Ob) (K:TV→List Ob→Prop) [Tg K]:Prop :=
 (cl'=cl∧∀ z∈zs,z.1<cl)∧(∀ z∈zs,z.1∉sn→K (.tup [.val (.bool true),kTV kk z.2.1,z.2.2]) (H.set id (.mit m (sn++[z.1]) cl)))∧((∀ z∈zs,z.1∈sn)→K (.tup [.val (.bool false)]) H)
@[congr] theorem Bdb {id m:Nat} {sn sn':List Nat} {cl c2:Nat} {kk:MK} {zs zs':List (Nat×List UInt8×TV)} {cl' c2':Nat} {H':List Ob} (h1:sn=sn') (h2:cl=c2) (h3:zs=zs') (h4:cl'=c2') (h5:H=H'):BaK id m sn cl kk zs cl' H KK=BaK id m sn' c2 kk zs' c2' H' KK:=by rw [h1,h2,h3,h4,h5]
theorem A2I {id:Nat}:AZz (.op id 0 []) H KK=Azm (ATP H[id]?) fun p=>Azm (stO H[p.1]?) fun q=>BaK id p.1 p.2.1 p.2.2 q.1 q.2.1 q.2.2 H KK:=by
 unfold AZz
 cases h:H[id]? with
 | none=>simp [ATP,Azm,h]
 | some o =>
  cases o with
  | mit m sn cl =>
   simp only [h,ATP,Azm]
   cases h2:stO H[m]? with
   | none=>simp
   | some q=>obtain ⟨a,b,c⟩:=q; simp only [BaK]
  | _=>simp [ATP,Azm,h]
def A9T (p:Nat×List Nat×Nat) (q:MK×List (Nat×List UInt8×TV)×Nat):Option TV:=match p.2.1.getLast? with
 | some s=>if q.2.2=p.2.2 then (match q.2.1.find? (·.1 == s) with
  | some z=>some (.tup [kTV q.1 z.2.1,z.2.2])
  | none=>none) else none
 | none=>none
def A7t (kk:MK) (o:Option Ob):Option (List (Nat×List UInt8×TV)×Nat):=match stO o with
 | some (kk',zs,cl)=>if kk'=kk then some (zs,cl) else none
 | none=>none
theorem A13 {kk:MK} {es:List (List UInt8×TV)}:A7t kk (some (.mpo kk es))=some (APw 0 es,es.length):=by simp [A7t,stO]
theorem A4i {kk:MK} {zs:List (Nat×List UInt8×TV)} {cl:Nat}:A7t kk (some (.mpd kk zs cl))=some (zs,cl):=by simp [A7t,stO]
def A0H (kk:MK) (m k:TV) (H:List Ob) (K:TV→List Ob→Prop) [Tg K]:Prop:=match m,Azw kk k with
 | .mp id 0,some kb=>(match stO H[id]? with
  | some (kk',zs,cl)=>kk'=kk∧K .any (H.set id (.mpd kk (zs.eraseIdx (ARq kb (zs.map (·.2)))) cl))
  | none=>False)
 | _,_=>False
@[congr] theorem Bcb {kk:MK} {H':List Ob} {m m' k k':TV} (h1:m=m') (h2:k=k') (h4:H=H'):A0H kk m k H KK=A0H kk m' k' H' KK:=by rw [h1,h2,h4]
theorem A9p {kk:MK} {m k:Opd}:sop P (.delM kk m k) e H KK=A0H kk (m.ev e) (k.ev e) H KK:=Ayz rfl
theorem A3n {kk:MK} {id:Nat} {kx:TV}:A0H kk (.mp id 0) kx H KK=Azm (A7t kk H[id]?) fun p=>Azm (Azw kk kx) fun kb=>Azj (p.1.eraseIdx (ARq kb (p.1.map (·.2)))) fun zs=>Azj (H.set id (.mpd kk zs p.2)) fun H'=>KK .any H':=by
 unfold A0H A7t
 cases h:stO H[id]? with
 | none=>cases Azw kk kx<;>simp [h,Azm]
 | some q =>
  obtain ⟨kk',zs,cl⟩:=q
  by_cases hk:kk'=kk
  ·subst hk; cases Azw kk' kx<;>simp [h,Azm,Azj]
  ·cases Azw kk kx<;>simp [h,Azm,hk]
def BaU (H:List Ob) (x:TV) (K:TV→List Ob→Prop) [Tg K]:Prop:=match x with
 | .os k id ver [] off n cp=>n≠0∧obV H[id]?=some ver∧K (.os k id ver [] off n cp) H
 | _=>False
@[congr] theorem Bdh {H':List Ob} {x x':TV} (h0:H=H') (h1:x=x'):BaU H x KK=BaU H' x' KK:=by rw [h0,h1]
theorem BcY {x:Opd}:sop P (.cvS x) e H KK=BaU H (x.ev e) KK:=Ayz rfl
theorem A61 {k id ver off n cp:Nat}:BaU H (.os k id ver [] off n cp) KK=AAG (n≠0) (AAG (obV H[id]?=some ver) (KK (.os k id ver [] off n cp) H)):=Ayz rfl
theorem Bas {v:Nat} {y:TV}:obV (some (.obj v y))=some v:=Ayz rfl
def AZm (k:Nat) (z x:TV) (H:List Ob) (K:TV→List Ob→Prop) [Tg K]:Prop:=match x with
 | .os k' id ver p off n cp=>ALu k (.os k' id ver p off n cp) (List.replicate n z) H fun _ H'=>K .any H'
 | .val (.slice none 0 0)=>K .any H
 | _=>False
@[congr] theorem BaZ {k:Nat} {z x x':TV} {H':List Ob} (h1:x=x') (h2:H=H'):AZm k z x H KK=AZm k z x' H' KK:=by rw [h1,h2]
theorem A98 {k:Nat} {z:TV}:sop P (.clrS k z x) e H KK=AZm k z (x.ev e) H KK:=Ayz rfl
theorem AZY {k:Nat} {z:TV}:AZm k z (.val (.slice none 0 0)) H KK=KK .any H:=Ayz rfl
theorem A3C {k id ver off n cp:Nat} {p:List (Nat×Nat)} {z:TV}:AZm k z (.os k id ver p off n cp) H KK=Azj (List.replicate n z) fun ys=>AWB k (.os k id ver p off n cp) (some ys) H fun _ H'=>KK .any H':=Ayz rfl
theorem A3B {kk:MK} {es:List (List UInt8×TV)}:APZ kk (some (.mpo kk es))=some es:=by simp [APZ]
theorem A99 {l:List UInt8}:Azw .str (.val (.string (str l)))=some l:=by simp [Azw,bl,str]
theorem A8P {n:Nat} {l:List UInt8}:Azw (.arr n) (.arr n 1 (l.map by8))=some l:=by
 unfold Azw; simp only [ANO,ANo,and_self,if_true]
theorem A5F {z:TV} {r:Option TV}:AP5 z false r=r.getD z:=by simp [AP5]
theorem A6B {z:TV} {r:Option TV}:AP5 z true r = .tup [r.getD z,.val (.bool r.isSome)]:=by simp [AP5]
def A7x (x:TV) (A:Prop) [Tg A]:Prop:=match x with
 | .val (.int _ _)=>A
 | _=>False
@[congr] theorem Bdy {x x':TV} {A:Prop} (h:x=x'):A7x x A=A7x x' A:=by rw [h]
theorem A5O {q:IntKind} {n:Int} {A:Prop}:A7x (.val (.int q n)) A=A:=by simp [A7x]
theorem A89 {kk:MK}:sop P (.mkm kk none) e H KK=Azj H.length fun n=>Azj (H++[.mpo kk []]) fun H'=>KK (.mp n 0) H':=by simp [sop,Azj]
theorem A8j {kk:MK}:sop P (.mkm kk (some x)) e H KK=A7x (x.ev e) (Azj H.length fun n=>Azj (H++[.mpo kk []]) fun H'=>KK (.mp n 0) H'):=by
 simp only [sop,Azj,A7x]
 cases x.ev e with
 | val v=>cases v<;>simp
 | _=>simp
def AZe (kk:MK) (m k v:TV) (H:List Ob) (K:TV→List Ob→Prop) [Tg K]:Prop:=match m,Azw kk k with
 | .mp id 0,some kb=>(match H[id]? with
  | some (.mpo kk' es)=>(kk'=kk∧lays v=true)∧K .any (H.set id (.mpo kk (AN3 kb v es)))
  | _=>False)
 | _,_=>False
@[congr] theorem Bc5 {kk:MK} {H':List Ob} {m m' k k' v v':TV} (h1:m=m') (h2:k=k') (h3:v=v') (h4:H=H'):AZe kk m k v H KK=AZe kk m' k' v' H' KK:=by rw [h1,h2,h3,h4]
theorem A9y {kk:MK} {m k:Opd}:sop P (.mupd kk m k x) e H KK=AZe kk (m.ev e) (k.ev e) (x.ev e) H KK:=Ayz rfl
def A0J (kk:MK) (z m k:TV) (H:List Ob) (K:TV→List Ob→Prop) [Tg K]:Prop:=match m,Azw kk k with
 | .mp id 0,some kb=>(match H[id]? with
  | some (.mpo kk' es)=>kk'=kk∧K (.tup [(AHE kb es).getD z,.val (.int .i64 (ARq kb es))]) (H.set id (.mpo kk (AN3 kb ((AHE kb es).getD z) es)))
  | _=>False)
 | _,_=>False
@[congr] theorem Bc9 {kk:MK} {H':List Ob} {z m m' k k':TV} (h1:m=m') (h2:k=k') (h4:H=H'):A0J kk z m k H KK=A0J kk z m' k' H' KK:=by rw [h1,h2,h4]
theorem Bau {kk:MK} {z:TV} {m k:Opd}:sop P (.ment kk z m k) e H KK=A0J kk z (m.ev e) (k.ev e) H KK:=Ayz rfl
def AYL (m st v:TV) (H:List Ob) (K:TV→List Ob→Prop) [Tg K]:Prop:=match m,st with
 | .mp id 0,.val (.int _ j)=>(match H[id]? with
  | some (.mpo kk es)=>(0≤j∧lays v=true)∧(match es[j.toNat]? with
   | some (k,_)=>K .any (H.set id (.mpo kk (es.set j.toNat (k,v))))
   | none=>False)
  | _=>False)
 | _,_=>False
@[congr] theorem Bbc {H':List Ob} {m m' st st' v v':TV} (h1:m=m') (h2:st=st') (h3:v=v') (h4:H=H'):AYL m st v H KK=AYL m' st' v' H' KK:=by rw [h1,h2,h3,h4]
theorem A9n {m st:Opd}:sop P (.mest m st x) e H KK=AYL (m.ev e) (st.ev e) (x.ev e) H KK:=Ayz rfl
theorem A44 {sz:Nat}:sop P (.store sz x y) e H KK=AU6 H sz (x.ev e) (y.ev e) KK:=Ayz rfl
theorem Bbw {k n:Nat} {z:TV}:sop P (.mks k n z x y) e H KK=BaQ H k n z (x.ev e) (y.ev e) KK:=Ayz rfl
theorem BbQ {k n:Nat} {et:TypeId}:sop P (.app k n et x y) e H KK=A5R k n et (x.ev e) (Azy H k (y.ev e)) H KK:=Ayz rfl
theorem A8f {et:TypeId}:sop P (.appS et x y) e H KK=A3m et (x.ev e) (y.ev e) H KK:=Ayz rfl
theorem A9q {k:Nat}:sop P (.copy k x y) e H KK=AWB k (x.ev e) (Azy H k (y.ev e)) H KK:=Ayz rfl
theorem A6D:sop P (.copyS x y) e H KK=AXa (x.ev e) (y.ev e) H KK:=Ayz rfl
theorem A9Q {k n:Nat} {z:TV}:sop P (.appZ k n z x y) e H KK=A2j k n z (x.ev e) (y.ev e) H KK:=Ayz rfl
theorem Ba8 {n:Bool}:sop P (.eqS x n) e H KK=A4B n (x.ev e) H KK:=Ayz rfl
theorem Bbg:sop P (.s2b x) e H KK=BaO H (x.ev e) KK:=Ayz rfl
theorem A9d {f:FuncId} {args:List Opd}:sop P (.call f args) e H KK=Azj (evs e args) fun xs=>AAG (AK9 xs) (VC P f xs H KK):=by
 rw [A87,AH0]; rfl
theorem BbJ {nm:String} {args:List Opd}:sop P (.inv x nm args) e H KK=Azj (evs e args) fun xs=>AAG (AK9 xs) (A8p P nm (x.ev e) xs H KK):=by
 show ((∀ y∈args,AzF (y.ev e)=false)∧_)=_
 rw [AH0]; rfl
theorem A5f {args:List Opd}:sop P (.callv x args) e H KK=Azj (evs e args) fun xs=>AAG (AK9 xs) (ASF P (x.ev e) xs H KK):=by
 rw [A6E,AH0]; rfl
end
section
variable {K:TV→Prop} {KK:TV→List Ob→Prop} {x y:TV} {cs ys:List TV} {n n' k k':Nat} {id ver off cp:Nat} {p:List (Nat×Nat)} {j:Int} {q:IntKind} {lo hi:Option TV}
theorem A3W {t:Bool}:A0r (.val (.bool t)) x y K=vif t (K x) (K y):=by cases t<;>simp [A0r,vif]
theorem A6m {t:TypeId} {op:BinOp} {u v:Value}:BaE t op (.val u) (.val v) K=AAG (A2r u v=true) (Azm (AAL t op u v) fun r=>Azj (TV.val r) K):=by
 show (_∧_)=_; cases AAL t op u v<;>rfl
theorem A9g {op:UnOp} {u:Value}:Pun op (.val u) K=Azm (unV op u) fun r=>Azj (TV.val r) K:=by
 unfold Pun; simp only; cases unV op u<;>rfl
theorem A3h {k:IntKind}:A3Z k (.val (.int q j)) K=Azj (TV.val (.int k (k.wrap j))) K:=Ayz rfl
theorem A7c {s:ByteArray}:BaH (.val (.string s)) K=K (.val (.string s)):=Ayz rfl
theorem A40:BaW (some cs) K=AAG (∀ y∈cs,AYo y) (Azj (TV.val (.string (str (cs.map AN4)))) K):=Ayz rfl
theorem A2L {ag:Bool} {sz:Nat}:AWb H ag sz (.fp y) K=AAG (ASg ag sz y) (K y):=Ayz rfl
theorem A2M {ag:Bool} {sz:Nat}:AWb H ag sz (.op id ver p) K=Azm (AB0 H[id]? ver) fun x=>Azm (AEo p x) fun y=>AAG (ASg ag sz y) (K y):=by
 unfold AWb
 simp only
 cases h:H[id]? with
 | none=>simp [AB0,Azm]
 | some o =>
  cases o with
  | gone v=>simp [AB0,Azm]
  | ice v m y=>simp [AB0,Azm]
  | fact i v t m=>simp [AB0,Azm]
  | bld v t l=>simp [AB0,Azm]
  | lp st pe fn N en ps ca cb=>simp [AB0,Azm]
  | mpo kk es=>simp [AB0,Azm]
  | mpd kk zs cl=>simp [AB0,Azm]
  | mit m sn cl=>simp [AB0,Azm]
  | sit s pos=>simp [AB0,Azm]
  | obj v x =>
   by_cases hv:v=ver
   ·subst hv; simp only [AB0,Azm,AAG,if_true,true_and]; cases AEo p x<;>rfl
   ·simp [AB0,Azm,hv]
theorem AXC {i o:Nat}:AOz i o (.op id ver p) K=Azj (p++[(i,o)]) fun p=>K (.op id ver p):=Ayz rfl
theorem AXK {i o:Nat}:AOz i o (.fp (.agg cs)) K=AAG (Azk (cs.take i)=o) (Azm cs[i]? fun y=>K (.fp y)):=by
 unfold AOz; simp only; cases cs[i]?<;>rfl
theorem A0V {ag:Bool} {sz i o:Nat}:AUk ag sz i o (.agg cs) K=AAG (Azk (cs.take i)=o) (Azm cs[i]? fun y=>AAG (ASg ag sz y) (K y)):=by
 unfold AUk; simp only; cases cs[i]?<;>rfl
theorem A3D:AYb k (.sl k cs) (.val (.int q j)) K=AAG (0≤j) (Azm cs[j.toNat]? fun y=>K (.fp y)):=by
 unfold AYb; simp only [true_and]; cases cs[j.toNat]?<;>rfl
theorem A4n:AYb k (.os k id ver p off n cp) (.val (.int q j)) K=AAG (0≤j∧j<n) (Azj (off+j.toNat) fun m=>Azj (p++[(m,m*k)]) fun p=>K (.op id ver p)):=by
 show (k=k∧_)=_; simp [AAG,Azj,and_assoc]
theorem A08:ASj n k (.fp (.arr n k cs)) (.val (.int q j)) K=AAG (0≤j) (Azm cs[j.toNat]? fun y=>K (.fp y)):=by
 unfold ASj; simp only [true_and]; cases cs[j.toNat]?<;>rfl
theorem AZl:ASj n k (.op id ver p) (.val (.int q j)) K=AAG (0≤j∧j<n) (Azj j.toNat fun m=>Azj (p++[(m,m*k)]) fun p=>K (.op id ver p)):=by
 show (_∧_)=_; simp [AAG,Azj,and_assoc]
theorem A5o {ag:Bool}:A8R ag n k (.arr n k cs) (.val (.int q j)) K=AAG (0≤j) (Azm cs[j.toNat]? fun y=>AAG (ASg ag k y) (K y)):=by
 unfold A8R; simp only [true_and]; cases cs[j.toNat]?<;>rfl
theorem A25 {s:ByteArray}:AYI (.val (.string s)) (.val (.int q j)) K=AAG (0≤j) (Azm (bl s)[j.toNat]? fun b=>K (by8 b)):=by
 unfold AYI; simp only; cases (bl s)[j.toNat]?<;>rfl
theorem A56 {i:Nat}:A8T i (.tup cs) K=Azm cs[i]? K:=by
 unfold A8T; simp only; cases cs[i]?<;>rfl
theorem A4m {s:ByteArray}:A29 (.val (.string s)) K=Azj (TV.val (.int .i64 (bl s).length)) K:=Ayz rfl
theorem A1P:AX9 (.sl k cs) K=Azj (TV.val (.int .i64 cs.length)) K:=Ayz rfl
theorem A2a:AX9 (.os k id ver p off n cp) K=K (.val (.int .i64 n)):=Ayz rfl
theorem A07 {ad:Option Addr} {c:Nat}:AX9 (.val (.slice ad n c)) K=K (.val (.int .i64 n)):=Ayz rfl
section
variable {len lim:Nat} {KN:Nat→Nat→Prop} {l h:Int} {q2:IntKind}
theorem A6S:ATn none none len lim KN=AAG (len≤lim) (KN 0 len):=by
 show ((0≤(0:Int)∧(0:Int)≤(len:Int)∧(len:Int)≤lim)∧KN (Int.toNat 0) (Int.toNat len))=_
 simp [AAG]
theorem A5d:ATn (some (.val (.int q l))) none len lim KN=AAG (0≤l∧l≤len∧(len:Int)≤lim) (Azj l.toNat fun l=>KN l len):=by
 show ((0≤l∧l≤(len:Int)∧(len:Int)≤lim)∧KN l.toNat (Int.toNat len))=_
 simp [AAG,Azj]
theorem A50:ATn none (some (.val (.int q h))) len lim KN=AAG (0≤h∧h≤lim) (Azj h.toNat fun h=>KN 0 h):=by
 show ((0≤(0:Int)∧0≤h∧h≤lim)∧KN (Int.toNat 0) h.toNat)=_
 simp [AAG,Azj]
theorem A5b:ATn (some (.val (.int q l))) (some (.val (.int q2 h))) len lim KN=AAG (0≤l∧l≤h∧h≤lim) (Azj l.toNat fun l=>Azj h.toNat fun h=>KN l h):=Ayz rfl
end
theorem A5I {s:ByteArray}:BaJ (.val (.string s)) lo hi K=ATn lo hi (bl s).length (bl s).length fun l h=>Azj (((bl s).drop l).take (h - l)) fun r=>K (.val (.string (str r))):=Ayz rfl
theorem A6j:A7o k (.sl k cs) lo hi K=ATn lo hi cs.length cs.length fun l h=>Azj ((cs.drop l).take (h - l)) fun r=>K (.sl k r):=by
 exact propext ⟨fun h=>h.2,fun h=>⟨rfl,h⟩⟩
theorem A55:A7o k (.os k id ver p off n cp) lo hi K=ATn lo hi n cp fun l h=>Azj (off+l) fun o=>Azj (h - l) fun m=>Azj (cp - l) fun c=>K (.os k id ver p o m c):=by
 exact propext ⟨fun h=>h.2,fun h=>⟨rfl,h⟩⟩
theorem A3Q {ad:Option Addr}:A7o k (.val (.slice ad 0 0)) lo hi K=ATn lo hi 0 0 fun l h=>K (.val (.slice ad 0 0)):=Ayz rfl
theorem A6X:A7q H n k (.fp (.arr n k cs)) lo hi K=AAG (n≤9223372036854775807) (ATn lo hi n n fun l h=>Azj ((cs.drop l).take (h - l)) fun r=>K (.sl k r)):=by
 exact propext ⟨fun h=>⟨h.2.2.1,h.2.2.2⟩,fun h=>⟨rfl,rfl,h.1,h.2⟩⟩
def AVd:Option TV→Nat→Nat→Option (List TV)
 | some (.arr n' k' cs),n,k=>if n'=n∧k'=k then some cs else none
 | _,_,_=>none
theorem A2m:AVd (some (.arr n k cs)) n k=some cs:=by simp [AVd]
theorem A7a:A7q H n k (.op id ver p) lo hi K=Azm (AB0 H[id]? ver) fun x=>AAG (n≤9223372036854775807) (Azm (AVd (AEo p x) n k) fun _=>ATn lo hi n n fun l h=>Azj (h - l) fun m=>Azj (n - l) fun c=>K (.os k id ver p l m c)):=by
 unfold A7q
 simp only
 cases h:H[id]? with
 | none=>simp [AB0,Azm]
 | some o =>
  cases o with
  | gone v=>simp [AB0,Azm]
  | ice v m y=>simp [AB0,Azm]
  | fact i v t m=>simp [AB0,Azm]
  | bld v t l=>simp [AB0,Azm]
  | lp st pe fn N en ps ca cb=>simp [AB0,Azm]
  | mpo kk es=>simp [AB0,Azm]
  | mpd kk zs cl=>simp [AB0,Azm]
  | mit m sn cl=>simp [AB0,Azm]
  | sit s pos=>simp [AB0,Azm]
  | obj v x =>
   by_cases hv:v=ver
   ·simp only [AB0,Azm,hv,AAG,Azj,if_true,true_and]
    congr 1
    cases hg:AEo p x with
    | none=>simp [AVd]
    | some y =>
     cases y with
     | arr n2 k2 ds =>
      by_cases h1:n2=n
      ·by_cases h2:k2=k
       ·simp [AVd,h1,h2]; exact Iff.rfl
       ·simp [AVd,h1,h2]
      ·simp [AVd,h1]
     | _=>simp [AVd]
   ·simp [AB0,Azm,hv]
theorem A1f {t:TypeId}:AWW t x K=AAG (lays x=true) (K (.ifc t x)):=Ayz rfl
theorem A5T {f:Fn}:A9m f cs ys K=AAG (AK9 (cs++ys)) (K (.fn f cs ys)):=Ayz rfl
theorem A3a:AUB (.op id ver p) K=K (.op id ver p):=Ayz rfl
theorem A2c:AUB (.fp y) K=K (.fp y):=Ayz rfl
theorem A3s {f:FuncId} {a b:List TV}:AUB (.fn (.func f) a b) K=K (.fn (.func f) a b):=Ayz rfl
theorem AZv {t:TypeId}:AUB (.ifc t y) K=K (.ifc t y):=Ayz rfl
theorem AXx {f:FuncId} {a b:Array Value}:AUB (.val (.func (.func f) a b)) K=K (.val (.func (.func f) a b)):=Ayz rfl
section
variable {a b:Int} {q2:IntKind}
theorem A58:BaD (.val (.int q a)) (.val (.int q2 b)) K=vif (decide (b<a)) (K (.val (.int q b))) (K (.val (.int q a))):=by
 show K _=_
 by_cases h:b<a<;>simp [vif,h]
theorem A4Z:BaS (.val (.int q a)) (.val (.int q2 b)) K=vif (decide (a<b)) (K (.val (.int q b))) (K (.val (.int q a))):=by
 show K _=_
 by_cases h:a<b<;>simp [vif,h]
theorem A3F {q1 q2 q3:IntKind} {l h m:Int}:AQX (.sl3 k) H [.sl k cs,.val (.int q1 l),.val (.int q2 h),.val (.int q3 m)] K=AAG (0≤l∧l≤h∧h≤m∧m≤cs.length) (Azj ((cs.drop l.toNat).take (h.toNat - l.toNat)) fun r=>K (.sl k r)):=by
 unfold AQX gev AAG Azj
 simp only [true_and]
 by_cases hc:0≤l∧l≤h∧h≤m∧m≤cs.length
 ·rw [if_pos hc]; simp [hc]
 ·rw [if_neg hc]; simp only [hc,false_and]
theorem A1t {sh:List EL} {b:Bool} {xs ys:List TV}:AQX (.eqR sh b) H [.agg xs,.agg ys] K=Azm (ATC sh xs ys) fun r=>Azj (TV.val (.bool (xor b r))) K:=by
 have hg:gev (.eqR sh b) H [.agg xs,.agg ys]=(ATC sh xs ys).map fun r => .val (.bool (xor b r)):=by unfold gev; rfl
 unfold AQX Azm Azj
 rw [hg]
 cases ATC sh xs ys<;>rfl
theorem A34:ATC [] [] []=some true:=Ayz rfl
theorem A72 {l:List EL} {k:IntKind} {a b:Int} {xs ys:List TV}:ATC (.i::l) (.val (.int k a)::xs) (.val (.int k b)::ys)=(ATC l xs ys).map fun r=>(a == b) && r:=by rw [ATC,if_pos rfl]
theorem A88 {l:List EL} {a b:ByteArray} {xs ys:List TV}:ATC (.s::l) (.val (.string a)::xs) (.val (.string b)::ys)=(ATC l xs ys).map fun r=>(a == b) && r:=Ayz rfl
theorem A9M {l:List EL} {n:Nat} {a b:List UInt8} {xs ys:List TV}:ATC (.b n::l) (.arr n 1 (a.map by8)::xs) (.arr n 1 (b.map by8)::ys)=(ATC l xs ys).map fun r=>(a == b) && r:=by
 rw [ATC]
 simp only [ANO,ANo,and_self,if_true]
theorem A4h {n:Nat} {b:Bool} {xs ys:List UInt8}:AQX (.eqA n b) H [.arr n 1 (xs.map by8),.arr n 1 (ys.map by8)] K=Azj (TV.val (.bool (xor b (xs == ys)))) K:=by
 unfold AQX gev Azj
 simp only [ANO,ANo,and_self,if_true]
theorem A2Q {q:IntKind} {n:Int}:AQX .r2s H [.val (.int q n)] K=Azj (TV.val (.string (Utf8.encode n))) K:=Ayz rfl
theorem A1D {t t':TypeId}:AQX (.tas t) H [.ifc t' x] K=AAG (t'=t) (K x):=by
 unfold AQX gev AAG
 by_cases h:t'=t<;>simp [h]
theorem AZn {a:Option Addr} {l n:Nat}:AQX .capV H [.val (.slice a l n)] K=Azj (TV.val (.int .i64 (n:Int))) K:=Ayz rfl
theorem A2u {n:Nat}:AQX (.s2a n k) H [.sl k cs] K=AAG (0<n∧n≤cs.length) (Azj (cs.take n) fun r=>K (.fp (.arr n k r))):=by
 unfold AQX gev AAG Azj
 simp only [true_and]
 by_cases hc:0<n∧n≤cs.length
 ·rw [if_pos hc]; simp [hc]
 ·rw [if_neg hc]; simp only [hc,false_and]
theorem A90 {s t:Bool}:A7H false (.val (.bool s)) (.val (.bool t)) K=Azj (TV.val (.bool (s == t))) K:=by
 show K _=_; simp [Azj]
theorem A77 {s t:Bool}:A7H true (.val (.bool s)) (.val (.bool t)) K=Azj (TV.val (.bool (!(s == t)))) K:=by
 show K _=_; simp [Azj]
theorem A8Z {m b:Bool}:A7S m (some true) (some b) K=Azj (TV.val (.bool (xor m b))) K:=Ayz rfl
theorem A9e {m:Bool}:A7S m (some false) (some true) K=Azj (TV.val (.bool (xor m false))) K:=Ayz rfl
end
theorem A31 {kk:MK} {m:Nat} {kx v:TV}:AZe kk (.mp m 0) kx v H KK=Azm (APZ kk H[m]?) fun es=>Azm (Azw kk kx) fun kb=>AAG (lays v=true) (Azj (AN3 kb v es) fun es'=>Azj (H.set m (.mpo kk es')) fun H'=>KK .any H'):=by
 unfold AZe
 cases hh:H[m]? with
 | none=>cases Azw kk kx<;>simp [hh,APZ,Azm]
 | some o =>
  cases o with
  | mpo kk' es =>
   by_cases hk:kk'=kk
   ·subst hk; cases Azw kk' kx<;>simp [hh,APZ,Azm,AAG,Azj]
   ·cases Azw kk kx<;>simp [hh,APZ,Azm,hk]
  | _=>cases Azw kk kx<;>simp [hh,APZ,Azm]
theorem A2d {kk:MK} {m:Nat} {kx z:TV}:A0J kk z (.mp m 0) kx H KK=Azm (APZ kk H[m]?) fun es=>Azm (Azw kk kx) fun kb=>Azj ((AHE kb es).getD z) fun y=>Azj (ARq kb es) fun p=>Azj (AN3 kb y es) fun es'=>Azj (H.set m (.mpo kk es')) fun H'=>KK (.tup [y,.val (.int .i64 (p:Int))]) H':=by
 unfold A0J
 cases hh:H[m]? with
 | none=>cases Azw kk kx<;>simp [hh,APZ,Azm]
 | some o =>
  cases o with
  | mpo kk' es =>
   by_cases hk:kk'=kk
   ·subst hk; cases Azw kk' kx<;>simp [hh,APZ,Azm,Azj]
   ·cases Azw kk kx<;>simp [hh,APZ,Azm,hk]
  | _=>cases Azw kk kx<;>simp [hh,APZ,Azm]
def ASo:Option Ob→Option (MK×List (List UInt8×TV))
 | some (.mpo kk es)=>some (kk,es)
 | _=>none
theorem A06 {kk:MK} {es:List (List UInt8×TV)}:ASo (some (.mpo kk es))=some (kk,es):=by simp [ASo]
theorem A3P {m j:Nat} {q:IntKind} {v:TV}:AYL (.mp m 0) (.val (.int q (j:Int))) v H KK=Azm (ASo H[m]?) fun p=>AAG (lays v=true) (Azm p.2[j]? fun y=>Azj (p.2.set j (y.1,v)) fun es'=>Azj (H.set m (.mpo p.1 es')) fun H'=>KK .any H'):=by
 unfold AYL
 cases hh:H[m]? with
 | none=>simp [hh,ASo,Azm]
 | some o =>
  cases o with
  | mpo kk' es =>
   simp only [hh,ASo,Azm,AAG,Azj,Int.natCast_nonneg,true_and,Int.toNat_natCast]
   cases es[j]?<;>simp
  | _=>simp [hh,ASo,Azm]
theorem AZh {kk:MK} {z kx:TV} {ok:Bool} {m:Nat}:AQX (.look kk z ok) H [.mp m 0,kx] K=Azm (ARl kk H[m]?) fun es=>Azm (Azw kk kx) fun kb=>Azj (AP5 z ok (AHE kb es)) K:=by
 unfold AQX gev AT0
 cases hh:H[m]? with
 | none=>cases hb:Azw kk kx<;>simp [hh,hb,ARl,Azm]
 | some o =>
  cases o with
  | mpo kk' es =>
   by_cases hk:kk'=kk
   ·subst hk; cases hb:Azw kk' kx<;>simp [hh,hb,ARl,Azm,Azj]
   ·cases hb:Azw kk kx<;>simp [hh,hb,ARl,Azm,hk]
  | mpd kk' zs cl =>
   by_cases hk:kk'=kk
   ·subst hk; cases hb:Azw kk' kx<;>simp [hh,hb,ARl,Azm,Azj]
   ·cases hb:Azw kk kx<;>simp [hh,hb,ARl,Azm,hk]
  | _=>cases hb:Azw kk kx<;>simp [hh,hb,ARl,Azm]
theorem AXY {kk:MK} {z kx:TV} {ok:Bool}:AQX (.look kk z ok) H [.val (.map none),kx] K=Azm (Azw kk kx) fun kb=>Azj (AP5 z ok none) K:=by
 unfold AQX gev AT0
 cases hb:Azw kk kx<;>simp [hb,Azm,Azj]
theorem A04 {m:Nat}:AQX .lenM H [.mp m 0] K=Azm (AVP H[m]?) fun p=>Azj p.length fun n=>Azj (TV.val (.int .i64 (n:Int))) K:=by
 unfold AQX gev A4o
 cases hh:H[m]? with
 | none=>simp [hh,AVP,Azm]
 | some o=>cases o<;>simp [hh,AVP,Azm,Azj]
theorem A0z {id:Nat}:AQX .entM H [.op id 0 []] K=Azm (ATP H[id]?) fun p=>Azm (stO H[p.1]?) fun q=>Azm (A9T p q) K:=by
 unfold AQX gev BaN
 cases hh:H[id]? with
 | none=>simp [hh,ATP,Azm]
 | some o =>
  cases o with
  | mit m sn cl =>
   simp only [hh,ATP,Azm,A9T]
   cases h2:stO H[m]? with
   | none=>simp
   | some q =>
    obtain ⟨kk,zs,cl'⟩:=q
    cases h3:sn.getLast? with
    | none=>simp
    | some s =>
     by_cases hc:cl'=cl
     ·subst hc; cases hf:zs.find? (·.1 == s)<;>simp [hf]
     ·simp [hc]
  | _=>simp [hh,ATP,Azm]
theorem A0S {sz:Nat}:AU6 H sz (.op id ver p) y KK=AAG (lays y=true∧AyL y=sz) (Azm (AB0 H[id]? ver) fun z=>Azm (AG6 p z y) fun z'=>Azj (H.set id (.obj ver z')) fun H'=>KK .any H'):=by
 unfold AU6
 simp only [AAG]
 congr 1
 cases h:H[id]? with
 | none=>simp [AB0,Azm]
 | some o =>
  cases o with
  | gone v=>simp [AB0,Azm]
  | ice v m y=>simp [AB0,Azm]
  | fact i v t m=>simp [AB0,Azm]
  | bld v t l=>simp [AB0,Azm]
  | lp st pe fn N en ps ca cb=>simp [AB0,Azm]
  | mpo kk es=>simp [AB0,Azm]
  | mpd kk zs cl=>simp [AB0,Azm]
  | mit m sn cl=>simp [AB0,Azm]
  | sit s pos=>simp [AB0,Azm]
  | obj v x =>
   by_cases hv:v=ver
   ·subst hv; simp only [AB0,Azm,Azj,if_true,true_and]; cases AG6 p x y<;>rfl
   ·simp [AB0,Azm,hv]
theorem A5v {z:TV} {l c:Int} {q2:IntKind} {bytes:Nat}:BaQ H k bytes z (.val (.int q l)) (.val (.int q2 c)) KK=AAG (0≤l∧l≤c∧(bytes:Int)*c≤281474976710656∧c≤9223372036854775807) (Azj l.toNat fun l=>Azj c.toNat fun c=>Azj H.length fun m=>Azj (H++[.obj 0 (.arr c k (List.replicate c z))]) fun H'=>KK (.os k m 0 [] 0 l c) H'):=Ayz rfl
theorem A3u {bytes:Nat} {et:TypeId}:A5R k bytes et (.val (.slice none 0 0)) (some ys) H KK=AAG (ys.length*bytes≤140737488355328∧ys.length≤9223372036854775807) (Azj ys.length fun n=>Azj H.length fun m=>Azj (H++[.obj 1 (.arr n k ys)]) fun H'=>KK (.os k m 1 [] 0 n n) H'):=Ayz rfl
def AVQ:Option TV→Nat→Option (List TV)
 | some (.arr _ k' cs),k=>if k'=k then some cs else none
 | _,_=>none
theorem A2s:AVQ (some (.arr n k cs)) k=some cs:=by simp [AVQ]
theorem A3G {v n2:Nat} {et:TypeId}:A12 (some (.obj v (.arr n2 k cs))) v k et off n ys=some (.obj (v+1) (.arr (n+ys.length) k ((cs.drop off).take n++ys))):=by simp [A12]
theorem AWI {v:Nat} {et:TypeId} {l m:List UInt8}:A12 (some (.bld v et l)) v 1 et 0 n (m.map by8)=some (.bld (v+1) et (l.take n++m)):=by
 simp only [A12,ANO,ANo,and_self,if_true]
theorem A1a {v:Nat} {et:TypeId} {l:List UInt8} {b:UInt8}:A12 (some (.bld v et l)) v 1 et 0 n [by8 b]=some (.bld (v+1) et (l.take n++[b])):=AWI (m:=[b])
theorem A2N {v n2:Nat}:A7u (some (.obj v (.arr n2 k cs)))=cs.length:=by simp [A7u]
theorem A4v {v:Nat} {et:TypeId} {l:List UInt8}:A7u (some (.bld v et l))=l.length:=by simp [A7u]
theorem A48 {bytes:Nat} {et:TypeId}:A5R k bytes et (.os k id ver [] off n cp) (some ys) H KK=Azm (A12 H[id]? ver k et off n ys) fun o=>AAG (off+n≤A7u H[id]?∧(n+ys.length)*bytes≤140737488355328∧n+ys.length≤9223372036854775807)
   (Azj (n+ys.length) fun m=>Azj (H.set id o) fun H'=>KK (.os k id (ver+1) [] 0 m m) H'):=by
 unfold A5R AUA
 simp only [true_and]
 cases h:A12 H[id]? ver k et off n ys with
 | none=>simp [Azm]
 | some o=>simp [Azm,AAG,Azj]
theorem A4t {s:ByteArray} {et:TypeId}:A3m et x (.val (.string s)) H KK=Azj ((bl s).map by8) fun ys=>A5R 1 1 et x (some ys) H KK:=Ayz rfl
def BbZ:Option TV→Option Nat
 | some (.arr n _ _)=>some n
 | _=>none
theorem A6A:BbZ (some (.arr n k cs))=some n:=Ayz rfl
theorem A2W:AWB k (.os k id ver p off n cp) (some ys) H KK=Azm (AB0 H[id]? ver) fun z=>Azm (AVQ (AEo p z) k) fun cs=>Azm (BbZ (AEo p z)) fun N=>AAG (off+n≤cs.length) (Azm (AG6 p z (.arr N k (cs.take off++(ys.take n++cs.drop (off+min ys.length n))))) fun z' =>
  Azj (H.set id (.obj ver z')) fun H'=>Azj (TV.val (.int .i64 (min ys.length n:Nat))) fun r=>KK r H'):=by
 unfold AWB ALu
 simp only [true_and]
 cases h:H[id]? with
 | none=>simp [AB0,Azm]
 | some o =>
  cases o with
  | gone v=>simp [AB0,Azm]
  | ice v m y=>simp [AB0,Azm]
  | fact i v t m=>simp [AB0,Azm]
  | bld v t l=>simp [AB0,Azm]
  | lp st pe fn N en ps ca cb=>simp [AB0,Azm]
  | mpo kk es=>simp [AB0,Azm]
  | mpd kk zs cl=>simp [AB0,Azm]
  | mit m sn cl=>simp [AB0,Azm]
  | sit s pos=>simp [AB0,Azm]
  | obj v x =>
   by_cases hv:v=ver
   ·simp only [AB0,Azm,hv,if_true,true_and]
    cases hg:AEo p x with
    | none=>simp [AVQ]
    | some y =>
     cases y with
     | arr n2 k2 ds =>
      by_cases h1:k2=k
      ·subst h1; simp only [AVQ,BbZ,AAG,Azj,if_true,true_and]; refine congrArg (_ ∧ ·) ?_; cases AG6 p x (.arr n2 k2 (ds.take off++(ys.take n++ds.drop (off+min ys.length n))))<;>rfl
      ·simp [AVQ,h1]
     | _=>simp [AVQ]
   ·simp [AB0,Azm,hv]
theorem AZ9 {s:ByteArray}:AXa x (.val (.string s)) H KK=Azj ((bl s).map by8) fun ys=>AWB 1 x (some ys) H KK:=Ayz rfl
theorem A27 {f:FuncId} {j v:Nat} {l:List UInt8}:A4k P f (some (j,v,l)) H KK=AAG (Baz P f) (AAG (l.length≤9223372036854775807) (Azj (H.set j (.gone v)) fun H'=>KK (.val (.string (str l))) H')):=Ayz rfl
def Baa (o:Option Ob) (j v n:Nat) (a:TV):Option (Nat×Nat×List UInt8):=match o with
 | some (.bld v3 t l)=>if v3=v∧t=AUP∧n=l.length∧AyL a=1 then some (j,v,l) else none
 | _=>none
def A1E (H:List Ob) (j v n:Nat) (a:TV):Option (Nat×Nat×List UInt8):=Baa H[j]? j v n a
def AX8 (H:List Ob) (q:Option TV):Option (Nat×Nat×List UInt8):=match q with
 | some (.agg [a,.os 1 j v2 [] 0 n cp])=>A1E H j v2 n a
 | _=>none
theorem A4f {id ver:Nat} {p:List (Nat×Nat)}:AXX H (.op id ver p)=AX8 H ((AB0 H[id]? ver).bind (AEo p)):=by
 unfold AXX
 simp only []
 cases h:H[id]? with
 | none=>simp [AB0,AX8]
 | some o =>
  cases o with
  | obj v y =>
   by_cases hv:v=ver
   ·simp only [AB0,hv,if_true,Option.bind_some]
    unfold AX8 A1E Baa
    rfl
   ·simp [AB0,AX8,hv]
  | _=>simp [AB0,AX8]
theorem A4x {a:TV} {j v n cp:Nat}:AX8 H (some (.agg [a,.os 1 j v [] 0 n cp]))=A1E H j v n a:=Ayz rfl
theorem A4j {a:TV} {j v n:Nat}:A1E H j v n a=Baa H[j]? j v n a:=Ayz rfl
theorem A53 {a:TV} {j v n:Nat} {l:List UInt8} (hn:n=l.length) (ha:AyL a=1):Baa (some (.bld v 5 l)) j v n a=some (j,v,l):=by
 simp [Baa,hn,ha,AUP]
theorem A6G {s:ByteArray}:BaO H (.val (.string s)) KK=AAG ((bl s).length≤9223372036854775807) (Azj (bl s).length fun n=>Azj ((bl s).map by8) fun r=>Azj H.length fun m=>Azj (H++[.obj 0 (.arr n 1 r)]) fun H'=>KK (.os 1 m 0 [] 0 n n) H'):=Ayz rfl
theorem A3r {z:TV} {j:Int} {bytes:Nat}:A2j k bytes z (.val (.slice none 0 0)) (.val (.int .i64 j)) H KK=AAG (0≤j∧(bytes:Int)*j≤140737488355328∧j≤9223372036854775807) (Azj j.toNat fun n=>Azj H.length fun m=>Azj (H++[.obj 0 (.arr n k (List.replicate n z))]) fun H'=>KK (.os k m 0 [] 0 n n) H'):=Ayz rfl
theorem A3R {n:Bool} {a:Option Addr} {l c:Nat}:A4B n (.val (.slice a l c)) H KK=KK (.val (.bool (xor n a.isNone))) H:=Ayz rfl
theorem A42 {n:Bool}:A4B n (.sl k cs) H KK=vif (decide (cs.length=0)) (AWe H KK) (KK (.val (.bool n)) H):=by
 unfold A4B vif AWe
 by_cases h:cs=[]
 ·subst h; simp
 ·have h2:¬ cs.length=0:=fun e=>h (List.length_eq_zero_iff.1 e)
  simp [h,h2]
theorem A6M {n:Bool} {m off l cp:Nat} {p:List (Nat×Nat)}:A4B n (.os k m ver p off l cp) H KK=vif (decide (l=0)) (AWe H KK) (KK (.val (.bool n)) H):=by
 unfold A4B vif AWe
 by_cases h:l=0
 ·subst h; simp
 ·simp [h]
theorem AWm (h1:KK (.val (.bool true)) H) (h2:KK (.val (.bool false)) H):AWe H KK:=⟨h1,h2⟩
theorem A0h {f:FuncId} {a b:List TV}:ASF P (.fn (.func f) a b) cs H KK=AAG (APD P f=true) (Azj (a++cs++b) fun xs=>VC P f xs H KK):=Ayz rfl
theorem AXL {f:FuncId}:ASF P (.val (.func (.func f) #[] #[])) cs H KK=AAG (APD P f=true) (VC P f cs H KK):=by
 exact propext ⟨fun h=>⟨h.2.1,h.2.2⟩,fun h=>⟨rfl,h.1,h.2⟩⟩
theorem AYY:ASF P (.yl id ver) cs H KK=VY P id ver cs H KK:=Ayz rfl
theorem A5P {nm:String} {t:TypeId}:A8p P nm (.ifc t x) cs H KK=A7r P (A2T P t nm) x cs H KK:=by
 unfold A8p Baw A7r
 show (match A2T P t nm with | some (f,none)=>_ | some (f,some (ag,sz))=>_ | none=>False)=_
 rcases A2T P t nm with _ | ⟨f,_ | ⟨ag,sz⟩⟩<;>rfl
theorem Bae {f:FuncId}:A7r P (some (f,none)) x cs H KK=AAG (APD P f=true) (Azj (x::cs) fun xs=>VC P f xs H KK):=Ayz rfl
theorem Bag {f:FuncId} {ag:Bool} {sz:Nat}:A7r P (some (f,some (ag,sz))) x cs H KK=AAG (APD P f=true) (AWb H ag sz x fun y=>Azj (y::cs) fun xs=>VC P f xs H KK):=Ayz rfl
theorem Bc1 {t:Bool} {A B:Prop}:Gd (some t) true A B=vif t A B:=Ayz rfl
theorem BcN {t:Bool} {A B:Prop}:Gd (some t) false A B=vif t B A:=by cases t<;>simp [Gd,vif]
theorem BdZ {b:Bool} {A B:Prop}:Gd none b A B=B:=Ayz rfl
end
section
variable {Q:VEx→Env→List Ob→Prop} {l:List VO} {kp:List Nat} {a b:AyD}
def A19 (x:TV) (A B:Prop) [Tg A] [Tg B]:Prop:=match x with
  | .val (.bool t)=>if t=true then A else B
  | _=>False
@[congr] theorem Bca {x x':TV} {A B:Prop} (h:x=x'):A19 x A B=A19 x' A B:=by rw [h]
theorem A4d {t:Bool} {A B:Prop}:A19 (.val (.bool t)) A B=vif t A B:=Ayz rfl
theorem BcA:vwp P (.ops l kp) Q e H=AQa P l (fun e H=>Azj (forget kp e) fun e=>Q .nor e H) e H:=Ayz rfl
def A2p (zs:List Nat) (e:Env) (H:List Ob) (K:Env→List Ob→Prop) [Tg K]:Prop:=A7w zs K e H
@[congr] theorem Bcq {zs:List Nat} {e e':Env} {H H':List Ob} {K:Env→List Ob→Prop} (h1:e=e') (h2:H=H'):A2p zs e H K=A2p zs e' H' K:=by rw [h1,h2]
theorem Bcd {K:Env→List Ob→Prop}:A2p [] e H K=K e H:=Ayz rfl
theorem Baf {l r:List VO} {zs kp:List Nat}:vwp P (.opsZ l zs r kp) Q e H=AQa P l (fun e H=>A2p zs e H fun e H=>AQa P r (fun e H=>Azj (forget kp e) fun e=>Q .nor e H) e H) e H:=Ayz rfl
theorem A7G {n:Nat}:vwp P (.draw n l kp) Q e H=(vq P (l.take n) (fun e=>AQa P (l.drop n) (fun e H=>Azj (forget kp e) fun e=>Q .nor e H) e H) e H):=Ayz rfl
def Thn (P:Program) (b:AyD) (Q:VEx→Env→List Ob→Prop):VEx→Env→List Ob→Prop:=fun x e H=>match x with | .nor=>vwp P b Q e H | .exit i=>Q (.exit i) e H | .ret=>Q .ret e H | .pan u=>Q (.pan u) e H
theorem A6F:Thn P b Q .nor e H=vwp P b Q e H:=Ayz rfl
theorem A1M {i:Nat}:Thn P b Q (.exit i) e H=Q (.exit i) e H:=Ayz rfl
theorem A5L:Thn P b Q .ret e H=Q .ret e H:=Ayz rfl
theorem Ba9:vwp P (.seq a b) Q e H=vwp P a (Thn P b Q) e H:=Ayz rfl
def Blk (id:Nat) (Q:VEx→Env→List Ob→Prop):VEx→Env→List Ob→Prop:=fun x e H=>match x with | .nor=>Q .nor e H | .exit i=>if i=id then Q .nor e H else Q (.exit i) e H | .ret=>Q .ret e H | .pan u=>Q (.pan u) e H
theorem A51 {id:Nat}:Blk id Q .nor e H=Q .nor e H:=Ayz rfl
theorem A1Z {id:Nat}:Blk id Q (.exit id) e H=Q .nor e H:=by simp [Blk]
theorem AV5 {id i:Nat} (h:i≠id):Blk id Q (.exit i) e H=Q (.exit i) e H:=by simp [Blk,h]
theorem A6J {id:Nat}:Blk id Q .ret e H=Q .ret e H:=Ayz rfl
theorem A6f {id:Nat}:vwp P (.block id a) Q e H=vwp P a (Blk id Q) e H:=Ayz rfl
theorem A8h {c:Opd}:vwp P (.cond c a b) Q e H=A19 (c.ev e) (vwp P a Q e H) (vwp P b Q e H):=Ayz rfl
def Rnd (n0:Nat) (lv:List Nat) (Q:VEx→Env→List Ob→Prop) (I:Nat→Env→List Ob→Prop) (n:Nat):VEx→Env→List Ob→Prop:=fun x e H=>match x with
 | .nor=>∃ m g,m<n∧(n0≤g∧(H.length≤g∨(APe g (forget lv e)=true∧ALp g (H.take g)=true)))∧I m (forget lv e) (H.take g)
 | .exit i=>Q (.exit i) e H | .ret=>Q .ret e H | .pan u=>Q (.pan u) e H
section
variable {n0:Nat} {lv:List Nat} {I:Nat→Env→List Ob→Prop} {n:Nat}
theorem A3U {i:Nat}:Rnd n0 lv Q I n (.exit i) e H=Q (.exit i) e H:=Ayz rfl
theorem A6p:Rnd n0 lv Q I n .ret e H=Q .ret e H:=Ayz rfl
theorem AyW (m:Nat) (hm:m<n) (h:n0≤H.length) (hR:I m (forget lv e) H):Rnd n0 lv Q I n .nor e H:=by
 refine ⟨m,H.length,hm,⟨h,.inl (Nat.le_refl _)⟩,?_⟩
 rw [List.take_length]; exact hR
theorem A0f (m g:Nat) (hm:m<n) (h:n0≤g) (he:APe g (forget lv e)=true) (hH:ALp g (H.take g)=true) (hR:I m (forget lv e) (H.take g)):Rnd n0 lv Q I n .nor e H :=
 ⟨m,g,hm,⟨h,.inr ⟨he,hH⟩⟩,hR⟩
end
theorem ABj {lv:List Nat} {H0:List Ob} (I:Nat→Env→List Ob→Prop) (n:Nat) (h0:I n (forget lv e) H0)
  (hs:∀ n e H,I n e H→vwp P a (Rnd H0.length lv Q I n) e H):vwp P (.loop lv a) Q e H0:=by
 rw [A7B]
 exact ⟨I,n,h0,hs⟩
theorem A6z {f:Opd} {ps:List Nat} {g:FuncId} {first caps:List TV} (hf:f.ev e = .fn (.func g) first caps) (hg:APD P g=true) (ha:AO1 a=true) (hb:AO1 b=true)
  (h:∀ (N:Nat) (fn:FuncId) (ca cb:Code),AXu P N ps ca cb a b→AyJ P g (first++[.yl H.length 0]++caps) (H++[.lp .ready none fn N e ps ca cb]) (APE Q e H.length)):vwp P (.rfunc f ps a b) Q e H:=by
 rw [vwp,hf]; exact ⟨ha,hb,hg,h⟩
theorem o_g {d s:Nat} {o:VOp} {b:Bool} {r:List VO} {K:Env→List Ob→Prop}:AQa P (⟨some d,o,some (s,b)⟩::r) K e H=ARL e s fun e q=>Gd q b (vop P o e H (fun x H=>AQa P r K ((d,x)::e) H)) (AQa P r K ((d,.val undef)::e) H):=by
 rw [A9c]; refine congrArg (ARL e s) ?_; funext e q; cases q<;>rfl
def AYR (x:TV) (e:Env) (s:Nat) (Q:Env→Option Bool→Prop) [Tg Q]:Prop:=match x with
 | .val v=>Q e (isB v)
 | .any=>(∀ t,Q ((s,.val (.bool t))::e) (some t))∧∀ v,isB v=none→Q ((s,.val v)::e) none
 | _=>False
@[congr] theorem BcW {x x':TV} {s:Nat} {Q:Env→Option Bool→Prop} (h:x=x'):AYR x e s Q=AYR x' e s Q:=by rw [h]
theorem A9W {s:Nat} {Q:Env→Option Bool→Prop}:ARL e s Q=AYR (get e s) e s Q:=Ayz rfl
theorem A6q {b:Bool} {s:Nat} {Q:Env→Option Bool→Prop}:AYR (.val (.bool b)) e s Q=Q e (some b):=Ayz rfl
theorem A63 {s:Nat} {Q:Env→Option Bool→Prop}:AYR (.val undef) e s Q=Q e none:=Ayz rfl
theorem u_c {d:Nat} {f:FuncId} {args:List Opd} {r:List VO} {K:Env→Prop}:vq P (⟨some d,.s (.call f args),none⟩::r) K e H=Azj (evs e args) fun xs=>AAG (AK9 xs) (vex fun x=>VC P f xs H (fun y H'=>y=x∧H'=H)∧vq P r K ((d,x)::e) H):=by
 rw [BdY,AH0]; rfl
def Gq (x:TV) (b:Bool) (A B:Prop) [Tg A] [Tg B]:Prop:=match x with
 | .val v=>if isB v=some b then A else B
 | _=>False
@[congr] theorem Bef {x x':TV} {b:Bool} {A B:Prop} (h:x=x'):Gq x b A B=Gq x' b A B:=by rw [h]
theorem BdM {t:Bool} {A B:Prop}:Gq (.val (.bool t)) true A B=vif t A B:=by cases t<;>simp [Gq,vif,isB]
theorem Bd6 {b:Bool} {A B:Prop}:Gq (.val undef) b A B=B:=by simp [Gq,isB,undef]
theorem Bd3 {t:Bool} {A B:Prop}:Gq (.val (.bool t)) false A B=vif t B A:=by cases t<;>simp [Gq,vif,isB]
theorem u_g {d s:Nat} {o:VOp} {b:Bool} {r:List VO} {K:Env→Prop}:vq P (⟨some d,o,some (s,b)⟩::r) K e H=Gq (get e s) b (AR2 P o e H fun x=>vq P r K ((d,x)::e) H) (vq P r K ((d,.val undef)::e) H):=Ayz rfl
theorem Bd2 {f:FuncId} {args:List Opd} {k:TV→Prop}:AR2 P (.s (.call f args)) e H k=Azj (evs e args) fun xs=>AAG (AK9 xs) (vex fun x=>VC P f xs H (fun y H'=>y=x∧H'=H)∧k x):=by
 rw [A6Q,AH0]; rfl
def Bai (P:Program) (x:TV) (s k:Nat) (c:AyD) (Q:VEx→Env→List Ob→Prop) (e:Env) (H:List Ob):Prop:=match x with
  | .val (.slice none 0 0)=>vwp P c Q ((s,.os k H.length 0 [] 0 0 0)::e) (H++[.obj 0 (.arr 0 k [])])
  | _=>vwp P c Q e H
@[congr] theorem BdG {x x':TV} {s k:Nat} (h:x=x'):Bai P x s k a Q e H=Bai P x' s k a Q e H:=by rw [h]
theorem Ba4 {s k:Nat}:vwp P (.own s k a) Q e H=Bai P (get e s) s k a Q e H:=Ayz rfl
theorem A1U {s k:Nat}:Bai P (.val (.slice none 0 0)) s k a Q e H=vwp P a Q ((s,.os k H.length 0 [] 0 0 0)::e) (H++[.obj 0 (.arr 0 k [])]):=Ayz rfl
theorem A7f {s k k' id ver off n cp:Nat} {p:List (Nat×Nat)}:Bai P (.os k' id ver p off n cp) s k a Q e H=vwp P a Q e H:=Ayz rfl
end
theorem BcV {t:Nat} {K:TV→Prop}:res [.tmp t] e H K=Azj (get e t) K:=Ayz rfl
theorem A7O {t:Nat} {r:List VR} {K:List TV→Prop}:AVA (.tmp t::r) e H K=Azj (get e t) fun x=>AVA r e H fun xs=>K (x::xs):=Ayz rfl
def Bdk (K:TV→Prop) (xs:List TV):Prop:=match xs with
 | [x]=>K x
 | xs=>(∀ x∈xs,AzF x=false)∧K (.tup xs)
theorem A3L {x y:TV} {l:List TV} {K:TV→Prop}:Bdk K (x::y::l)=AAG (AK9 (x::y::l)) (Azj (TV.tup (x::y::l)) K):=Ayz rfl
theorem A8k {r s:VR} {l:List VR} {K:TV→Prop}:res (r::s::l) e H K=AVA (r::s::l) e H (Bdk K):=Ayz rfl
theorem A8x {a sz:Nat} {ag:Bool} {K:TV→Prop}:res [.cell a ag sz] e H K=pop (.load ag sz (.t a)) e H K:=Ayz rfl
theorem Bb8 {K:TV→Prop}:res [] e H K=K (.tup []):=by rw [A1b]; simp
end
def VCP (P:Program) (f:FuncId) (xs:List TV) (H:List Ob) (K:TV→List Ob→Prop) (KP:Value→List Ob→Prop) [Tg K] [Tg KP]:Prop:=AMa P f xs H K KP
@[congr] theorem A79 {P:Program} {f:FuncId} {xs xs':List TV} {H H':List Ob} {K:TV→List Ob→Prop} {KP:Value→List Ob→Prop} (he:xs=xs') (hH:H=H'):VCP P f xs H K KP=VCP P f xs' H' K KP:=by rw [he,hH]
def A7z (x:TV) (K:Value→Prop) [Tg K]:Prop:=match x with
 | .val (.iface t v)=>K (.iface t v)
 | .ifc t (.val v)=>K (.iface t v)
 | _=>False
@[congr] theorem Bdu {x x':TV} {K:Value→Prop} (h:x=x'):A7z x K=A7z x' K:=by rw [h]
theorem A2l {t:TypeId} {v:Value} {K:Value→Prop}:A7z (.ifc t (.val v)) K=K (.iface t v):=Ayz rfl
theorem A7e {t:TypeId} {v:Value} {K:Value→Prop}:A7z (.val (.iface t v)) K=K (.iface t v):=Ayz rfl
section
variable {P:Program} {e:Env} {H:List Ob} {r:List VO} {K:Env→List Ob→Prop} {PP:Value→List Ob→Prop} {Q:VEx→Env→List Ob→Prop}
@[congr] theorem A66 {l:List VO} {e':Env} {H':List Ob} (he:e=e') (hH:H=H'):AK4 P PP l K e H=AK4 P PP l K e' H':=by rw [he,hH]
@[congr] theorem A6C {o:VOp} {e':Env} {H':List Ob} {KK:TV→List Ob→Prop} (he:e=e') (hH:H=H'):pvop P PP o e H KK=pvop P PP o e' H' KK:=by rw [he,hH]
theorem A8v {l:List VO} {kp:List Nat}:vwp P (.pops l kp) Q e H=AK4 P (fun u H=>Q (.pan u) (AVV l e) H) l (fun e H=>Azj (forget kp e) fun e=>Q .nor e H) e H:=Ayz rfl
theorem A6T {n:Nat} {l:List VO} {kp:List Nat}:vwp P (.pdraw n l kp) Q e H=(vq P (l.take n) (fun e=>AK4 P (fun u H=>Q (.pan u) [] H) (l.drop n) (fun e H=>Azj (forget kp e) fun e=>Q .nor e H) e H) e H):=Ayz rfl
theorem A9w:AK4 P PP [] K e H=K e H:=Ayz rfl
theorem Bd7 {d:Nat} {o:VOp}:AK4 P PP (⟨some d,o,none⟩::r) K e H=pvop P PP o e H (fun x H=>AK4 P PP r K ((d,x)::e) H):=Ayz rfl
theorem Bbr {o:VOp}:AK4 P PP (⟨none,o,none⟩::r) K e H=pvop P PP o e H (fun x H=>AK4 P PP r K e H):=Ayz rfl
theorem BdW {d s:Nat} {o:VOp} {b:Bool}:AK4 P PP (⟨some d,o,some (s,b)⟩::r) K e H=ARL e s fun e q=>Gd q b (pvop P PP o e H (fun x H=>AK4 P PP r K ((d,x)::e) H)) (AK4 P PP r K ((d,.val undef)::e) H):=by
 show AGy (pvop P PP) _ K e H=_
 rw [AGy]
 refine congrArg (ARL e s) ?_; funext e q; cases q<;>rfl
theorem A8a {o:POp} {KK:TV→List Ob→Prop}:pvop P PP (.p o) e H KK=pop o e H fun x=>KK x H:=Ayz rfl
theorem A1c {f:FuncId} {args:List Opd} {KK:TV→List Ob→Prop}:pvop P PP (.s (.call f args)) e H KK=Azj (evs e args) fun xs=>AAG (AK9 xs) (VCP P f xs H KK PP):=by
 show ((∀ x∈args,AzF (x.ev e)=false)∧_)=_
 rw [AH0]; rfl
theorem A4a {x:Opd} {KK:TV→List Ob→Prop}:pvop P PP (.s (.pan x)) e H KK=A7z (x.ev e) (fun u=>PP u H):=by
 show (match x.ev e with | .val (.iface t v)=>PP (.iface t v) H | .ifc t (.val v)=>PP (.iface t v) H | _=>False)=_
 unfold A7z
 split<;>simp_all
theorem AXH {z:TV} {KK:TV→List Ob→Prop}:pvop P PP (.s (.alloc z)) e H KK=sop P (.alloc z) e H KK:=Ayz rfl
theorem A2X {x:Opd} {KK:TV→List Ob→Prop}:pvop P PP (.s (.box x)) e H KK=sop P (.box x) e H KK:=Ayz rfl
theorem AVZ {k n:Nat} {z:TV} {ps:List (Nat×Opd)} {KK:TV→List Ob→Prop}:pvop P PP (.s (.bslice k n z ps)) e H KK=sop P (.bslice k n z ps) e H KK:=Ayz rfl
theorem AXI {sz:Nat} {x v:Opd} {KK:TV→List Ob→Prop}:pvop P PP (.s (.store sz x v)) e H KK=sop P (.store sz x v) e H KK:=Ayz rfl
theorem A3d {k bytes:Nat} {z:TV} {l c:Opd} {KK:TV→List Ob→Prop}:pvop P PP (.s (.mks k bytes z l c)) e H KK=sop P (.mks k bytes z l c) e H KK:=Ayz rfl
theorem A16 {k bytes:Nat} {et:TypeId} {x y:Opd} {KK:TV→List Ob→Prop}:pvop P PP (.s (.app k bytes et x y)) e H KK=sop P (.app k bytes et x y) e H KK:=Ayz rfl
theorem A0L {et:TypeId} {x y:Opd} {KK:TV→List Ob→Prop}:pvop P PP (.s (.appS et x y)) e H KK=sop P (.appS et x y) e H KK:=Ayz rfl
theorem AZC {k n:Nat} {z:TV} {x y:Opd} {KK:TV→List Ob→Prop}:pvop P PP (.s (.appZ k n z x y)) e H KK=sop P (.appZ k n z x y) e H KK:=Ayz rfl
theorem A4r {x:Opd} {n:Bool} {KK:TV→List Ob→Prop}:pvop P PP (.s (.eqS x n)) e H KK=sop P (.eqS x n) e H KK:=Ayz rfl
theorem A1C {x:Opd} {KK:TV→List Ob→Prop}:pvop P PP (.s (.s2b x)) e H KK=sop P (.s2b x) e H KK:=Ayz rfl
theorem AY8 {k:Nat} {x y:Opd} {KK:TV→List Ob→Prop}:pvop P PP (.s (.copy k x y)) e H KK=sop P (.copy k x y) e H KK:=Ayz rfl
theorem AYj {x y:Opd} {KK:TV→List Ob→Prop}:pvop P PP (.s (.copyS x y)) e H KK=sop P (.copyS x y) e H KK:=Ayz rfl
theorem AXU {x:Opd} {args:List Opd} {KK:TV→List Ob→Prop}:pvop P PP (.s (.callv x args)) e H KK=sop P (.callv x args) e H KK:=Ayz rfl
theorem A3O {x:Opd} {nm:String} {args:List Opd} {KK:TV→List Ob→Prop}:pvop P PP (.s (.inv x nm args)) e H KK=sop P (.inv x nm args) e H KK:=Ayz rfl
theorem A3c {kk:MK} {h:Option Opd} {KK:TV→List Ob→Prop}:pvop P PP (.s (.mkm kk h)) e H KK=sop P (.mkm kk h) e H KK:=Ayz rfl
theorem AYG {kk:MK} {m k x:Opd} {KK:TV→List Ob→Prop}:pvop P PP (.s (.mupd kk m k x)) e H KK=sop P (.mupd kk m k x) e H KK:=Ayz rfl
theorem AZD {kk:MK} {z:TV} {m k:Opd} {KK:TV→List Ob→Prop}:pvop P PP (.s (.ment kk z m k)) e H KK=sop P (.ment kk z m k) e H KK:=Ayz rfl
theorem A0O {m st x:Opd} {KK:TV→List Ob→Prop}:pvop P PP (.s (.mest m st x)) e H KK=sop P (.mest m st x) e H KK:=Ayz rfl
theorem AWy {z:TV} {t:TypeId} {KK:TV→List Ob→Prop}:pvop P PP (.s (.allocT z t)) e H KK=sop P (.allocT z t) e H KK:=Ayz rfl
theorem AZq {x:Opd} {t:TypeId} {KK:TV→List Ob→Prop}:pvop P PP (.s (.boxT x t)) e H KK=sop P (.boxT x t) e H KK:=Ayz rfl
theorem AYX {x:Opd} {KK:TV→List Ob→Prop}:pvop P PP (.s (.rngS x)) e H KK=sop P (.rngS x) e H KK:=Ayz rfl
theorem AY2 {x:Opd} {KK:TV→List Ob→Prop}:pvop P PP (.s (.nxtS x)) e H KK=sop P (.nxtS x) e H KK:=Ayz rfl
theorem A0M {x:Opd} {KK:TV→List Ob→Prop}:pvop P PP (.s (.rngM x)) e H KK=sop P (.rngM x) e H KK:=Ayz rfl
theorem AYV {x:Opd} {KK:TV→List Ob→Prop}:pvop P PP (.s (.nxtM x)) e H KK=sop P (.nxtM x) e H KK:=Ayz rfl
theorem AYT {kk:MK} {m k:Opd} {KK:TV→List Ob→Prop}:pvop P PP (.s (.delM kk m k)) e H KK=sop P (.delM kk m k) e H KK:=Ayz rfl
theorem A35 {x:Opd} {KK:TV→List Ob→Prop}:pvop P PP (.s (.cvS x)) e H KK=sop P (.cvS x) e H KK:=Ayz rfl
theorem A0E {k:Nat} {z:TV} {x:Opd} {KK:TV→List Ob→Prop}:pvop P PP (.s (.clrS k z x)) e H KK=sop P (.clrS k z x) e H KK:=Ayz rfl
theorem A0U {f:FuncId} {x:Opd} {KK:TV→List Ob→Prop}:pvop P PP (.s (.bstr f x)) e H KK=sop P (.bstr f x) e H KK:=Ayz rfl
theorem A6K {b:AyD} {u:Value}:Thn P b Q (.pan u) e H=Q (.pan u) e H:=Ayz rfl
theorem A6e {id:Nat} {u:Value}:Blk id Q (.pan u) e H=Q (.pan u) e H:=Ayz rfl
theorem A5S {n0:Nat} {lv:List Nat} {I:Nat→Env→List Ob→Prop} {n:Nat} {u:Value}:Rnd n0 lv Q I n (.pan u) e H=Q (.pan u) e H:=Ayz rfl
theorem AXG {vr:List VR} {R:TV→List Ob→Prop} {RP:Value→List Ob→Prop}:AZU vr R RP .ret e H=res vr e H fun x=>R x H:=Ayz rfl
theorem AXR {vr:List VR} {R:TV→List Ob→Prop} {RP:Value→List Ob→Prop}:AZU vr R RP .nor e H=res vr e H fun x=>R x H:=Ayz rfl
theorem AYr {vr:List VR} {R:TV→List Ob→Prop} {RP:Value→List Ob→Prop} {u:Value}:AZU vr R RP (.pan u) e H=RP u H:=Ayz rfl
def AVi (P:Program) (PP:Value→List Ob→Prop) (Ss:SsT) (l:List VO) (K:Env→List Ob→Prop) (e:Env) (H:List Ob):Prop:=AGy (pvopS P PP Ss) l K e H
@[congr] theorem A5x {Ss:SsT} {l:List VO} {e':Env} {H':List Ob} (he:e=e') (hH:H=H'):AVi P PP Ss l K e H=AVi P PP Ss l K e' H':=by rw [he,hH]
@[congr] theorem A4Y {Ss:SsT} {o:VOp} {e':Env} {H':List Ob} {KK:TV→List Ob→Prop} (he:e=e') (hH:H=H'):pvopS P PP Ss o e H KK=pvopS P PP Ss o e' H' KK:=by rw [he,hH]
theorem A67 {n:Nat} {l:List VO} {kp:List Nat}:vwp P (.sdraw n l kp) Q e H=(vq P (l.take (nOf n)) (fun e=>AVi P (fun u H=>Q (.pan u) [] H) (ssN n l) (l.drop (nOf n)) (fun e H=>Azj (forget kp e) fun e=>Q .nor e H) e H) e H):=Ayz rfl
section
variable {Ss:SsT}
theorem A8U:AVi P PP Ss [] K e H=K e H:=Ayz rfl
theorem BdR {d:Nat} {o:VOp}:AVi P PP Ss (⟨some d,o,none⟩::r) K e H=pvopS P PP Ss o e H (fun x H=>AVi P PP Ss r K ((d,x)::e) H):=Ayz rfl
theorem Bcs {o:VOp}:AVi P PP Ss (⟨none,o,none⟩::r) K e H=pvopS P PP Ss o e H (fun x H=>AVi P PP Ss r K e H):=Ayz rfl
theorem A7D {o:POp} {KK:TV→List Ob→Prop}:pvopS P PP Ss (.p o) e H KK=pop o e H fun x=>KK x H:=Ayz rfl
theorem AZa {f:FuncId} {args:List Opd} {KK:TV→List Ob→Prop}:pvopS P PP Ss (.s (.call f args)) e H KK=Azj (evs e args) fun xs=>AAG (AK9 xs) (VCP P f xs H (fun x H'=>KK x H'∧ALw Ss.l e H H') PP):=by
 show ((∀ x∈args,AzF (x.ev e)=false)∧_)=_
 rw [AH0]; rfl
theorem AXy {sz:Nat} {x v:Opd} {KK:TV→List Ob→Prop}:pvopS P PP Ss (.s (.store sz x v)) e H KK=sop P (.store sz x v) e H fun x H'=>KK x H'∧ALw Ss.st e H H':=Ayz rfl
theorem AYu {z:TV} {KK:TV→List Ob→Prop}:pvopS P PP Ss (.s (.alloc z)) e H KK=sop P (.alloc z) e H KK:=Ayz rfl
theorem A1w {k bytes:Nat} {z:TV} {l c:Opd} {KK:TV→List Ob→Prop}:pvopS P PP Ss (.s (.mks k bytes z l c)) e H KK=sop P (.mks k bytes z l c) e H KK:=Ayz rfl
theorem A4e {k bytes:Nat} {et:TypeId} {x y:Opd} {KK:TV→List Ob→Prop}:pvopS P PP Ss (.s (.app k bytes et x y)) e H KK=vif Ss.ap (sop P (.app k bytes et x y) e H fun x H'=>KK x H'∧ALw Ss.l e H H') (sop P (.app k bytes et x y) e H KK):=by
 show sop P (.app k bytes et x y) e H (fun x H'=>KK x H'∧(Ss.ap=true→ALw Ss.l e H H'))=_
 unfold vif
 split
 ·rename_i h
  congr 1; funext x H'; simp [h]
 ·rename_i h
  congr 1; funext x H'; simp [h]
theorem AZB {et:TypeId} {x y:Opd} {KK:TV→List Ob→Prop}:pvopS P PP Ss (.s (.appS et x y)) e H KK=sop P (.appS et x y) e H KK:=Ayz rfl
theorem A8B {n:Nat}:nOf n=n % 10000:=Ayz rfl
theorem A7K {n:Nat} {l:List VO}:(ssN n l).ap=decide (10000≤n):=Ayz rfl
theorem A2D {x:Opd} {KK:TV→List Ob→Prop}:pvopS P PP Ss (.s (.s2b x)) e H KK=sop P (.s2b x) e H KK:=Ayz rfl
theorem AVI {k n:Nat} {z:TV} {ps:List (Nat×Opd)} {KK:TV→List Ob→Prop}:pvopS P PP Ss (.s (.bslice k n z ps)) e H KK=sop P (.bslice k n z ps) e H KK:=Ayz rfl
end
theorem AS7 {e:Env} {H H':List Ob}:ALw [] e H H':=ALw.nil
theorem A0p {s:Nat} {Ss:List Nat} {e:Env} {H H':List Ob} {id ver:Nat} {p:List (Nat×Nat)} (h:get e s = .op id ver p) (h1:H'[id]?=H[id]?) (h2:ALw Ss e H H'):ALw (s::Ss) e H H':=fun t ht id' hg=>by
 rcases List.mem_cons.1 ht with rfl | ht
 ·rw [h] at hg; cases hg; exact h1
 ·exact h2 t ht id' hg
theorem AyJ.callsP {f:FuncId} {args:List TV} {R:TV→List Ob→Prop} {RP:Value→List Ob→Prop} (h:AyJ P f args H R):VCP P f args H R RP:=h.mayP
end
def AyG:=(aI_ (aI_ (aI_ (aI_ (aI_ (aI_ (aI_ (aI_ @Bcn @A8G) (aI_ @Bb3 @BdO)) (aI_ (aI_ @A8M @Bcy) (aI_ @BcZ @A8o))) (aI_ (aI_ (aI_ @A4A @A5D) (aI_ @A9l @A6u)) (aI_ (aI_ @Bcp @A7J) (aI_ @BaY @A9G)))) (aI_ (aI_ (aI_ (aI_ @A8V @BbY) (aI_ @Bcw @Bba)) (aI_ (aI_ @A52 @Bbz) (aI_ @A8s @Bbp))) (aI_ (aI_ (aI_ @Bct @BbI) (aI_ @BcI @Bbj)) (aI_ (aI_ @A5e @A3T) (aI_ @Bce @A6U))))) (aI_ (aI_ (aI_ (aI_ (aI_ @A4c @BcL) (aI_ @A8H @A75)) (aI_ (aI_ @A94 @A8b) (aI_ @A9R @A9h))) (aI_ (aI_ (aI_ @A9p @A98) (aI_ @BcY @A1y)) (aI_ (aI_ @A44 @Bbw) (aI_ @BbQ @A8f)))) (aI_ (aI_ (aI_ (aI_ @A9q @A6D) (aI_ @Bbg @A9Q)) (aI_ (aI_ @Ba8 @A89) (aI_ @A8j @A9y))) (aI_ (aI_ (aI_ @Bau @A9n) (aI_ @A9d @A5f)) (aI_ (aI_ @BbJ @BcA) (aI_ @Baf @Bcd)))))) (aI_ (aI_ (aI_ (aI_ (aI_ (aI_ @A7G @Bad) (aI_ @Ba9 @A6f)) (aI_ (aI_ @A8h @A8z) (aI_ @Bbx @A64))) (aI_ (aI_ (aI_ @Ba4 @A9H) (aI_ @A97 @A2J)) (aI_ (aI_ @Bak @A9C) (aI_ @A57 @o_g)))) (aI_ (aI_ (aI_ (aI_ @A9W @BcP) (aI_ @BbM @A7T)) (aI_ (aI_ @Bd4 @u_c) (aI_ @u_g @A5W))) (aI_ (aI_ (aI_ @Bd2 @AUb) (aI_ @AUO @BcV)) (aI_ (aI_ @A8x @Bb8) (aI_ @A8k @AXd))))) (aI_ (aI_ (aI_ (aI_ (aI_ @A7O @AUQ) (aI_ @A3L @A6F)) (aI_ (aI_ @A1M @A5L) (aI_ @A51 @A1Z))) (aI_ (aI_ (aI_ @AV5 @A6J) (aI_ @A3U @A6p)) (aI_ (aI_ @A8v @A6T) (aI_ @A67 @A8U)))) (aI_ (aI_ (aI_ (aI_ @BdR @Bcs) (aI_ @A7D @AZa)) (aI_ (aI_ @AXy @AYu) (aI_ @A1w @A4e))) (aI_ (aI_ (aI_ @AZB @A2D) (aI_ @AVI @A9w)) (aI_ (aI_ @Bd7 @Bbr) (aI_ @BdW @A8a))))))) (aI_ (aI_ (aI_ (aI_ (aI_ (aI_ @A1c @A4a) (aI_ @AXH @A2X)) (aI_ (aI_ @AVZ @AXI) (aI_ @A3d @A16))) (aI_ (aI_ (aI_ @A0L @A1C) (aI_ @AZC @A4r)) (aI_ (aI_ @AY8 @AYj) (aI_ @AXU @A3O)))) (aI_ (aI_ (aI_ (aI_ @A3c @AYG) (aI_ @AZD @A0O)) (aI_ (aI_ @AWy @AZq) (aI_ @AYX @AY2))) (aI_ (aI_ (aI_ @A0M @AYV) (aI_ @AYT @A0E)) (aI_ (aI_ @A35 @A0U) (aI_ @A6K @A6e))))) (aI_ (aI_ @A5S @AXG) (aI_ @AXR @AYr))))
def AyB:=(aI_ (aI_ (aI_ (aI_ (aI_ (aI_ (aI_ (aI_ @A8B @A7K) (aI_ @A7e @A2l)) (aI_ (aI_ @A2R @A0Y) (aI_ @A5a @A6t))) (aI_ (aI_ (aI_ @A92 @A71) (aI_ @A7W @AYH)) (aI_ (aI_ @A1G @A43) (aI_ @A2Y @A8W)))) (aI_ (aI_ (aI_ (aI_ @AYZ @A7d) (aI_ @A2k @A8i)) (aI_ (aI_ @A5m @A9t) (aI_ @A8Q @A1l))) (aI_ (aI_ (aI_ @A6g @A1A) (aI_ @A5t @A3W)) (aI_ (aI_ @A6m @A9g) (aI_ @A3h @A7c))))) (aI_ (aI_ (aI_ (aI_ (aI_ @A40 @A2L) (aI_ @A2M @AXC)) (aI_ (aI_ @AXK @A0V) (aI_ @A3D @A4n))) (aI_ (aI_ (aI_ @A08 @AZl) (aI_ @A5o @A25)) (aI_ (aI_ @A56 @A4m) (aI_ @A1P @A2a)))) (aI_ (aI_ (aI_ (aI_ @A07 @A6S) (aI_ @A5d @A50)) (aI_ (aI_ @A5b @A5I) (aI_ @A6j @A55))) (aI_ (aI_ (aI_ @A3Q @A6X) (aI_ @A2m @A7a)) (aI_ (aI_ @A1f @A5T) (aI_ @A3a @A2c)))))) (aI_ (aI_ (aI_ (aI_ (aI_ (aI_ @A3s @AZv) (aI_ @AXx @A58)) (aI_ (aI_ @A4Z @A90) (aI_ @A77 @A8Z))) (aI_ (aI_ (aI_ @A9e @A3F) (aI_ @A4h @A1t)) (aI_ (aI_ @A34 @A72) (aI_ @A88 @A9M)))) (aI_ (aI_ (aI_ (aI_ @AZh @AXY) (aI_ @A04 @A2Q)) (aI_ (aI_ @A2u @AZn) (aI_ @A1D @A3r))) (aI_ (aI_ (aI_ @A3R @A42) (aI_ @A6M @A3B)) (aI_ (aI_ @A06 @A3N) (aI_ @A5y @A1J))))) (aI_ (aI_ (aI_ (aI_ (aI_ @A5G @A6y) (aI_ @A6a @A1B)) (aI_ (aI_ @A2I @A1I) (aI_ @A3n @A13))) (aI_ (aI_ (aI_ @A4i @AZY) (aI_ @A3C @A61)) (aI_ (aI_ @Bas @A0z) (aI_ @A99 @A8P)))) (aI_ (aI_ (aI_ (aI_ @A5F @A6B) (aI_ @A5O @A31)) (aI_ (aI_ @A2d @A3P) (aI_ @Option.getD_none.{0} @Option.getD_some.{0}))) (aI_ (aI_ (aI_ @A0S @A5v) (aI_ @A3u @A2s)) (aI_ (aI_ @A3G @AWI) (aI_ @A1a @A2N))))))) (aI_ (aI_ (aI_ (aI_ (aI_ (aI_ @A4v @A48) (aI_ @A4t @A6A)) (aI_ (aI_ @A2W @AZ9) (aI_ @A6G @A27))) (aI_ (aI_ (aI_ @A2e @A3b) (aI_ @A3k @A4f)) (aI_ (aI_ @A4x @A4j) (aI_ @A53 @A0h)))) (aI_ (aI_ (aI_ (aI_ @A5P @Bae) (aI_ @Bag @AXL)) (aI_ (aI_ @AYY @Bc1) (aI_ @BcN @BdZ))) (aI_ (aI_ (aI_ @A4d @A6q) (aI_ @A63 @BdM)) (aI_ (aI_ @Bd3 @Bd6) (aI_ @A1U @A7f))))) (aI_ (aI_ (aI_ @A24 @A10) (aI_ @A6N @A4y)) (aI_ @AZp @AX0))))
def AyE:=(aI_ (aI_ (aI_ (aI_ (aI_ (aI_ (aI_ (aI_ @A2w @A2n) (aI_ @A6b @A45)) (aI_ (aI_ @A6o @A5l) (aI_ @A2z @A20))) (aI_ (aI_ (aI_ @A2O @A3g) (aI_ @A5u @A5M)) (aI_ (aI_ @A5g @A0a) (aI_ @AZJ @A2o)))) (aI_ (aI_ (aI_ (aI_ @A3S @A22) (aI_ @A2A @A0C)) (aI_ (aI_ @A1d @AZ2) (aI_ @A0P @A2q))) (aI_ (aI_ (aI_ @A11 @A4b) (aI_ @A2H @A7n)) (aI_ (aI_ @A6i @A5K) (aI_ @A6w @A3y))))) (aI_ (aI_ (aI_ (aI_ (aI_ @A1T @A4z) (aI_ @A2y @A6c)) (aI_ (aI_ @A7g @A5i) (aI_ @A0y @AZT))) (aI_ (aI_ (aI_ @A4p @A15) (aI_ @A38 @A1V)) (aI_ (aI_ @A0o @A3X) (aI_ @A1H @A0B)))) (aI_ (aI_ (aI_ (aI_ @AZG @A2P) (aI_ @A3j @A1Y)) (aI_ (aI_ @A3Y @A0i) (aI_ @AZA @A3q))) (aI_ (aI_ (aI_ @A33 @A3t) (aI_ @A1k @A1i)) (aI_ (aI_ @AXZ @AWv) (aI_ @A0A @AY7)))))) (aI_ (aI_ (aI_ (aI_ (aI_ (aI_ @AYQ @AZb) (aI_ @AYc @A3E)) (aI_ (aI_ @A1m @AWh) (aI_ @AUi @AYy))) (aI_ (aI_ (aI_ @A2K @AYP) (aI_ @AVw @ATa)) (aI_ (aI_ @Bd9 @Bea) (aI_ @Bd1 @ASX)))) (aI_ (aI_ (aI_ (aI_ @AQh @A2U) (aI_ @AKG @AN1)) (aI_ (aI_ @AXc @AXO) (aI_ @AVF @A01))) (aI_ (aI_ (aI_ @AYd @A32) (aI_ @AYe @AVT)) (aI_ (aI_ @AYz @AWd) (aI_ @A0q @AX1))))) (aI_ (aI_ (aI_ (aI_ (aI_ @AV2 @AUN) (aI_ @AS8 @ARC)) (aI_ (aI_ @A6O @A4q) (aI_ @A1b @A17))) (aI_ (aI_ (aI_ @AXd @A2G) (aI_ @AUQ @AUb)) (aI_ (aI_ @AUO @A1N) (aI_ @A3A @A5U)))) (aI_ (aI_ (aI_ (aI_ @A5H @A2V) (aI_ @A5V @A6x)) (aI_ (aI_ @A2b @A3x) (aI_ @A30 @A0v))) (aI_ (aI_ (aI_ @AYn @A5k) (aI_ @A6L @A9Z)) (aI_ (aI_ @A6k @A5Z) (aI_ @A7i @A6v))))))) (aI_ (aI_ (aI_ @A37 @AZr) (aI_ @A1h @A2v)) (aI_ (aI_ @BcE @A9O) @A9o)))
theorem AXD {α β:Type} {f:α→β} {l:List α} {i:Nat}:(l.map f).drop i=(l.drop i).map f:=List.map_drop.symm
theorem AXw {α β:Type} {f:α→β} {l:List α} {i:Nat}:(l.map f).take i=(l.take i).map f:=List.map_take.symm
theorem A8J {b:UInt8}:IntKind.i64.wrap (b.toNat:Int)=b.toNat:=ACr (by omega) (by have:=b.toNat_lt; omega)
theorem A9F {n:Nat}:IntKind.u8.wrap (n:Int)=((UInt8.ofNat n).toNat:Int):=by
 rw [IntKind.wrap_u8,UInt8.toNat_ofNat']; omega
theorem A76 {α:Type} {n i:Nat} {a:α} (h:i<n):(List.replicate n a)[i]?=some a:=by simp [h]
section
variable {a b c:Nat}
theorem A21:(a:Int)*(b:Int)=((a*b:Nat):Int):=Ayz rfl
theorem A28 (h:b≤a):(a:Int) - (b:Int)=((a - b:Nat):Int):=by omega
theorem A3l:(a:Int) / (b:Int)=((a / b:Nat):Int):=Ayz rfl
theorem A1Q:(a:Int) % (b:Int)=((a % b:Nat):Int):=Ayz rfl
variable {t:TypeId} {k2:IntKind}
theorem A85 (h1:b≤63) (h2:a*2 ^ b≤9223372036854775807):AAL t .shl (.int .i64 (a:Int)) (.int k2 (b:Int))=some (.int .i64 ((a*2 ^ b:Nat):Int)):=by
 have e:(a:Int)*2 ^ ((b:Int).toNat)=((a*2 ^ b:Nat):Int):=by rw [Int.toNat_natCast,Int.natCast_mul,Int.natCast_pow]; rfl
 rw [BbA (by omega) (by omega) (by rw [e]; omega) (by rw [e]; omega),e]
theorem A8n (h1:b≤63):AAL t .shr (.int .i64 (a:Int)) (.int k2 (b:Int))=some (.int .i64 ((a / 2 ^ b:Nat):Int)):=by
 have e:(a:Int) / 2 ^ ((b:Int).toNat)=((a / 2 ^ b:Nat):Int):=by rw [Int.toNat_natCast,Int.natCast_ediv,Int.natCast_pow]; rfl
 rw [BbT (by omega) (by omega) (by omega),e]
variable {k:IntKind}
theorem A7N (h:b≠0):AAL t .rem (.int k (a:Int)) (.int k (b:Int))=some (.int k ((a % b:Nat):Int)):=by rw [BbB (by omega) (by omega),Int.natCast_emod]
theorem A4R (h:b≠0) (h2:a≤9223372036854775807):AAL t .quo (.int .i64 (a:Int)) (.int .i64 (b:Int))=some (.int .i64 ((a / b:Nat):Int)):=by rw [BbK (by omega) (by omega) (by omega),Int.natCast_ediv]
end
theorem AyJ.toPureV {P:Program} {f:FuncId} {args:List TV} {R:TV→Prop} (h:AyJ P f args [] fun x H'=>Azm (frz H' x) R):Azg P f args R :=
 AyJ.toPure (h.mono fun x H' hx=>by
  cases hf:frz H' x with
  | none=>rw [hf] at hx; exact hx
  | some y=>rw [hf] at hx; exact hx)
abbrev mv_ (d s:Nat):VO:=⟨some d,.p (.mov (.t s)),none⟩
abbrev po_ (d:Nat) (p:POp):VO:=⟨some d,.p p,none⟩
abbrev so_ (d:Nat) (q:SOp):VO:=⟨some d,.s q,none⟩
abbrev ci_ (n:Nat):Opd := .c (.int .i64 (n:Int))
theorem AzJ {P:Program} {f:FuncId} {fn:Func} {vc:AyD} {vr:List VR} (n:Nat) (hf:P.funcs[f]?=some fn) (ht:fn.body.bind (trC P fn.ntmps)=some (er vc)) (hr:trR P fn.results.toList=some vr) (hn:fn.ntmps=n) :
  ∀ ⦃args:List TV⦄ ⦃H:List Ob⦄ ⦃R:TV→List Ob→Prop⦄,args.length≤n→vwp P vc (A0G vr R) (ASM 0 args) H→AyJ P f args H R:=fun _ _ _ h1 h2=>AZO hf ht hr (hn▸h1) h2
theorem AyA {c c':AyD} (h:c=c'):∀ (P:Program) (Q:VEx→Env→List Ob→Prop) (e:Env) (H:List Ob),vwp P c Q e H=vwp P c' Q e H:=fun _ _ _ _=>by rw [h]
theorem AyC {α:Type}:(∀ {l:List α} {i:Nat} {a:α},(l.set i a).length=l.length)∧(∀ {l m:List α},(l++m).length=l.length+m.length)∧(∀ {a:α} {l:List α},(a::l).length=l.length+1)∧([]:List α).length=0:=⟨List.length_set,List.length_append,List.length_cons,List.length_nil⟩
theorem AyJ.toFreshV {P:Program} {f:FuncId} {args:List TV} {R:TV→Prop} (h:AyJ P f args [] fun x H'=>Azm (frs H' x) R):ADN P f args R :=
 AyJ.toFresh (h.mono fun x H' hx=>by
  cases hf:frs H' x with
  | none=>rw [hf] at hx; exact hx
  | some y=>rw [hf] at hx; exact hx)
theorem A2C {α:Type} {l:List α} {n:Nat} (h:l.length≤n):l.take n=l:=List.take_of_length_le h
theorem Bch {α:Type} {c:Prop} [Decidable c] {a b:α} (h:c):(if c then a else b)=a:=if_pos h
theorem Bbd {α:Type} {c:Prop} [Decidable c] {a b:α} (h:¬ c):(if c then a else b)=b:=if_neg h
theorem AVR {α:Type} {l:List α} {n:Nat} (h:n≤l.length):(l.take n).length=n:=by simp [h]
theorem ATS {α:Type} {l:List α} {i:Nat}:(l.drop i).take (l.length - i)=l.drop i:=List.take_of_length_le (by simp)
theorem A3i {a b:Nat}:a+b - a=b:=Nat.add_sub_cancel_left a b
theorem A2B {α:Type} {l m:List α}:(l++m).take l.length=l:=List.take_left
theorem A4g {α:Type} {l m:List α}:(l++m).drop l.length=m:=List.drop_left
theorem A1S {a b:Nat}:a+b - b=a:=Nat.add_sub_cancel a b
def AyF:=(aI_ (aI_ (aI_ (aI_ (aI_ (aI_ (aI_ @A2B @A4g) (aI_ @A3i @ATS)) (aI_ (aI_ @AVR @List.length_drop.{0}) (aI_ @Bch @Bbd))) (aI_ (aI_ (aI_ @A2C @A1S) (aI_ @Nat.zero_le @A7C)) (aI_ (aI_ @List.nil_append.{0} @List.length_nil.{0}) (aI_ @List.length_cons.{0} @List.cons_append.{0})))) (aI_ (aI_ (aI_ (aI_ @List.getElem?_cons_zero.{0} @List.getElem?_cons_succ.{0}) (aI_ @List.set_cons_zero.{0} @List.set_cons_succ.{0})) (aI_ (aI_ @List.map_cons.{0,0} @List.map_nil.{0,0}) (aI_ @A4s @A1W))) (aI_ (aI_ (aI_ @true_and @and_true) (aI_ @List.take_zero.{0} @List.take_succ_cons.{0})) (aI_ (aI_ @List.drop_succ_cons.{0} @List.take_nil.{0}) (aI_ @List.drop_nil.{0} @Nat.zero_add))))) (aI_ (aI_ (aI_ (aI_ (aI_ @BbU @BbW) (aI_ @BbS @Bck)) (aI_ (aI_ @Ba3 @Bcx) (aI_ @BcU @BcG))) (aI_ (aI_ (aI_ @Bb1 @BbF) (aI_ @Bd8 @A7N)) (aI_ (aI_ @A4R @A4T) (aI_ @AZi @A0T)))) (aI_ (aI_ (aI_ (aI_ @AZg @A00) (aI_ @AXF @A1o)) (aI_ (aI_ @A0Z @A0W) (aI_ @A0x @AY4))) (aI_ (aI_ (aI_ @Bool.false_xor @Bool.true_xor) (aI_ @BcH @Ba0)) (aI_ (aI_ @BbV @decide_true) (aI_ @decide_false @Bool.not_true)))))) (aI_ (aI_ (aI_ (aI_ (aI_ (aI_ @Bool.not_false @not_true_eq_false) (aI_ @not_false_eq_true @Bool.false_eq_true)) (aI_ (aI_ @Bool.true_eq_false @Option.bind_some.{0,0}) (aI_ @Option.map_some.{0,0} @Bool.and_self))) (aI_ (aI_ (aI_ @and_self @Nat.sub_zero) (aI_ @Nat.mul_one @List.length_map.{0,0})) (aI_ (aI_ @Int.toNat_natCast @List.getElem?_map.{0,0}) (aI_ @Int.natCast_nonneg @List.length_append.{0})))) (aI_ (aI_ (aI_ (aI_ @List.drop_zero.{0} @AXD) (aI_ @AXw @A14)) (aI_ (aI_ @A2E @A3e) (aI_ @A41 @A5Q))) (aI_ (aI_ (aI_ @A54 @A5j) (aI_ @List.replicate_zero.{0} @List.take_length.{0})) (aI_ (aI_ @List.length_set.{0} @List.length_replicate.{0}) (aI_ @A8J @ACr))))) (aI_ (aI_ (aI_ (aI_ @A9F @List.set_set.{0}) (aI_ @List.getElem?_nil.{0} @A76)) (aI_ (aI_ @A21 @A28) (aI_ @A3l @A1Q))) (aI_ @A85 @A8n))))
end
section
open Go.RowKit
variable [AyT]
theorem AXA {g:Nat} {x:GV} (h:ACP g=some x):(g,x)∈AyT.l:=by
 unfold ACP at h
 obtain ⟨p,hp,rfl⟩:=Option.map_eq_some_iff.1 h
 have h1:=List.mem_of_find?_eq_some hp
 have h2:=List.find?_some hp
 have h3:p.1=g:=by simpa using h2
 obtain ⟨a,b⟩:=p
 simp only at h3; subst h3; exact h1
section
omit [AyT]
theorem ATQ {P:Program} {w:World} {name:String} {g:Nat} {cs:Array Value} (hg:P.globalNamed name=some g) (h:w.var? P name=some cs):∃ t fr,w.heap[g]?=some (.cells cs t fr):=by
 unfold World.var? at h
 rw [hg,Option.bind_some] at h
 split at h
 ·rename_i c t fr hh; cases h; exact ⟨t,fr,hh⟩
 ·cases h
def A26 (P:Program) (t:TypeId):Bool:=match P.underlying t with
 | some (.int _)=>true
 | some .string=>true
 | _=>false
def BaA:DataW Unit→Option Value
 | .lit (.int k n)=>some (.int k n)
 | .lit (.string l)=>some (.string ⟨l.toArray⟩)
 | _=>none
variable {P:Program} {w:World} {fuel:Nat} {cs:List Value}
theorem AWa {t:TypeId} {x:DataW Unit×List MemPlace} (ht:A26 P t=true) (h:DataW.trod (fun _=>()) P w 0 (fun _=>true) false fuel t cs=some x):∃ v,BaA x.1=some v∧cs=[v]:=by
 unfold A26 at ht
 split at ht
 ·rename_i k hk
  obtain ⟨n,rfl,rfl,_⟩:=DataW.trod_int hk h
  exact ⟨_,rfl,rfl⟩
 ·rename_i hk
  obtain ⟨s,rfl,rfl,_⟩:=DataW.trod_string hk h
  exact ⟨_,rfl,by simp⟩
 ·cases ht
theorem AWi {t e:TypeId} {n:Nat} {ds:List (DataW Unit)} {p:List MemPlace} {vs:List Value} (ht:P.underlying t=some (.array n e)) (he:A26 P e=true) (hce:P.cellsOf e=1) (hct:P.cellsOf t=n) (hv:ds.map BaA=vs.map some)
  (h:DataW.trod (fun _=>()) P w 0 (fun _=>true) false fuel t cs=some (.agg ds,p)):cs=vs:=by
 cases fuel with
 | zero=>simp [DataW.trod] at h
 | succ fuel =>
  simp only [DataW.trod,ht,hce,hct,Nat.mul_one] at h
  split at h
  ·rename_i hl
   obtain ⟨xs,hm,hx⟩:=Option.map_eq_some_iff.1 h
   have hxs:xs.map (·.1)=ds:=by
    have:=congrArg Prod.fst hx
    simpa using this
   have hxl:xs.length=n:=by simpa using Lib.mapM_length hm
   have hvl:vs.length=n:=by
    have h1:=congrArg List.length hxs
    have h2:=congrArg List.length hv
    simp at h1 h2
    omega
   apply List.ext_getElem?
   intro i
   by_cases hi:i<n
   ·obtain ⟨b,hb,hf⟩:=Lib.mapM_at hm i i (by simp [hi])
    obtain ⟨v,hv1,hv2⟩:=AWa he hf
    have h1:cs[i]?=some v:=by
     have:=congrArg (·[0]?) hv2
     simpa [List.getElem?_take,List.getElem?_drop] using this
    have h2:ds[i]?=some b.1:=by rw [←hxs]; simp [hb]
    have h3:(ds.map BaA)[i]?=some (some v):=by simp [h2,hv1]
    rw [hv] at h3
    simp only [List.getElem?_map,Option.map_eq_some_iff,Option.some.injEq] at h3
    obtain ⟨u,hu,rfl⟩:=h3
    rw [h1,hu]
   ·rw [List.getElem?_eq_none (by omega),List.getElem?_eq_none (by omega)]
  ·cases h
theorem AXj {name:String} {d:DataW Unit}:∀ {laid:List (String×DataW Unit)} {ps:List MemPlace},DataW.LaidVars P w laid ps→(name,d)∈laid →
  ∃ g t cs fuel p,P.globalNamed name=some g∧(P.globals[g]?).map (·.type)=some t∧w.var? P name=some cs∧DataW.trod (fun _=>()) P w 0 (fun _=>true) false fuel t cs.toList=some (d,p)
 | [],ps,_,hm=>by simp at hm
 | (n,d')::r,ps,h,hm=>by
  obtain ⟨g,t,cs,fuel,p,q,h1,h2,h3,h4,h5,_⟩:=h
  rcases List.mem_cons.1 hm with e | hm
  ·cases e; exact ⟨g,t,cs,fuel,p,h1,h2,h3,h4⟩
  ·exact AXj h5 hm
theorem ATE {laid:List (String×DataW Unit)} (h:laidMet P laid w) {name:String} {ds:List (DataW Unit)} (hm:(name,DataW.agg ds)∈laid) {g:Nat} {t e:TypeId} {n:Nat} {vs:List Value} (hg:P.globalNamed name=some g) (hty:(P.globals[g]?).map (·.type)=some t)
  (ht:P.underlying t=some (.array n e)) (he:A26 P e=true) (hce:P.cellsOf e=1) (hct:P.cellsOf t=n) (hv:ds.map BaA=vs.map some):∃ tt fr,w.heap[g]?=some (.cells vs.toArray tt fr):=by
 obtain ⟨ps,h,_⟩:=h
 obtain ⟨g',t',cs,fuel,p,h1,h2,h3,h4⟩:=AXj h hm
 obtain rfl:=Option.some.inj (hg.symm.trans h1)
 obtain rfl:=Option.some.inj (hty.symm.trans h2)
 have:=AWi ht he hce hct hv h4
 have e:cs=vs.toArray:=by rw [←this,Array.toArray_toList]
 rw [e] at h3
 exact ATQ hg h3
end
end
section
open Go.RowKit Go.WideShapes Go.ChangeShapes
section
variable {H:Type} {enc:TypeId×Value→H}
end
theorem ASI {P:Program} {w:World} {g:Nat} {t:TypeId} {zero:Array Value} {k:IntKind} (h:w.ShapedOpen P) (hg:g<P.globals.size)
  (h0:((begin P (fun _ _=>0) default).world.heap[g]?).bind Obj.row?=some (zero,t)) (hz:zero.size=1)
  (hb:P.buildable t=true) (hc:P.cellTypes P.depth t=some [t]) (hu:P.underlying t=some (.int k)):∃ m tt fr,w.heap[g]?=some (.cells #[.int k m] tt fr):=by
 obtain ⟨m,hm⟩:=cell_of_shapedOpen_int h hg h0 hz hb hc hu
 obtain ⟨cs,hh,hs,_⟩:=h.1 g zero t hg h0
 have h1:cs[0]?=some (.int k m):=by simpa [World.cell?,hh] using hm
 have e:cs = #[.int k m]:=by
  apply Array.ext
  ·rw [hs,hz]; rfl
  ·intro i h2 h3
   have hi:i=0:=by simpa using h3
   subst hi
   have:=(Array.getElem?_eq_some_iff.1 h1).2
   simpa using this
 rw [e] at hh
 exact ⟨m,_,_,hh⟩
end
section
open Go.RowKit Go.WideShapes Go.ChangeShapes
variable [AyT]
set_option autoImplicit false
def came (w:World):Ctx:=⟨fun _ _=>none,[],fun b=>b<w.heap.size⟩
mutual
def AVz {H:Type}:DataW H→List Nat
 | .lit (.string b)=>[b.length]
 | .slice el _=>ANK el
 | .agg ps=>ANK ps
 | _=>[]
def ANK {H:Type}:List (DataW H)→List Nat
 | []=>[]
 | d::r=>AVz d++ANK r
end
theorem AQm {H:Type} {d:DataW H} {n:Nat} (hn:n∈AVz d):∀ {ds:List (DataW H)},d∈ds→n∈ANK ds
 | d0::ds,h=>by
  rw [ANK,List.mem_append]
  rcases List.mem_cons.1 h with rfl | h
  ·exact Or.inl hn
  ·exact Or.inr (AQm hn h)
theorem AOF {R:Nat} {l m:List Nat} (h:m.all (· ≤ R)=true) (hs:∀ n∈l,n∈m):l.all (· ≤ R)=true:=List.all_eq_true.2 fun n hn=>List.all_eq_true.1 h n (hs n hn)
variable {R:Nat}
def AEs (R:Nat) (P:Program) (t:TypeId) {α:Type} (f:α→TV) (ok:α→Prop):Prop :=
 ∀ {H:Type} (enc:TypeId×Value→H) (w:World) (fuel:Nat) (cs:List Value) (d:DataW H) (ps:List MemPlace),DataW.trod enc P w 0 (fun _=>true) true fuel t cs=some (d,ps)→(d.weights P t).all (· ≤ reachBytes)=true→(AVz d).all (· ≤ R)=true→∃ a,AyH (came w) w (f a) cs∧ok a
theorem AVn {α β:Type} {f:α→Option β}:∀ {l:List α} {xs:List β},l.mapM f=some xs→xs.length=l.length∧∀ (i:Nat) a,l[i]?=some a→∃ x,xs[i]?=some x∧f a=some x
 | [],xs,h=>by simp at h; subst h; simp
 | a::l,xs,h=>by
  rw [List.mapM_cons] at h
  cases hf:f a with
  | none=>rw [hf] at h; cases h
  | some y =>
   rw [hf] at h
   cases hl:l.mapM f with
   | none=>rw [hl] at h; cases h
   | some ys =>
    rw [hl] at h
    have e:xs=y::ys:=by simpa using h.symm
    subst e
    obtain ⟨h1,h2⟩:=AVn hl
    refine ⟨by simp [h1],fun i b hb => ?_⟩
    cases i with
    | zero=>simp at hb; subst hb; exact ⟨y,by simp,hf⟩
    | succ i=>simpa using h2 i b (by simpa using hb)
theorem AKJ {β:Type} {f:Nat→Option β} {n:Nat} {xs:List β} (h:(List.range n).mapM f=some xs):xs.length=n∧∀ i,i<n→∃ x,xs[i]?=some x∧f i=some x:=by
 obtain ⟨h1,h2⟩:=AVn h
 exact ⟨by simpa using h1,fun i hi=>h2 i i (by simp [hi])⟩
section
variable {P:Program} {t e:TypeId}
theorem AMz {H:Type} {enc:TypeId×Value→H} {w:World} {fuel:Nat} {cs:List Value} {x:DataW H×List MemPlace} (h:DataW.trod enc P w 0 (fun _=>true) true fuel t cs=some x):∃ n,fuel=n+1:=by
 cases fuel with
 | zero=>simp [DataW.trod] at h
 | succ n=>exact ⟨n,rfl⟩
theorem AXW {k:IntKind} (ht:P.underlying t=some (.int k)):AEs R P t (fun n => .val (.int k n)) (fun n=>(Lit.int k n).wf=true):=by
 intro H enc w fuel cs d ps h _ _
 obtain ⟨n,rfl⟩:=AMz h
 unfold DataW.trod at h; rw [ht] at h
 split at h<;>rename_i h1<;>try (simp at h1; done)
 all_goals try (cases h; done)
 all_goals try (simp only [Option.some.injEq,TypeDesc.int.injEq] at h1)
 all_goals first
  | (subst h1; split at h; (rename_i hc; obtain ⟨rfl,hw⟩:=hc; cases h; exact ⟨_,by rw [AyH]; exact ⟨rfl,rfl⟩,hw⟩); cases h)
  | (simp at h1; done)
  | (simp at h; done)
theorem ATB (ht:P.underlying t=some .string):AEs R P t (fun l => .val (.string (str l))) (fun l=>l.length≤R):=by
 intro H enc w fuel cs d ps h _ hw
 obtain ⟨n,rfl⟩:=AMz h
 unfold DataW.trod at h; rw [ht] at h
 split at h<;>rename_i h1<;>try (simp at h1; done)
 all_goals first
  | (simp at h1; done)
  | (simp at h; done)
  | (simp only [Option.ite_none_right_eq_some,Option.some.injEq,Prod.mk.injEq] at h; obtain ⟨hm,rfl,rfl⟩:=h; refine ⟨bl _,by rw [AyH,A9Y]; exact ⟨rfl,rfl⟩,?_⟩; simp only [AVz,List.all_cons,List.all_nil,Bool.and_true] at hw; exact of_decide_eq_true hw)
end
theorem AGl {H:Type} {P:Program} {e:TypeId} {d:DataW H} {n:Nat} (hn:n∈d.weights P e):∀ {ds:List (DataW H)},d∈ds→n∈DataW.weightsAll P e ds
 | d0::ds,h=>by
  simp only [DataW.weightsAll,List.mem_append]
  rcases List.mem_cons.1 h with rfl | h
  ·exact Or.inl hn
  ·exact Or.inr (AGl hn h)
theorem AC9 {l m:List Nat} (h:m.all (· ≤ reachBytes)=true) (hs:∀ n∈l,n∈m):l.all (· ≤ reachBytes)=true:=List.all_eq_true.2 fun n hn=>List.all_eq_true.1 h n (hs n hn)
theorem A5C (a:Addr) (i j:Nat):(a.add i).add j=a.add (i+j):=by
 unfold Addr.add
 by_cases h1:i=0<;>by_cases h2:j=0<;>simp [h1,h2,Nat.add_assoc]
theorem A4w (b off i:Nat):(⟨b,off,none⟩:Addr).add i=⟨b,off+i,none⟩:=by
 unfold Addr.add
 by_cases h1:i=0<;>simp [h1]
theorem AYs {w:World} {a:Addr} {n:Nat} {us:List Value} (h:w.cells? 0 a n=some us):us.length=n∧∀ i,i<n→∃ u,us[i]?=some u∧w.cell? (a.add i)=some u:=by
 unfold World.cells? at h
 rw [if_pos (Nat.zero_le _)] at h
 exact AKJ h
theorem AUR {α:Type} {f:α→TV} {ok:α→Prop} {k:Nat} (hw:∀ a,ok a→AyL (f a)=k) {w:World} {b off:Nat}:∀ (n i0:Nat),(∀ i,i<n→∃ us a,AyH (came w) w (f a) us∧ok a∧us.length=k∧AzO w b (off+(i0+i)*k) us) →
  ∃ (l:List α) (us:List Value),l.length=n∧(∀ a∈l,ok a)∧AyI (came w) w (l.map f) us∧us.length=n*k∧AzO w b (off+i0*k) us
 | 0,i0,_=>⟨[],[],rfl,by simp,by rw [List.map_nil,AyI],by simp,fun j u h=>by simp at h⟩
 | n+1,i0,h=>by
  obtain ⟨us,a,h1,h2,h3,h4⟩:=h 0 (by omega)
  obtain ⟨l,vs,k1,k2,k3,k4,k5⟩:=AUR hw n (i0+1) (fun i hi=>by
   obtain ⟨us,a,h1,h2,h3,h4⟩:=h (i+1) (by omega)
   exact ⟨us,a,h1,h2,h3,by rw [show i0+1+i=i0+(i+1) from by omega]; exact h4⟩)
  refine ⟨a::l,us++vs,by simp [k1],fun c hc => ?_,?_,?_,?_⟩
  ·rcases List.mem_cons.1 hc with rfl | hc
   ·exact h2
   ·exact k2 c hc
  ·rw [List.map_cons,AyI]; exact ⟨us,vs,rfl,h1,k3⟩
  ·rw [List.length_append,h3,k4,Nat.succ_mul,Nat.add_comm]
  ·intro j u hj
   by_cases hjk:j<k
   ·rw [List.getElem?_append_left (by omega)] at hj
    have:=h4 j u hj
    rwa [Nat.add_zero] at this
   ·rw [List.getElem?_append_right (by omega),h3] at hj
    have:=k5 (j - k) u hj
    rw [show off+(i0+1)*k+(j - k)=off+i0*k+j from by rw [Nat.succ_mul]; omega] at this
    exact this
section
variable {P:Program} {t e:TypeId} {α:Type} {f:α→TV} {ok:α→Prop} {k B:Nat}
theorem APl (ht:P.underlying t=some (.slice e)) (hk:P.cellsOf e=k) (hB:P.bytesOf e=B) (hc:AEs R P e f ok) (hw:∀ a,ok a→AyL (f a)=k) (h0:k≠0) :
  AEs R P t (fun l:List α => .sl k (l.map f)) (fun l=>(∀ a∈l,ok a)∧l.length*B≤140737488351232∧l.length≤9223372036854775807):=by
 intro H enc w fuel cs d ps h hwt hst
 obtain ⟨n,rfl⟩:=AMz h
 unfold DataW.trod at h; rw [ht] at h
 split at h<;>rename_i h1<;>try (simp at h1; done)
 all_goals first
  | (simp at h; done)
  | skip
 ·cases h
  refine ⟨[],?_,by simp,by simp,by simp⟩
  rw [AyH]; exact ⟨by simp,.inl ⟨rfl,none,0,rfl,by omega⟩⟩
 ·rename_i a len cap
  simp only [Option.some.injEq,TypeDesc.slice.injEq] at h1
  subst h1
  split at h
  ·rename_i hcond
   obtain ⟨-,hlc,hcm⟩:=hcond
   rw [Option.bind_eq_some_iff] at h
   obtain ⟨elems,he,h⟩:=h
   rw [if_pos rfl,Option.map_eq_some_iff] at h
   obtain ⟨rest,hr,h⟩:=h
   simp only [Prod.mk.injEq] at h
   obtain ⟨rfl,rfl⟩:=h
   obtain ⟨e1,e2⟩:=AKJ he
   obtain ⟨r1,_⟩:=AKJ hr
   unfold maxLen at hcm
   simp only [DataW.weights,ht,List.all_cons,Bool.and_eq_true,decide_eq_true_eq,reachBytes,List.length_map,e1,r1,hB] at hwt
   have hcapB:cap*B≤140737488351232:=by have:=of_decide_eq_true hwt.1; rwa [Nat.add_sub_cancel' hlc] at this
   have hlen:len*B≤140737488351232:=Nat.le_trans (Nat.mul_le_mul_right _ hlc) hcapB
   have hwe:(DataW.weightsAll P e (elems.map (·.1))).all (· ≤ reachBytes)=true:=AC9 (m:=DataW.weightsAll P e (elems.map (·.1))++DataW.weightsAll P e (rest.map (·.1))) hwt.2 (fun n hn=>List.mem_append_left _ hn)
   obtain ⟨b,off,spot⟩:=a
   have key:∀ i,i<len→∃ us a,AyH (came w) w (f a) us∧ok a∧us.length=k∧(∀ j u,us[j]?=some u→w.cell? ((⟨b,off,spot⟩:Addr).add (i*k+j))=some u):=by
    intro i hi
    obtain ⟨x,hx,hxe⟩:=e2 i hi
    rw [Option.bind_eq_some_iff] at hxe
    obtain ⟨us,hus,htr⟩:=hxe
    rw [hk] at hus
    obtain ⟨c1,c2⟩:=AYs hus
    obtain ⟨a,ha,hok⟩:=hc enc w n us x.1 x.2 htr (AC9 hwe fun m hm=>AGl hm (List.mem_map.2 ⟨x,List.mem_of_getElem? hx,rfl⟩)) (AOF hst fun m hm=>by rw [AVz]; exact AQm hm (List.mem_map.2 ⟨x,List.mem_of_getElem? hx,rfl⟩))
    refine ⟨us,a,ha,hok,c1,fun j u hj => ?_⟩
    have hjk:j<k:=by rw [←c1]; exact (List.getElem?_eq_some_iff.1 hj).1
    obtain ⟨u',hu',hcu⟩:=c2 j hjk
    rw [hj] at hu'; cases hu'
    rw [A5C] at hcu
    exact hcu
   by_cases hl0:len=0
   ·subst hl0
    refine ⟨[],?_,by simp,by simp,by simp⟩
    rw [AyH]; exact ⟨by simp,.inl ⟨rfl,_,cap,rfl,hcm⟩⟩
   ·have hsp:spot=none:=by
     obtain ⟨us,a,_,_,c1,c2⟩:=key 0 (by omega)
     have hu:us[0]?=some us[0]:=List.getElem?_eq_getElem (by omega)
     have:=c2 0 _ hu
     simpa [Addr.add] using World.cell?_spot this
    subst hsp
    obtain ⟨l,us,l1,l2,l3,l4,l5⟩:=AUR (f:=f) (ok:=ok) hw (w:=w) (b:=b) (off:=off) len 0 (fun i hi=>by
     obtain ⟨us,a,h1,h2,h3,h4⟩:=key i hi
     refine ⟨us,a,h1,h2,h3,fun j u hj => ?_⟩
     have:=h4 j u hj
     rw [A4w] at this
     rw [Nat.zero_add,Nat.add_assoc]; exact this)
    refine ⟨l,?_,l2,by rw [l1]; exact hlen,by omega⟩
    rw [AyH]
    refine ⟨fun x hx => ?_,.inr ⟨b,off,cap,us,by rw [List.length_map,l1],by rw [List.length_map,l1]; exact hlc,hcm,?_,l3,by simpa using l5⟩⟩
    ·obtain ⟨a,ha,rfl⟩:=List.mem_map.1 hx; exact hw a (l2 a ha)
    ·have hus:0<us.length:=by rw [l4]; exact Nat.mul_pos (by omega) (by omega)
     exact A5s (l5 0 us[0] (List.getElem?_eq_getElem hus))
  ·cases h
end
section
variable {P:Program} {t e:TypeId} {α:Type} {f:α→TV} {ok:α→Prop} {k:Nat}
theorem AHr {β:Type} {g:β→TV} {ok':β→Prop} (h:AEs R P t f ok) (hm:∀ a,ok a→∃ b,f a=g b∧ok' b):AEs R P t g ok':=by
 intro H enc w fuel cs d ps h1 h2 h2'
 obtain ⟨a,h3,h4⟩:=h enc w fuel cs d ps h1 h2 h2'
 obtain ⟨b,h5,h6⟩:=hm a h4
 exact ⟨b,by rw [←h5]; exact h3,h6⟩
theorem AVp (ht:P.underlying t=some (.int .u8)):AEs R P t by8 (fun _=>True) :=
 AHr (AXW ht) fun n h=>by
  have:=bounds_u8 h
  refine ⟨UInt8.ofNat n.toNat,?_,trivial⟩
  rw [by8,UInt8.toNat_ofNat',Nat.mod_eq_of_lt (by omega)]
  congr 2; omega
theorem APk (ht:P.underlying t=some (.slice e)) (he:P.underlying e=some (.int .u8)) (hk:P.cellsOf e=1) (hB:P.bytesOf e=1):AEs R P t slB (fun l=>l.length≤140737488351232) :=
 AHr (APl ht hk hB (AVp he) (fun _ _=>rfl) (by omega)) fun l h=>⟨l,rfl,by have:=h.2; omega⟩
theorem A6I {H:Type} {P:Program} {e:TypeId} {parts:List (DataW H)} (h:(DataW.weightsAll P e parts).all (· ≤ reachBytes)=true) {d:DataW H} (hd:d∈parts):(d.weights P e).all (· ≤ reachBytes)=true :=
 AC9 h fun n hn=>AGl hn hd
theorem AWJ {w:World} (hw:∀ a,ok a→AyL (f a)=k):∀ (n i0:Nat) (cs:List Value),cs.length=n*k→(∀ i,i<n→∃ a,AyH (came w) w (f a) ((cs.drop (i*k)).take k)∧ok a) →
  ∃ l:List α,l.length=n∧(∀ a∈l,ok a)∧AyI (came w) w (l.map f) cs
 | 0,i0,cs,hl,_=>⟨[],rfl,by simp,by rw [List.map_nil,AyI]; exact List.length_eq_zero_iff.1 (by simpa using hl)⟩
 | n+1,i0,cs,hl,h=>by
  obtain ⟨a,h1,h2⟩:=h 0 (by omega)
  rw [Nat.zero_mul,List.drop_zero] at h1
  rw [Nat.succ_mul] at hl
  obtain ⟨l,k1,k2,k3⟩:=AWJ hw n 0 (cs.drop k) (by rw [List.length_drop]; omega) (fun i hi=>by
   obtain ⟨a,h1,h2⟩:=h (i+1) (by omega)
   exact ⟨a,by rw [List.drop_drop]; rw [Nat.succ_mul,Nat.add_comm] at h1; exact h1,h2⟩)
  refine ⟨a::l,by simp [k1],fun c hc => ?_,?_⟩
  ·rcases List.mem_cons.1 hc with rfl | hc
   ·exact h2
   ·exact k2 c hc
  ·rw [List.map_cons,AyI]
   exact ⟨cs.take k,cs.drop k,(List.take_append_drop k cs).symm,h1,k3⟩
theorem AUI {n:Nat} (ht:P.underlying t=some (.array n e)) (hk:P.cellsOf e=k) (hn:P.cellsOf t=n*k) (hc:AEs R P e f ok) (hw:∀ a,ok a→AyL (f a)=k) :
  AEs R P t (fun l:List α => .arr n k (l.map f)) (fun l=>l.length=n∧∀ a∈l,ok a):=by
 intro H enc w fuel cs d ps h hwt hst
 obtain ⟨m,rfl⟩:=AMz h
 unfold DataW.trod at h; rw [ht] at h
 split at h<;>rename_i h1<;>try (simp at h1; done)
 all_goals first
  | (simp at h; done)
  | exact ((‹∀ (n_1:Nat) (e_1:TypeId),some (TypeDesc.array n e)=some (TypeDesc.array n_1 e_1)→False› : ∀ (n_1:Nat) (e_1:TypeId),some (TypeDesc.array n e)=some (TypeDesc.array n_1 e_1)→False) n e rfl).elim
  | skip
 cases h1
 split at h
 ·rename_i hlen
  rw [Option.map_eq_some_iff] at h
  obtain ⟨xs,hx,h⟩:=h
  simp only [Prod.mk.injEq] at h
  obtain ⟨rfl,rfl⟩:=h
  obtain ⟨e1,e2⟩:=AKJ hx
  simp only [DataW.weights,ht] at hwt
  rw [hn] at hlen
  obtain ⟨l,l1,l2,l3⟩:=AWJ (f:=f) (ok:=ok) (w:=w) hw _ 0 _ hlen (fun i hi=>by
   obtain ⟨x,hx,hxe⟩:=e2 i hi
   rw [hk] at hxe
   obtain ⟨a,ha,hok⟩:=hc enc w m _ x.1 x.2 hxe (A6I hwt (List.mem_map.2 ⟨x,List.mem_of_getElem? hx,rfl⟩)) (AOF hst fun m hm=>by rw [AVz]; exact AQm hm (List.mem_map.2 ⟨x,List.mem_of_getElem? hx,rfl⟩))
   exact ⟨a,ha,hok⟩)
  refine ⟨l,?_,l1,l2⟩
  rw [AyH]
  refine ⟨by rw [List.length_map,l1],fun x hx => ?_,l3⟩
  obtain ⟨a,ha,rfl⟩:=List.mem_map.1 hx; exact hw a (l2 a ha)
 ·cases h
end
def ATX (R:Nat) (P:Program) (off:Nat) (fs:List Field) {α:Type} (f:α→List TV) (ok:α→Prop):Prop :=
 ∀ {H:Type} (enc:TypeId×Value→H) (w:World) (fuel:Nat) (cs:List Value) (xs:List (DataW H×List MemPlace)),(fs.mapM fun fd=>DataW.trod enc P w 0 (fun _=>true) true fuel fd.type ((cs.drop fd.offset).take (P.cellsOf fd.type)))=some xs→(DataW.weightsEach P (fs.map (·.type)) (xs.map (·.1))).all (· ≤ reachBytes)=true→(ANK (xs.map (·.1))).all (· ≤ R)=true →
  cs.length=off+(fs.map fun fd=>P.cellsOf fd.type).sum→∃ a,AyI (came w) w (f a) (cs.drop off)∧ok a
theorem AVH {P:Program} {off:Nat}:ATX R P off [] (fun _:Unit=>[]) (fun _=>True):=by
 intro H enc w fuel cs xs _ _ _ hl
 refine ⟨(),?_,trivial⟩
 rw [AyI]; exact List.drop_eq_nil_of_le (by simp at hl; omega)
theorem AJC {P:Program} {off n:Nat} {fd:Field} {fs:List Field} {α β:Type} {f:α→TV} {ok:α→Prop} {g:β→List TV} {ok':β→Prop} (h0:fd.offset=off) (hn:P.cellsOf fd.type=n) (hc:AEs R P fd.type f ok) (hr:ATX R P (off+n) fs g ok') :
  ATX R P off (fd::fs) (fun x:α×β=>f x.1::g x.2) (fun x=>ok x.1∧ok' x.2):=by
 intro H enc w fuel cs xs hx hw hs hl
 rw [List.mapM_cons] at hx
 cases h1:DataW.trod enc P w 0 (fun _=>true) true fuel fd.type ((cs.drop fd.offset).take (P.cellsOf fd.type)) with
 | none=>rw [h1] at hx; cases hx
 | some y =>
  rw [h1] at hx
  cases h2:(fs.mapM fun fd=>DataW.trod enc P w 0 (fun _=>true) true fuel fd.type ((cs.drop fd.offset).take (P.cellsOf fd.type))) with
  | none=>rw [h2] at hx; cases hx
  | some ys =>
   rw [h2] at hx
   have e:xs=y::ys:=by simpa using hx.symm
   subst e
   simp only [List.map_cons,DataW.weightsEach] at hw
   simp only [List.map_cons,ANK] at hs
   obtain ⟨a,ha,hoka⟩:=hc enc w fuel _ y.1 y.2 h1 (AC9 hw fun n hn=>List.mem_append_left _ hn) (AOF hs fun n hn=>List.mem_append_left _ hn)
   obtain ⟨b,hb,hokb⟩:=hr enc w fuel cs ys h2 (AC9 hw fun n hn=>List.mem_append_right _ hn) (AOF hs fun n hn=>List.mem_append_right _ hn) (by simp [hn] at hl ⊢; omega)
   refine ⟨(a,b),?_,hoka,hokb⟩
   rw [AyI]
   refine ⟨(cs.drop off).take n,cs.drop (off+n),?_,by rw [←h0,←hn]; exact ha,hb⟩
   rw [←List.drop_drop,List.take_append_drop]
theorem AT1 {P:Program} {t:TypeId} {fs:Array Field} {α:Type} {f:α→List TV} {ok:α→Prop} (ht:P.underlying t=some (.struct fs)) (hn:P.cellsOf t=(fs.toList.map fun fd=>P.cellsOf fd.type).sum) (hc:ATX R P 0 fs.toList f ok) :
  AEs R P t (fun a => .agg (f a)) ok:=by
 intro H enc w fuel cs d ps h hwt hst
 obtain ⟨m,rfl⟩:=AMz h
 unfold DataW.trod at h; rw [ht] at h
 split at h<;>rename_i h1<;>try (simp at h1; done)
 all_goals first
  | (simp at h; done)
  | exact ((‹∀ (fs_1:Array Field),some (TypeDesc.struct fs)=some (TypeDesc.struct fs_1)→False› : ∀ (fs_1:Array Field),some (TypeDesc.struct fs)=some (TypeDesc.struct fs_1)→False) fs rfl).elim
  | skip
 cases h1
 split at h
 ·rename_i hlen
  rw [Option.map_eq_some_iff] at h
  obtain ⟨xs,hx,h⟩:=h
  simp only [Prod.mk.injEq] at h
  obtain ⟨rfl,rfl⟩:=h
  simp only [DataW.weights,ht] at hwt
  obtain ⟨a,ha,hok⟩:=hc enc w m _ xs hx hwt (by rw [AVz] at hst; exact hst) (by rw [hlen,hn,Nat.zero_add])
  exact ⟨a,by rw [AyH]; rw [List.drop_zero] at ha; exact ha,hok⟩
 ·cases h
def AMD (R:Nat) (P:Program) (ts:List TypeId) {α:Type} (f:α→List TV) (ok:α→Prop):Prop :=
 ∀ {H:Type} (enc:TypeId×Value→H) (w:World) (vs:List Value) (ds:List (DataW H)) (ps:List MemPlace),DataW.TrodAll enc P w 0 (fun _=>true) true ts vs ds ps→(∀ (j:Nat) t v,ts[j]?=some t→vs[j]?=some v→∃ base,Value.okWide P w .any base t v)→(DataW.weightsEach P ts ds).all (· ≤ reachBytes)=true→(ANK ds).all (· ≤ R)=true→∃ a,Azi (came w) w (f a) vs∧ok a
theorem ATU {P:Program}:AMD R P [] (fun _:Unit=>[]) (fun _=>True):=by
 intro H enc w vs ds ps h _ _ _
 obtain ⟨rfl,rfl,rfl⟩:=trodAll_nil h
 exact ⟨(),by rw [Azi],trivial⟩
def A1e (P:Program) (t:TypeId) (b:Bool):Prop:=∀ w base v,Value.okWide P w .any base t v→if b then ∃ cs,v = .agg cs else v.cells = #[v]
theorem AJZ {P:Program} {t e:TypeId} (ht:P.underlying t=some (.slice e)):A1e P t false:=fun w _ v h=>by obtain ⟨_,_,_,rfl⟩:=okWide_slice ht h; rfl
theorem AZu {c:Ctx} {P:Program} {w:World} {t:TypeId} {v:Value} {x:TV} {b:Bool} (hf:A1e P t b) {base:Nat} (hv:Value.okWide P w .any base t v) (hx:AMp x=b):v=mkV x v.cells.toList:=by
 have h:=hf w base v hv
 cases b with
 | true =>
  simp only [if_true] at h
  obtain ⟨cs,rfl⟩:=h
  rw [AWE hx]; simp [Value.cells]
 | false =>
  simp only [Bool.false_eq_true,if_false] at h
  rw [h]
  exact (AQi hx).symm
theorem AGp {P:Program} {t:TypeId} {ts:List TypeId} {α β:Type} {f:α→TV} {ok:α→Prop} {g:β→List TV} {ok':β→Prop} {b:Bool} (hc:AEs R P t f ok) (hf:A1e P t b) (hm:∀ a,AMp (f a)=b) (hr:AMD R P ts g ok') :
  AMD R P (t::ts) (fun x:α×β=>f x.1::g x.2) (fun x=>ok x.1∧ok' x.2):=by
 intro H enc w vs ds ps h hv hw hs
 obtain ⟨v,vs',d,ds',p,q,rfl,rfl,rfl,h0,r0⟩:=trodAll_cons h
 simp only [DataW.weightsEach] at hw
 simp only [ANK] at hs
 obtain ⟨fuel,hfu⟩:=h0
 obtain ⟨a,ha,hoka⟩:=hc enc w fuel _ d p hfu (AC9 hw fun n hn=>List.mem_append_left _ hn) (AOF hs fun n hn=>List.mem_append_left _ hn)
 obtain ⟨b,hb,hokb⟩:=hr enc w vs' ds' q r0 (fun j t v h1 h2=>hv (j+1) t v (by simpa using h1) (by simpa using h2)) (AC9 hw fun n hn=>List.mem_append_right _ hn) (AOF hs fun n hn=>List.mem_append_right _ hn)
 refine ⟨(a,b),Azi.cons.2 ⟨v,vs',rfl,.inr (.inr ⟨v.cells.toList,ha,AZu (c:=came w) hf (hv 0 t v rfl rfl).choose_spec (hm a)⟩),hb⟩,hoka,hokb⟩
theorem ANb {H:Type} {enc:TypeId×Value→H} {P:Program} (hl:laidOutB P=true) {W W':World} (hb:Below W.heap.size W W'):∀ {ts:List TypeId} {vs:List Value} {ds:List (DataW H)} {ps:List MemPlace},(ts.all fun t=>P.readableRec t && decide (t<P.types.size))=true →
  DataW.TrodAll enc P W 0 (fun _=>true) true ts vs ds ps→DataW.TrodAll enc P W' 0 (fun b=>decide (b<W.heap.size)) true ts vs ds ps
 | [],vs,ds,ps,_,h=>by
  obtain ⟨rfl,rfl,rfl⟩:=trodAll_nil h
  exact trodAll_mk0
 | t::ts,vs,ds,ps,hr,h=>by
  obtain ⟨v,vs',d,ds',p,q,rfl,rfl,rfl,h0,r0⟩:=trodAll_cons h
  simp only [List.all_cons,Bool.and_eq_true,decide_eq_true_eq] at hr
  refine trodAll_cons_mk (Below.trod hl hr.1.1 hr.1.2 h0 hb ?_) (ANb hl hb (by simpa using hr.2) r0)
  obtain ⟨m,hm⟩:=h0
  exact DataW.trod_lt m _ _ _ hm
theorem AIV.below {F F':Nat→Prop} {w w':World} (h:AIV F w F' w'):Below w.heap.size w w':=⟨h.os,h.tape,h.output,h.size,fun k hk=>h.same k hk⟩
theorem A9v {P:Program} {f:FuncId} {ts:List TypeId} {α:Type} {g:α→List TV} {ok:α→Prop} (hc:AMD R P ts g ok) (hlaw:∀ a,ok a→Azg P f (g a) (fun x=>x=tb true)) {H:Type} {enc:TypeId×Value→H} {w:World} {args:Array Value} {ds:List (DataW H)} {ps:List MemPlace}
  (h:DataW.TrodAll enc P w 0 (fun _=>true) true ts args.toList ds ps) (hv:∀ (j:Nat) t v,ts[j]?=some t→args.toList[j]?=some v→∃ base,Value.okWide P w .any base t v) (hw:(DataW.weightsEach P ts ds).all (· ≤ reachBytes)=true) (hs:(ANK ds).all (· ≤ R)=true) (hg:ADO (fun b=>b<w.heap.size) w) :
  Calls P f args w fun e w'=>e = .returned (.bool true)∧Below w.heap.size w w':=by
 obtain ⟨a,ha,hok⟩:=hc enc w args.toList ds ps h hv hw hs
 have:=hlaw a hok (fun _ _=>none) (fun b=>b<w.heap.size) w args.toList ⟨fun b h=>h,hg⟩ ha
 rw [Array.toArray_toList] at this
 refine this.mono ?_
 rintro e w' ⟨v,x,F',rfl,rfl,hx,hst⟩
 rw [Rep.val] at hx
 exact ⟨by rw [hx],hst.below⟩
end
section
open Go.RowKit
variable [AyT]
set_option autoImplicit false
end
section
open Go.RowKit
variable [AyT]
section
variable {t:TypeId} {a b:Nat} {k2:IntKind}
end
end
section
open Go.RowKit
variable [AyT]
section
variable {t:TypeId} {a b:Nat} {k2:IntKind}
theorem AOe {n:Nat} (h:n<18446744073709551616):IntKind.u64.wrap (n:Int)=n:=by rw [IntKind.wrap_u64]; omega
theorem AW5 (h1:a*b<18446744073709551616):AAL t .mul (.int .u64 (a:Int)) (.int .u64 (b:Int))=some (.int .u64 ((a*b:Nat):Int)):=by
 rw [show AAL t .mul (.int .u64 (a:Int)) (.int .u64 (b:Int))=some (.int .u64 (IntKind.u64.wrap ((a:Int)*(b:Int)))) from rfl,show (a:Int)*(b:Int)=((a*b:Nat):Int) from rfl,AOe h1]
theorem A3o (h1:b≤a) (h2:a<18446744073709551616):AAL t .sub (.int .u64 (a:Int)) (.int .u64 (b:Int))=some (.int .u64 ((a - b:Nat):Int)):=by
 rw [show AAL t .sub (.int .u64 (a:Int)) (.int .u64 (b:Int))=some (.int .u64 (IntKind.u64.wrap ((a:Int) - (b:Int)))) from rfl,show (a:Int) - (b:Int)=((a - b:Nat):Int) from by omega,AOe (by omega)]
theorem A2x (h2:b≤63) (h4:a*2 ^ b<18446744073709551616):AAL t .shl (.int .u64 (a:Int)) (.int k2 (b:Int))=some (.int .u64 ((a*2 ^ b:Nat):Int)):=by
 have e:binOp .shl t (.int .u64 (a:Int)) (.int k2 (b:Int))=pure (.int .u64 ((a*2 ^ b:Nat):Int)):=by
  show Op.shift .shl .u64 a k2 b=_
  unfold Op.shift
  rw [if_neg (by omega)]
  have hm:min ((b:Int)).toNat IntKind.u64.bits=b:=by
   have:IntKind.u64.bits=64:=rfl
   omega
  simp only [hm]
  have e2:(a:Int)*2 ^ b=((a*2 ^ b:Nat):Int):=by rw [Int.natCast_mul,Int.natCast_pow]; rfl
  rw [e2,AOe h4]
 unfold AAL; rw [e]; rfl
end
end
section
open Go.RowKit
variable [AyT]
set_option autoImplicit false
section
variable {t:TypeId} {a b:Nat} {k2:IntKind}
theorem A7m {n:Nat} (h:n<256):IntKind.u8.wrap (n:Int)=n:=by rw [IntKind.wrap_u8]; omega
theorem bv8 {n:Nat}:(BitVec.ofInt 8 (n:Int)).toNat=n % 256:=by
 rw [BitVec.toNat_ofInt]; omega
theorem ASv:AAL t .add (.int .u8 (a:Int)) (.int .u8 (b:Int))=some (.int .u8 (((a+b) % 256:Nat):Int)):=by
 rw [show AAL t .add (.int .u8 (a:Int)) (.int .u8 (b:Int))=some (.int .u8 (IntKind.u8.wrap ((a:Int)+b))) from rfl,IntKind.wrap_u8]
 congr 2
theorem A4E:AAL t .mul (.int .u8 (a:Int)) (.int .u8 (b:Int))=some (.int .u8 (((a*b) % 256:Nat):Int)):=by
 rw [show AAL t .mul (.int .u8 (a:Int)) (.int .u8 (b:Int))=some (.int .u8 (IntKind.u8.wrap ((a:Int)*b))) from rfl,IntKind.wrap_u8]
 congr 2
theorem ASl (h:b≤a) (h2:a<256):AAL t .sub (.int .u8 (a:Int)) (.int .u8 (b:Int))=some (.int .u8 ((a - b:Nat):Int)):=by
 rw [show AAL t .sub (.int .u8 (a:Int)) (.int .u8 (b:Int))=some (.int .u8 (IntKind.u8.wrap ((a:Int) - b))) from rfl,IntKind.wrap_u8]
 congr 2; omega
theorem A81 (h1:a<256) (h2:b<256):AAL t .and (.int .u8 (a:Int)) (.int .u8 (b:Int))=some (.int .u8 ((a &&& b:Nat):Int)):=by
 rw [show AAL t .and (.int .u8 (a:Int)) (.int .u8 (b:Int))=some (.int .u8 (IntKind.u8.wrap ((BitVec.ofInt 8 a &&& BitVec.ofInt 8 b).toNat:Int))) from rfl,BitVec.toNat_and,bv8,bv8,Nat.mod_eq_of_lt (by omega),Nat.mod_eq_of_lt (by omega)]
 have:=Nat.and_le_left (n:=a) (m:=b)
 rw [A7m (by omega)]
theorem Bb5 (h1:a<256) (h2:b<256):AAL t .or (.int .u8 (a:Int)) (.int .u8 (b:Int))=some (.int .u8 ((a ||| b:Nat):Int)):=by
 rw [show AAL t .or (.int .u8 (a:Int)) (.int .u8 (b:Int))=some (.int .u8 (IntKind.u8.wrap ((BitVec.ofInt 8 a ||| BitVec.ofInt 8 b).toNat:Int))) from rfl,BitVec.toNat_or,bv8,bv8,Nat.mod_eq_of_lt (by omega),Nat.mod_eq_of_lt (by omega)]
 have:=Nat.or_lt_two_pow (n:=8) (x:=a) (y:=b) (by omega) (by omega)
 rw [A7m (by omega)]
theorem A8F (h1:a<256) (h2:b≤8):AAL t .shr (.int .u8 (a:Int)) (.int k2 (b:Int))=some (.int .u8 ((a / 2 ^ b:Nat):Int)):=by
 have e:binOp .shr t (.int .u8 (a:Int)) (.int k2 (b:Int))=pure (.int .u8 ((a / 2 ^ b:Nat):Int)):=by
  show Op.shift .shr .u8 a k2 b=_
  unfold Op.shift
  rw [if_neg (by omega)]
  have hm:min ((b:Int)).toNat IntKind.u8.bits=b:=by
   have:IntKind.u8.bits=8:=rfl
   omega
  simp only [hm]
  rw [Int.fdiv_eq_ediv_of_nonneg _ (by exact Int.le_of_lt (Int.pow_pos (by omega)))]
  have hle:a / 2 ^ b≤a:=Nat.div_le_self _ _
  have e2:(a:Int) / 2 ^ b=((a / 2 ^ b:Nat):Int):=by rw [Int.natCast_ediv,Int.natCast_pow]; rfl
  rw [e2]
 unfold AAL; rw [e]; rfl
theorem A7L (h:b≠0) (h1:a<256):AAL t .quo (.int .u8 (a:Int)) (.int .u8 (b:Int))=some (.int .u8 ((a / b:Nat):Int)):=by
 have hz:¬ (b:Int)=0:=by omega
 have hle:a / b≤a:=Nat.div_le_self _ _
 have e2:(a:Int).tdiv (b:Int)=((a / b:Nat):Int):=by rw [Int.tdiv_eq_ediv_of_nonneg (by omega)]; rfl
 have e:binOp .quo t (.int .u8 (a:Int)) (.int .u8 (b:Int))=pure (.int .u8 ((a / b:Nat):Int)):=by
  unfold binOp
  simp only [ne_eq,not_true_eq_false,if_false,Op.intDiv,hz,e2,A7m (show a / b<256 by omega)]
 unfold AAL; rw [e]; rfl
end
theorem AWM {n:Nat} (h:n<256):TV.val (.int .u8 (n:Int))=by8 (UInt8.ofNat n):=by
 show TV.val (.int .u8 (n:Int))=TV.val (.int .u8 ((UInt8.ofNat n).toNat:Int))
 rw [UInt8.toNat_ofNat',Nat.mod_eq_of_lt (by omega)]
theorem AyX {l:List UInt8}:bl (str l)=l:=by simp [bl,str]
theorem A69 {l m:List UInt8}:str l++str m=str (l++m):=by
 apply ByteArray.ext
 simp [str]
theorem AT7 {t:TypeId} {l m:List UInt8} (h:l.length+m.length≤9223372036854775807):AAL t .add (.string (str l)) (.string (str m))=some (.string (str (l++m))):=by
 have e1:(str l).size=l.length:=by show l.toArray.size=_; simp
 have e2:(str m).size=m.length:=by show m.toArray.size=_; simp
 rw [←A69,AAL,binOp_string_add,Op.stringOp]
 simp only [e1,e2]
 rw [if_neg (by show ¬ ((l.length+m.length:Nat):Int) > 9223372036854775807; omega)]
 rfl
end
section
variable [AyT]
set_option maxRecDepth 100000
def ACX:AyD := .seq (.ops [mv_ 65 0,po_ 66 (.lenS (.t 65)),po_ 67 (.bin 3 .geq (.t 66) (ci_ 3)),mv_ 68 67,⟨some 69,.p (.mov (.t 0)),some ⟨68,true⟩⟩,⟨some 70,.p (.idxS (.t 69) (ci_ 1)),some ⟨68,true⟩⟩,⟨some 71,.s (.call 135 [.t 70]),some ⟨68,true⟩⟩,⟨some 72,.p (.bin 5 .eql (.t 71) (.c (.int .u8 ((120:Nat):Int)))),some ⟨68,true⟩⟩,po_ 73 (.pick (.t 68) (.t 72) (.c (.bool false))),mv_ 64 73] [0,2,8,9,64])
 (.cond (.t 64)
 (.seq (.ops [po_ 1 (.mov (ci_ 16))] [0,1,2,8,9])
  (.ops [mv_ 74 0,po_ 75 (.slS (.t 74) (some (ci_ 2)) none),mv_ 0 75] [0,1,2,8,9]))
 (.seq (.ops [po_ 1 (.mov (ci_ 8))] [0,1,2,8,9])
  (.ops [mv_ 38 0,po_ 39 (.slS (.t 38) (some (ci_ 1)) none),mv_ 0 39] [0,1,2,8,9])))
def AC6:AyD := .cond (.t 52)
 (.seq (.ops [po_ 1 (.mov (ci_ 8))] [0,1,2,8,9])
  (.ops [mv_ 62 0,po_ 63 (.slS (.t 62) (some (ci_ 2)) none),mv_ 0 63] [0,1,2,8,9]))
 ACX
def ADd:AyD := .seq (.ops [mv_ 53 0,po_ 54 (.lenS (.t 53)),po_ 55 (.bin 3 .geq (.t 54) (ci_ 3)),mv_ 56 55,⟨some 57,.p (.mov (.t 0)),some ⟨56,true⟩⟩,⟨some 58,.p (.idxS (.t 57) (ci_ 1)),some ⟨56,true⟩⟩,⟨some 59,.s (.call 135 [.t 58]),some ⟨56,true⟩⟩,⟨some 60,.p (.bin 5 .eql (.t 59) (.c (.int .u8 ((111:Nat):Int)))),some ⟨56,true⟩⟩,po_ 61 (.pick (.t 56) (.t 60) (.c (.bool false))),mv_ 52 61] [0,2,8,9,52])
 AC6
def ACW:AyD := .cond (.t 40)
 (.seq (.ops [po_ 1 (.mov (ci_ 2))] [0,1,2,8,9])
  (.ops [mv_ 50 0,po_ 51 (.slS (.t 50) (some (ci_ 2)) none),mv_ 0 51] [0,1,2,8,9]))
 ADd
def ADf:AyD := .block 1 (.seq (.ops [mv_ 41 0,po_ 42 (.lenS (.t 41)),po_ 43 (.bin 3 .geq (.t 42) (ci_ 3)),mv_ 44 43,⟨some 45,.p (.mov (.t 0)),some ⟨44,true⟩⟩,⟨some 46,.p (.idxS (.t 45) (ci_ 1)),some ⟨44,true⟩⟩,⟨some 47,.s (.call 135 [.t 46]),some ⟨44,true⟩⟩,⟨some 48,.p (.bin 5 .eql (.t 47) (.c (.int .u8 ((98:Nat):Int)))),some ⟨44,true⟩⟩,po_ 49 (.pick (.t 44) (.t 48) (.c (.bool false))),mv_ 40 49] [0,2,8,9,40])
 ACW)
def AC2:AyD := .cond (.t 37)
 ADf
 (.skip)
def ACZ:AyD := .seq (.ops [mv_ 35 0,po_ 36 (.idxS (.t 35) (ci_ 0)),po_ 37 (.bin 5 .eql (.t 36) (.c (.int .u8 ((48:Nat):Int))))] [0,1,2,8,9,37])
 AC2
def ADg:AyD := .seq (.ops [po_ 1 (.mov (ci_ 10))] [0,1,2,8,9])
 ACZ
def AC4:AyD := .cond (.t 32)
 ADg
 (.seq (.ops [po_ 24 (.iface 207 (ci_ 3)),po_ 6 (.mov (.c (.int .u64 ((0:Nat):Int)))),mv_ 7 24] [6,7])
  (.ret))
def ACu:AyD := .seq (.ops [mv_ 33 1,po_ 34 (.bin 3 .eql (.t 33) (ci_ 0)),mv_ 32 34] [0,2,8,9,32])
 AC4
def AAe:AyD := .cond (.t 25)
 (.skip)
 ACu
def AAo:AyD := .seq (.ops [mv_ 78 2,po_ 79 (.bin 3 .lss (.t 78) (ci_ 0)),mv_ 80 79,⟨some 81,.p (.mov (.t 2)),some ⟨80,false⟩⟩,⟨some 82,.p (.bin 3 .gtr (.t 81) (ci_ 64)),some ⟨80,false⟩⟩,po_ 83 (.pick (.t 80) (.c (.bool true)) (.t 82))] [0,1,2,8,9,83])
 (.cond (.t 83)
 (.seq (.ops [po_ 84 (.iface 207 (ci_ 4)),po_ 6 (.mov (.c (.int .u64 ((0:Nat):Int)))),mv_ 7 84] [6,7])
  (.ret))
 (.skip))
def Az9:AyD := .seq (.ops [po_ 93 (.bin 3 .eql (.t 85) (ci_ 16)),mv_ 92 93] [0,1,2,8,9,92])
 (.cond (.t 92)
 (.ops [po_ 10 (.mov (.c (.int .u64 ((1152921504606846976:Nat):Int))))] [0,1,2,8,9,10])
 (.ops [mv_ 86 1,po_ 87 (.conv .u64 (.t 86)),po_ 88 (.bin 190 .quo (.c (.int .u64 ((18446744073709551615:Nat):Int))) (.t 87)),po_ 89 (.bin 190 .add (.t 88) (.c (.int .u64 ((1:Nat):Int)))),mv_ 10 89] [0,1,2,8,9,10]))
def AAr:AyD := .seq (.ops [mv_ 122 15,so_ 123 (.call 135 [.t 122]),po_ 124 (.bin 5 .leq (.c (.int .u8 ((97:Nat):Int))) (.t 123)),mv_ 125 124,⟨some 126,.p (.mov (.t 15)),some ⟨125,true⟩⟩,⟨some 127,.s (.call 135 [.t 126]),some ⟨125,true⟩⟩,⟨some 128,.p (.bin 5 .leq (.t 127) (.c (.int .u8 ((122:Nat):Int)))),some ⟨125,true⟩⟩,po_ 129 (.pick (.t 125) (.t 128) (.c (.bool false))),mv_ 121 129] [1,8,9,10,11,12,13,15,99,100,101,121])
 (.cond (.t 121)
 (.ops [mv_ 130 15,so_ 131 (.call 135 [.t 130]),po_ 132 (.bin 5 .sub (.t 131) (.c (.int .u8 ((97:Nat):Int)))),po_ 133 (.bin 5 .add (.t 132) (.c (.int .u8 ((10:Nat):Int)))),mv_ 16 133] [1,8,9,10,11,12,13,16,99,100,101])
 (.seq (.ops [po_ 105 (.iface 207 (ci_ 2)),po_ 6 (.mov (.c (.int .u64 ((0:Nat):Int)))),mv_ 7 105] [6,7])
  (.ret)))
def AAD:AyD := .cond (.t 112)
 (.ops [mv_ 119 15,po_ 120 (.bin 5 .sub (.t 119) (.c (.int .u8 ((48:Nat):Int)))),mv_ 16 120] [1,8,9,10,11,12,13,16,99,100,101])
 AAr
def AAH:AyD := .seq (.ops [mv_ 113 15,po_ 114 (.bin 5 .leq (.c (.int .u8 ((48:Nat):Int))) (.t 113)),mv_ 115 114,⟨some 116,.p (.mov (.t 15)),some ⟨115,true⟩⟩,⟨some 117,.p (.bin 5 .leq (.t 116) (.c (.int .u8 ((57:Nat):Int)))),some ⟨115,true⟩⟩,po_ 118 (.pick (.t 115) (.t 117) (.c (.bool false))),mv_ 112 118] [1,8,9,10,11,12,13,15,99,100,101,112])
 AAD
def AAy:AyD := .cond (.t 106)
 (.seq (.ops [po_ 12 (.mov (.c (.bool true)))] [1,8,9,10,11,12,13,99,100,101])
  (.exit 4))
 AAH
def AAx:AyD := .seq (.seq (.ops [mv_ 152 17,mv_ 153 13,po_ 154 (.bin 190 .lss (.t 152) (.t 153)),mv_ 155 154,⟨some 156,.p (.mov (.t 17)),some ⟨155,false⟩⟩,⟨some 157,.p (.mov (.t 11)),some ⟨155,false⟩⟩,⟨some 158,.p (.bin 190 .gtr (.t 156) (.t 157)),some ⟨155,false⟩⟩,po_ 159 (.pick (.t 155) (.c (.bool true)) (.t 158))] [1,8,9,10,11,12,17,99,100,101,159])
 (.cond (.t 159)
 (.seq (.ops [mv_ 160 11,po_ 161 (.iface 207 (ci_ 1)),mv_ 6 160,mv_ 7 161] [6,7])
  (.ret))
 (.skip)))
 (.ops [mv_ 162 17,mv_ 13 162] [1,8,9,10,11,12,13,99,100,101])
def AAA:AyD := .seq (.ops [mv_ 148 13,mv_ 149 16,po_ 150 (.conv .u64 (.t 149)),po_ 151 (.bin 190 .add (.t 148) (.t 150)),mv_ 17 151] [1,8,9,10,11,12,13,17,99,100,101])
 AAx
def AAt:AyD := .seq (.ops [mv_ 144 13,mv_ 145 1,po_ 146 (.conv .u64 (.t 145)),po_ 147 (.bin 190 .mul (.t 144) (.t 146)),mv_ 13 147] [1,8,9,10,11,12,13,16,99,100,101])
 AAA
def AAv:AyD := .seq (.seq (.ops [mv_ 139 13,mv_ 140 10,po_ 141 (.bin 190 .geq (.t 139) (.t 140))] [1,8,9,10,11,12,13,16,99,100,101,141])
 (.cond (.t 141)
 (.seq (.ops [mv_ 142 11,po_ 143 (.iface 207 (ci_ 1)),mv_ 6 142,mv_ 7 143] [6,7])
  (.ret))
 (.skip)))
 AAt
def AzC:AyD := .seq (.seq (.ops [mv_ 134 16,mv_ 135 1,po_ 136 (.conv .u8 (.t 135)),po_ 137 (.bin 5 .geq (.t 134) (.t 136))] [1,8,9,10,11,12,13,16,99,100,101,137])
 (.cond (.t 137)
 (.seq (.ops [po_ 138 (.iface 207 (ci_ 2)),po_ 6 (.mov (.c (.int .u64 ((0:Nat):Int)))),mv_ 7 138] [6,7])
  (.ret))
 (.skip)))
 AAv
def AAn:AyD := .seq (.block 5 (.seq (.ops [mv_ 107 15,po_ 108 (.bin 5 .eql (.t 107) (.c (.int .u8 ((95:Nat):Int)))),mv_ 109 108,⟨some 110,.p (.mov (.t 8)),some ⟨109,true⟩⟩,po_ 111 (.pick (.t 109) (.t 110) (.c (.bool false))),mv_ 106 111] [1,8,9,10,11,12,13,15,99,100,101,106])
 AAy))
 AzC
def AAw:AyD := .seq (.ops [po_ 16 (.mov (.c (.int .u8 ((0:Nat):Int))))] [1,8,9,10,11,12,13,15,99,100,101])
 AAn
def AAh:AyD := .seq (.block 4 (.seq (.ops [po_ 103 (.idxA 1 (.t 99) (.t 101)),po_ 104 (.load false 1 (.t 103)),mv_ 15 104] [1,8,9,10,11,12,13,15,99,100,101])
 AAw))
 (.ops [po_ 163 (.bin 3 .add (.t 101) (ci_ 1)),mv_ 101 163] [1,8,9,10,11,12,13,99,100,101])
def AAu:AyD := .seq (.cond (.t 102)
 (.skip)
 (.exit 3))
 AAh
def AAF:AyD := .seq (.ops [po_ 102 (.bin 3 .lss (.t 101) (.t 100))] [1,8,9,10,11,12,13,99,100,101,102])
 AAu
def AAz:AyD := .block 3 (.loop [1,8,9,10,11,12,13,99,100,101] AAF)
def AAE:AyD := .seq (.seq (.ops [mv_ 164 12,mv_ 165 164,⟨some 166,.p (.mov (.t 9)),some ⟨165,true⟩⟩,⟨some 167,.s (.call 136 [.t 166]),some ⟨165,true⟩⟩,⟨some 168,.p (.un .not (.t 167)),some ⟨165,true⟩⟩,po_ 169 (.pick (.t 165) (.t 168) (.c (.bool false)))] [13,169])
 (.cond (.t 169)
 (.seq (.ops [po_ 170 (.iface 207 (ci_ 2)),po_ 6 (.mov (.c (.int .u64 ((0:Nat):Int)))),mv_ 7 170] [6,7])
  (.ret))
 (.skip)))
 (.seq (.ops [mv_ 171 13,mv_ 6 171,po_ 7 (.mov (.c .nilIface))] [6,7])
 (.ret))
def AAd:AyD := .seq (.seq (.ops [mv_ 98 0,so_ 99 (.s2b (.t 98)),po_ 100 (.lenV (.t 99)),po_ 101 (.mov (ci_ 0))] [1,8,9,10,11,12,13,99,100,101])
 AAz)
 AAE
def AAs:AyD := .seq (.ops [po_ 13 (.mov (.c (.int .u64 ((0:Nat):Int))))] [0,1,8,9,10,11,12,13])
 AAd
def AAC:AyD := .seq (.ops [po_ 12 (.mov (.c (.bool false)))] [0,1,8,9,10,11,12])
 AAs
def AAI:AyD := .seq (.ops [mv_ 94 2,po_ 95 (.conv .u64 (.t 94)),po_ 96 (.bin 190 .shl (.c (.int .u64 ((1:Nat):Int))) (.t 95)),po_ 97 (.bin 190 .sub (.t 96) (.c (.int .u64 ((1:Nat):Int)))),mv_ 11 97] [0,1,8,9,10,11])
 AAC
def AAl:AyD := .seq (.seq (.ops [mv_ 85 1] [0,1,2,8,9,85])
 (.block 2 (.seq (.ops [po_ 91 (.bin 3 .eql (.t 85) (ci_ 10)),mv_ 90 91] [0,1,2,8,9,85,90])
 (.cond (.t 90)
 (.ops [po_ 10 (.mov (.c (.int .u64 ((1844674407370955162:Nat):Int))))] [0,1,2,8,9,10])
 Az9))))
 AAI
def AAb:AyD := .seq (.ops [po_ 10 (.mov (.c (.int .u64 ((0:Nat):Int))))] [0,1,2,8,9])
 AAl
def AAj:AyD := .seq (.seq (.ops [mv_ 76 2,po_ 77 (.bin 3 .eql (.t 76) (ci_ 0))] [0,1,2,8,9,77])
 (.cond (.t 77)
 (.ops [po_ 2 (.mov (ci_ 64))] [0,1,2,8,9])
 AAo))
 AAb
def AAJ:AyD := .seq (.block 0 (.seq (.ops [mv_ 26 1,po_ 27 (.bin 3 .leq (ci_ 2) (.t 26)),mv_ 28 27,⟨some 29,.p (.mov (.t 1)),some ⟨28,true⟩⟩,⟨some 30,.p (.bin 3 .leq (.t 29) (ci_ 36)),some ⟨28,true⟩⟩,po_ 31 (.pick (.t 28) (.t 30) (.c (.bool false))),mv_ 25 31] [0,1,2,8,9,25])
 AAe))
 AAj
def AAf:AyD := .seq (.ops [mv_ 23 0,mv_ 9 23] [0,1,2,8,9])
 AAJ
def AAk:AyD := .seq (.ops [mv_ 21 1,po_ 22 (.bin 3 .eql (.t 21) (ci_ 0)),mv_ 8 22] [0,1,2,8])
 AAf
def AAa:AyD := .seq (.seq (.ops [mv_ 18 0,po_ 19 (.bin 9 .eql (.t 18) (.c (.string (str []))))] [0,1,2,19])
 (.cond (.t 19)
 (.seq (.ops [po_ 20 (.iface 207 (ci_ 2)),po_ 6 (.mov (.c (.int .u64 ((0:Nat):Int)))),mv_ 7 20] [6,7])
  (.ret))
 (.skip)))
 AAk
def AA9:AyD := .seq (.ops [po_ 6 (.mov (.c (.int .u64 ((0:Nat):Int)))),po_ 7 (.mov (.c .nilIface))] [0,1,2])
 AAa
def AA6:List VR:=[.tmp 6,.tmp 7]
theorem AEx:Tryz.f119.body.bind (trC Tryz.prog Tryz.f119.ntmps)=some (er AA9):=by kernel_rfl
theorem AEz:trR Tryz.prog Tryz.f119.results.toList=some AA6:=by kernel_rfl
def ABO:=AyA AAe.eq_1
def ABT:=AyA AAo.eq_1
def ABR:=AyA Az9.eq_1
def Azt:=AyA AAr.eq_1
def Aza:=AyA AAD.eq_1
def Azb:=AyA AAH.eq_1
def Ay9:=AyA AAy.eq_1
def AzT:=AyA AAx.eq_1
def AzW:=AyA AAA.eq_1
def AzX:=AyA AAt.eq_1
def AzU:=AyA AAv.eq_1
def Azu:=AyA AzC.eq_1
def Aze:=AyA AAn.eq_1
def Ay8:=AyA AAw.eq_1
def Azc:=AyA AAh.eq_1
def AyZ:=AyA AAu.eq_1
def Ay0:=AyA AAF.eq_1
def ABH:=AyA AAz.eq_1
def ABQ:=AyA AAE.eq_1
def ABL:=AyA AAd.eq_1
def ABV:=AyA AAs.eq_1
def ABE:=AyA AAC.eq_1
def ABM:=AyA AAI.eq_1
def ABK:=AyA AAl.eq_1
def ABX:=AyA AAb.eq_1
def ABS:=AyA AAj.eq_1
def ABJ:=AyA AAJ.eq_1
def ABG:=AyA AAf.eq_1
def ABN:=AyA AAk.eq_1
def AzV:=AyA AAa.eq_1
def AAO:=AyA AA9.eq_1
theorem AyK {K:TV→Prop} {e:Env} {H:List Ob}:res AA6 e H K=res [.tmp 6,.tmp 7] e H K:=Ayz rfl
def AD2:=AzJ 172 Tryz.func119 AEx AEz rfl
def ABC:AyD := .seq (.ops [po_ 2 (.mov (.c (.int .u8 ((0:Nat):Int))))] [0])
 (.seq (.ops [mv_ 3 0,po_ 4 (.bin 5 .or (.t 3) (.c (.int .u8 ((32:Nat):Int)))),mv_ 2 4] [2])
 (.ret))
def ABA:List VR:=[.tmp 2]
theorem AGW:Tryz.f135.body.bind (trC Tryz.prog Tryz.f135.ntmps)=some (er ABC):=by kernel_rfl
theorem AGB:trR Tryz.prog Tryz.f135.results.toList=some ABA:=by kernel_rfl
def AFx:=AyA ABC.eq_1
theorem AFD {K:TV→Prop} {e:Env} {H:List Ob}:res ABA e H K=res [.tmp 2] e H K:=Ayz rfl
def AHa:=(aI_ @AFx @AFD)
def AGh:=AzJ 5 Tryz.func135 AGW AGB rfl
def ACJ:AyD := .seq (.ops [mv_ 19 8,mv_ 20 0,mv_ 21 1,mv_ 22 2,mv_ 23 9,so_ 24 (.call 108 [.c (.string (str [80,97,114,115,101,85,105,110,116])),.t 20,.t 21,.t 22,.t 23]),mv_ 6 19,mv_ 7 24] [6,7])
 (.ret)
def ACx:AyD := .seq (.seq (.ops [mv_ 17 9,po_ 18 (.eqN 1 (.t 17) (.c .nilIface) true)] [0,1,2,8,9,18])
 (.cond (.t 18)
 ACJ
 (.skip)))
 (.seq (.ops [mv_ 25 8,mv_ 6 25,po_ 7 (.mov (.c .nilIface))] [6,7])
 (.ret))
def ACF:AyD := .seq (.ops [mv_ 11 0,mv_ 12 1,mv_ 13 2,so_ 14 (.call 119 [.t 11,.t 12,.t 13]),mv_ 10 14,po_ 15 (.ext 0 (.t 10)),po_ 16 (.ext 1 (.t 10)),mv_ 8 15,mv_ 9 16] [0,1,2,8,9])
 ACx
def AEY:AyD := .seq (.ops [po_ 6 (.mov (.c (.int .u64 ((0:Nat):Int)))),po_ 7 (.mov (.c .nilIface))] [0,1,2])
 ACF
def AE5:List VR:=[.tmp 6,.tmp 7]
theorem ALK:Tryz.f103.body.bind (trC Tryz.prog Tryz.f103.ntmps)=some (er AEY):=by kernel_rfl
theorem AMm:trR Tryz.prog Tryz.f103.results.toList=some AE5:=by kernel_rfl
def AHb:=AyA ACJ.eq_1
def AGQ:=AyA ACx.eq_1
def AGF:=AyA ACF.eq_1
def AJq:=AyA AEY.eq_1
theorem AJb {K:TV→Prop} {e:Env} {H:List Ob}:res AE5 e H K=res [.tmp 6,.tmp 7] e H K:=Ayz rfl
def AAU:=(aI_ (aI_ (aI_ @AHb @AGQ) (aI_ @AGF @AJq)) @AJb)
def ALa:=AzJ 26 Tryz.func103 ALK AMm rfl
end
section
open Go.RowKit
variable [AyT]
end
end Go.Proofs.YtnikbdnebdmmiaaGreatDoor
namespace Go.Proofs
open Go.Shelf
def Tryz.lays156_ren:Go.Shelf.Ren:=⟨fun | 156=>55 | 165=>87 | 166=>88 | 169=>57 | 240=>89 | 241=>109 | 276=>110 | 277=>131 | n=>n,fun | 31=>111 | 9=>9 | 3=>3 | 4=>4 | 0=>0 | 20=>20 | 72=>116 | 76=>164 | 70=>114 | 37=>23 | 75=>25 | 127=>168 | 164=>121 | 5=>5 | 80=>119 | n=>n,fun | n=>n⟩
theorem Tryz.lays156:Go.Proofs.Lays.n156 Tryz.prog Tryz.lays156_ren:={
 mixed:=by kernel_rfl
 f156:=Tryz.func55.trans (congrArg some (by kernel_rfl))
 f165:=Tryz.func87.trans (congrArg some (by kernel_rfl))
 f166:=Tryz.func88.trans (congrArg some (by kernel_rfl))
 f169:=Tryz.func57.trans (congrArg some (by kernel_rfl))
 f240:=Tryz.func89.trans (congrArg some (by kernel_rfl))
 f241:=Tryz.func109.trans (congrArg some (by kernel_rfl))
 f276:=Tryz.func110.trans (congrArg some (by kernel_rfl))
 f277:=Tryz.func131.trans (congrArg some (by kernel_rfl))
 t0:=Tryz.underlying0
 a0:=Tryz.isAgg0
 z0:=Tryz.sizeOf0
 v0:=Tryz.zeroValue0
 t3:=Tryz.underlying3
 a3:=Tryz.isAgg3
 z3:=Tryz.sizeOf3
 v3:=Tryz.zeroValue3
 t4:=Tryz.underlying4
 a4:=Tryz.isAgg4
 z4:=Tryz.sizeOf4
 v4:=Tryz.zeroValue4
 t9:=Tryz.underlying9
 a9:=Tryz.isAgg9
 z9:=Tryz.sizeOf9
 v9:=Tryz.zeroValue9
 t20:=Tryz.underlying20
 a20:=Tryz.isAgg20
 z20:=Tryz.sizeOf20
 v20:=Tryz.zeroValue20
 t31:=Tryz.underlying111
 a31:=Tryz.isAgg111
 z31:=Tryz.sizeOf111
 v31:=Tryz.zeroValue111
 t37:=Tryz.underlying23
 a37:=Tryz.isAgg23
 z37:=Tryz.sizeOf23
 v37:=Tryz.zeroValue23
 t70:=Tryz.underlying114
 a70:=Tryz.isAgg114
 z70:=Tryz.sizeOf114
 v70:=Tryz.zeroValue114
 t72:=Tryz.underlying116
 a72:=Tryz.isAgg116
 z72:=Tryz.sizeOf116
 v72:=Tryz.zeroValue116
 t75:=Tryz.underlying25
 a75:=Tryz.isAgg25
 z75:=Tryz.sizeOf25
 v75:=Tryz.zeroValue25
 t76:=Tryz.underlying164
 a76:=Tryz.isAgg164
 z76:=Tryz.sizeOf164
 v76:=Tryz.zeroValue164
 t127:=Tryz.underlying168
 a127:=Tryz.isAgg168
 z127:=Tryz.sizeOf168
 v127:=Tryz.zeroValue168
 t164:=Tryz.underlying121
 a164:=Tryz.isAgg121
 z164:=Tryz.sizeOf121
 v164:=Tryz.zeroValue121 }
theorem Tryz.Builder_Extra_156:Builder.Extra Tryz.prog Tryz.lays156_ren:={
 sizeBuilder:=by kernel_rfl
 liesBuilder:=by kernel_rfl
 t5:=Tryz.underlying5
 a5:=Tryz.isAgg5
 z5:=Tryz.sizeOf5
 v5:=Tryz.zeroValue5
 infoByte:=by kernel_rfl
 cellsByte:=by kernel_rfl
 sizeByte:=by kernel_rfl
 neB5:=by decide }
open Go.RowKit in
theorem Tryz.strings_Join (bk o c:Nat) (xs:List ByteArray) (sep:ByteArray) (w:World) (hcells:∀ (j:Nat) x,xs[j]?=some x→w.cell? ⟨bk,o+j,none⟩=some (.string x)) (hbk:bk<w.heap.size) (hN:xs.length≤140737488355328) (hcap:xs.length≤c) (hlen:(Lib.join (xs.map (·.data.toList)) sep.data.toList).length≤140737488355328) :
  Calls Tryz.prog 55 #[.slice (some ⟨bk,o,none⟩) xs.length c,.string sep] w fun e w'=>e = .returned (.string ⟨(Lib.join (xs.map (·.data.toList)) sep.data.toList).toArray⟩)∧Below w.heap.size w w':=Any.strings_Join Tryz.lays156 Tryz.Builder_Extra_156 bk o c xs sep w hcells hbk hN hcap hlen
def Tryz.laysC245_ren:Go.Shelf.Ren:=⟨fun | 245=>108 | 279=>127 | 280=>128 | 281=>129 | 282=>130 | 316=>144 | 171=>50 | 205=>145 | 243=>83 | 246=>106 | 283=>122 | 284=>123 | 285=>124 | 286=>125 | 129=>140 | 317=>139 | 318=>141 | 319=>142 | 320=>143 | 337=>147 | 338=>148 | n=>n,fun | 9=>9 | 3=>3 | 75=>25 | 167=>207 | 4=>4 | 168=>210 | 210=>223 | 37=>23 | 0=>0 | 127=>168 | 145=>234 | 143=>232 | 2=>2 | 171=>202 | 53=>190 | 5=>5 | 173=>205 | 212=>216 | 51=>217 | 20=>20 | 213=>218 | 46=>118 | 232=>235 | 233=>236 | 80=>119 | n=>n,fun | 15=>3 | 16=>4 | 17=>2 | 18=>7 | 19=>8 | n=>n⟩
theorem Tryz.laysC245:Go.Proofs.LaysC.n245 Tryz.prog Tryz.laysC245_ren:={
 mixed:=by kernel_rfl
 f129:=Tryz.func140.trans (congrArg some (by kernel_rfl))
 f171:=Tryz.func50.trans (congrArg some (by kernel_rfl))
 f205:=Tryz.func145.trans (congrArg some (by kernel_rfl))
 f243:=Tryz.func83.trans (congrArg some (by kernel_rfl))
 f245:=Tryz.func108.trans (congrArg some (by kernel_rfl))
 f246:=Tryz.func106.trans (congrArg some (by kernel_rfl))
 f279:=Tryz.func127.trans (congrArg some (by kernel_rfl))
 f280:=Tryz.func128.trans (congrArg some (by kernel_rfl))
 f281:=Tryz.func129.trans (congrArg some (by kernel_rfl))
 f282:=Tryz.func130.trans (congrArg some (by kernel_rfl))
 f283:=Tryz.func122.trans (congrArg some (by kernel_rfl))
 f284:=Tryz.func123.trans (congrArg some (by kernel_rfl))
 f285:=Tryz.func124.trans (congrArg some (by kernel_rfl))
 f286:=Tryz.func125.trans (congrArg some (by kernel_rfl))
 f316:=Tryz.func144.trans (congrArg some (by kernel_rfl))
 f317:=Tryz.func139.trans (congrArg some (by kernel_rfl))
 f318:=Tryz.func141.trans (congrArg some (by kernel_rfl))
 f319:=Tryz.func142.trans (congrArg some (by kernel_rfl))
 f320:=Tryz.func143.trans (congrArg some (by kernel_rfl))
 f337:=Tryz.func147.trans (congrArg some (by kernel_rfl))
 f338:=Tryz.func148.trans (congrArg some (by kernel_rfl))
 t0:=Tryz.underlying0
 a0:=Tryz.isAgg0
 z0:=Tryz.sizeOf0
 v0:=Tryz.zeroValue0
 t2:=Tryz.underlying2
 a2:=Tryz.isAgg2
 z2:=Tryz.sizeOf2
 v2:=Tryz.zeroValue2
 t3:=Tryz.underlying3
 a3:=Tryz.isAgg3
 z3:=Tryz.sizeOf3
 v3:=Tryz.zeroValue3
 t4:=Tryz.underlying4
 a4:=Tryz.isAgg4
 z4:=Tryz.sizeOf4
 v4:=Tryz.zeroValue4
 t5:=Tryz.underlying5
 a5:=Tryz.isAgg5
 z5:=Tryz.sizeOf5
 v5:=Tryz.zeroValue5
 t9:=Tryz.underlying9
 a9:=Tryz.isAgg9
 z9:=Tryz.sizeOf9
 v9:=Tryz.zeroValue9
 t20:=Tryz.underlying20
 a20:=Tryz.isAgg20
 z20:=Tryz.sizeOf20
 v20:=Tryz.zeroValue20
 t37:=Tryz.underlying23
 a37:=Tryz.isAgg23
 z37:=Tryz.sizeOf23
 v37:=Tryz.zeroValue23
 t46:=Tryz.underlying118
 a46:=Tryz.isAgg118
 z46:=Tryz.sizeOf118
 v46:=Tryz.zeroValue118
 t51:=Tryz.underlying217
 a51:=Tryz.isAgg217
 z51:=Tryz.sizeOf217
 v51:=Tryz.zeroValue217
 t53:=Tryz.underlying190
 a53:=Tryz.isAgg190
 z53:=Tryz.sizeOf190
 v53:=Tryz.zeroValue190
 t75:=Tryz.underlying25
 a75:=Tryz.isAgg25
 z75:=Tryz.sizeOf25
 v75:=Tryz.zeroValue25
 t127:=Tryz.underlying168
 a127:=Tryz.isAgg168
 z127:=Tryz.sizeOf168
 v127:=Tryz.zeroValue168
 t143:=Tryz.underlying232
 a143:=Tryz.isAgg232
 z143:=Tryz.sizeOf232
 v143:=Tryz.zeroValue232
 t145:=Tryz.underlying234
 a145:=Tryz.isAgg234
 z145:=Tryz.sizeOf234
 v145:=Tryz.zeroValue234
 t167:=Tryz.underlying207
 a167:=Tryz.isAgg207
 z167:=Tryz.sizeOf207
 v167:=Tryz.zeroValue207
 t168:=Tryz.underlying210
 a168:=Tryz.isAgg210
 z168:=Tryz.sizeOf210
 v168:=Tryz.zeroValue210
 t171:=Tryz.underlying202
 a171:=Tryz.isAgg202
 z171:=Tryz.sizeOf202
 v171:=Tryz.zeroValue202
 t173:=Tryz.underlying205
 a173:=Tryz.isAgg205
 z173:=Tryz.sizeOf205
 v173:=Tryz.zeroValue205
 t210:=Tryz.underlying223
 a210:=Tryz.isAgg223
 z210:=Tryz.sizeOf223
 v210:=Tryz.zeroValue223
 t212:=Tryz.underlying216
 a212:=Tryz.isAgg216
 z212:=Tryz.sizeOf216
 v212:=Tryz.zeroValue216
 t213:=Tryz.underlying218
 a213:=Tryz.isAgg218
 z213:=Tryz.sizeOf218
 t232:=Tryz.underlying235
 a232:=Tryz.isAgg235
 z232:=Tryz.sizeOf235
 v232:=Tryz.zeroValue235
 t233:=Tryz.underlying236
 a233:=Tryz.isAgg236
 z233:=Tryz.sizeOf236
 v233:=Tryz.zeroValue236
 g15:=by kernel_rfl
 g16:=by kernel_rfl
 g17:=by kernel_rfl
 g18:=by kernel_rfl
 g19:=by kernel_rfl
 t80:=Tryz.underlying119
 a80:=Tryz.isAgg119
 z80:=Tryz.sizeOf119
 v80:=Tryz.zeroValue119
 i0:=by kernel_rfl
 i2:=by kernel_rfl
 i3:=by kernel_rfl
 i4:=by kernel_rfl
 i5:=by kernel_rfl
 i9:=by kernel_rfl
 i20:=by kernel_rfl
 i37:=by kernel_rfl
 i46:=by kernel_rfl
 i51:=by kernel_rfl
 i53:=by kernel_rfl
 i75:=by kernel_rfl
 i80:=by kernel_rfl
 i127:=by kernel_rfl
 i143:=by kernel_rfl
 i145:=by kernel_rfl
 i167:=by kernel_rfl
 i168:=by kernel_rfl
 i171:=by kernel_rfl
 i173:=by kernel_rfl
 i210:=by kernel_rfl
 i212:=by kernel_rfl
 i232:=by kernel_rfl
 i233:=by kernel_rfl
 m15:=by kernel_rfl
 m16:=by kernel_rfl
 m17:=by kernel_rfl
 m18:=by kernel_rfl
 m19:=by kernel_rfl
 c0:=by kernel_rfl
 c2:=by kernel_rfl
 c3:=by kernel_rfl
 c4:=by kernel_rfl
 c5:=by kernel_rfl
 c9:=by kernel_rfl
 c20:=by kernel_rfl
 c37:=by kernel_rfl
 c46:=by kernel_rfl
 c51:=by kernel_rfl
 c53:=by kernel_rfl
 c75:=by kernel_rfl
 c80:=by kernel_rfl
 c127:=by kernel_rfl
 c143:=by kernel_rfl
 c145:=by kernel_rfl
 c167:=by kernel_rfl
 c168:=by kernel_rfl
 c171:=by kernel_rfl
 c173:=by kernel_rfl
 c210:=by kernel_rfl
 c212:=by kernel_rfl
 c213:=by kernel_rfl
 c232:=by kernel_rfl
 c233:=by kernel_rfl }
open Go.RowKit in
theorem Tryz.strconv_toError_syntax (fn s:ByteArray) (base bits:Int) (ev:Value) (w:World) (hlim:s.size≤281474976710656) (hv:w.cell? ⟨3,0,none⟩=some ev) (hev:ev = .nilIface∨∃ te pe,ev = .iface te pe) :
  Calls Tryz.prog 108 #[.string fn,.string s,.int .i64 base,.int .i64 bits,.iface 207 (.int .i64 2)] w fun e w'=>∃ N,e = .returned (.iface 210 (.pointer (some ⟨N,0,none⟩)))∧w.heap.size≤N∧w'.heap[N]?=some (.cells #[.string fn,.string s,ev] 223 (0,0))∧Below w.heap.size w w':=Any.strconv_toError_syntax Tryz.laysC245 fn s base bits ev w hlim hv hev
open Go.RowKit in
theorem Tryz.strconv_toError_range (fn s:ByteArray) (base bits:Int) (ev:Value) (w:World) (hlim:s.size≤281474976710656) (hv:w.cell? ⟨4,0,none⟩=some ev) (hev:ev = .nilIface∨∃ te pe,ev = .iface te pe) :
  Calls Tryz.prog 108 #[.string fn,.string s,.int .i64 base,.int .i64 bits,.iface 207 (.int .i64 1)] w fun e w'=>∃ N,e = .returned (.iface 210 (.pointer (some ⟨N,0,none⟩)))∧w.heap.size≤N∧w'.heap[N]?=some (.cells #[.string fn,.string s,ev] 223 (0,0))∧Below w.heap.size w w':=Any.strconv_toError_range Tryz.laysC245 fn s base bits ev w hlim hv hev
def Tryz.lays143_ren:Go.Shelf.Ren:=⟨fun | 143=>99 | 219=>112 | 217=>111 | 225=>116 | 224=>115 | 267=>133 | 266=>132 | 314=>146 | n=>n,fun | 9=>9 | 3=>3 | 4=>4 | 5=>5 | 46=>118 | 146=>225 | 51=>217 | n=>n,fun | 1=>1 | n=>n⟩
theorem Tryz.lays143:Go.Proofs.Lays.n143 Tryz.prog Tryz.lays143_ren:={
 mixed:=by kernel_rfl
 f143:=Tryz.func99.trans (congrArg some (by kernel_rfl))
 f217:=Tryz.func111.trans (congrArg some (by kernel_rfl))
 f219:=Tryz.func112.trans (congrArg some (by kernel_rfl))
 f224:=Tryz.func115.trans (congrArg some (by kernel_rfl))
 f225:=Tryz.func116.trans (congrArg some (by kernel_rfl))
 f266:=Tryz.func132.trans (congrArg some (by kernel_rfl))
 f267:=Tryz.func133.trans (congrArg some (by kernel_rfl))
 f314:=Tryz.func146.trans (congrArg some (by kernel_rfl))
 t3:=Tryz.underlying3
 a3:=Tryz.isAgg3
 z3:=Tryz.sizeOf3
 v3:=Tryz.zeroValue3
 t4:=Tryz.underlying4
 a4:=Tryz.isAgg4
 z4:=Tryz.sizeOf4
 v4:=Tryz.zeroValue4
 t5:=Tryz.underlying5
 a5:=Tryz.isAgg5
 z5:=Tryz.sizeOf5
 v5:=Tryz.zeroValue5
 t9:=Tryz.underlying9
 a9:=Tryz.isAgg9
 z9:=Tryz.sizeOf9
 v9:=Tryz.zeroValue9
 t46:=Tryz.underlying118
 a46:=Tryz.isAgg118
 z46:=Tryz.sizeOf118
 v46:=Tryz.zeroValue118
 t51:=Tryz.underlying217
 a51:=Tryz.isAgg217
 z51:=Tryz.sizeOf217
 v51:=Tryz.zeroValue217
 t146:=Tryz.underlying225
 a146:=Tryz.isAgg225
 z146:=Tryz.sizeOf225
 v146:=Tryz.zeroValue225
 g1:=by kernel_rfl }
open Go.RowKit Go.Lib in
theorem Tryz.strings_Index_one (s:ByteArray) (c:UInt8) (w:World) :
  Calls Tryz.prog 99 #[.string s,.string ⟨#[c]⟩] w fun e w'=>e = .returned (.int .i64 (Lib.indexByte s.data.toList c))∧w'=w:=Any.strings_Index_one Tryz.lays143 s c w
def Tryz.lays144_ren:Go.Shelf.Ren:=⟨fun | 144=>72 | 143=>99 | 219=>112 | 217=>111 | 225=>116 | 224=>115 | 267=>133 | 266=>132 | 314=>146 | n=>n,fun | 9=>9 | 4=>4 | 3=>3 | 5=>5 | 46=>118 | 146=>225 | 51=>217 | n=>n,fun | 1=>1 | n=>n⟩
theorem Tryz.lays144:Go.Proofs.Lays.n144 Tryz.prog Tryz.lays144_ren:={
 mixed:=by kernel_rfl
 f143:=Tryz.func99.trans (congrArg some (by kernel_rfl))
 f144:=Tryz.func72.trans (congrArg some (by kernel_rfl))
 f217:=Tryz.func111.trans (congrArg some (by kernel_rfl))
 f219:=Tryz.func112.trans (congrArg some (by kernel_rfl))
 f224:=Tryz.func115.trans (congrArg some (by kernel_rfl))
 f225:=Tryz.func116.trans (congrArg some (by kernel_rfl))
 f266:=Tryz.func132.trans (congrArg some (by kernel_rfl))
 f267:=Tryz.func133.trans (congrArg some (by kernel_rfl))
 f314:=Tryz.func146.trans (congrArg some (by kernel_rfl))
 t3:=Tryz.underlying3
 a3:=Tryz.isAgg3
 z3:=Tryz.sizeOf3
 v3:=Tryz.zeroValue3
 t4:=Tryz.underlying4
 a4:=Tryz.isAgg4
 z4:=Tryz.sizeOf4
 v4:=Tryz.zeroValue4
 t5:=Tryz.underlying5
 a5:=Tryz.isAgg5
 z5:=Tryz.sizeOf5
 v5:=Tryz.zeroValue5
 t9:=Tryz.underlying9
 a9:=Tryz.isAgg9
 z9:=Tryz.sizeOf9
 v9:=Tryz.zeroValue9
 t46:=Tryz.underlying118
 a46:=Tryz.isAgg118
 z46:=Tryz.sizeOf118
 v46:=Tryz.zeroValue118
 t51:=Tryz.underlying217
 a51:=Tryz.isAgg217
 z51:=Tryz.sizeOf217
 v51:=Tryz.zeroValue217
 t146:=Tryz.underlying225
 a146:=Tryz.isAgg225
 z146:=Tryz.sizeOf225
 v146:=Tryz.zeroValue225
 g1:=by kernel_rfl }
open Go.RowKit Go.Lib in
theorem Tryz.strings_Contains (s sub:ByteArray) (m:Int) (w:World) (hs:s.size<4294967281) (hm:w.cell? ⟨1,0,none⟩=some (.int .i64 m)) :
  Calls Tryz.prog 72 #[.string s,.string sub] w fun e w'=>e = .returned (.bool (Lib.contains s.data.toList sub.data.toList))∧w'=w:=Any.strings_Contains Tryz.lays144 s sub m w hs hm
def Tryz.lays138_ren:Go.Shelf.Ren:=⟨fun | 138=>121 | 195=>137 | 218=>138 | 143=>99 | 219=>112 | 217=>111 | 225=>116 | 224=>115 | 267=>133 | 266=>132 | 314=>146 | n=>n,fun | 9=>9 | 3=>3 | 4=>4 | 5=>5 | 0=>0 | 46=>118 | 146=>225 | 51=>217 | n=>n,fun | 1=>1 | n=>n⟩
theorem Tryz.lays138:Go.Proofs.Lays.n138 Tryz.prog Tryz.lays138_ren:={
 mixed:=by kernel_rfl
 f138:=Tryz.func121.trans (congrArg some (by kernel_rfl))
 f143:=Tryz.func99.trans (congrArg some (by kernel_rfl))
 f195:=Tryz.func137.trans (congrArg some (by kernel_rfl))
 f217:=Tryz.func111.trans (congrArg some (by kernel_rfl))
 f218:=Tryz.func138.trans (congrArg some (by kernel_rfl))
 f219:=Tryz.func112.trans (congrArg some (by kernel_rfl))
 f224:=Tryz.func115.trans (congrArg some (by kernel_rfl))
 f225:=Tryz.func116.trans (congrArg some (by kernel_rfl))
 f266:=Tryz.func132.trans (congrArg some (by kernel_rfl))
 f267:=Tryz.func133.trans (congrArg some (by kernel_rfl))
 f314:=Tryz.func146.trans (congrArg some (by kernel_rfl))
 t0:=Tryz.underlying0
 a0:=Tryz.isAgg0
 z0:=Tryz.sizeOf0
 v0:=Tryz.zeroValue0
 t3:=Tryz.underlying3
 a3:=Tryz.isAgg3
 z3:=Tryz.sizeOf3
 v3:=Tryz.zeroValue3
 t4:=Tryz.underlying4
 a4:=Tryz.isAgg4
 z4:=Tryz.sizeOf4
 v4:=Tryz.zeroValue4
 t5:=Tryz.underlying5
 a5:=Tryz.isAgg5
 z5:=Tryz.sizeOf5
 v5:=Tryz.zeroValue5
 t9:=Tryz.underlying9
 a9:=Tryz.isAgg9
 z9:=Tryz.sizeOf9
 v9:=Tryz.zeroValue9
 t46:=Tryz.underlying118
 a46:=Tryz.isAgg118
 z46:=Tryz.sizeOf118
 v46:=Tryz.zeroValue118
 t51:=Tryz.underlying217
 a51:=Tryz.isAgg217
 z51:=Tryz.sizeOf217
 v51:=Tryz.zeroValue217
 t146:=Tryz.underlying225
 a146:=Tryz.isAgg225
 z146:=Tryz.sizeOf225
 v146:=Tryz.zeroValue225
 g1:=by kernel_rfl }
open Go.RowKit Go.Lib in
theorem Tryz.strings_Count_one (s:ByteArray) (c:UInt8) (w:World) :
  Calls Tryz.prog 121 #[.string s,.string ⟨#[c]⟩] w fun e w'=>e = .returned (.int .i64 (Lib.countByte s.data.toList c))∧w'=w:=Any.strings_Count_one Tryz.lays138 s c w
def Tryz.lays99_ren:Go.Shelf.Ren:=⟨fun | 99=>70 | 206=>97 | n=>n,fun | 9=>9 | 4=>4 | 3=>3 | n=>n,fun | n=>n⟩
theorem Tryz.lays99:Go.Proofs.Lays.n99 Tryz.prog Tryz.lays99_ren:={
 mixed:=by kernel_rfl
 f99:=Tryz.func70.trans (congrArg some (by kernel_rfl))
 f206:=Tryz.func97.trans (congrArg some (by kernel_rfl))
 t3:=Tryz.underlying3
 a3:=Tryz.isAgg3
 z3:=Tryz.sizeOf3
 v3:=Tryz.zeroValue3
 t4:=Tryz.underlying4
 a4:=Tryz.isAgg4
 z4:=Tryz.sizeOf4
 v4:=Tryz.zeroValue4
 t9:=Tryz.underlying9
 a9:=Tryz.isAgg9
 z9:=Tryz.sizeOf9
 v9:=Tryz.zeroValue9 }
open Go.RowKit Go.Lib in
theorem Tryz.strings_HasPrefix (s p:ByteArray) (w:World) :
  Calls Tryz.prog 70 #[.string s,.string p] w fun e w'=>e = .returned (.bool (Lib.hasPrefix s.data.toList p.data.toList))∧w'=w:=Any.strings_HasPrefix Tryz.lays99 s p w
def Tryz.lays100_ren:Go.Shelf.Ren:=⟨fun | 100=>71 | 207=>98 | n=>n,fun | 9=>9 | 4=>4 | 3=>3 | n=>n,fun | n=>n⟩
theorem Tryz.lays100:Go.Proofs.Lays.n100 Tryz.prog Tryz.lays100_ren:={
 mixed:=by kernel_rfl
 f100:=Tryz.func71.trans (congrArg some (by kernel_rfl))
 f207:=Tryz.func98.trans (congrArg some (by kernel_rfl))
 t3:=Tryz.underlying3
 a3:=Tryz.isAgg3
 z3:=Tryz.sizeOf3
 v3:=Tryz.zeroValue3
 t4:=Tryz.underlying4
 a4:=Tryz.isAgg4
 z4:=Tryz.sizeOf4
 v4:=Tryz.zeroValue4
 t9:=Tryz.underlying9
 a9:=Tryz.isAgg9
 z9:=Tryz.sizeOf9
 v9:=Tryz.zeroValue9 }
open Go.RowKit Go.Lib in
theorem Tryz.strings_HasSuffix (s p:ByteArray) (w:World) (hs:s.size≤9223372036854775807) :
  Calls Tryz.prog 71 #[.string s,.string p] w fun e w'=>e = .returned (.bool (Lib.hasSuffix s.data.toList p.data.toList))∧w'=w:=Any.strings_HasSuffix Tryz.lays100 s p w hs
def Tryz.lays102_ren:Go.Shelf.Ren:=⟨fun | 102=>79 | 209=>105 | 207=>98 | n=>n,fun | 9=>9 | 4=>4 | 3=>3 | n=>n,fun | n=>n⟩
theorem Tryz.lays102:Go.Proofs.Lays.n102 Tryz.prog Tryz.lays102_ren:={
 mixed:=by kernel_rfl
 f102:=Tryz.func79.trans (congrArg some (by kernel_rfl))
 f207:=Tryz.func98.trans (congrArg some (by kernel_rfl))
 f209:=Tryz.func105.trans (congrArg some (by kernel_rfl))
 t3:=Tryz.underlying3
 a3:=Tryz.isAgg3
 z3:=Tryz.sizeOf3
 v3:=Tryz.zeroValue3
 t4:=Tryz.underlying4
 a4:=Tryz.isAgg4
 z4:=Tryz.sizeOf4
 v4:=Tryz.zeroValue4
 t9:=Tryz.underlying9
 a9:=Tryz.isAgg9
 z9:=Tryz.sizeOf9
 v9:=Tryz.zeroValue9 }
open Go.RowKit Go.Lib in
theorem Tryz.strings_TrimSuffix (s p:ByteArray) (w:World) (hs:s.size≤9223372036854775807) :
  Calls Tryz.prog 79 #[.string s,.string p] w fun e w'=>e = .returned (.string ⟨(Lib.trimSuffix s.data.toList p.data.toList).toArray⟩)∧w'=w:=Any.strings_TrimSuffix Tryz.lays102 s p w hs
def Tryz.lays151_ren:Go.Shelf.Ren:=⟨fun | 151=>75 | 152=>101 | 137=>95 | 119=>114 | 224=>115 | 225=>116 | 217=>111 | 266=>132 | n=>n,fun | 9=>9 | 21=>21 | 4=>4 | 3=>3 | 5=>5 | 0=>0 | 46=>118 | n=>n,fun | n=>n⟩
theorem Tryz.lays151:Go.Proofs.Lays.n151 Tryz.prog Tryz.lays151_ren:={
 mixed:=by kernel_rfl
 f119:=Tryz.func114.trans (congrArg some (by kernel_rfl))
 f137:=Tryz.func95.trans (congrArg some (by kernel_rfl))
 f151:=Tryz.func75.trans (congrArg some (by kernel_rfl))
 f152:=Tryz.func101.trans (congrArg some (by kernel_rfl))
 f217:=Tryz.func111.trans (congrArg some (by kernel_rfl))
 f224:=Tryz.func115.trans (congrArg some (by kernel_rfl))
 f225:=Tryz.func116.trans (congrArg some (by kernel_rfl))
 f266:=Tryz.func132.trans (congrArg some (by kernel_rfl))
 t0:=Tryz.underlying0
 a0:=Tryz.isAgg0
 z0:=Tryz.sizeOf0
 v0:=Tryz.zeroValue0
 t3:=Tryz.underlying3
 a3:=Tryz.isAgg3
 z3:=Tryz.sizeOf3
 v3:=Tryz.zeroValue3
 t4:=Tryz.underlying4
 a4:=Tryz.isAgg4
 z4:=Tryz.sizeOf4
 v4:=Tryz.zeroValue4
 t5:=Tryz.underlying5
 a5:=Tryz.isAgg5
 z5:=Tryz.sizeOf5
 v5:=Tryz.zeroValue5
 t9:=Tryz.underlying9
 a9:=Tryz.isAgg9
 z9:=Tryz.sizeOf9
 v9:=Tryz.zeroValue9
 t21:=Tryz.underlying21
 a21:=Tryz.isAgg21
 z21:=Tryz.sizeOf21
 v21:=Tryz.zeroValue21
 t46:=Tryz.underlying118
 a46:=Tryz.isAgg118
 z46:=Tryz.sizeOf118
 v46:=Tryz.zeroValue118 }
open Go.RowKit Go.Lib in
theorem Tryz.strings_ContainsRune_ascii (s:ByteArray) (r:Int) (w:World) (h0:0≤r) (h1:r<128) :
  Calls Tryz.prog 75 #[.string s,.int .i32 r] w fun e w'=>e = .returned (.bool (decide (0≤Lib.indexByte s.data.toList r.toNat.toUInt8)))∧w'=w:=Any.strings_ContainsRune_ascii Tryz.lays151 s r w h0 h1
end Go.Proofs
namespace Go.Proofs.YtnikbdnebdmmiaaGreatDoor
section
open Go.RowKit
variable [AyT]
theorem ASy (b:UInt8):Azg Tryz.prog 135 [by8 b] (fun r=>r = .val (.int .u8 ((b.toNat ||| 32:Nat):Int))):=by
 refine AyJ.toPureV (AGh (by simp) ?_)
 have hb:=b.toNat_lt
 simp -dsimp (disch:=first | assumption | omega | (simp only [AyC];try omega)) only [↓AyG,AyB,AyE,AyF,eq_self,↓reduceIte,reduceCtorEq,↓AHa,Bb5]
class AyO [AyT]:Prop where
 k:∃ t a,ACP 3=some (.one (.iface t (.pointer (some a))))
class AyQ [AyT]:Prop where
 k:∃ t a,ACP 4=some (.one (.iface t (.pointer (some a))))
theorem AVf {F:Nat→Prop} {w:World} (h:ADO F w) {g:Nat} {v:Value} (e:ACP g=some (.one v)):w.cell? ⟨g,0,none⟩=some v:=by
 have:=h.at e 0 v rfl
 simpa using this
variable [AyO] [AyQ]
theorem A9u (fn s:List UInt8) (base bits:Int) (hs:s.length≤1000000) (c:Nat) (hc:c=1∨c=2):Azg Tryz.prog 108 [ts fn,ts s,i64 base,i64 bits,.ifc 207 (i64 (c:Int))] (fun r=>r = .ifc 210 .any):=by
 intro β F w vs hF hv
 obtain ⟨v1,us,rfl,h1,hv⟩:=Azi.cons.1 hv
 obtain ⟨v2,us,rfl,h2,hv⟩:=Azi.cons.1 hv
 obtain ⟨v3,us,rfl,h3,hv⟩:=Azi.cons.1 hv
 obtain ⟨v4,us,rfl,h4,hv⟩:=Azi.cons.1 hv
 obtain ⟨v5,us,rfl,h5,hv⟩:=Azi.cons.1 hv
 rw [Azi.nil] at hv; subst hv
 obtain rfl:=Rep.val.1 (Or.inl h1:Rep _ _ _ _)
 obtain rfl:=Rep.val.1 (Or.inl h2:Rep _ _ _ _)
 obtain rfl:=Rep.val.1 (Or.inl h3:Rep _ _ _ _)
 obtain rfl:=Rep.val.1 (Or.inl h4:Rep _ _ _ _)
 have e5:v5 = .iface 207 (.int .i64 (c:Int)):=by
  rcases h5 with h5 | h5 | ⟨us,h5,rfl⟩
  ·cases h5
  ·cases h5
  ·rw [AyH] at h5
   obtain ⟨u,rfl,vs,h6,rfl⟩:=h5
   rw [AyH] at h6
   rw [h6.1]; rfl
 subst e5
 have hsz:(str s).size≤281474976710656:=by simp [str,ByteArray.size]; omega
 have fin:∀ e w',(∃ N,e=Ending.returned (.iface 210 (.pointer (some ⟨N,0,none⟩)))∧Below w.heap.size w w')→∃ v x F',e = .returned v∧x = .ifc 210 .any∧Rep ⟨β,[],F'⟩ w' x v∧AIV F w F' w':=by
  rintro e w' ⟨N,rfl,hb⟩
  refine ⟨_,_,F,rfl,rfl,Rep.of_cells (us:=[.iface 210 (.pointer (some ⟨N,0,none⟩))]) ?_,⟨hb.os,hb.tape,hb.output,hb.size,hb.block,fun _ h=>h,fun _ _ h=>h,fun b hb'=>Nat.lt_of_lt_of_le (hF.1 b hb') hb.size⟩⟩
  rw [AyH]
  refine ⟨_,rfl,[.pointer (some ⟨N,0,none⟩)],?_,rfl⟩
  rw [AyH]
  exact ⟨_,rfl,rfl⟩
 rcases hc with rfl | rfl
 ·obtain ⟨t,a,hk⟩:=AyQ.k
  refine (Tryz.strconv_toError_range (str fn) (str s) base bits _ w hsz (AVf hF.2 hk) (.inr ⟨_,_,rfl⟩)).mono ?_
  rintro e w' ⟨N,rfl,_,_,hb⟩
  exact fin _ _ ⟨N,rfl,hb⟩
 ·obtain ⟨t,a,hk⟩:=AyO.k
  refine (Tryz.strconv_toError_syntax (str fn) (str s) base bits _ w hsz (AVf hF.2 hk) (.inr ⟨_,_,rfl⟩)).mono ?_
  rintro e w' ⟨N,rfl,_,_,hb⟩
  exact fin _ _ ⟨N,rfl,hb⟩
end
section
open Go.RowKit
variable [AyT]
def xv (b:UInt8):Nat:=if 48≤b.toNat∧b.toNat≤57 then b.toNat - 48 else if 97≤b.toNat ||| 32∧b.toNat ||| 32≤102 then (b.toNat ||| 32) - 97+10 else 16
def AUE:Nat→List UInt8→Nat
 | n,[]=>n
 | n,b::l=>AUE (n*16+xv b) l
theorem ATg:∀ (l m:List UInt8) (n:Nat),AUE n (l++m)=AUE (AUE n l) m
 | [],_,_=>rfl
 | b::l,m,n=>ATg l m _
theorem AYU:∀ (l:List UInt8) (n:Nat),n≤AUE n l
 | [],n=>Nat.le_refl _
 | b::l,n=>Nat.le_trans (by omega) (AYU l _)
def isX (b:UInt8):Bool:=decide (xv b<16)
def pX (s:List UInt8):Option Nat:=if s≠[]∧s.all isX∧AUE 0 s<65536 then some (AUE 0 s) else none
def AV8 (s:List UInt8) (r:TV):Prop:=(∀ n,pX s=some n→r = .tup [.val (.int .u64 (n:Int)),.val .nilIface])∧(pX s=none→∃ m c:Nat,m≤65535∧(c=1∨c=2)∧r = .tup [.val (.int .u64 (m:Int)),.ifc 207 (i64 (c:Int))])
theorem AV8.no {s:List UInt8} (h:pX s=none) {m c:Nat} (hc:c=1∨c=2) (hm:m≤65535):AV8 s (.tup [.val (.int .u64 (m:Int)),.ifc 207 (i64 (c:Int))]) :=
 ⟨fun n hn=>(by rw [h] at hn; cases hn),fun _=>⟨m,c,hm,hc,rfl⟩⟩
theorem AV8.yes {s:List UInt8} {n:Nat} (h:pX s=some n):AV8 s (.tup [.val (.int .u64 (n:Int)),.val .nilIface]) :=
 ⟨fun m hm=>(by rw [h] at hm; cases hm; rfl),fun hn=>(by rw [h] at hn; cases hn)⟩
theorem ASd {s:List UInt8} {i:Nat} {b:UInt8} (h:s[i]?=some b) (hb:16≤xv b):pX s=none:=by
 unfold pX
 rw [if_neg]
 rintro ⟨_,h2,_⟩
 have:=List.all_eq_true.1 h2 b (List.mem_of_getElem? h)
 unfold isX at this
 simp at this; omega
theorem A9x {s:List UInt8} {i:Nat} (h:65536≤AUE 0 (s.take i)):pX s=none:=by
 unfold pX
 rw [if_neg]
 rintro ⟨_,_,h3⟩
 have:AUE 0 s=AUE (AUE 0 (s.take i)) (s.drop i):=by rw [←ATg,List.take_append_drop]
 have h4:=AYU (s.drop i) (AUE 0 (s.take i))
 omega
abbrev A7j (n:Nat):TV := .val (.int .u64 (n:Int))
abbrev pxE (s:List UInt8) (n i:Nat):Env:=[(1,i64 ((16:Nat):Int)),(8,tb false),(9,ts s),(10,A7j 1152921504606846976),(11,A7j 65535),(12,tb false),(13,A7j n),(99,.os 1 0 0 [] 0 s.length s.length),(100,i64 (s.length:Int)),(101,i64 (i:Int))]
theorem AZX {s:List UInt8} {i n d:Nat} {H:List Ob} {Q:VEx→Env→List Ob→Prop} (hn:n<65536) (hd:d<256)
  (hE:∀ m c:Nat,m≤65535→(c=1∨c=2)→(16≤d∨65536≤n*16+d)→Q .ret [(6,A7j m),(7,.ifc 207 (i64 (c:Int)))] H)
  (hN:d<16→n*16+d<65536→Q .nor (pxE s (n*16+d) i) H) :
  vwp Tryz.prog AzC Q [(1,i64 ((16:Nat):Int)),(8,tb false),(9,ts s),(10,A7j 1152921504606846976),(11,A7j 65535),(12,tb false),(13,A7j n),(16,.val (.int .u8 (d:Int))),(99,.os 1 0 0 [] 0 s.length s.length),(100,i64 (s.length:Int)),(101,i64 (i:Int))] H:=by
 have hw8:IntKind.u8.wrap ((16:Nat):Int)=((16:Nat):Int):=by decide
 have hw8':IntKind.u64.wrap ((16:Nat):Int)=((16:Nat):Int):=by decide
 by_cases h16:16≤d
 ·simp -dsimp (disch:=first | assumption | omega | (simp only [AyC];try omega)) only [↓AyG,AyB,AyE,AyF,eq_self,Nat.reduceEqDiff,↓reduceIte,↓Azu,hw8]
  exact hE 0 2 (by omega) (.inr rfl) (.inl h16)
 have hwd:IntKind.u64.wrap ((d:Nat):Int)=((d:Nat):Int):=AOe (by omega)
 have hn8:n*16<18446744073709551616:=by omega
 have hadd:∀ t,AAL t .add (.int .u64 ((n*16:Nat):Int)) (.int .u64 ((d:Nat):Int))=some (.int .u64 ((n*16+d:Nat):Int)):=fun t=>by
  rw [show AAL t .add (.int .u64 ((n*16:Nat):Int)) (.int .u64 ((d:Nat):Int))=some (.int .u64 (IntKind.u64.wrap (((n*16:Nat):Int)+((d:Nat):Int)))) from rfl,IntKind.wrap_u64]
  congr 2
  omega
 by_cases hbig:65536≤n*16+d
 ·simp -dsimp (disch:=first | assumption | omega | (simp only [AyC];try omega)) only [↓AyG,AyB,AyE,AyF,eq_self,Nat.reduceEqDiff,↓reduceIte,↓Azu,hw8,↓AzU,↓AzX,↓AzW,↓AzT,hw8',AW5,hwd,hadd]
  exact hE 65535 1 (by omega) (.inl rfl) (.inr hbig)
 ·simp -dsimp (disch:=first | assumption | omega | (simp only [AyC];try omega)) only [↓AyG,AyB,AyE,AyF,eq_self,Nat.reduceEqDiff,↓reduceIte,↓Azu,hw8,↓AzU,↓AzX,↓AzW,↓AzT,hw8',AW5,hwd,hadd]
  exact hN (by omega) (by omega)
theorem A8m (s:List UInt8) (hs:s.length≤1000000):Azg Tryz.prog 119 [ts s,i64 ((16:Nat):Int),i64 ((16:Nat):Int)] (AV8 s):=by
 refine AyJ.toPureV (AD2 (by simp) ?_)
 by_cases h0:s=[]
 ·subst h0
  have hn:pX []=none:=by unfold pX; simp
  simp -dsimp (disch:=first | assumption | omega | (simp only [AyC];try omega)) only [↓AyG,AyB,AyE,AyF,eq_self,Nat.reduceEqDiff,↓reduceIte,Nat.reduceAdd,reduceCtorEq,↓AAO,↓AzV,↓AyK]
  exact AV8.no hn (.inr rfl) (by omega)
 have hw1:IntKind.u64.wrap ((16:Nat):Int)=((16:Nat):Int):=AOe (by omega)
 simp -dsimp (disch:=first | assumption | omega | (simp only [AyC];try omega)) only [↓AyG,AyB,AyE,AyF,eq_self,Nat.reduceLT,Nat.reduceEqDiff,↓reduceIte,Nat.reduceAdd,reduceCtorEq,Nat.reduceLeDiff,↓AAO,↓AzV,h0,↓ABN,↓ABG,↓ABJ,↓ABO,↓ABS,↓ABT]
 simp -dsimp (disch:=first | assumption | omega | (simp only [AyC];try omega)) only [↓AyG,AyB,AyE,AyF,eq_self,Nat.reduceEqDiff,Nat.reduceSub,Nat.reduceMul,Nat.reducePow,↓reduceIte,reduceCtorEq,↓ABX,↓ABK,↓ABR,↓ABM,↓ABE,↓ABV,↓ABL,↓ABH,hw1,A2x,A3o,AyX]
 refine ABj (fun q e H=>∃ (i n:Nat),q=s.length - i∧i≤s.length∧(s.take i).all isX=true∧n=AUE 0 (s.take i)∧n<65536∧H=[.obj 0 (.arr s.length 1 (s.map by8))]∧e=pxE s n i) s.length ?_ ?_
 ·refine ⟨0,0,?_,Nat.zero_le _,?_,?_,?_,?_,?_⟩
  ·simp
  ·rw [List.take_zero]; rfl
  ·rw [List.take_zero]; rfl
  ·omega
  ·simp
  ·simp [forget,get]
 rintro q e H ⟨i,n,rfl,hi,hall,hn,hnl,rfl,rfl⟩
 by_cases c:i<s.length
 case neg =>
  have hi2:i=s.length:=by omega
  subst hi2
  rw [List.take_length] at hn hall
  have hyes:pX s=some n:=by unfold pX; rw [if_pos ⟨h0,hall,by rw [←hn]; exact hnl⟩,hn]
  simp -dsimp (disch:=first | assumption | omega | (simp only [AyC];try omega)) only [↓AyG,AyB,AyE,AyF,eq_self,Nat.reduceEqDiff,↓reduceIte,↓Ay0,↓AyZ,↓ABQ,↓AyK]
  exact AV8.yes hyes
 have hg:s[i]?=some s[i]:=List.getElem?_eq_getElem c
 have hsucc:=List.take_succ_eq_append_getElem c
 generalize s[i]=b at *
 have hb:=b.toNat_lt
 have hnum:AUE 0 (s.take (i+1))=n*16+xv b:=by rw [hsucc,ATg,←hn]; rfl
 have hno:∀ d,(d<16→xv b=d)→(16≤d→16≤xv b)→16≤d∨65536≤n*16+d→pX s=none:=fun d h1 h2 h3=>by
  rcases Nat.lt_or_ge d 16 with h | h
  ·rcases h3 with h3 | h3
   ·omega
   ·exact A9x (s:=s) (i:=i+1) (by rw [hnum,h1 h]; exact h3)
  ·exact ASd hg (h2 h)
 have hnext:∀ d,xv b=d→d<16→n*16+d<65536→(s.take (i+1)).all isX=true∧n*16+d=AUE 0 (s.take (i+1)):=fun d h1 h2 h3=>by
  refine ⟨?_,by rw [hnum,h1]⟩
  rw [hsucc,List.all_append,hall]
  simp [isX,h1,h2]
 by_cases hd:48≤b.toNat∧b.toNat≤57
 ·have hx:xv b=b.toNat - 48:=by unfold xv; rw [if_pos hd]
  have h95:¬ b.toNat=95:=by omega
  obtain ⟨hd1,hd2⟩:=hd
  simp -dsimp (disch:=first | assumption | omega | (simp only [AyC];try omega)) only [↓AyG,AyB,AyE,AyF,eq_self,Nat.reduceEqDiff,↓reduceIte,↓Ay0,↓AyZ,↓Azc,hg,↓Ay8,↓Aze,h95,↓Ay9,↓Azb,↓Aza,ASl]
  refine AZX hnl (by omega) (fun m c' h1 h2 h3 => ?_) (fun h1 h2 => ?_)
  ·simp -dsimp (disch:=first | assumption | omega | (simp only [AyC];try omega)) only [↓AyG,AyB,AyE,AyF,eq_self,Nat.reduceEqDiff,↓reduceIte,↓AyK]
   exact AV8.no (hno _ (fun _=>hx) (fun h=>by omega) h3) h2 h1
  ·obtain ⟨g1,g2⟩:=hnext _ hx h1 h2
   simp -dsimp (disch:=first | assumption | omega | (simp only [AyC];try omega)) only [↓AyG,AyB,AyE,AyF,eq_self,Nat.reduceEqDiff,↓reduceIte]
   exact AyW (s.length - (i+1)) (by omega) (by simp) ⟨i+1,n*16+(b.toNat - 48),rfl,by omega,g1,g2,h2,rfl,by simp [forget,get]⟩
 by_cases h95:b.toNat=95
 ·have hor:(b.toNat ||| 32)=127:=by rw [h95]; rfl
  have hb16:16≤xv b:=by unfold xv; rw [if_neg hd,if_neg (by rw [hor]; omega)]; omega
  simp -dsimp (disch:=first | assumption | omega | (simp only [AyC];try omega)) only [↓AyG,AyB,AyE,AyF,eq_self,Nat.reduceEqDiff,↓reduceIte,Nat.reduceLeDiff,↓Ay0,↓AyZ,↓Azc,hg,↓Ay8,↓Aze,h95,↓Ay9,↓Azb,↓Aza,↓Azt]
  refine (ASy b).calls rfl fun r hr => ?_
  subst hr
  rw [hor]
  simp -dsimp (disch:=first | assumption | omega | (simp only [AyC];try omega)) only [↓AyG,AyB,AyE,AyF,eq_self,Nat.reduceEqDiff,↓reduceIte,Nat.reduceLeDiff]
  refine (ASy b).calls rfl fun r hr => ?_
  subst hr
  rw [hor]
  simp -dsimp (disch:=first | assumption | omega | (simp only [AyC];try omega)) only [↓AyG,AyB,AyE,AyF,eq_self,Nat.reduceEqDiff,↓reduceIte,Nat.reduceLeDiff,↓AyK]
  exact AV8.no (ASd hg hb16) (.inr rfl) (by omega)
 have rest:∀ x,x=b.toNat ||| 32→97≤x→x≤122→(x - 97+10<16→xv b=x - 97+10)∧(16≤x - 97+10→16≤xv b):=fun x hx h1 h2=>by
  subst hx
  constructor
  ·intro h; unfold xv; rw [if_neg hd,if_pos ⟨h1,by omega⟩]
  ·intro h; unfold xv; rw [if_neg hd,if_neg (by omega)]; omega
 have lows:¬ 97≤b.toNat ||| 32∨¬ b.toNat ||| 32≤122→16≤xv b:=fun h=>by
  unfold xv; rw [if_neg hd,if_neg (by omega)]; omega
 by_cases c48:48≤b.toNat
 ·have c57:¬ b.toNat≤57:=by omega
  simp -dsimp (disch:=first | assumption | omega | (simp only [AyC];try omega)) only [↓AyG,AyB,AyE,AyF,eq_self,Nat.reduceEqDiff,↓reduceIte,↓Ay0,↓AyZ,↓Azc,hg,↓Ay8,↓Aze,h95,↓Ay9,↓Azb,↓Aza,↓Azt]
  refine (ASy b).calls rfl fun r hr => ?_
  subst hr
  have hlw:=ASy b
  generalize hxx:b.toNat ||| 32=x at *
  by_cases c97:97≤x
  ·simp -dsimp (disch:=first | assumption | omega | (simp only [AyC];try omega)) only [↓AyG,AyB,AyE,AyF,eq_self,Nat.reduceEqDiff,↓reduceIte]
   refine hlw.calls rfl fun r hr => ?_
   subst hr
   by_cases c122:x≤122
   ·obtain ⟨r1,r2⟩:=rest x rfl c97 c122
    have hmod:(x - 97+10) % 256=x - 97+10:=Nat.mod_eq_of_lt (by omega)
    simp -dsimp (disch:=first | assumption | omega | (simp only [AyC];try omega)) only [↓AyG,AyB,AyE,AyF,eq_self,Nat.reduceEqDiff,↓reduceIte]
    refine hlw.calls rfl fun r hr => ?_
    subst hr
    simp -dsimp (disch:=first | assumption | omega | (simp only [AyC];try omega)) only [↓AyG,AyB,AyE,AyF,eq_self,Nat.reduceEqDiff,↓reduceIte,ASl,ASv,hmod]
    refine AZX hnl (by omega) (fun m c' h1 h2 h3 => ?_) (fun h1 h2 => ?_)
    ·simp -dsimp (disch:=first | assumption | omega | (simp only [AyC];try omega)) only [↓AyG,AyB,AyE,AyF,eq_self,Nat.reduceEqDiff,↓reduceIte,↓AyK]
     exact AV8.no (hno _ r1 r2 h3) h2 h1
    ·obtain ⟨g1,g2⟩:=hnext _ (r1 h1) h1 h2
     simp -dsimp (disch:=first | assumption | omega | (simp only [AyC];try omega)) only [↓AyG,AyB,AyE,AyF,eq_self,Nat.reduceEqDiff,↓reduceIte]
     exact AyW (s.length - (i+1)) (by omega) (by simp) ⟨i+1,_,rfl,by omega,g1,g2,h2,rfl,by simp [forget,get]⟩
   ·simp -dsimp (disch:=first | assumption | omega | (simp only [AyC];try omega)) only [↓AyG,AyB,AyE,AyF,eq_self,Nat.reduceEqDiff,↓reduceIte,↓AyK]
    exact AV8.no (ASd hg (lows (.inr c122))) (.inr rfl) (by omega)
  ·simp -dsimp (disch:=first | assumption | omega | (simp only [AyC];try omega)) only [↓AyG,AyB,AyE,AyF,eq_self,Nat.reduceEqDiff,↓reduceIte,↓AyK]
   exact AV8.no (ASd hg (lows (.inl c97))) (.inr rfl) (by omega)
 ·simp -dsimp (disch:=first | assumption | omega | (simp only [AyC];try omega)) only [↓AyG,AyB,AyE,AyF,eq_self,Nat.reduceEqDiff,↓reduceIte,↓Ay0,↓AyZ,↓Azc,hg,↓Ay8,↓Aze,h95,↓Ay9,↓Azb,↓Aza,↓Azt]
  refine (ASy b).calls rfl fun r hr => ?_
  subst hr
  have hlw:=ASy b
  generalize hxx:b.toNat ||| 32=x at *
  by_cases c97:97≤x
  ·simp -dsimp (disch:=first | assumption | omega | (simp only [AyC];try omega)) only [↓AyG,AyB,AyE,AyF,eq_self,Nat.reduceEqDiff,↓reduceIte]
   refine hlw.calls rfl fun r hr => ?_
   subst hr
   by_cases c122:x≤122
   ·obtain ⟨r1,r2⟩:=rest x rfl c97 c122
    have hmod:(x - 97+10) % 256=x - 97+10:=Nat.mod_eq_of_lt (by omega)
    simp -dsimp (disch:=first | assumption | omega | (simp only [AyC];try omega)) only [↓AyG,AyB,AyE,AyF,eq_self,Nat.reduceEqDiff,↓reduceIte]
    refine hlw.calls rfl fun r hr => ?_
    subst hr
    simp -dsimp (disch:=first | assumption | omega | (simp only [AyC];try omega)) only [↓AyG,AyB,AyE,AyF,eq_self,Nat.reduceEqDiff,↓reduceIte,ASl,ASv,hmod]
    refine AZX hnl (by omega) (fun m c' h1 h2 h3 => ?_) (fun h1 h2 => ?_)
    ·simp -dsimp (disch:=first | assumption | omega | (simp only [AyC];try omega)) only [↓AyG,AyB,AyE,AyF,eq_self,Nat.reduceEqDiff,↓reduceIte,↓AyK]
     exact AV8.no (hno _ r1 r2 h3) h2 h1
    ·obtain ⟨g1,g2⟩:=hnext _ (r1 h1) h1 h2
     simp -dsimp (disch:=first | assumption | omega | (simp only [AyC];try omega)) only [↓AyG,AyB,AyE,AyF,eq_self,Nat.reduceEqDiff,↓reduceIte]
     exact AyW (s.length - (i+1)) (by omega) (by simp) ⟨i+1,_,rfl,by omega,g1,g2,h2,rfl,by simp [forget,get]⟩
   ·simp -dsimp (disch:=first | assumption | omega | (simp only [AyC];try omega)) only [↓AyG,AyB,AyE,AyF,eq_self,Nat.reduceEqDiff,↓reduceIte,↓AyK]
    exact AV8.no (ASd hg (lows (.inr c122))) (.inr rfl) (by omega)
  ·simp -dsimp (disch:=first | assumption | omega | (simp only [AyC];try omega)) only [↓AyG,AyB,AyE,AyF,eq_self,Nat.reduceEqDiff,↓reduceIte,↓AyK]
   exact AV8.no (ASd hg (lows (.inl c97))) (.inr rfl) (by omega)
variable [AyO] [AyQ]
theorem AWj (s:List UInt8) (hs:s.length≤1000000):Azg Tryz.prog 103 [ts s,i64 ((16:Nat):Int),i64 ((16:Nat):Int)] (fun r=>(∀ n,pX s=some n→r = .tup [.val (.int .u64 (n:Int)),.val .nilIface])∧(pX s=none→∃ m:Nat,m≤65535∧r = .tup [.val (.int .u64 (m:Int)),.ifc 210 .any])):=by
 refine AyJ.toPureV (ALa (by simp) ?_)
 simp -dsimp (disch:=first | assumption | omega | (simp only [AyC];try omega)) only [↓AyG,AyB,AyE,AyF,eq_self,Nat.reduceEqDiff,↓reduceIte,Nat.reduceAdd,reduceCtorEq,↓AAU]
 refine (A8m s hs).calls rfl fun r hr => ?_
 cases hp:pX s with
 | some n =>
  rw [hr.1 n hp]
  simp -dsimp (disch:=first | assumption | omega | (simp only [AyC];try omega)) only [↓AyG,AyB,AyE,AyF,eq_self,Nat.reduceEqDiff,↓reduceIte,reduceCtorEq,↓AAU]
  exact ⟨fun m hm=>(by cases hm; rfl),fun h=>(by cases h)⟩
 | none =>
  obtain ⟨m,c,hm,hc,rfl⟩:=hr.2 hp
  simp -dsimp (disch:=first | assumption | omega | (simp only [AyC];try omega)) only [↓AyG,AyB,AyE,AyF,eq_self,Nat.reduceEqDiff,↓reduceIte,reduceCtorEq,↓AAU]
  refine (A9u _ s _ _ hs c hc).calls rfl fun r hr => ?_
  subst hr
  simp -dsimp (disch:=first | assumption | omega | (simp only [AyC];try omega)) only [↓AyG,AyB,AyE,AyF,eq_self,forall_const,Nat.reduceEqDiff,↓reduceIte,reduceCtorEq,↓AAU]
  exact ⟨fun n h=>h.elim,m,hm,rfl⟩
end
section
variable [AyT]
set_option maxRecDepth 100000
def AJN:AyD := .seq (.ops [po_ 8 (.bin 3 .lss (.t 7) (ci_ 20))] [3,6,7,8])
 (.seq (.cond (.t 8)
 (.skip)
 (.exit 0))
 (.seq (.block 1 (.seq (.ops [po_ 9 (.idx false 20 1 (.t 6) (.t 7)),mv_ 5 9] [3,5,6,7])
 (.seq (.ops [mv_ 10 5,po_ 11 (.bin 5 .shr (.t 10) (.c (.int .u64 ((4:Nat):Int)))),po_ 12 (.idxS (.c (.string (str [48,49,50,51,52,53,54,55,56,57,97,98,99,100,101,102]))) (.t 11)),so_ 13 (.call 56 [.t 3,.t 12])] [3,5,6,7])
 (.ops [mv_ 14 5,po_ 15 (.bin 5 .and (.t 14) (.c (.int .u8 ((15:Nat):Int)))),po_ 16 (.idxS (.c (.string (str [48,49,50,51,52,53,54,55,56,57,97,98,99,100,101,102]))) (.t 15)),so_ 17 (.call 56 [.t 3,.t 16])] [3,6,7]))))
 (.ops [po_ 18 (.bin 3 .add (.t 7) (ci_ 1)),mv_ 7 18] [3,6,7])))
def AKn:AyD := .block 0 (.ownT 3 [(1,1)] 5 (.loop [3,6,7] AJN))
def AJM:AyD := .seq (.ops [so_ 19 (.bstr 57 (.t 3)),mv_ 2 19] [2])
 (.ret)
def AJx:AyD := .seq (.seq (.ops [po_ 6 (.load true 20 (.t 1)),po_ 7 (.mov (ci_ 0))] [3,6,7])
 AKn)
 AJM
def AJi:AyD := .seq (.ops [so_ 3 (.allocT (.agg [.val (.pointer none),.val (.slice none 0 0)]) 116)] [1,3])
 AJx
def APA:AyD := .seq (.ops [so_ 1 (.box (.t 0)),po_ 2 (.mov (.c (.string (str []))))] [1])
 AJi
def APu:List VR:=[.tmp 2]
theorem AUn:Tryz.f30.body.bind (trC Tryz.prog Tryz.f30.ntmps)=some (er APA):=by kernel_rfl
theorem AUc:trR Tryz.prog Tryz.f30.results.toList=some APu:=by kernel_rfl
def APa:=AyA AJN.eq_1
def AOP:=AyA AKn.eq_1
def AOh:=AyA AJM.eq_1
def AO8:=AyA AJx.eq_1
def AOk:=AyA AJi.eq_1
def ARI:=AyA APA.eq_1
theorem ARW {K:TV→Prop} {e:Env} {H:List Ob}:res APu e H K=res [.tmp 2] e H K:=Ayz rfl
def AKb:=(aI_ (aI_ (aI_ @APa @AOP) (aI_ @AOh @AO8)) (aI_ (aI_ @AOk @ARI) @ARW))
def ATv:=AzJ 20 Tryz.func30 AUn AUc rfl
def ANI:AyD := .seq (.block 1 (.draw 10 [mv_ 9 3,mv_ 10 4,po_ 11 (.idxAA 20 1 (.t 1) (.t 10)),po_ 12 (.load false 1 (.t 11)),po_ 13 (.bin 5 .quo (.t 12) (.c (.int .u8 ((16:Nat):Int)))),so_ 14 (.call 59 [.t 13]),mv_ 15 4,po_ 16 (.idxAA 20 1 (.t 1) (.t 15)),po_ 17 (.load false 1 (.t 16)),po_ 18 (.bin 5 .rem (.t 17) (.c (.int .u8 ((16:Nat):Int)))),so_ 19 (.call 59 [.t 18]),⟨some 20,.s (.bslice 1 2 (.val (.int .u8 ((0:Nat):Int))) [⟨0,.t 14⟩,⟨1,.t 19⟩]),none⟩,so_ 21 (.app 1 1 5 (.t 9) (.t 20)),mv_ 3 21] [1,3,4]))
 (.ops [mv_ 7 4,po_ 8 (.bin 3 .add (.t 7) (ci_ 1)),mv_ 4 8] [1,3,4])
def AMW:AyD := .seq (.seq (.ops [mv_ 5 4,po_ 6 (.bin 3 .lss (.t 5) (ci_ 20))] [1,3,4,6])
 (.cond (.t 6)
 (.skip)
 (.exit 0)))
 ANI
def AMC:AyD := .block 0 (.own 3 1 (.loop [1,3,4] AMW))
def ANp:AyD := .seq (.ops [mv_ 22 3,po_ 23 (.b2s (.t 22)),mv_ 2 23] [2])
 (.ret)
def ANc:AyD := .seq (.seq (.ops [po_ 4 (.mov (ci_ 0))] [1,3,4])
 AMC)
 ANp
def ANh:AyD := .seq (.ops [po_ 3 (.mov (.c (.slice none 0 0)))] [1,3])
 ANc
def ASn:AyD := .seq (.ops [so_ 1 (.box (.t 0)),po_ 2 (.mov (.c (.string (str []))))] [1])
 ANh
def ASe:List VR:=[.tmp 2]
theorem AXV:Tryz.f35.body.bind (trC Tryz.prog Tryz.f35.ntmps)=some (er ASn):=by kernel_rfl
theorem AXQ:trR Tryz.prog Tryz.f35.results.toList=some ASe:=by kernel_rfl
def ARp:=AyA ANI.eq_1
def AQw:=AyA AMW.eq_1
def AQn:=AyA AMC.eq_1
def ARn:=AyA ANp.eq_1
def AQW:=AyA ANc.eq_1
def AQ0:=AyA ANh.eq_1
def AUZ:=AyA ASn.eq_1
theorem AVx {K:TV→Prop} {e:Env} {H:List Ob}:res ASe e H K=res [.tmp 2] e H K:=Ayz rfl
def AOl:=(aI_ (aI_ (aI_ @ARp @AQw) (aI_ @AQn @ARn)) (aI_ (aI_ @AQW @AQ0) (aI_ @AUZ @AVx)))
def AWw:=AzJ 24 Tryz.func35 AXV AXQ rfl
def APy:AyD := .seq (.ops [po_ 2 (.mov (.c (.int .u8 ((0:Nat):Int))))] [0])
 (.seq (.seq (.ops [mv_ 3 0,po_ 4 (.bin 5 .lss (.t 3) (.c (.int .u8 ((10:Nat):Int))))] [0,4])
 (.cond (.t 4)
 (.seq (.ops [mv_ 5 0,po_ 6 (.bin 5 .add (.c (.int .u8 ((48:Nat):Int))) (.t 5)),mv_ 2 6] [2])
  (.ret))
 (.skip)))
 (.seq (.ops [mv_ 7 0,po_ 8 (.bin 5 .add (.c (.int .u8 ((97:Nat):Int))) (.t 7)),po_ 9 (.bin 5 .sub (.t 8) (.c (.int .u8 ((10:Nat):Int)))),mv_ 2 9] [2])
 (.ret)))
def APo:List VR:=[.tmp 2]
theorem AUo:Tryz.f59.body.bind (trC Tryz.prog Tryz.f59.ntmps)=some (er APy):=by kernel_rfl
theorem AUU:trR Tryz.prog Tryz.f59.results.toList=some APo:=by kernel_rfl
def ARA:=AyA APy.eq_1
theorem ARD {K:TV→Prop} {e:Env} {H:List Ob}:res APo e H K=res [.tmp 2] e H K:=Ayz rfl
def AJF:=(aI_ @ARA @ARD)
def ASP:=AzJ 10 Tryz.func59 AUo AUU rfl
def AHm:AyD := .seq (.seq (.ops [mv_ 27 6,po_ 28 (.bin 3 .lss (.t 27) (ci_ 0)),mv_ 29 28,⟨some 30,.p (.mov (.t 7)),some ⟨29,false⟩⟩,⟨some 31,.p (.bin 3 .lss (.t 30) (ci_ 0)),some ⟨29,false⟩⟩,po_ 32 (.pick (.t 29) (.c (.bool true)) (.t 31))] [0,2,4,5,6,7,13,32])
 (.cond (.t 32)
 (.seq (.ops [po_ 33 (.buildA 20 1 [.val (.int .u8 ((0:Nat):Int)),.val (.int .u8 ((0:Nat):Int)),.val (.int .u8 ((0:Nat):Int)),.val (.int .u8 ((0:Nat):Int)),.val (.int .u8 ((0:Nat):Int)),.val (.int .u8 ((0:Nat):Int)),.val (.int .u8 ((0:Nat):Int)),.val (.int .u8 ((0:Nat):Int)),.val (.int .u8 ((0:Nat):Int)),.val (.int .u8 ((0:Nat):Int)),.val (.int .u8 ((0:Nat):Int)),.val (.int .u8 ((0:Nat):Int)),.val (.int .u8 ((0:Nat):Int)),.val (.int .u8 ((0:Nat):Int)),.val (.int .u8 ((0:Nat):Int)),.val (.int .u8 ((0:Nat):Int)),.val (.int .u8 ((0:Nat):Int)),.val (.int .u8 ((0:Nat):Int)),.val (.int .u8 ((0:Nat):Int)),.val (.int .u8 ((0:Nat):Int))] []),po_ 34 (.iface 33 (ci_ 12)),⟨none,.s (.store 20 (.t 2) (.t 33)),none⟩,mv_ 3 34] [2,3])
  (.ret))
 (.skip)))
 (.ops [mv_ 35 5,mv_ 36 6,po_ 37 (.bin 3 .shl (.t 36) (.c (.int .u64 ((4:Nat):Int)))),mv_ 38 7,po_ 39 (.bin 3 .or (.t 37) (.t 38)),po_ 40 (.conv .u8 (.t 39)),po_ 41 (.idxAA 20 1 (.t 4) (.t 35)),⟨none,.s (.store 1 (.t 41) (.t 40)),none⟩] [0,2,4,13])
def AHA:AyD := .seq (.draw 10 [mv_ 16 0,mv_ 17 5,po_ 18 (.bin 3 .mul (ci_ 2) (.t 17)),po_ 19 (.idxS (.t 16) (.t 18)),so_ 20 (.call 95 [.c (.string (str [48,49,50,51,52,53,54,55,56,57,97,98,99,100,101,102])),.t 19]),mv_ 21 0,mv_ 22 5,po_ 23 (.bin 3 .mul (ci_ 2) (.t 22)),po_ 24 (.bin 3 .add (.t 23) (ci_ 1)),po_ 25 (.idxS (.t 21) (.t 24)),so_ 26 (.call 95 [.c (.string (str [48,49,50,51,52,53,54,55,56,57,97,98,99,100,101,102])),.t 25]),mv_ 6 20,mv_ 7 26] [0,2,4,5,6,7,13])
 AHm
def AHz:AyD := .seq (.block 1 (.seq (.ops [mv_ 15 13,mv_ 5 15] [0,2,4,5,13])
 AHA))
 (.ops [po_ 42 (.bin 3 .add (.t 13) (ci_ 1)),mv_ 13 42] [0,2,4,13])
def AG9:AyD := .seq (.cond (.t 14)
 (.skip)
 (.exit 0))
 AHz
def AHp:AyD := .seq (.ops [po_ 14 (.bin 3 .lss (.t 13) (ci_ 20))] [0,2,4,13,14])
 AG9
def AHD:AyD := .block 0 (.loop [0,2,4,13] AHp)
def AG8:AyD := .seq (.ops [po_ 43 (.load true 20 (.t 4)),⟨none,.s (.store 20 (.t 2) (.t 43)),none⟩,po_ 3 (.mov (.c .nilIface))] [2,3])
 (.ret)
def AGI:AyD := .seq (.seq (.ops [po_ 13 (.mov (ci_ 0))] [0,2,4,13])
 AHD)
 AG8
def AGR:AyD := .seq (.seq (.ops [mv_ 8 0,po_ 9 (.lenS (.t 8)),po_ 10 (.bin 3 .neq (.t 9) (ci_ 40))] [0,2,4,10])
 (.cond (.t 10)
 (.seq (.ops [po_ 11 (.load true 20 (.t 4)),po_ 12 (.iface 33 (ci_ 12)),⟨none,.s (.store 20 (.t 2) (.t 11)),none⟩,mv_ 3 12] [2,3])
  (.ret))
 (.skip)))
 AGI
def AFF:AyD := .seq (.ops [so_ 4 (.alloc (.arr 20 1 [.val (.int .u8 ((0:Nat):Int)),.val (.int .u8 ((0:Nat):Int)),.val (.int .u8 ((0:Nat):Int)),.val (.int .u8 ((0:Nat):Int)),.val (.int .u8 ((0:Nat):Int)),.val (.int .u8 ((0:Nat):Int)),.val (.int .u8 ((0:Nat):Int)),.val (.int .u8 ((0:Nat):Int)),.val (.int .u8 ((0:Nat):Int)),.val (.int .u8 ((0:Nat):Int)),.val (.int .u8 ((0:Nat):Int)),.val (.int .u8 ((0:Nat):Int)),.val (.int .u8 ((0:Nat):Int)),.val (.int .u8 ((0:Nat):Int)),.val (.int .u8 ((0:Nat):Int)),.val (.int .u8 ((0:Nat):Int)),.val (.int .u8 ((0:Nat):Int)),.val (.int .u8 ((0:Nat):Int)),.val (.int .u8 ((0:Nat):Int)),.val (.int .u8 ((0:Nat):Int))]))] [0,2,4])
 AGR
def ALH:AyD := .seq (.ops [so_ 2 (.alloc (.arr 20 1 [.val (.int .u8 ((0:Nat):Int)),.val (.int .u8 ((0:Nat):Int)),.val (.int .u8 ((0:Nat):Int)),.val (.int .u8 ((0:Nat):Int)),.val (.int .u8 ((0:Nat):Int)),.val (.int .u8 ((0:Nat):Int)),.val (.int .u8 ((0:Nat):Int)),.val (.int .u8 ((0:Nat):Int)),.val (.int .u8 ((0:Nat):Int)),.val (.int .u8 ((0:Nat):Int)),.val (.int .u8 ((0:Nat):Int)),.val (.int .u8 ((0:Nat):Int)),.val (.int .u8 ((0:Nat):Int)),.val (.int .u8 ((0:Nat):Int)),.val (.int .u8 ((0:Nat):Int)),.val (.int .u8 ((0:Nat):Int)),.val (.int .u8 ((0:Nat):Int)),.val (.int .u8 ((0:Nat):Int)),.val (.int .u8 ((0:Nat):Int)),.val (.int .u8 ((0:Nat):Int))])),po_ 3 (.mov (.c .nilIface))] [0,2])
 AFF
def ALI:List VR:=[.cell 2 true 20,.tmp 3]
theorem ARO:Tryz.f65.body.bind (trC Tryz.prog Tryz.f65.ntmps)=some (er ALH):=by kernel_rfl
theorem ARJ:trR Tryz.prog Tryz.f65.results.toList=some ALI:=by kernel_rfl
def ALU:=AyA AHm.eq_1
def ALZ:=AyA AHA.eq_1
def ALX:=AyA AHz.eq_1
def AMh:=AyA AG9.eq_1
def AMf:=AyA AHp.eq_1
def AL7:=AyA AHD.eq_1
def AL6:=AyA AG8.eq_1
def AL1:=AyA AGI.eq_1
def AL5:=AyA AGR.eq_1
def ALc:=AyA AFF.eq_1
def AQb:=AyA ALH.eq_1
theorem AP7 {K:TV→Prop} {e:Env} {H:List Ob}:res ALI e H K=res [.cell 2 true 20,.tmp 3] e H K:=Ayz rfl
def AA0:=(aI_ (aI_ (aI_ (aI_ @ALU @ALZ) (aI_ @ALX @AMh)) (aI_ (aI_ @AMf @AL7) (aI_ @AL6 @AL1))) (aI_ (aI_ @AL5 @ALc) (aI_ @AQb @AP7)))
def AQ9:=AzJ 44 Tryz.func65 ARO ARJ rfl
def AKu:AyD := .seq (.ops [mv_ 30 6,po_ 31 (.bin 5 .geq (.t 30) (.c (.int .u8 ((97:Nat):Int)))),mv_ 32 31,⟨some 33,.p (.mov (.t 6)),some ⟨32,true⟩⟩,⟨some 34,.p (.bin 5 .leq (.t 33) (.c (.int .u8 ((102:Nat):Int)))),some ⟨32,true⟩⟩,po_ 35 (.pick (.t 32) (.t 34) (.c (.bool false))),mv_ 29 35] [0,2,4,5,6,29])
 (.cond (.t 29)
 (.ops [mv_ 36 6,po_ 37 (.bin 5 .sub (.t 36) (.c (.int .u8 ((97:Nat):Int)))),po_ 38 (.bin 5 .add (.t 37) (.c (.int .u8 ((10:Nat):Int)))),mv_ 7 38] [0,2,4,5,7])
 (.seq (.ops [po_ 19 (.buildA 20 1 [.val (.int .u8 ((0:Nat):Int)),.val (.int .u8 ((0:Nat):Int)),.val (.int .u8 ((0:Nat):Int)),.val (.int .u8 ((0:Nat):Int)),.val (.int .u8 ((0:Nat):Int)),.val (.int .u8 ((0:Nat):Int)),.val (.int .u8 ((0:Nat):Int)),.val (.int .u8 ((0:Nat):Int)),.val (.int .u8 ((0:Nat):Int)),.val (.int .u8 ((0:Nat):Int)),.val (.int .u8 ((0:Nat):Int)),.val (.int .u8 ((0:Nat):Int)),.val (.int .u8 ((0:Nat):Int)),.val (.int .u8 ((0:Nat):Int)),.val (.int .u8 ((0:Nat):Int)),.val (.int .u8 ((0:Nat):Int)),.val (.int .u8 ((0:Nat):Int)),.val (.int .u8 ((0:Nat):Int)),.val (.int .u8 ((0:Nat):Int)),.val (.int .u8 ((0:Nat):Int))] []),⟨none,.s (.store 20 (.t 2) (.t 19)),none⟩,po_ 3 (.mov (.c (.bool false)))] [2,3])
  (.ret)))
def AJn:AyD := .cond (.t 20)
 (.ops [mv_ 27 6,po_ 28 (.bin 5 .sub (.t 27) (.c (.int .u8 ((48:Nat):Int)))),mv_ 7 28] [0,2,4,5,7])
 AKu
def AKv:AyD := .seq (.block 2 (.seq (.ops [mv_ 21 6,po_ 22 (.bin 5 .geq (.t 21) (.c (.int .u8 ((48:Nat):Int)))),mv_ 23 22,⟨some 24,.p (.mov (.t 6)),some ⟨23,true⟩⟩,⟨some 25,.p (.bin 5 .leq (.t 24) (.c (.int .u8 ((57:Nat):Int)))),some ⟨23,true⟩⟩,po_ 26 (.pick (.t 23) (.t 25) (.c (.bool false))),mv_ 20 26] [0,2,4,5,6,20])
 AJn))
 (.ops [mv_ 39 5,po_ 40 (.bin 3 .quo (.t 39) (ci_ 2)),mv_ 41 5,po_ 42 (.bin 3 .quo (.t 41) (ci_ 2)),po_ 43 (.idxAA 20 1 (.t 4) (.t 42)),po_ 44 (.load false 1 (.t 43)),po_ 45 (.bin 5 .mul (.t 44) (.c (.int .u8 ((16:Nat):Int)))),mv_ 46 7,po_ 47 (.bin 5 .add (.t 45) (.t 46)),po_ 48 (.idxAA 20 1 (.t 4) (.t 40)),⟨none,.s (.store 1 (.t 48) (.t 47)),none⟩] [0,2,4,5])
def AJk:AyD := .seq (.ops [po_ 7 (.mov (.c (.int .u8 ((0:Nat):Int))))] [0,2,4,5,6])
 AKv
def AJT:AyD := .seq (.block 1 (.seq (.ops [mv_ 16 0,mv_ 17 5,po_ 18 (.idxS (.t 16) (.t 17)),mv_ 6 18] [0,2,4,5,6])
 AJk))
 (.ops [mv_ 14 5,po_ 15 (.bin 3 .add (.t 14) (ci_ 1)),mv_ 5 15] [0,2,4,5])
def AJ3:AyD := .seq (.seq (.ops [mv_ 12 5,po_ 13 (.bin 3 .lss (.t 12) (ci_ 40))] [0,2,4,5,13])
 (.cond (.t 13)
 (.skip)
 (.exit 0)))
 AJT
def AJd:AyD := .block 0 (.loop [0,2,4,5] AJ3)
def AKi:AyD := .seq (.ops [po_ 49 (.load true 20 (.t 4)),⟨none,.s (.store 20 (.t 2) (.t 49)),none⟩,po_ 3 (.mov (.c (.bool true)))] [2,3])
 (.ret)
def AJI:AyD := .seq (.seq (.ops [po_ 5 (.mov (ci_ 0))] [0,2,4,5])
 AJd)
 AKi
def AIc:AyD := .seq (.seq (.ops [mv_ 8 0,po_ 9 (.lenS (.t 8)),po_ 10 (.bin 3 .neq (.t 9) (ci_ 40))] [0,2,4,10])
 (.cond (.t 10)
 (.seq (.ops [po_ 11 (.load true 20 (.t 4)),⟨none,.s (.store 20 (.t 2) (.t 11)),none⟩,po_ 3 (.mov (.c (.bool false)))] [2,3])
  (.ret))
 (.skip)))
 AJI
def AIM:AyD := .seq (.ops [so_ 4 (.alloc (.arr 20 1 [.val (.int .u8 ((0:Nat):Int)),.val (.int .u8 ((0:Nat):Int)),.val (.int .u8 ((0:Nat):Int)),.val (.int .u8 ((0:Nat):Int)),.val (.int .u8 ((0:Nat):Int)),.val (.int .u8 ((0:Nat):Int)),.val (.int .u8 ((0:Nat):Int)),.val (.int .u8 ((0:Nat):Int)),.val (.int .u8 ((0:Nat):Int)),.val (.int .u8 ((0:Nat):Int)),.val (.int .u8 ((0:Nat):Int)),.val (.int .u8 ((0:Nat):Int)),.val (.int .u8 ((0:Nat):Int)),.val (.int .u8 ((0:Nat):Int)),.val (.int .u8 ((0:Nat):Int)),.val (.int .u8 ((0:Nat):Int)),.val (.int .u8 ((0:Nat):Int)),.val (.int .u8 ((0:Nat):Int)),.val (.int .u8 ((0:Nat):Int)),.val (.int .u8 ((0:Nat):Int))]))] [0,2,4])
 AIc
def APs:AyD := .seq (.ops [so_ 2 (.alloc (.arr 20 1 [.val (.int .u8 ((0:Nat):Int)),.val (.int .u8 ((0:Nat):Int)),.val (.int .u8 ((0:Nat):Int)),.val (.int .u8 ((0:Nat):Int)),.val (.int .u8 ((0:Nat):Int)),.val (.int .u8 ((0:Nat):Int)),.val (.int .u8 ((0:Nat):Int)),.val (.int .u8 ((0:Nat):Int)),.val (.int .u8 ((0:Nat):Int)),.val (.int .u8 ((0:Nat):Int)),.val (.int .u8 ((0:Nat):Int)),.val (.int .u8 ((0:Nat):Int)),.val (.int .u8 ((0:Nat):Int)),.val (.int .u8 ((0:Nat):Int)),.val (.int .u8 ((0:Nat):Int)),.val (.int .u8 ((0:Nat):Int)),.val (.int .u8 ((0:Nat):Int)),.val (.int .u8 ((0:Nat):Int)),.val (.int .u8 ((0:Nat):Int)),.val (.int .u8 ((0:Nat):Int))])),po_ 3 (.mov (.c (.bool false)))] [0,2])
 AIM
def APc:List VR:=[.cell 2 true 20,.tmp 3]
theorem AUT:Tryz.f69.body.bind (trC Tryz.prog Tryz.f69.ntmps)=some (er APs):=by kernel_rfl
theorem AVb:trR Tryz.prog Tryz.f69.results.toList=some APc:=by kernel_rfl
def AO7:=AyA AKu.eq_1
def AOY:=AyA AJn.eq_1
def AOp:=AyA AKv.eq_1
def AO2:=AyA AJk.eq_1
def AOA:=AyA AJT.eq_1
def AOt:=AyA AJ3.eq_1
def AOT:=AyA AJd.eq_1
def AOJ:=AyA AKi.eq_1
def AOn:=AyA AJI.eq_1
def ANv:=AyA AIc.eq_1
def AMP:=AyA AIM.eq_1
def ARV:=AyA APs.eq_1
theorem ART {K:TV→Prop} {e:Env} {H:List Ob}:res APc e H K=res [.cell 2 true 20,.tmp 3] e H K:=Ayz rfl
def AAQ:=(aI_ (aI_ (aI_ (aI_ @AO7 @AOY) (aI_ @AOp @AO2)) (aI_ (aI_ @AOA @AOt) (aI_ @AOT @AOJ))) (aI_ (aI_ (aI_ @AOn @ANv) (aI_ @AMP @ARV)) @ART))
def ATA:=AzJ 50 Tryz.func69 AUT AVb rfl
def AFh:AyD := .seq (.ops [po_ 4 (.mov (ci_ 0))] [0,1])
 (.seq (.ops [mv_ 5 0,mv_ 6 1,so_ 7 (.call 111 [.t 5,.t 6]),mv_ 4 7] [4])
 (.ret))
def AE8:List VR:=[.tmp 4]
theorem AMi:Tryz.f95.body.bind (trC Tryz.prog Tryz.f95.ntmps)=some (er AFh):=by kernel_rfl
theorem ALM:trR Tryz.prog Tryz.f95.results.toList=some AE8:=by kernel_rfl
def AJy:=AyA AFh.eq_1
theorem AJh {K:TV→Prop} {e:Env} {H:List Ob}:res AE8 e H K=res [.tmp 4] e H K:=Ayz rfl
def AFd:=(aI_ @AJy @AJh)
def AKP:=AzJ 8 Tryz.func95 AMi ALM rfl
end
section
open Go.RowKit
variable [AyT]
theorem APC:∃ j,Tryz.prog.info? 116=some j∧j.size≠0:=by
 have h:((Tryz.prog.info? 116).map fun j=>decide (j.size≠0))=some true:=by kernel_rfl
 obtain ⟨j,h1,h2⟩:=Option.map_eq_some_iff.1 h
 exact ⟨j,h1,by simpa using h2⟩
set_option maxHeartbeats 2000000 in
set_option maxRecDepth 100000 in
theorem AR0 (b o:Nat) (w:World) (h0:w.cell? ⟨b,o,none⟩=some (.pointer (some ⟨b,o,none⟩))) :
  Calls Tryz.prog 89 #[.pointer (some ⟨b,o,none⟩)] w fun e w'=>e = .returned (.tuple #[])∧w'=w:=by
 obtain ⟨j,hj,_⟩:=APC
 go_enter Tryz.func89,Tryz.ntmps89
 go_wp2
 rw [Lib.run_neq_ptr_same w _ Tryz.underlying114 hj]
 go_wp2
 go_end0
 exact ⟨rfl,rfl⟩
set_option maxHeartbeats 2000000 in
set_option maxRecDepth 100000 in
theorem AQ2 (b o:Nat) (T:TypeId) (m:Nat) (w:World) (h0:w.cell? ⟨b,o,none⟩=some (.pointer none)) (hsh:w.shape? b=some (T,m)) (hom:o<m) (hlies:liesAt Tryz.prog Tryz.prog.depth T (m / Tryz.prog.cellsOf T) o 116 1=true) (hfz:w.frozen? ⟨b,o,none⟩=false) :
  Calls Tryz.prog 89 #[.pointer (some ⟨b,o,none⟩)] w fun e w'=>e = .returned (.tuple #[])∧w'=w.setCell ⟨b,o,none⟩ (.pointer (some ⟨b,o,none⟩)):=by
 obtain ⟨j,hj,hj0⟩:=APC
 go_enter Tryz.func89,Tryz.ntmps89
 go_wp2
 rw [Lib.run_to_unsafe w ⟨b,o,none⟩ Tryz.underlying114 Tryz.underlying121 hj hj0 hsh hom]
 simp only [Result.andThen]
 rw [Oper.upon_value]
 go_wp2
 rw [run_callFunc_extern Tryz.func110 (by kernel_rfl) (by kernel_rfl) (by kernel_rfl) (e:=Extern.AbiNoEscape.same) (by kernel_rfl)]
 rw [Lib.run_noEscape]
 simp only [Result.andThen]
 rw [Oper.upon_value]
 go_wp2
 rw [Lib.run_from_unsafe w ⟨b,o,none⟩ Tryz.underlying121 Tryz.underlying114 hj hsh hlies]
 simp only [Result.andThen]
 rw [Oper.upon_value]
 go_wp2
 go_end0
 exact ⟨rfl,rfl⟩
end
section
open Go.RowKit
variable [AyT]
theorem AWK {c:Ctx} {w:World}:Rep c w (.tup []) (.tuple #[]) := .inr ⟨[],[],rfl,rfl,by rw [Azi]⟩
theorem A4U {c:Ctx} {w:World} {id ver:Nat} {p:List (Nat×Nat)} {vs:List Value} (h:Azi c w [.op id ver p] vs):c.has id ver∧∃ b o,c.β id ver=some (b,o)∧vs=[.pointer (some ⟨b,o+AzN p,none⟩)]:=by
 obtain ⟨u,us,rfl,h1,h2⟩:=Azi.cons.1 h
 rw [Azi.nil] at h2; subst h2
 obtain ⟨g1,b,o,g2,g3⟩:=Rep.op (Or.inl h1:Rep c w (.op id ver p) u)
 exact ⟨g1,b,o,g2,by rw [g3]⟩
theorem AVm {β:Nat→Nat→Option (Nat×Nat)} {H:List Ob} {F:Nat→Prop} {w:World} (hs:Sim ⟨β,H,F⟩ w) {id ver b o:Nat} {p:List (Nat×Nat)} {x u v:TV} (ho:H[id]?=some (.obj ver x)) (hb:β id ver=some (b,o)) (hg:AEo p x=some (.agg [u,v])) (hu:AyL u=1) (hv:AyL v=1) :
  ∃ u' v',AyH ⟨β,H,F⟩ w u [u']∧AyH ⟨β,H,F⟩ w v [v']∧w.cell? ⟨b,o+AzN p,none⟩=some u'∧w.cell? ⟨b,o+AzN p+1,none⟩=some v':=by
 obtain ⟨us,h1,h2⟩:=ATj hs ho hb hg
 rw [AyH,AyI] at h1
 obtain ⟨a,r,rfl,h3,h4⟩:=h1
 rw [AyI] at h4
 obtain ⟨a2,r2,rfl,h5,h6⟩:=h4
 rw [AyI] at h6; subst h6
 have l1:=h3.length; rw [hu] at l1
 have l2:=h5.length; rw [hv] at l2
 obtain ⟨u',rfl⟩:=List.length_eq_one_iff.1 l1
 obtain ⟨v',rfl⟩:=List.length_eq_one_iff.1 l2
 exact ⟨u',v',h3,h5,by simpa using h2 0 u' rfl,h2 1 v' rfl⟩
def AQF (id ver:Nat) (p:List (Nat×Nat)) (a:TV):Prop:=a = .val (.pointer none)∨a = .op id ver p
def AWS (T:TypeId) (m o:Nat):Prop:=o<m∧liesAt Tryz.prog Tryz.prog.depth T (m / Tryz.prog.cellsOf T) o 116 1=true
set_option maxRecDepth 100000 in
theorem AYt {id ver q m:Nat} {T:TypeId} {p:List (Nat×Nat)} {x x' a v:TV} {H:List Ob} {K:TV→List Ob→Prop} (ho:H[id]?=some (.obj ver x)) (hg:AEo p x=some (.agg [a,v])) (hv1:AyL v=1) (ha:AQF id ver p a)
  (hq:H[q]?=some (.fact id ver T m)) (hT:AWS T m (AzN p)) (hp1:AG6 p x (.agg [.op id ver p,v])=some x') (hlv:lays v=true) (hk:K (.tup []) (H.set id (.obj ver x'))) :
  AyJ Tryz.prog 89 [.op id ver p] H K:=by
 intro β F w vs hs hv
 obtain ⟨g1,b,o,hb,rfl⟩:=A4U hv
 have hb':β id ver=some (b,o):=hb
 obtain ⟨_,hfact⟩:=hs.ob q _ hq
 obtain ⟨rfl,hsh⟩:=hfact b o hb
 obtain ⟨hom,hlies⟩:=hT
 have ha1:AyL a=1:=by rcases ha with rfl | rfl<;>rfl
 obtain ⟨u',v',r1,r2,c0,c1⟩:=AVm hs ho hb hg ha1 hv1
 simp only [Nat.zero_add] at c0 c1
 have hrow:AyH ⟨β,H,F⟩ w (.agg [.op id ver p,v]) [.pointer (some ⟨b,AzN p,none⟩),v']:=by
  rw [AyH,AyI]
  refine ⟨[_],[v'],rfl,?_,?_⟩
  ·rw [AyH]; exact ⟨g1,b,0,hb,by simp⟩
  ·rw [AyI]; exact ⟨[v'],[],rfl,r2,by rw [AyI]⟩
 obtain ⟨k1,k2,ht⟩:=hs.store ho hb hp1 hrow
 simp only [Nat.zero_add] at k1 k2 ht
 -- what AWS there behind
 have hsets:w.setCells b (AzN p) [.pointer (some ⟨b,AzN p,none⟩),v']=w.setCell ⟨b,AzN p,none⟩ (.pointer (some ⟨b,AzN p,none⟩)):=by
  have h1:=ACk b [.pointer (some ⟨b,AzN p,none⟩)] [v'] (AzN p) w
  refine h1.trans ?_
  have hc:AzO w b (AzN p+1) [v']:=fun j u hj=>by
   cases j with
   | zero=>simp at hj; subst hj; exact c1
   | succ j=>simp at hj
  exact AEA (AIF hc (Nat.le_refl _))
 rw [hsets] at k1 k2
 rcases ha with rfl | rfl
 ·rw [AyH] at r1
  have hu:u' = .pointer none:=by simpa using r1.1
  subst hu
  have hfz:w.frozen? ⟨b,AzN p,none⟩=false:=(ht 0 (by simp)).2
  have hc:=AQ2 b (AzN p) T m w c0 hsh hom hlies hfz
  have ea:([Value.pointer (some ⟨b,0+AzN p,none⟩)]).toArray = #[.pointer (some ⟨b,AzN p,none⟩)]:=by rw [Nat.zero_add]
  rw [ea]
  refine hc.mono ?_
  rintro e w' ⟨rfl,rfl⟩
  exact ⟨_,_,β,_,F,rfl,hk,k1,k2,AWK⟩
 ·rw [AyH] at r1
  obtain ⟨_,b',o',hb2,hu⟩:=r1
  have hb2':β id ver=some (b',o'):=hb2
  rw [hb'] at hb2'; cases hb2'
  have hu:u' = .pointer (some ⟨b,AzN p,none⟩):=by simpa using hu
  subst hu
  have hc:=AR0 b (AzN p) w c0
  have ea:([Value.pointer (some ⟨b,0+AzN p,none⟩)]).toArray = #[.pointer (some ⟨b,AzN p,none⟩)]:=by rw [Nat.zero_add]
  rw [ea]
  refine hc.mono ?_
  rintro e w' ⟨rfl,rfl⟩
  rw [APj c0] at k1 k2
  exact ⟨_,_,β,_,F,rfl,hk,k1,k2,AWK⟩
end
section
open Go.RowKit
variable [AyT]
set_option maxHeartbeats 4000000 in
set_option maxRecDepth 100000 in
theorem ARa {b o:Nat} {w W:World} {v:Value} {n:Nat} {ad q:Option Addr} {cap:Nat} {s:ByteArray} {w1 w2:World} (hv:v = .slice ad n cap) (c1:w.cell? ⟨b,o+1,none⟩=some v)
  (hSD:(Builtin.unsafeSliceData_ #[23] 168 #[v]).run Tryz.prog w.drew = .ok (.pointer q) w1) (c2:w1.cell? ⟨b,o+1,none⟩=some v)
  (hUS:(Builtin.unsafeString_ #[168,3] 9 #[.pointer q,.int .i64 n]).run Tryz.prog w1 = .ok (.string s) w2) :
  Calls Tryz.prog 57 #[.pointer (some ⟨b,o,none⟩)] w fun e w'=>e = .returned (.string s)∧w'=w2:=by
 subst hv
 have c1':w.drew.cell? ⟨b,o+1,none⟩=some (.slice ad n cap):=c1
 have mixed:Tryz.prog.follows .mixedOrders=true:=by kernel_rfl
 go_enter Tryz.func57,Tryz.ntmps57
 go_wp2
 go_region_o
 all_goals (go_wp2; go_ret; exact ⟨rfl,rfl⟩)
theorem Sim.die {β:Nat→Nat→Option (Nat×Nat)} {H:List Ob} {F:Nat→Prop} {w w':World} (hs:Sim ⟨β,H,F⟩ w) {j:Nat} {o:Ob} (ho:H[j]?=some o) (hl:o.live=true)
  (h1:w'.os=w.os) (h2:w'.tape=w.tape) (h3:w'.output=w.output) (hz:w.heap.size≤w'.heap.size) (hsh:∀ b,b<w.heap.size→w'.shape? b=w.shape? b)
  (hb:∀ b,b<w.heap.size→(∀ off,β j o.ver≠some (b,off))→w'.heap[b]?=w.heap[b]?):Sim ⟨β,H.set j (.gone o.ver),F⟩ w'∧AyS ⟨β,H,F⟩ w ⟨β,H.set j (.gone o.ver),F⟩ w' :=
 hs.turnG ho hl (Nat.le_refl _) (fun _ _ _=>rfl) (fun b off e => .inl ⟨off,e⟩) h1 h2 h3 hz hsh hb fun _=>trivial
theorem AUr (w:World) (a:Addr) (n b:Nat):(w.freeze a n).shape? b=w.shape? b:=by
 unfold World.freeze
 split
 ·rfl
 ·simp only [World.shape?,Array.getElem?_modify]
  by_cases hb:a.block=b
  ·rw [if_pos hb]
   cases hh:w.heap[b]? with
   | none=>simp
   | some x=>cases x<;>simp
  ·rw [if_neg hb]
theorem AWC (w:World) (a:Addr) (n b:Nat) (h:b≠a.block):(w.freeze a n).heap[b]?=w.heap[b]?:=by
 unfold World.freeze
 split
 ·rfl
 ·simp only [Array.getElem?_modify]
  rw [if_neg (fun e=>h e.symm)]
theorem AWk (w:World) (a:Addr) (n:Nat):(w.freeze a n).heap.size=w.heap.size:=by
 unfold World.freeze
 split<;>simp
theorem AZR (w:World) (a:Addr) (n:Nat):(w.freeze a n).os=w.os∧(w.freeze a n).tape=w.tape∧(w.freeze a n).output=w.output:=by
 unfold World.freeze
 split<;>exact ⟨rfl,rfl,rfl⟩
set_option maxRecDepth 100000 in
theorem cellsByte:Tryz.prog.cellsOf 5=1:=by kernel_rfl
set_option maxRecDepth 100000 in
theorem A46 {id ver j v cp:Nat} {p:List (Nat×Nat)} {x a:TV} {l:List UInt8} {H:List Ob} {K:TV→List Ob→Prop} (ho:H[id]?=some (.obj ver x)) (hg:AEo p x=some (.agg [a,.os 1 j v [] 0 l.length cp])) (ha:AyL a=1)
  (hj:H[j]?=some (.bld v 5 l)) (h63:l.length≤9223372036854775807) (hk:K (.val (.string (str l))) (H.set j (.gone v))):AyJ Tryz.prog 57 [.op id ver p] H K:=by
 intro β F w vs hs hv
 obtain ⟨g1,b,o,hb,rfl⟩:=A4U hv
 obtain ⟨u',v',r1,r2,c0,c1⟩:=AVm hs ho hb hg ha rfl
 have hjl:j<H.length:=(List.getElem?_eq_some_iff.1 hj).1
 rw [AyH] at r2
 obtain ⟨g2,r2⟩:=r2
 have ea:([Value.pointer (some ⟨b,o+AzN p,none⟩)]).toArray = #[.pointer (some ⟨b,o+AzN p,none⟩)]:=rfl
 rw [ea]
 -- what is empty
 have emp:∀ {ad q:Option Addr} {cap:Nat} {w1:World},v' = .slice ad 0 cap→l=[]→(Builtin.unsafeSliceData_ #[23] 168 #[v']).run Tryz.prog w.drew = .ok (.pointer q) w1→w1.cell? ⟨b,o+AzN p+1,none⟩=some v'→Sim ⟨β,H,F⟩ w1→AyS ⟨β,H,F⟩ w ⟨β,H,F⟩ w1 →
   Calls Tryz.prog 57 #[.pointer (some ⟨b,o+AzN p,none⟩)] w fun e w'=>∃ v x β' H' F',e = .returned v∧K x H'∧Sim ⟨β',H',F'⟩ w'∧AyS ⟨β,H,F⟩ w ⟨β',H',F'⟩ w'∧Rep ⟨β',H',F'⟩ w' x v:=by
  intro ad q cap w1 hv' hl hSD c2 hs1 hl1
  have hUS:=Lib.run_unsafeString_none (P:=Tryz.prog) w1 168 3 9 q
  refine (ARa (W:=w) (n:=0) hv' c1 hSD c2 hUS).mono ?_
  rintro e w' ⟨rfl,rfl⟩
  obtain ⟨k1,k2⟩:=hs1.die (w':=w') hj rfl rfl rfl rfl (Nat.le_refl _) (fun _ _=>rfl) (fun _ _ _=>rfl)
  subst hl
  exact ⟨_,_,β,_,F,rfl,hk,k1,hl1.trans k2,Rep.of_val⟩
 rcases r2 with ⟨hl0,ad,hv',_,han⟩ | ⟨b2,o2,cap,t,m,hb2,hv',hn,hcap,hsh,hroom,_⟩
 ·have hl:l=[]:=List.length_eq_zero_iff.1 hl0
  have hv':v' = .slice ad 0 0:=by simpa using hv'
  cases ad with
  | none =>
   refine emp hv' hl (q:=none) (w1:=w.drew) ?_ c1 (hs.heap rfl) (AyS.heap rfl rfl rfl rfl)
   rw [hv']; exact Lib.run_unsafeSliceData_nil w.drew _ _ _ _
  | some ad =>
   obtain ⟨s,hs2⟩:=Option.isSome_iff_exists.1 (han ad rfl)
   obtain ⟨k1,k2⟩:=(hs.heap (w':=w.drew) rfl).extra (.view ad 5)
   refine emp hv' hl (q:=some ⟨w.drew.heap.size,0,none⟩) (w1:=w.drew.alloc (.view ad 5)) ?_ ?_ k1 ((AyS.heap (w:=w) (w':=w.drew) rfl rfl rfl rfl).trans k2)
   ·rw [hv']; exact Lib.run_unsafeSliceData_zero w.drew _ _ _ Tryz.underlying168 ad 0 s hs2
   ·rw [World.cell?_of_block (w:=w.drew) (AzM _ _ (World.block_lt_of_cell? w _ c1))]; exact c1
 ·have hv':v' = .slice (some ⟨b2,o2,none⟩) l.length cap:=by simpa [AzN] using hv'
  rcases hs.ob j _ hj with ⟨q1,_⟩ | ⟨b3,post,fr,q1,q2,q3⟩
  ·have q1':β j v=none:=q1
   have hb2':β j v=some (b2,o2):=hb2
   rw [q1'] at hb2'; cases hb2'
  have q1':β j v=some (b3,0):=q1
  have hb2':β j v=some (b2,o2):=hb2
  rw [q1'] at hb2'; cases hb2'
  by_cases hl:l=[]
  ·subst hl
   by_cases hc0:cap=0
   ·subst hc0
    obtain ⟨k1,k2⟩:=(hs.heap (w':=w.drew) rfl).extra (.view ⟨b2,0,none⟩ 5)
    refine emp hv' rfl (q:=some ⟨w.drew.heap.size,0,none⟩) (w1:=w.drew.alloc (.view ⟨b2,0,none⟩ 5)) ?_ ?_ k1 ((AyS.heap (w:=w) (w':=w.drew) rfl rfl rfl rfl).trans k2)
    ·rw [hv']; exact Lib.run_unsafeSliceData_zero w.drew _ _ _ Tryz.underlying168 ⟨b2,0,none⟩ 0 _ hsh
    ·rw [World.cell?_of_block (w:=w.drew) (AzM _ _ (World.block_lt_of_cell? w _ c1))]; exact c1
   ·refine emp hv' rfl (q:=some ⟨b2,0,none⟩) (w1:=w.drew) ?_ c1 (hs.heap rfl) (AyS.heap rfl rfl rfl rfl)
    rw [hv']; exact Lib.run_unsafeSliceData_row w.drew _ _ _ _ _ hc0
  ·have hlp:0<l.length:=List.length_pos_iff.2 hl
   have hSD:(Builtin.unsafeSliceData_ #[23] 168 #[v']).run Tryz.prog w.drew = .ok (.pointer (some ⟨b2,0,none⟩)) w.drew:=by
    rw [hv']; exact Lib.run_unsafeSliceData_row w.drew _ _ _ _ _ (by omega)
   have hsh':w.drew.shape? b2=some (5,((l.map fun x:UInt8=>Value.int .u8 x.toNat)++post).length):=by
    have q2':w.drew.heap[b2]?=_:=q2
    simp only [World.shape?,q2',List.size_toArray]
   have hcell:∀ i y,l[i]?=some y→w.drew.cell? ((⟨b2,0,none⟩:Addr).add i)=some (.int .u8 y.toNat):=by
    intro i y hy
    rw [Az0,Nat.zero_add]
    have q2':w.drew.heap[b2]?=_:=q2
    rw [cell_of_row w.drew b2 i _ _ _ q2']
    have hil:i<l.length:=(List.getElem?_eq_some_iff.1 hy).1
    simp only [List.getElem?_toArray]
    rw [List.getElem?_append_left (by simpa using hil),List.getElem?_map,hy]; rfl
   have hUS:=Lib.run_unsafeString_row (P:=Tryz.prog) w.drew 168 3 9 5 Tryz.underlying168 cellsByte b2 _ hsh' l hl (by simp) h63 hcell
   refine (ARa (W:=w) hv' c1 hSD c1 hUS).mono ?_
   rintro e w' ⟨rfl,rfl⟩
   obtain ⟨f1,f2,f3⟩:=AZR w.drew ⟨b2,0,none⟩ l.length
   obtain ⟨k1,k2⟩:=hs.die (w':=w.drew.freeze ⟨b2,0,none⟩ l.length) hj rfl f1 f2 f3 (by rw [AWk]; exact Nat.le_refl _) (fun b _=>AUr w.drew _ _ b) (fun b _ hne=>AWC w.drew _ _ b fun e=>hne 0 (by rw [e]; exact q1'))
   exact ⟨_,_,β,_,F,rfl,hk,k1,k2,Rep.of_val⟩
theorem A5c:Baz Tryz.prog 57:=fun id ver j v cp p x a l H K ho hg ha hj h63 hk=>A46 ho hg ha hj h63 hk
end
end Go.Proofs.YtnikbdnebdmmiaaGreatDoor
