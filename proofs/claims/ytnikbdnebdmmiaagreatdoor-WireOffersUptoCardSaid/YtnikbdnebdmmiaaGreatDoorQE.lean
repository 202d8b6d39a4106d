/- What the proof of WireOffersUptoCard stands on (texts merged; names shortened by a program): part 5. -/
import Derived.Test.YtnikbdnebdmmiaaGreatDoorQD
import Derived.ProofKit
import Derived.Lib.LaidTab
import Derived.LaidHandle
import Derived.Handed
import Derived.ShapedOpen
import Derived.Shelf.Vars
import Derived.OpenShut
import Derived.ShutString
import Derived.ChangeOld
import Derived.Below
import Derived.Carry
import Derived.SizedLaws
import Derived.Lib.ItoaNum
import Derived.Lib.ItoaLen
import Derived.Test.YtnikbdnebdmmiaaGreatDoorProg
import Derived.KernelRfl
import Derived.Shelf.Strings.Builder1
import Derived.Shelf.Strings.Builder2
import Derived.Shelf.Strings.OnBuilder
import Derived.Shelf.Small.Utf8
import Derived.Shelf.Small.Strs
import Derived.Shelf.Strconv.Atoi
import Derived.Shelf.Strconv.Itoa0
import Derived.Shelf.Strconv.Itoa1
import Derived.Shelf.LaysM
import Derived.Shelf.Strconv.Itoa2
import Derived.Shelf.Strconv.Itoa3
import Derived.Shelf.Strconv.AtoiErrFast
import Derived.Shelf.Strconv.ParseIntEmpty
import Derived.Shelf.Strconv.AtoiFail
import Derived.Shelf.Strconv.Clone
import Derived.Shelf.Strconv.SyntaxError
import Derived.Shelf.LaysC
import Derived.Shelf.Strconv.ToError
import Derived.Shelf.Strconv.Lower
import Derived.Shelf.Strconv.ParseUint10
import Derived.Shelf.Strconv.ParseUint10Empty
import Derived.Shelf.Strconv.ParseUint10Any
import Derived.Shelf.Strconv.ParseInt10
import Derived.Shelf.Strconv.AtoiLong
import Derived.Shelf.Strconv.AtoiInnerAll
import Derived.Shelf.Strconv.RangeError
import Derived.Shelf.Strconv.ToErrorRange
import Derived.Shelf.Strconv.AtoiAll
import Derived.Shelf.Strings.Search1
import Derived.Shelf.Strings.Search2
import Derived.Shelf.Strings.Search3
import Derived.Shelf.Strings.Count
import Derived.Shelf.Strings.Shaped
import Derived.Shelf.Strings.Prefix
import Derived.Shelf.Strings.Runes
import Derived.Shelf.Unicode.DecodeSlow
import Derived.Shelf.Bytes.Small
import Derived.WalkKit
import Derived.Lib.Builder
import Derived.Lib.UnsafeStr
import Derived.Laws.Externs
import Derived.Shelf.RegionOpenPlain
import Derived.Shelf.Lay
set_option linter.defProp false
set_option linter.unusedSectionVars false
set_option linter.unusedSimpArgs false
set_option linter.unusedVariables false
namespace Go.Proofs.YtnikbdnebdmmiaaGreatDoor
theorem aI_ {a b:Prop} (x:a) (y:b):a∧b:=⟨x,y⟩
section
open Go.RowKit
variable [AAE]
set_option autoImplicit false
universe u
class Tg {α:Sort u} (a:α):Type where
instance tg {α:Sort u} (a:α):Tg a:={}
def vif (t:Bool) (A B:Prop) [Tg A] [Tg B]:Prop:=if t=true then A else B
def AA2 {α:Type} (o:Option α) (K:α→Prop) [Tg K]:Prop:=match o with | some y=>K y | none=>False
def AB7 (A K:Prop) [Tg K]:Prop:=A∧K
def AA0 {α:Type} (x:α) (K:α→Prop) [Tg K]:Prop:=K x
def vex (K:TV→Prop) [Tg K]:Prop:=∃ x,K x
def VC (P:Program) (f:FuncId) (xs:List TV) (H:List Ob) (K:TV→List Ob→Prop) [Tg K]:Prop:=AAs P f xs H K
def VY (P:Program) (id ver:Nat) (xs:List TV) (H:List Ob) (K:TV→List Ob→Prop) [Tg K]:Prop:=AJN P id ver xs H K
theorem AV7 {P:Program} {f:FuncId} {xs:List TV} {H:List Ob} {K:TV→List Ob→Prop} (h:AAs P f xs H K):VC P f xs H K:=h
section
variable {A A' B K:Prop} {α:Type}
@[congr] theorem BbL {t t':Bool} (h:t=t'):vif t A B=vif t' A B:=by rw [h]
@[congr] theorem A9x {o o':Option α} {K:α→Prop} (h:o=o'):AA2 o K=AA2 o' K:=by rw [h]
@[congr] theorem A9F (h:A=A'):AB7 A K=AB7 A' K:=by rw [h]
@[congr] theorem A9w {x x':α} {K:α→Prop} (h:x=x'):AA0 x K=AA0 x' K:=by rw [h]
@[congr] theorem A9I {P:Program} {c:AAm} {Q:VEx→Env→List Ob→Prop} {e e':Env} {H H':List Ob} (he:e=e') (hH:H=H'):vwp P c Q e H=vwp P c Q e' H':=by rw [he,hH]
@[congr] theorem BcZ {P:Program} {f:FuncId} {xs xs':List TV} {H H':List Ob} {K:TV→List Ob→Prop} (he:xs=xs') (hH:H=H'):VC P f xs H K=VC P f xs' H' K:=by rw [he,hH]
@[congr] theorem Bda {P:Program} {id ver:Nat} {xs xs':List TV} {H H':List Ob} {K:TV→List Ob→Prop} (he:xs=xs') (hH:H=H'):VY P id ver xs H K=VY P id ver xs' H' K:=by rw [he,hH]
theorem A4t:vif true A B=A:=by simp [vif]
theorem A0T:vif false A B=B:=by simp [vif]
theorem Ba1 {p:Prop} [Decidable p] (h:p):vif (decide p) A B=A:=by simp [vif,h]
theorem Bcw {p:Prop} [Decidable p] (h:¬ p):vif (decide p) A B=B:=by simp [vif,h]
theorem A7B {t:Bool}:vif (!t) A B=vif t B A:=by cases t<;>simp [vif]
theorem A63 {s t:Bool}:vif (s && t) A B=vif s (vif t A B) B:=by cases s<;>simp [vif]
theorem BbH {s t:Bool}:vif (s || t) A B=vif s A (vif t A B):=by cases s<;>simp [vif]
theorem A1U {y:α} {K:α→Prop}:AA2 (some y) K=K y:=rfl
theorem A5V {β:Type} {f:α→β} {o:Option α} {K:β→Prop}:AA2 (o.map f) K=AA2 o fun y=>K (f y):=by cases o<;>rfl
theorem A7V {cs:List α} {i:Nat} {K:α→Prop} (h:i<cs.length):AA2 cs[i]? K=K cs[i]:=by rw [List.getElem?_eq_getElem h]; rfl
theorem A2J (h:A):AB7 A K=K:=by simp [AB7,h]
theorem Bbt:AB7 True K=K:=by simp [AB7]
theorem A5L:AB7 (A∧B) K=AB7 A (AB7 B K):=by simp [AB7,and_assoc]
theorem A9t {x:α} {K:α→Prop}:AA0 x K=K x:=rfl
end
def AD3:Option Ob→Nat→Option TV
 | some (.obj v x),ver=>if v=ver then some x else none
 | _,_=>none
theorem A56 {v:Nat} {x:TV}:AD3 (some (.obj v x)) v=some x:=by simp [AD3]
section
variable {H l:List Ob} {o:Ob} {n k:Nat}
theorem Bai (h:H.length=n):(H++l)[n]?=l[0]?:=by rw [List.getElem?_append_right (by omega),h,Nat.sub_self]
theorem A8y (h:H.length=n):(H++l)[n+k]?=l[k]?:=by rw [List.getElem?_append_right (by omega)]; congr 1; omega
theorem BaB (h:n<H.length):(H++l)[n]?=H[n]?:=List.getElem?_append_left h
theorem Bad (h:n<H.length):(H.set n o)[n]?=some o:=by simp [h]
theorem A0V {m:Nat} (h:m≠n):(H.set m o)[n]?=H[n]?:=by rw [List.getElem?_set_ne h]
theorem A8d (h:H.length=n):(H++l).set n o=H++l.set 0 o:=by rw [List.set_append_right _ _ (by omega),h,Nat.sub_self]
theorem A3X (h:H.length=n):(H++l).set (n+k) o=H++l.set k o:=by rw [List.set_append_right _ _ (by omega)]; congr 2; omega
theorem A7S (h:n<H.length):(H++l).set n o=H.set n o++l:=List.set_append_left _ _ h
end
section
variable {P:Program} {e:Env} {H:List Ob}
def A1Z (c a b:TV) (K:TV→Prop) [Tg K]:Prop:=match c with | .val (.bool t)=>K (if t then a else b) | _=>False
def Bc0 (t:TypeId) (op:BinOp) (x y:TV) (K:TV→Prop) [Tg K]:Prop:=match x,y with
  | .val u,.val v=>A5s u v=true∧(match ABW t op u v with | some r=>K (.val r) | none=>False)
  | _,_=>False
def Pun (op:UnOp) (x:TV) (K:TV→Prop) [Tg K]:Prop:=match x with
  | .val u=>(match unV op u with | some r=>K (.val r) | none=>False)
  | _=>False
def A3P (k:IntKind) (x:TV) (K:TV→Prop) [Tg K]:Prop:=match x with
  | .val (.int _ n)=>K (.val (.int k (k.wrap n)))
  | _=>False
def Bc7 (x:TV) (K:TV→Prop) [Tg K]:Prop:=match x with
  | .val (.string s)=>K (.val (.string s))
  | _=>False
def Bc3 (x:Option (List TV)) (K:TV→Prop) [Tg K]:Prop:=match x with
  | some cs=>(∀ y∈cs,AY7 y)∧K (.val (.string (str (cs.map APT))))
  | none=>False
def AXY (H:List Ob) (ag:Bool) (sz:Nat) (x:TV) (K:TV→Prop) [Tg K]:Prop:=match x with
  | .fp y=>AUF ag sz y∧K y
  | .op id ver p=>(match H[id]? with
   | some (.obj v x)=>v=ver∧(match AF6 p x with | some y=>AUF ag sz y∧K y | none=>False)
   | _=>False)
  | _=>False
def AQO (i off:Nat) (x:TV) (K:TV→Prop) [Tg K]:Prop:=match x with
  | .op id ver p=>K (.op id ver (p++[(i,off)]))
  | .fp (.agg cs)=>AA1 (cs.take i)=off∧(match cs[i]? with | some y=>K (.fp y) | none=>False)
  | _=>False
def AXr (ag:Bool) (sz i off:Nat) (x:TV) (K:TV→Prop) [Tg K]:Prop:=match x with
  | .agg cs=>AA1 (cs.take i)=off∧(match cs[i]? with | some y=>AUF ag sz y∧K y | none=>False)
  | _=>False
def A0e (k:Nat) (x i:TV) (K:TV→Prop) [Tg K]:Prop:=match x,i with
  | .sl k' cs,.val (.int _ j)=>k'=k∧0≤j∧(match cs[j.toNat]? with | some y=>K (.fp y) | none=>False)
  | .os k' id ver p off n cp,.val (.int _ j)=>k'=k∧0≤j∧j<n∧K (.op id ver (p++[(off+j.toNat,(off+j.toNat)*k)]))
  | _,_=>False
def AUr (n k:Nat) (x i:TV) (K:TV→Prop) [Tg K]:Prop:=match x,i with
  | .fp (.arr n' k' cs),.val (.int _ j)=>k'=k∧n'=n∧0≤j∧(match cs[j.toNat]? with | some y=>K (.fp y) | none=>False)
  | .op id ver p,.val (.int _ j)=>0≤j∧j<n∧K (.op id ver (p++[(j.toNat,j.toNat*k)]))
  | _,_=>False
def BcG (ag:Bool) (n k:Nat) (x i:TV) (K:TV→Prop) [Tg K]:Prop:=match x,i with
  | .arr n' k' cs,.val (.int _ j)=>k'=k∧n'=n∧0≤j∧(match cs[j.toNat]? with | some y=>AUF ag k y∧K y | none=>False)
  | _,_=>False
def A1O (x i:TV) (K:TV→Prop) [Tg K]:Prop:=match x,i with
  | .val (.string s),.val (.int _ j)=>0≤j∧(match (bl s)[j.toNat]? with | some b=>K (by8 b) | none=>False)
  | _,_=>False
def Bbj (i:Nat) (x:TV) (K:TV→Prop) [Tg K]:Prop:=match x with
  | .tup xs=>(match xs[i]? with | some y=>K y | none=>False)
  | _=>False
def A4i (x:TV) (K:TV→Prop) [Tg K]:Prop:=match x with
  | .val (.string s)=>K (.val (.int .i64 (bl s).length))
  | _=>False
def A0h (x:TV) (K:TV→Prop) [Tg K]:Prop:=match x with
  | .val (.slice _ n _)=>K (.val (.int .i64 n))
  | .sl _ cs=>K (.val (.int .i64 cs.length))
  | .os _ _ _ _ _ n _=>K (.val (.int .i64 n))
  | _=>False
def AVZ (lo hi:Option TV) (len lim:Nat) (K:Nat→Nat→Prop) [Tg K]:Prop :=
 match (match lo with | none=>some 0 | some x=>(match x with | .val (.int _ i)=>some i | _=>none)),(match hi with | none=>some (len:Int) | some x=>(match x with | .val (.int _ i)=>some i | _=>none)) with
 | some l,some h=>(0≤l∧l≤h∧h≤lim)∧K l.toNat h.toNat
 | _,_=>False
def evO (e:Env):Option Opd→Option TV
 | none=>none
 | some x=>some (x.ev e)
theorem A3I:evO e none=none:=AAi rfl
theorem A4W {x:Opd}:evO e (some x)=some (x.ev e):=AAi rfl
theorem A2O {lo hi:Option Opd} {len lim:Nat} {K:Nat→Nat→Prop}:bnd e lo hi len lim K=AVZ (evO e lo) (evO e hi) len lim K:=by
 cases lo<;>cases hi<;>rfl
def BcL (x:TV) (lo hi:Option TV) (K:TV→Prop) [Tg K]:Prop:=match x with
  | .val (.string s)=>AVZ lo hi (bl s).length (bl s).length fun l h=>K (.val (.string (str (((bl s).drop l).take (h - l)))))
  | _=>False
def A9v (k:Nat) (x:TV) (lo hi:Option TV) (K:TV→Prop) [Tg K]:Prop:=match x with
  | .sl k' cs=>k'=k∧AVZ lo hi cs.length cs.length fun l h=>K (.sl k ((cs.drop l).take (h - l)))
  | .os k' id ver p off n cp=>k'=k∧AVZ lo hi n cp fun l h=>K (.os k id ver p (off+l) (h - l) (cp - l))
  | .val (.slice ad 0 0)=>AVZ lo hi 0 0 fun l h=>K (.val (.slice ad 0 0))
  | _=>False
def A9E (H:List Ob) (n k:Nat) (x:TV) (lo hi:Option TV) (K:TV→Prop) [Tg K]:Prop:=match x with
  | .fp (.arr n' k' cs)=>k'=k∧n'=n∧n≤9223372036854775807∧AVZ lo hi n n fun l h=>K (.sl k ((cs.drop l).take (h - l)))
  | .op id ver p=>(match H[id]? with
   | some (.obj v x)=>v=ver∧n≤9223372036854775807∧(match AF6 p x with | some (.arr n' k' cs)=>k'=k∧n'=n∧AVZ lo hi n n fun l h=>K (.os k id ver p l (h - l) (n - l)) | _=>False)
   | _=>False)
  | _=>False
def AY6 (t:TypeId) (x:TV) (K:TV→Prop) [Tg K]:Prop:=lays x=true∧K (.ifc t x)
def A91 (f:Fn) (first caps:List TV) (K:TV→Prop) [Tg K]:Prop:=(∀ x∈first++caps,ABl x=false)∧K (.fn f first caps)
def AWC (x:TV) (K:TV→Prop) [Tg K]:Prop:=match x with
  | .op id ver p=>K (.op id ver p)
  | .fp y=>K (.fp y)
  | .fn (.func f) a b=>K (.fn (.func f) a b)
  | .ifc t y=>K (.ifc t y)
  | .val (.func (.func f) a b)=>K (.val (.func (.func f) a b))
  | _=>False
def Bc8 (x y:TV) (K:TV→Prop) [Tg K]:Prop:=match x,y with
  | .val (.int k a),.val (.int _ b)=>K (.val (.int k (if b<a then b else a)))
  | _,_=>False
def BcV (x y:TV) (K:TV→Prop) [Tg K]:Prop:=match x,y with
  | .val (.int k a),.val (.int _ b)=>K (.val (.int k (if b > a then b else a)))
  | _,_=>False
def ATd (g:GOp) (H:List Ob) (xs:List TV) (K:TV→Prop) [Tg K]:Prop:=match gev g H xs with
  | some y=>K y
  | none=>False
def A98 (neg:Bool) (x y:TV) (K:TV→Prop) [Tg K]:Prop:=match x,y with
  | .val (.bool a),.val (.bool b)=>K (.val (.bool (xor neg (a == b))))
  | _,_=>False
def BaS (neg:Bool) (x y:Option Bool) (K:TV→Prop) [Tg K]:Prop:=match x,y with
  | some true,some b=>K (.val (.bool (xor neg b)))
  | some false,some true=>K (.val (.bool (xor neg false)))
  | _,_=>False
def AWA (H:List Ob) (sz:Nat) (x v:TV) (K:TV→List Ob→Prop) [Tg K]:Prop:=(lays v=true∧AAu v=sz)∧(match x with
  | .op id ver p=>(match H[id]? with
   | some (.obj vr y)=>vr=ver∧(match AHW p y v with | some y'=>K .any (H.set id (.obj ver y')) | none=>False)
   | _=>False)
  | _=>False)
def BcJ (H:List Ob) (k bytes:Nat) (z l c:TV) (K:TV→List Ob→Prop) [Tg K]:Prop:=match l,c with
  | .val (.int _ l),.val (.int _ c)=>(0≤l∧l≤c∧(bytes:Int)*c≤281474976710656∧c≤9223372036854775807)∧K (.os k H.length 0 [] 0 l.toNat c.toNat) (H++[.obj 0 (.arr c.toNat k (List.replicate c.toNat z))])
  | _,_=>False
def A9e (k bytes:Nat) (et:TypeId) (x:TV) (y:Option (List TV)) (H:List Ob) (K:TV→List Ob→Prop) [Tg K]:Prop:=match y with
  | some ys=>AW9 k bytes et x ys H K
  | none=>False
def AYa (k:Nat) (x:TV) (y:Option (List TV)) (H:List Ob) (K:TV→List Ob→Prop) [Tg K]:Prop:=match y with
  | some ys=>AM0 k x ys H K
  | none=>False
def A3Z (et:TypeId) (x y:TV) (H:List Ob) (K:TV→List Ob→Prop) [Tg K]:Prop:=match y with
  | .val (.string s)=>AW9 1 1 et x ((bl s).map by8) H K
  | _=>False
def AY2 (x y:TV) (H:List Ob) (K:TV→List Ob→Prop) [Tg K]:Prop:=match y with
  | .val (.string s)=>AM0 1 x ((bl s).map by8) H K
  | _=>False
def A3V (P:Program) (f:FuncId) (x:Option (Nat×Nat×List UInt8)) (H:List Ob) (K:TV→List Ob→Prop) [Tg K]:Prop:=Bc4 P f∧(match x with
  | some (j,v,l)=>l.length≤9223372036854775807∧K (.val (.string (str l))) (H.set j (.gone v))
  | none=>False)
def Bc5 (H:List Ob) (x:TV) (K:TV→List Ob→Prop) [Tg K]:Prop:=match x with
  | .val (.string s)=>(bl s).length≤9223372036854775807∧K (.os 1 H.length 0 [] 0 (bl s).length (bl s).length) (H++[.obj 0 (.arr (bl s).length 1 ((bl s).map by8))])
  | _=>False
def A4z (k bytes:Nat) (z x n:TV) (H:List Ob) (K:TV→List Ob→Prop) [Tg K]:Prop:=match x,n with
  | .val (.slice none 0 0),.val (.int .i64 j)=>(0≤j∧(bytes:Int)*j≤140737488355328∧j≤9223372036854775807)∧K (.os k H.length 0 [] 0 j.toNat j.toNat) (H++[.obj 0 (.arr j.toNat k (List.replicate j.toNat z))])
  | _,_=>False
def AZY (H:List Ob) (K:TV→List Ob→Prop) [Tg K]:Prop:=K (.val (.bool true)) H∧K (.val (.bool false)) H
def A6W (neg:Bool) (x:TV) (H:List Ob) (K:TV→List Ob→Prop) [Tg K]:Prop:=match x with
  | .val (.slice a _ _)=>K (.val (.bool (xor neg a.isNone))) H
  | .sl _ cs=>(cs=[]→K (.val (.bool true)) H∧K (.val (.bool false)) H)∧(cs≠[]→K (.val (.bool neg)) H)
  | .os _ _ _ _ _ n _=>(n=0→K (.val (.bool true)) H∧K (.val (.bool false)) H)∧(n≠0→K (.val (.bool neg)) H)
  | _=>False
def AUo (P:Program) (x:TV) (args:List TV) (H:List Ob) (K:TV→List Ob→Prop) [Tg K]:Prop:=match x with
  | .fn (.func f) first caps=>ARd P f=true∧AAs P f (first++args++caps) H K
  | .val (.func (.func f) xs ys)=>(xs.isEmpty && ys.isEmpty)=true∧ARd P f=true∧AAs P f args H K
  | .yl id ver=>AJN P id ver args H K
  | _=>False
def A9L (P:Program) (nm:String) (x:TV) (args:List TV) (H:List Ob) (K:TV→List Ob→Prop) [Tg K]:Prop:=BcT P nm H x fun f r=>AAs P f (r::args) H K
def A9B (P:Program) (q:Option (FuncId×Option (Bool×Nat))) (r:TV) (args:List TV) (H:List Ob) (K:TV→List Ob→Prop) [Tg K]:Prop:=match q with
 | some (f,none)=>ARd P f=true∧AAs P f (r::args) H K
 | some (f,some (ag,sz))=>ARd P f=true∧ldT H ag sz r fun y=>AAs P f (y::args) H K
 | none=>False
def Gd (q:Option Bool) (b:Bool) (A B:Prop) [Tg A] [Tg B]:Prop:=match q with
 | some t=>if t=b then A else B
 | none=>B
def evs (e:Env) (xs:List Opd):List TV:=xs.map (·.ev e)
theorem A8g:evs e []=[]:=AAi rfl
theorem A6v {x:Opd} {xs:List Opd}:evs e (x::xs)=x.ev e::evs e xs:=AAi rfl
def AMD (xs:List TV):Prop:=∀ x∈xs,ABl x=false
theorem A27:AMD []=True:=by simp [AMD]
theorem AZZ {x:TV} {xs:List TV}:AMD (x::xs)=(ABl x=false∧AMD xs):=by simp [AMD]
theorem AJj {args:List Opd}:(∀ x∈args,ABl (x.ev e)=false)=AMD (evs e args):=by simp [AMD,evs]
section
variable {c c' a a' b b' x x' y y':TV} {K:TV→Prop} {KK:TV→List Ob→Prop} {lo lo' hi hi':Option TV} {ox ox':Option (List TV)} {q q' q2 q2':Option Bool} {xs xs':List TV} {A B:Prop} {H':List Ob}
@[congr] theorem Bdy (h1:c=c') (h2:a=a') (h3:b=b'):A1Z c a b K=A1Z c' a' b' K:=by rw [h1,h2,h3]
@[congr] theorem Bf3 {t:TypeId} {op:BinOp} (h1:x=x') (h2:y=y'):Bc0 t op x y K=Bc0 t op x' y' K:=by rw [h1,h2]
@[congr] theorem Bgd {op:UnOp} (h1:x=x'):Pun op x K=Pun op x' K:=by rw [h1]
@[congr] theorem Be6 {k:IntKind} (h1:x=x'):A3P k x K=A3P k x' K:=by rw [h1]
@[congr] theorem Bfw (h1:x=x'):Bc7 x K=Bc7 x' K:=by rw [h1]
@[congr] theorem BfR (h1:ox=ox'):Bc3 ox K=Bc3 ox' K:=by rw [h1]
@[congr] theorem Bdd {ag:Bool} {sz:Nat} (h1:x=x') (h2:H=H'):AXY H ag sz x K=AXY H' ag sz x' K:=by rw [h1,h2]
@[congr] theorem Bcf {i o:Nat} (h1:x=x'):AQO i o x K=AQO i o x' K:=by rw [h1]
@[congr] theorem Bc2 {ag:Bool} {sz i o:Nat} (h1:x=x'):AXr ag sz i o x K=AXr ag sz i o x' K:=by rw [h1]
@[congr] theorem Bdr {k:Nat} (h1:x=x') (h2:y=y'):A0e k x y K=A0e k x' y' K:=by rw [h1,h2]
@[congr] theorem BcN {n k:Nat} (h1:x=x') (h2:y=y'):AUr n k x y K=AUr n k x' y' K:=by rw [h1,h2]
@[congr] theorem BfT {ag:Bool} {n k:Nat} (h1:x=x') (h2:y=y'):BcG ag n k x y K=BcG ag n k x' y' K:=by rw [h1,h2]
@[congr] theorem BdW (h1:x=x') (h2:y=y'):A1O x y K=A1O x' y' K:=by rw [h1,h2]
@[congr] theorem BfE {i:Nat} (h1:x=x'):Bbj i x K=Bbj i x' K:=by rw [h1]
@[congr] theorem Bd6 (h1:x=x'):A4i x K=A4i x' K:=by rw [h1]
@[congr] theorem Bfb (h1:x=x'):A0h x K=A0h x' K:=by rw [h1]
@[congr] theorem Bfv {n m:Nat} {K:Nat→Nat→Prop} {n' m':Nat} (h1:lo=lo') (h2:hi=hi') (h3:n=n') (h4:m=m'):AVZ lo hi n m K=AVZ lo' hi' n' m' K:=by rw [h1,h2,h3,h4]
@[congr] theorem BfL (h1:x=x') (h2:lo=lo') (h3:hi=hi'):BcL x lo hi K=BcL x' lo' hi' K:=by rw [h1,h2,h3]
@[congr] theorem Bf0 {k:Nat} (h1:x=x') (h2:lo=lo') (h3:hi=hi'):A9v k x lo hi K=A9v k x' lo' hi' K:=by rw [h1,h2,h3]
@[congr] theorem Bfz {n k:Nat} (h0:H=H') (h1:x=x') (h2:lo=lo') (h3:hi=hi'):A9E H n k x lo hi K=A9E H' n k x' lo' hi' K:=by rw [h0,h1,h2,h3]
@[congr] theorem BcK {t:TypeId} (h1:x=x'):AY6 t x K=AY6 t x' K:=by rw [h1]
@[congr] theorem BfZ {f:Fn} {ys ys':List TV} (h1:xs=xs') (h2:ys=ys'):A91 f xs ys K=A91 f xs' ys' K:=by rw [h1,h2]
@[congr] theorem Bfd (h1:x=x'):AWC x K=AWC x' K:=by rw [h1]
@[congr] theorem BfI (h1:x=x') (h2:y=y'):Bc8 x y K=Bc8 x' y' K:=by rw [h1,h2]
@[congr] theorem BfV (h1:x=x') (h2:y=y'):BcV x y K=BcV x' y' K:=by rw [h1,h2]
@[congr] theorem Bft {g:GOp} {xs xs':List TV} (h1:H=H') (h2:xs=xs'):ATd g H xs K=ATd g H' xs' K:=by rw [h1,h2]
@[congr] theorem Bfu {n:Bool} (h1:x=x') (h2:y=y'):A98 n x y K=A98 n x' y' K:=by rw [h1,h2]
@[congr] theorem BfN {n:Bool} (h1:q=q') (h2:q2=q2'):BaS n q q2 K=BaS n q' q2' K:=by rw [h1,h2]
@[congr] theorem Bc9 {sz:Nat} (h0:H=H') (h1:x=x') (h2:y=y'):AWA H sz x y KK=AWA H' sz x' y' KK:=by rw [h0,h1,h2]
@[congr] theorem BfJ {k n:Nat} {z:TV} (h0:H=H') (h1:x=x') (h2:y=y'):BcJ H k n z x y KK=BcJ H' k n z x' y' KK:=by rw [h0,h1,h2]
@[congr] theorem BfD {k n:Nat} {et:TypeId} (h0:H=H') (h1:x=x') (h2:ox=ox'):A9e k n et x ox H KK=A9e k n et x' ox' H' KK:=by rw [h0,h1,h2]
@[congr] theorem BdV {k:Nat} (h0:H=H') (h1:x=x') (h2:ox=ox'):AYa k x ox H KK=AYa k x' ox' H' KK:=by rw [h0,h1,h2]
@[congr] theorem Bes {et:TypeId} (h0:H=H') (h1:x=x') (h2:y=y'):A3Z et x y H KK=A3Z et x' y' H' KK:=by rw [h0,h1,h2]
@[congr] theorem BcY (h0:H=H') (h1:x=x') (h2:y=y'):AY2 x y H KK=AY2 x' y' H' KK:=by rw [h0,h1,h2]
@[congr] theorem BdZ {P:Program} {f:FuncId} {r r':Option (Nat×Nat×List UInt8)} (h0:H=H') (h1:r=r'):A3V P f r H KK=A3V P f r' H' KK:=by rw [h0,h1]
@[congr] theorem Bd2 {k n:Nat} {z:TV} (h0:H=H') (h1:x=x') (h2:y=y'):A4z k n z x y H KK=A4z k n z x' y' H' KK:=by rw [h0,h1,h2]
@[congr] theorem BfF {n:Bool} (h0:H=H') (h1:x=x'):A6W n x H KK=A6W n x' H' KK:=by rw [h0,h1]
@[congr] theorem Bdh (h0:H=H'):AZY H KK=AZY H' KK:=by rw [h0]
@[congr] theorem BfY (h0:H=H') (h1:x=x'):Bc5 H x KK=Bc5 H' x' KK:=by rw [h0,h1]
@[congr] theorem BcW (h0:H=H') (h1:x=x') (h2:xs=xs'):AUo P x xs H KK=AUo P x' xs' H' KK:=by rw [h0,h1,h2]
@[congr] theorem BfA {P:Program} {nm:String} (h0:H=H') (h1:x=x') (h2:xs=xs'):A9L P nm x xs H KK=A9L P nm x' xs' H' KK:=by rw [h0,h1,h2]
@[congr] theorem BfS {P:Program} {g g':Option (FuncId×Option (Bool×Nat))} (h:g=g') (h0:H=H') (h1:x=x') (h2:xs=xs'):A9B P g x xs H KK=A9B P g' x' xs' H' KK:=by rw [h,h0,h1,h2]
@[congr] theorem Bgv {b:Bool} (h1:q=q'):Gd q b A B=Gd q' b A B:=by rw [h1]
end
section
variable {K:TV→Prop} {KK:TV→List Ob→Prop} {x y i a b c:Opd} {lo hi:Option Opd}
theorem BdP:pop (.mov x) e H K=AA0 (x.ev e) K:=AAi rfl
theorem Bbv:pop (.pick c a b) e H K=A1Z (c.ev e) (a.ev e) (b.ev e) K:=AAi rfl
theorem Bd3 {t:TypeId} {op:BinOp}:pop (.bin t op x y) e H K=Bc0 t op (x.ev e) (y.ev e) K:=AAi rfl
theorem Bgg {op:UnOp}:pop (.un op x) e H K=Pun op (x.ev e) K:=AAi rfl
theorem Bcg {k:IntKind}:pop (.conv k x) e H K=A3P k (x.ev e) K:=AAi rfl
theorem BeT:pop (.s2s x) e H K=Bc7 (x.ev e) K:=AAi rfl
theorem Bde:pop (.b2s x) e H K=Bc3 (ABe H 1 (x.ev e)) K:=AAi rfl
theorem A9Q {ag:Bool} {sz:Nat}:pop (.load ag sz x) e H K=AXY H ag sz (x.ev e) K:=AAi rfl
theorem A5D {n o:Nat}:pop (.fieldA n o x) e H K=AQO n o (x.ev e) K:=AAi rfl
theorem A8p {ag:Bool} {sz n o:Nat}:pop (.field ag sz n o x) e H K=AXr ag sz n o (x.ev e) K:=AAi rfl
theorem Bbb {k:Nat}:pop (.idxA k x i) e H K=A0e k (x.ev e) (i.ev e) K:=AAi rfl
theorem A86 {n k:Nat}:pop (.idxAA n k x i) e H K=AUr n k (x.ev e) (i.ev e) K:=AAi rfl
theorem Be9 {ag:Bool} {n k:Nat}:pop (.idx ag n k x i) e H K=BcG ag n k (x.ev e) (i.ev e) K:=AAi rfl
theorem Bbe:pop (.idxS x i) e H K=A1O (x.ev e) (i.ev e) K:=AAi rfl
theorem Bd1 {n:Nat}:pop (.ext n x) e H K=Bbj n (x.ev e) K:=AAi rfl
theorem BbM:pop (.lenS x) e H K=A4i (x.ev e) K:=AAi rfl
theorem Bcl:pop (.lenV x) e H K=A0h (x.ev e) K:=AAi rfl
theorem BdK:pop (.slS x lo hi) e H K=BcL (x.ev e) (evO e lo) (evO e hi) K:=by
 show (match x.ev e with | .val (.string s)=>bnd e lo hi (bl s).length (bl s).length fun l h=>K (.val (.string (str (((bl s).drop l).take (h - l))))) | _=>False)=_
 simp only [A2O]; rfl
theorem Be0 {k:Nat}:pop (.slV k x lo hi) e H K=A9v k (x.ev e) (evO e lo) (evO e hi) K:=by
 rw [Bei]; simp only [A2O]; rfl
theorem Bfr {n k:Nat}:pop (.slA n k x lo hi) e H K=A9E H n k (x.ev e) (evO e lo) (evO e hi) K:=by
 rw [Be3]; simp only [A2O]; rfl
theorem A7Z {t:TypeId}:pop (.iface t x) e H K=AY6 t (x.ev e) K:=AAi rfl
theorem Bfl {f:Fn} {xs ys:List Opd}:pop (.mkf f xs ys) e H K=A91 f (evs e xs) (evs e ys) K:=by
 rw [BdD]; unfold A91 evs; rw [←List.map_append]
 refine congrArg (· ∧ _) (propext ⟨fun h y hy => ?_,fun h y hy=>h _ (List.mem_map.2 ⟨y,hy,rfl⟩)⟩)
 obtain ⟨z,hz,rfl⟩:=List.mem_map.1 hy; exact h z hz
theorem A9U:pop (.nilc x) e H K=AWC (x.ev e) K:=AAi rfl
theorem Beo:pop (.min x y) e H K=Bc8 (x.ev e) (y.ev e) K:=AAi rfl
theorem BdR:pop (.max x y) e H K=BcV (x.ev e) (y.ev e) K:=AAi rfl
theorem Bdp {g:GOp} {xs:List Opd}:pop (.gen g xs) e H K=ATd g H (evs e xs) K:=AAi rfl
theorem Beb {n:Bool}:pop (.eqB x y n) e H K=A98 n (x.ev e) (y.ev e) K:=AAi rfl
theorem BeK {kd:Nat} {n:Bool}:pop (.eqN kd x y n) e H K=BaS n (ACq kd (x.ev e)) (ACq kd (y.ev e)) K:=AAi rfl
theorem A8o {zs:List TV} {szs:List Nat} {ps:List (Nat×Opd)}:pop (.build zs szs ps) e H K=AB7 (ACw e szs ps) (AA0 (TV.agg (ACX e zs ps)) K):=AAi rfl
theorem A3U {n k:Nat} {zs:List TV} {ps:List (Nat×Opd)}:pop (.buildA n k zs ps) e H K=AB7 (ACw e (List.replicate n k) ps) (AB7 (AA6 e ps) (AA0 (TV.arr n k (ACX e zs ps)) K)):=AAi rfl
theorem Be8 {k n:Nat} {z:TV} {ps:List (Nat×Opd)}:pop (.bsl k n z ps) e H K=AB7 (ACw e (List.replicate n k) ps) (AB7 (AA6 e ps∧n≤1000) (AA0 (TV.sl k (ACX e (List.replicate n z) ps)) K)):=by
 show ((_∧_∧_)∧_)=_
 simp only [AB7,AA0,and_assoc]
theorem A83 {z:TV}:sop P (.alloc z) e H KK=AA0 (H.length) fun n=>AA0 (H++[.obj 0 z]) fun H'=>KK (.op n 0 []) H':=AAi rfl
theorem A5y {z:TV} {t:TypeId}:sop P (.allocT z t) e H KK=AA0 (H.length) fun n=>AA0 (AAu z) fun m=>AA0 (H++[.obj 0 z,.fact n 0 t m]) fun H'=>KK (.op n 0 []) H':=AAi rfl
theorem Bax {t:TypeId}:sop P (.boxT x t) e H KK=AA0 (x.ev e) fun v=>AB7 (lays v=true) (AA0 (H.length) fun n=>AA0 (AAu v) fun m=>AA0 (H++[.obj 0 v,.fact n 0 t m]) fun H'=>KK (.op n 0 []) H'):=AAi rfl
theorem Bbo {f:FuncId}:sop P (.bstr f x) e H KK=A3V P f (AZ3 H (x.ev e)) H KK:=AAi rfl
def A6j (x:TV) (H:List Ob) (K:TV→List Ob→Prop) [Tg K]:Prop:=match x with
 | .val (.string s)=>K (.op H.length 0 []) (H++[.sit (bl s) 0])
 | _=>False
@[congr] theorem Bdl {x x':TV} {H':List Ob} (h1:x=x') (h2:H=H'):A6j x H KK=A6j x' H' KK:=by rw [h1,h2]
theorem Bag:sop P (.rngS x) e H KK=A6j (x.ev e) H KK:=AAi rfl
theorem A5w {s:ByteArray}:A6j (.val (.string s)) H KK=AA0 H.length fun n=>AA0 (H++[.sit (bl s) 0]) fun H'=>KK (.op n 0 []) H':=AAi rfl
def A26:Option Ob→Option (List UInt8×Nat)
 | some (.sit s pos)=>some (s,pos)
 | _=>none
theorem A4A {s:List UInt8} {pos:Nat}:A26 (some (.sit s pos))=some (s,pos):=AAi rfl
def A1v (x:TV) (H:List Ob) (K:TV→List Ob→Prop) [Tg K]:Prop:=match x with
 | .op id 0 []=>(match H[id]? with
  | some (.sit s pos)=>if pos<s.length then K (.tup [.val (.bool true),.val (.int .i64 (pos:Int)),.val (.int .i32 ((Utf8.decode (str s) pos).1:Int))]) (H.set id (.sit s (pos+(Utf8.decode (str s) pos).2))) else K (.tup [.val (.bool false)]) H
  | _=>False)
 | _=>False
@[congr] theorem BdY {x x':TV} {H':List Ob} (h1:x=x') (h2:H=H'):A1v x H KK=A1v x' H' KK:=by rw [h1,h2]
theorem Bb5:sop P (.nxtS x) e H KK=A1v (x.ev e) H KK:=AAi rfl
theorem A4F {id:Nat}:A1v (.op id 0 []) H KK=AA2 (A26 H[id]?) fun p=>vif (decide (p.2<p.1.length))
  (AA0 (H.set id (.sit p.1 (p.2+(Utf8.decode (str p.1) p.2).2))) fun H'=>KK (.tup [.val (.bool true),.val (.int .i64 (p.2:Int)),.val (.int .i32 ((Utf8.decode (str p.1) p.2).1:Int))]) H') (KK (.tup [.val (.bool false)]) H):=by
 unfold A1v
 cases h:H[id]? with
 | none=>simp [A26,AA2,h]
 | some o =>
  cases o with
  | sit s pos=>simp only [h,A26,AA2,AA0]; by_cases hp:pos<s.length<;>simp [vif,hp]
  | _=>simp [A26,AA2,h]
theorem BeG:sop P (.box x) e H KK=AA0 (x.ev e) fun v=>AB7 (lays v=true) (AA0 (H.length) fun n=>AA0 (H++[.obj 0 v]) fun H'=>KK (.op n 0 []) H'):=AAi rfl
theorem A4X {k n:Nat} {z:TV} {ps:List (Nat×Opd)}:sop P (.bslice k n z ps) e H KK=AB7 (ACw e (List.replicate n k) ps) (AB7 (AA6 e ps∧n≤1000) (AA0 H.length fun m=>AA0 (H++[.obj 0 (.arr n k (ACX e (List.replicate n z) ps))]) fun H'=>KK (.os k m 0 [] 0 n n) H')):=by
 rw [A6x]; simp only [AB7,AA0,and_assoc]
def ARQ (kk:MK):Option Ob→Option (List (List UInt8×TV))
 | some (.mpo kk' es)=>if kk'=kk then some es else none
 | _=>none
def ATc (kk:MK):Option Ob→Option (List (List UInt8×TV))
 | some (.mpo kk' es)=>if kk'=kk then some es else none
 | some (.mpd kk' zs _)=>if kk'=kk then some (zs.map (·.2)) else none
 | _=>none
theorem A6b {kk:MK} {es:List (List UInt8×TV)}:ATc kk (some (.mpo kk es))=some es:=by simp [ATc]
theorem A7U {kk:MK} {zs:List (Nat×List UInt8×TV)} {cl:Nat}:ATc kk (some (.mpd kk zs cl))=some (zs.map (·.2)):=by simp [ATc]
def AXT:Option Ob→Option (List (List UInt8×TV))
 | some (.mpo _ es)=>some es
 | some (.mpd _ zs _)=>some (zs.map (·.2))
 | _=>none
theorem A4D {kk:MK} {es:List (List UInt8×TV)}:AXT (some (.mpo kk es))=some es:=by simp [AXT]
theorem A9s {kk:MK} {zs:List (Nat×List UInt8×TV)} {cl:Nat}:AXT (some (.mpd kk zs cl))=some (zs.map (·.2)):=by simp [AXT]
theorem A8J {kk:MK} {es:List (List UInt8×TV)}:stO (some (.mpo kk es))=some (kk,ARo 0 es,es.length):=AAi rfl
theorem A8w {kk:MK} {zs:List (Nat×List UInt8×TV)} {cl:Nat}:stO (some (.mpd kk zs cl))=some (kk,zs,cl):=AAi rfl
def A2Z (x:TV) (H:List Ob) (K:TV→List Ob→Prop) [Tg K]:Prop:=match x with
 | .mp id 0=>(match stO H[id]? with
  | some (_,_,cl)=>K (.op H.length 0 []) (H++[.mit id [] cl])
  | none=>False)
 | _=>False
@[congr] theorem Bd5 {x x':TV} {H':List Ob} (h1:x=x') (h2:H=H'):A2Z x H KK=A2Z x' H' KK:=by rw [h1,h2]
theorem BcD:sop P (.rngM x) e H KK=A2Z (x.ev e) H KK:=AAi rfl
theorem A4V {id:Nat}:A2Z (.mp id 0) H KK=AA2 (stO H[id]?) fun p=>AA0 H.length fun n=>AA0 (H++[.mit id [] p.2.2]) fun H'=>KK (.op n 0 []) H':=by
 unfold A2Z
 cases h:stO H[id]? with
 | none=>simp [AA2,h]
 | some o=>obtain ⟨a,b,c⟩:=o; simp [AA2,AA0,h]
def AVX:Option Ob→Option (Nat×List Nat×Nat)
 | some (.mit m sn cl)=>some (m,sn,cl)
 | _=>none
theorem A6E {m cl:Nat} {sn:List Nat}:AVX (some (.mit m sn cl))=some (m,sn,cl):=AAi rfl
def A3d (x:TV) (H:List Ob) (K:TV→List Ob→Prop) [Tg K]:Prop:=match x with
 | .op id 0 []=>(match H[id]? with
  | some (.mit m sn cl)=>(match stO H[m]? with
   | some (kk,zs,cl')=>(cl'=cl∧∀ z∈zs,z.1<cl)∧(∀ z∈zs,z.1∉sn→K (.tup [.val (.bool true),kTV kk z.2.1,z.2.2]) (H.set id (.mit m (sn++[z.1]) cl)))∧((∀ z∈zs,z.1∈sn)→K (.tup [.val (.bool false)]) H)
   | none=>False)
  | _=>False)
 | _=>False
@[congr] theorem BeH {x x':TV} {H':List Ob} (h1:x=x') (h2:H=H'):A3d x H KK=A3d x' H' KK:=by rw [h1,h2]
theorem BaE:sop P (.nxtM x) e H KK=A3d (x.ev e) H KK:=AAi rfl
def Bc1 (id m:Nat) (sn:List Nat) (cl:Nat) (kk:MK) (zs:List (Nat×List UInt8×TV)) (cl':Nat) (H:List Ob) (K:TV→List Ob→Prop) [Tg K]:Prop :=
 (cl'=cl∧∀ z∈zs,z.1<cl)∧(∀ z∈zs,z.1∉sn→K (.tup [.val (.bool true),kTV kk z.2.1,z.2.2]) (H.set id (.mit m (sn++[z.1]) cl)))∧((∀ z∈zs,z.1∈sn)→K (.tup [.val (.bool false)]) H)
@[congr] theorem BfM {id m:Nat} {sn sn':List Nat} {cl c2:Nat} {kk:MK} {zs zs':List (Nat×List UInt8×TV)} {cl' c2':Nat} {H':List Ob} (h1:sn=sn') (h2:cl=c2) (h3:zs=zs') (h4:cl'=c2') (h5:H=H'):Bc1 id m sn cl kk zs cl' H KK=Bc1 id m sn' c2 kk zs' c2' H' KK:=by rw [h1,h2,h3,h4,h5]
theorem A6i {id:Nat}:A3d (.op id 0 []) H KK=AA2 (AVX H[id]?) fun p=>AA2 (stO H[p.1]?) fun q=>Bc1 id p.1 p.2.1 p.2.2 q.1 q.2.1 q.2.2 H KK:=by
 unfold A3d
 cases h:H[id]? with
 | none=>simp [AVX,AA2,h]
 | some o =>
  cases o with
  | mit m sn cl =>
   simp only [h,AVX,AA2]
   cases h2:stO H[m]? with
   | none=>simp
   | some q=>obtain ⟨a,b,c⟩:=q; simp only [Bc1]
  | _=>simp [AVX,AA2,h]
def Bbq (p:Nat×List Nat×Nat) (q:MK×List (Nat×List UInt8×TV)×Nat):Option TV:=match p.2.1.getLast? with
 | some s=>if q.2.2=p.2.2 then (match q.2.1.find? (·.1 == s) with
  | some z=>some (.tup [kTV q.1 z.2.1,z.2.2])
  | none=>none) else none
 | none=>none
def A9u (kk:MK) (o:Option Ob):Option (List (Nat×List UInt8×TV)×Nat):=match stO o with
 | some (kk',zs,cl)=>if kk'=kk then some (zs,cl) else none
 | none=>none
theorem A53 {kk:MK} {es:List (List UInt8×TV)}:A9u kk (some (.mpo kk es))=some (ARo 0 es,es.length):=by simp [A9u,stO]
theorem A5U {kk:MK} {zs:List (Nat×List UInt8×TV)} {cl:Nat}:A9u kk (some (.mpd kk zs cl))=some (zs,cl):=by simp [A9u,stO]
def A1B (kk:MK) (m k:TV) (H:List Ob) (K:TV→List Ob→Prop) [Tg K]:Prop:=match m,ABc kk k with
 | .mp id 0,some kb=>(match stO H[id]? with
  | some (kk',zs,cl)=>kk'=kk∧K .any (H.set id (.mpd kk (zs.eraseIdx (ATw kb (zs.map (·.2)))) cl))
  | none=>False)
 | _,_=>False
@[congr] theorem BdS {kk:MK} {H':List Ob} {m m' k k':TV} (h1:m=m') (h2:k=k') (h4:H=H'):A1B kk m k H KK=A1B kk m' k' H' KK:=by rw [h1,h2,h4]
theorem Bat {kk:MK} {m k:Opd}:sop P (.delM kk m k) e H KK=A1B kk (m.ev e) (k.ev e) H KK:=AAi rfl
theorem A6B {kk:MK} {id:Nat} {kx:TV}:A1B kk (.mp id 0) kx H KK=AA2 (A9u kk H[id]?) fun p=>AA2 (ABc kk kx) fun kb=>AA0 (p.1.eraseIdx (ATw kb (p.1.map (·.2)))) fun zs=>AA0 (H.set id (.mpd kk zs p.2)) fun H'=>KK .any H':=by
 unfold A1B A9u
 cases h:stO H[id]? with
 | none=>cases ABc kk kx<;>simp [h,AA2]
 | some q =>
  obtain ⟨kk',zs,cl⟩:=q
  by_cases hk:kk'=kk
  ·subst hk; cases ABc kk' kx<;>simp [h,AA2,AA0]
  ·cases ABc kk kx<;>simp [h,AA2,hk]
def BcR (H:List Ob) (x:TV) (K:TV→List Ob→Prop) [Tg K]:Prop:=match x with
 | .os k id ver [] off n cp=>n≠0∧obV H[id]?=some ver∧K (.os k id ver [] off n cp) H
 | _=>False
@[congr] theorem BfG {H':List Ob} {x x':TV} (h0:H=H') (h1:x=x'):BcR H x KK=BcR H' x' KK:=by rw [h0,h1]
theorem Bd7 {x:Opd}:sop P (.cvS x) e H KK=BcR H (x.ev e) KK:=AAi rfl
theorem A8I {k id ver off n cp:Nat}:BcR H (.os k id ver [] off n cp) KK=AB7 (n≠0) (AB7 (obV H[id]?=some ver) (KK (.os k id ver [] off n cp) H)):=AAi rfl
theorem Bcb {v:Nat} {y:TV}:obV (some (.obj v y))=some v:=AAi rfl
def A1u (k:Nat) (z x:TV) (H:List Ob) (K:TV→List Ob→Prop) [Tg K]:Prop:=match x with
 | .os k' id ver p off n cp=>AM0 k (.os k' id ver p off n cp) (List.replicate n z) H fun _ H'=>K .any H'
 | .val (.slice none 0 0)=>K .any H
 | _=>False
@[congr] theorem Bdj {k:Nat} {z x x':TV} {H':List Ob} (h1:x=x') (h2:H=H'):A1u k z x H KK=A1u k z x' H' KK:=by rw [h1,h2]
theorem A9P {k:Nat} {z:TV}:sop P (.clrS k z x) e H KK=A1u k z (x.ev e) H KK:=AAi rfl
theorem A08 {k:Nat} {z:TV}:A1u k z (.val (.slice none 0 0)) H KK=KK .any H:=AAi rfl
theorem A3S {k id ver off n cp:Nat} {p:List (Nat×Nat)} {z:TV}:A1u k z (.os k id ver p off n cp) H KK=AA0 (List.replicate n z) fun ys=>AYa k (.os k id ver p off n cp) (some ys) H fun _ H'=>KK .any H':=AAi rfl
theorem A5i {kk:MK} {es:List (List UInt8×TV)}:ARQ kk (some (.mpo kk es))=some es:=by simp [ARQ]
theorem BcF {l:List UInt8}:ABc .str (.val (.string (str l)))=some l:=by simp [ABc,bl,str]
theorem Bcj {n:Nat} {l:List UInt8}:ABc (.arr n) (.arr n 1 (l.map by8))=some l:=by
 unfold ABc; simp only [APk,APa,and_self,if_true]
theorem A7D {z:TV} {r:Option TV}:ARK z false r=r.getD z:=by simp [ARK]
theorem A7p {z:TV} {r:Option TV}:ARK z true r = .tup [r.getD z,.val (.bool r.isSome)]:=by simp [ARK]
def A9z (x:TV) (A:Prop) [Tg A]:Prop:=match x with
 | .val (.int _ _)=>A
 | _=>False
@[congr] theorem BfB {x x':TV} {A:Prop} (h:x=x'):A9z x A=A9z x' A:=by rw [h]
theorem A7P {q:IntKind} {n:Int} {A:Prop}:A9z (.val (.int q n)) A=A:=by simp [A9z]
theorem BaH {kk:MK}:sop P (.mkm kk none) e H KK=AA0 H.length fun n=>AA0 (H++[.mpo kk []]) fun H'=>KK (.mp n 0) H':=by simp [sop,AA0]
theorem Bb9 {kk:MK}:sop P (.mkm kk (some x)) e H KK=A9z (x.ev e) (AA0 H.length fun n=>AA0 (H++[.mpo kk []]) fun H'=>KK (.mp n 0) H'):=by
 simp only [sop,AA0,A9z]
 cases x.ev e with
 | val v=>cases v<;>simp
 | _=>simp
def A2c (kk:MK) (m k v:TV) (H:List Ob) (K:TV→List Ob→Prop) [Tg K]:Prop:=match m,ABc kk k with
 | .mp id 0,some kb=>(match H[id]? with
  | some (.mpo kk' es)=>(kk'=kk∧lays v=true)∧K .any (H.set id (.mpo kk (AUM kb v es)))
  | _=>False)
 | _,_=>False
@[congr] theorem Bef {kk:MK} {H':List Ob} {m m' k k' v v':TV} (h1:m=m') (h2:k=k') (h3:v=v') (h4:H=H'):A2c kk m k v H KK=A2c kk m' k' v' H' KK:=by rw [h1,h2,h3,h4]
theorem BbN {kk:MK} {m k:Opd}:sop P (.mupd kk m k x) e H KK=A2c kk (m.ev e) (k.ev e) (x.ev e) H KK:=AAi rfl
def A3k (kk:MK) (z m k:TV) (H:List Ob) (K:TV→List Ob→Prop) [Tg K]:Prop:=match m,ABc kk k with
 | .mp id 0,some kb=>(match H[id]? with
  | some (.mpo kk' es)=>kk'=kk∧K (.tup [(AR7 kb es).getD z,.val (.int .i64 (ATw kb es))]) (H.set id (.mpo kk (AUM kb ((AR7 kb es).getD z) es)))
  | _=>False)
 | _,_=>False
@[congr] theorem Bfn {kk:MK} {H':List Ob} {z m m' k k':TV} (h1:m=m') (h2:k=k') (h4:H=H'):A3k kk z m k H KK=A3k kk z m' k' H' KK:=by rw [h1,h2,h4]
theorem BbD {kk:MK} {z:TV} {m k:Opd}:sop P (.ment kk z m k) e H KK=A3k kk z (m.ev e) (k.ev e) H KK:=AAi rfl
def A1C (m st v:TV) (H:List Ob) (K:TV→List Ob→Prop) [Tg K]:Prop:=match m,st with
 | .mp id 0,.val (.int _ j)=>(match H[id]? with
  | some (.mpo kk es)=>(0≤j∧lays v=true)∧(match es[j.toNat]? with
   | some (k,_)=>K .any (H.set id (.mpo kk (es.set j.toNat (k,v))))
   | none=>False)
  | _=>False)
 | _,_=>False
@[congr] theorem BeW {H':List Ob} {m m' st st' v v':TV} (h1:m=m') (h2:st=st') (h3:v=v') (h4:H=H'):A1C m st v H KK=A1C m' st' v' H' KK:=by rw [h1,h2,h3,h4]
theorem A93 {m st:Opd}:sop P (.mest m st x) e H KK=A1C (m.ev e) (st.ev e) (x.ev e) H KK:=AAi rfl
theorem A77 {sz:Nat}:sop P (.store sz x y) e H KK=AWA H sz (x.ev e) (y.ev e) KK:=AAi rfl
theorem Bdg {k n:Nat} {z:TV}:sop P (.mks k n z x y) e H KK=BcJ H k n z (x.ev e) (y.ev e) KK:=AAi rfl
theorem BdU {k n:Nat} {et:TypeId}:sop P (.app k n et x y) e H KK=A9e k n et (x.ev e) (ABe H k (y.ev e)) H KK:=AAi rfl
theorem Bbl {et:TypeId}:sop P (.appS et x y) e H KK=A3Z et (x.ev e) (y.ev e) H KK:=AAi rfl
theorem Baf {k:Nat}:sop P (.copy k x y) e H KK=AYa k (x.ev e) (ABe H k (y.ev e)) H KK:=AAi rfl
theorem A8T:sop P (.copyS x y) e H KK=AY2 (x.ev e) (y.ev e) H KK:=AAi rfl
theorem BaD {k n:Nat} {z:TV}:sop P (.appZ k n z x y) e H KK=A4z k n z (x.ev e) (y.ev e) H KK:=AAi rfl
theorem Bd8 {n:Bool}:sop P (.eqS x n) e H KK=A6W n (x.ev e) H KK:=AAi rfl
theorem Bdw:sop P (.s2b x) e H KK=Bc5 H (x.ev e) KK:=AAi rfl
theorem BaI {f:FuncId} {args:List Opd}:sop P (.call f args) e H KK=AA0 (evs e args) fun xs=>AB7 (AMD xs) (VC P f xs H KK):=by
 rw [BbA,AJj]; rfl
theorem Bd9 {nm:String} {args:List Opd}:sop P (.inv x nm args) e H KK=AA0 (evs e args) fun xs=>AB7 (AMD xs) (A9L P nm (x.ev e) xs H KK):=by
 show ((∀ y∈args,ABl (y.ev e)=false)∧_)=_
 rw [AJj]; rfl
theorem A8G {args:List Opd}:sop P (.callv x args) e H KK=AA0 (evs e args) fun xs=>AB7 (AMD xs) (AUo P (x.ev e) xs H KK):=by
 rw [A7I,AJj]; rfl
end
section
variable {K:TV→Prop} {KK:TV→List Ob→Prop} {x y:TV} {cs ys:List TV} {n n' k k':Nat} {id ver off cp:Nat} {p:List (Nat×Nat)} {j:Int} {q:IntKind} {lo hi:Option TV}
theorem A5j {t:Bool}:A1Z (.val (.bool t)) x y K=vif t (K x) (K y):=by cases t<;>simp [A1Z,vif]
theorem A8K {t:TypeId} {op:BinOp} {u v:Value}:Bc0 t op (.val u) (.val v) K=AB7 (A5s u v=true) (AA2 (ABW t op u v) fun r=>AA0 (TV.val r) K):=by
 show (_∧_)=_; cases ABW t op u v<;>rfl
theorem BcA {op:UnOp} {u:Value}:Pun op (.val u) K=AA2 (unV op u) fun r=>AA0 (TV.val r) K:=by
 unfold Pun; simp only; cases unV op u<;>rfl
theorem A5t {k:IntKind}:A3P k (.val (.int q j)) K=AA0 (TV.val (.int k (k.wrap j))) K:=AAi rfl
theorem A9q {s:ByteArray}:Bc7 (.val (.string s)) K=K (.val (.string s)):=AAi rfl
theorem A7f:Bc3 (some cs) K=AB7 (∀ y∈cs,AY7 y) (AA0 (TV.val (.string (str (cs.map APT)))) K):=AAi rfl
theorem A5d {ag:Bool} {sz:Nat}:AXY H ag sz (.fp y) K=AB7 (AUF ag sz y) (K y):=AAi rfl
theorem A4N {ag:Bool} {sz:Nat}:AXY H ag sz (.op id ver p) K=AA2 (AD3 H[id]? ver) fun x=>AA2 (AF6 p x) fun y=>AB7 (AUF ag sz y) (K y):=by
 unfold AXY
 simp only
 cases h:H[id]? with
 | none=>simp [AD3,AA2]
 | some o =>
  cases o with
  | gone v=>simp [AD3,AA2]
  | ice v m y=>simp [AD3,AA2]
  | fact i v t m=>simp [AD3,AA2]
  | bld v t l=>simp [AD3,AA2]
  | lp st pe fn N en ps ca cb=>simp [AD3,AA2]
  | mpo kk es=>simp [AD3,AA2]
  | mpd kk zs cl=>simp [AD3,AA2]
  | mit m sn cl=>simp [AD3,AA2]
  | sit s pos=>simp [AD3,AA2]
  | obj v x =>
   by_cases hv:v=ver
   ·subst hv; simp only [AD3,AA2,AB7,if_true,true_and]; cases AF6 p x<;>rfl
   ·simp [AD3,AA2,hv]
theorem AZM {i o:Nat}:AQO i o (.op id ver p) K=AA0 (p++[(i,o)]) fun p=>K (.op id ver p):=AAi rfl
theorem AZI {i o:Nat}:AQO i o (.fp (.agg cs)) K=AB7 (AA1 (cs.take i)=o) (AA2 cs[i]? fun y=>K (.fp y)):=by
 unfold AQO; simp only; cases cs[i]?<;>rfl
theorem A2A {ag:Bool} {sz i o:Nat}:AXr ag sz i o (.agg cs) K=AB7 (AA1 (cs.take i)=o) (AA2 cs[i]? fun y=>AB7 (AUF ag sz y) (K y)):=by
 unfold AXr; simp only; cases cs[i]?<;>rfl
theorem A4l:A0e k (.sl k cs) (.val (.int q j)) K=AB7 (0≤j) (AA2 cs[j.toNat]? fun y=>K (.fp y)):=by
 unfold A0e; simp only [true_and]; cases cs[j.toNat]?<;>rfl
theorem A49:A0e k (.os k id ver p off n cp) (.val (.int q j)) K=AB7 (0≤j∧j<n) (AA0 (off+j.toNat) fun m=>AA0 (p++[(m,m*k)]) fun p=>K (.op id ver p)):=by
 show (k=k∧_)=_; simp [AB7,AA0,and_assoc]
theorem A0S:AUr n k (.fp (.arr n k cs)) (.val (.int q j)) K=AB7 (0≤j) (AA2 cs[j.toNat]? fun y=>K (.fp y)):=by
 unfold AUr; simp only [true_and]; cases cs[j.toNat]?<;>rfl
theorem A2h:AUr n k (.op id ver p) (.val (.int q j)) K=AB7 (0≤j∧j<n) (AA0 j.toNat fun m=>AA0 (p++[(m,m*k)]) fun p=>K (.op id ver p)):=by
 show (_∧_)=_; simp [AB7,AA0,and_assoc]
theorem A7N {ag:Bool}:BcG ag n k (.arr n k cs) (.val (.int q j)) K=AB7 (0≤j) (AA2 cs[j.toNat]? fun y=>AB7 (AUF ag k y) (K y)):=by
 unfold BcG; simp only [true_and]; cases cs[j.toNat]?<;>rfl
theorem A5a {s:ByteArray}:A1O (.val (.string s)) (.val (.int q j)) K=AB7 (0≤j) (AA2 (bl s)[j.toNat]? fun b=>K (by8 b)):=by
 unfold A1O; simp only; cases (bl s)[j.toNat]?<;>rfl
theorem A7r {i:Nat}:Bbj i (.tup cs) K=AA2 cs[i]? K:=by
 unfold Bbj; simp only; cases cs[i]?<;>rfl
theorem A3z {s:ByteArray}:A4i (.val (.string s)) K=AA0 (TV.val (.int .i64 (bl s).length)) K:=AAi rfl
theorem A3M:A0h (.sl k cs) K=AA0 (TV.val (.int .i64 cs.length)) K:=AAi rfl
theorem A5E:A0h (.os k id ver p off n cp) K=K (.val (.int .i64 n)):=AAi rfl
theorem A2M {ad:Option Addr} {c:Nat}:A0h (.val (.slice ad n c)) K=K (.val (.int .i64 n)):=AAi rfl
section
variable {len lim:Nat} {KN:Nat→Nat→Prop} {l h:Int} {q2:IntKind}
theorem A7q:AVZ none none len lim KN=AB7 (len≤lim) (KN 0 len):=by
 show ((0≤(0:Int)∧(0:Int)≤(len:Int)∧(len:Int)≤lim)∧KN (Int.toNat 0) (Int.toNat len))=_
 simp [AB7]
theorem A8M:AVZ (some (.val (.int q l))) none len lim KN=AB7 (0≤l∧l≤len∧(len:Int)≤lim) (AA0 l.toNat fun l=>KN l len):=by
 show ((0≤l∧l≤(len:Int)∧(len:Int)≤lim)∧KN l.toNat (Int.toNat len))=_
 simp [AB7,AA0]
theorem A78:AVZ none (some (.val (.int q h))) len lim KN=AB7 (0≤h∧h≤lim) (AA0 h.toNat fun h=>KN 0 h):=by
 show ((0≤(0:Int)∧0≤h∧h≤lim)∧KN (Int.toNat 0) h.toNat)=_
 simp [AB7,AA0]
theorem A7X:AVZ (some (.val (.int q l))) (some (.val (.int q2 h))) len lim KN=AB7 (0≤l∧l≤h∧h≤lim) (AA0 l.toNat fun l=>AA0 h.toNat fun h=>KN l h):=AAi rfl
end
theorem A8b {s:ByteArray}:BcL (.val (.string s)) lo hi K=AVZ lo hi (bl s).length (bl s).length fun l h=>AA0 (((bl s).drop l).take (h - l)) fun r=>K (.val (.string (str r))):=AAi rfl
theorem A8W:A9v k (.sl k cs) lo hi K=AVZ lo hi cs.length cs.length fun l h=>AA0 ((cs.drop l).take (h - l)) fun r=>K (.sl k r):=by
 exact propext ⟨fun h=>h.2,fun h=>⟨rfl,h⟩⟩
theorem A8t:A9v k (.os k id ver p off n cp) lo hi K=AVZ lo hi n cp fun l h=>AA0 (off+l) fun o=>AA0 (h - l) fun m=>AA0 (cp - l) fun c=>K (.os k id ver p o m c):=by
 exact propext ⟨fun h=>h.2,fun h=>⟨rfl,h⟩⟩
theorem A4x {ad:Option Addr}:A9v k (.val (.slice ad 0 0)) lo hi K=AVZ lo hi 0 0 fun l h=>K (.val (.slice ad 0 0)):=AAi rfl
theorem A64:A9E H n k (.fp (.arr n k cs)) lo hi K=AB7 (n≤9223372036854775807) (AVZ lo hi n n fun l h=>AA0 ((cs.drop l).take (h - l)) fun r=>K (.sl k r)):=by
 exact propext ⟨fun h=>⟨h.2.2.1,h.2.2.2⟩,fun h=>⟨rfl,rfl,h.1,h.2⟩⟩
def AWN:Option TV→Nat→Nat→Option (List TV)
 | some (.arr n' k' cs),n,k=>if n'=n∧k'=k then some cs else none
 | _,_,_=>none
theorem A32:AWN (some (.arr n k cs)) n k=some cs:=by simp [AWN]
theorem A8f:A9E H n k (.op id ver p) lo hi K=AA2 (AD3 H[id]? ver) fun x=>AB7 (n≤9223372036854775807) (AA2 (AWN (AF6 p x) n k) fun _=>AVZ lo hi n n fun l h=>AA0 (h - l) fun m=>AA0 (n - l) fun c=>K (.os k id ver p l m c)):=by
 unfold A9E
 simp only
 cases h:H[id]? with
 | none=>simp [AD3,AA2]
 | some o =>
  cases o with
  | gone v=>simp [AD3,AA2]
  | ice v m y=>simp [AD3,AA2]
  | fact i v t m=>simp [AD3,AA2]
  | bld v t l=>simp [AD3,AA2]
  | lp st pe fn N en ps ca cb=>simp [AD3,AA2]
  | mpo kk es=>simp [AD3,AA2]
  | mpd kk zs cl=>simp [AD3,AA2]
  | mit m sn cl=>simp [AD3,AA2]
  | sit s pos=>simp [AD3,AA2]
  | obj v x =>
   by_cases hv:v=ver
   ·simp only [AD3,AA2,hv,AB7,AA0,if_true,true_and]
    congr 1
    cases hg:AF6 p x with
    | none=>simp [AWN]
    | some y =>
     cases y with
     | arr n2 k2 ds =>
      by_cases h1:n2=n
      ·by_cases h2:k2=k
       ·simp [AWN,h1,h2]; exact Iff.rfl
       ·simp [AWN,h1,h2]
      ·simp [AWN,h1]
     | _=>simp [AWN]
   ·simp [AD3,AA2,hv]
theorem A1S {t:TypeId}:AY6 t x K=AB7 (lays x=true) (K (.ifc t x)):=AAi rfl
theorem A8x {f:Fn}:A91 f cs ys K=AB7 (AMD (cs++ys)) (K (.fn f cs ys)):=AAi rfl
theorem A6z:AWC (.op id ver p) K=K (.op id ver p):=AAi rfl
theorem A47:AWC (.fp y) K=K (.fp y):=AAi rfl
theorem A5k {f:FuncId} {a b:List TV}:AWC (.fn (.func f) a b) K=K (.fn (.func f) a b):=AAi rfl
theorem A3t {t:TypeId}:AWC (.ifc t y) K=K (.ifc t y):=AAi rfl
theorem AZH {f:FuncId} {a b:Array Value}:AWC (.val (.func (.func f) a b)) K=K (.val (.func (.func f) a b)):=AAi rfl
section
variable {a b:Int} {q2:IntKind}
theorem A7C:Bc8 (.val (.int q a)) (.val (.int q2 b)) K=vif (decide (b<a)) (K (.val (.int q b))) (K (.val (.int q a))):=by
 show K _=_
 by_cases h:b<a<;>simp [vif,h]
theorem A8S:BcV (.val (.int q a)) (.val (.int q2 b)) K=vif (decide (a<b)) (K (.val (.int q b))) (K (.val (.int q a))):=by
 show K _=_
 by_cases h:a<b<;>simp [vif,h]
theorem A5I {q1 q2 q3:IntKind} {l h m:Int}:ATd (.sl3 k) H [.sl k cs,.val (.int q1 l),.val (.int q2 h),.val (.int q3 m)] K=AB7 (0≤l∧l≤h∧h≤m∧m≤cs.length) (AA0 ((cs.drop l.toNat).take (h.toNat - l.toNat)) fun r=>K (.sl k r)):=by
 unfold ATd gev AB7 AA0
 simp only [true_and]
 by_cases hc:0≤l∧l≤h∧h≤m∧m≤cs.length
 ·rw [if_pos hc]; simp [hc]
 ·rw [if_neg hc]; simp only [hc,false_and]
theorem A4C {sh:List EL} {b:Bool} {xs ys:List TV}:ATd (.eqR sh b) H [.agg xs,.agg ys] K=AA2 (AUX sh xs ys) fun r=>AA0 (TV.val (.bool (xor b r))) K:=by
 have hg:gev (.eqR sh b) H [.agg xs,.agg ys]=(AUX sh xs ys).map fun r => .val (.bool (xor b r)):=by unfold gev; rfl
 unfold ATd AA2 AA0
 rw [hg]
 cases AUX sh xs ys<;>rfl
theorem A6n:AUX [] [] []=some true:=AAi rfl
theorem BaQ {l:List EL} {k:IntKind} {a b:Int} {xs ys:List TV}:AUX (.i::l) (.val (.int k a)::xs) (.val (.int k b)::ys)=(AUX l xs ys).map fun r=>(a == b) && r:=by rw [AUX,if_pos rfl]
theorem A9G {l:List EL} {a b:ByteArray} {xs ys:List TV}:AUX (.s::l) (.val (.string a)::xs) (.val (.string b)::ys)=(AUX l xs ys).map fun r=>(a == b) && r:=AAi rfl
theorem Bcd {l:List EL} {n:Nat} {a b:List UInt8} {xs ys:List TV}:AUX (.b n::l) (.arr n 1 (a.map by8)::xs) (.arr n 1 (b.map by8)::ys)=(AUX l xs ys).map fun r=>(a == b) && r:=by
 rw [AUX]
 simp only [APk,APa,and_self,if_true]
theorem A3F {n:Nat} {b:Bool} {xs ys:List UInt8}:ATd (.eqA n b) H [.arr n 1 (xs.map by8),.arr n 1 (ys.map by8)] K=AA0 (TV.val (.bool (xor b (xs == ys)))) K:=by
 unfold ATd gev AA0
 simp only [APk,APa,and_self,if_true]
theorem A3T {q:IntKind} {n:Int}:ATd .r2s H [.val (.int q n)] K=AA0 (TV.val (.string (Utf8.encode n))) K:=AAi rfl
theorem A5C {t t':TypeId}:ATd (.tas t) H [.ifc t' x] K=AB7 (t'=t) (K x):=by
 unfold ATd gev AB7
 by_cases h:t'=t<;>simp [h]
theorem A3l {a:Option Addr} {l n:Nat}:ATd .capV H [.val (.slice a l n)] K=AA0 (TV.val (.int .i64 (n:Int))) K:=AAi rfl
theorem A4u {n:Nat}:ATd (.s2a n k) H [.sl k cs] K=AB7 (0<n∧n≤cs.length) (AA0 (cs.take n) fun r=>K (.fp (.arr n k r))):=by
 unfold ATd gev AB7 AA0
 simp only [true_and]
 by_cases hc:0<n∧n≤cs.length
 ·rw [if_pos hc]; simp [hc]
 ·rw [if_neg hc]; simp only [hc,false_and]
theorem Bcm {s t:Bool}:A98 false (.val (.bool s)) (.val (.bool t)) K=AA0 (TV.val (.bool (s == t))) K:=by
 show K _=_; simp [AA0]
theorem A90 {s t:Bool}:A98 true (.val (.bool s)) (.val (.bool t)) K=AA0 (TV.val (.bool (!(s == t)))) K:=by
 show K _=_; simp [AA0]
theorem Ba5 {m b:Bool}:BaS m (some true) (some b) K=AA0 (TV.val (.bool (xor m b))) K:=AAi rfl
theorem A9V {m:Bool}:BaS m (some false) (some true) K=AA0 (TV.val (.bool (xor m false))) K:=AAi rfl
end
theorem A6g {kk:MK} {m:Nat} {kx v:TV}:A2c kk (.mp m 0) kx v H KK=AA2 (ARQ kk H[m]?) fun es=>AA2 (ABc kk kx) fun kb=>AB7 (lays v=true) (AA0 (AUM kb v es) fun es'=>AA0 (H.set m (.mpo kk es')) fun H'=>KK .any H'):=by
 unfold A2c
 cases hh:H[m]? with
 | none=>cases ABc kk kx<;>simp [hh,ARQ,AA2]
 | some o =>
  cases o with
  | mpo kk' es =>
   by_cases hk:kk'=kk
   ·subst hk; cases ABc kk' kx<;>simp [hh,ARQ,AA2,AB7,AA0]
   ·cases ABc kk kx<;>simp [hh,ARQ,AA2,hk]
  | _=>cases ABc kk kx<;>simp [hh,ARQ,AA2]
theorem A4s {kk:MK} {m:Nat} {kx z:TV}:A3k kk z (.mp m 0) kx H KK=AA2 (ARQ kk H[m]?) fun es=>AA2 (ABc kk kx) fun kb=>AA0 ((AR7 kb es).getD z) fun y=>AA0 (ATw kb es) fun p=>AA0 (AUM kb y es) fun es'=>AA0 (H.set m (.mpo kk es')) fun H'=>KK (.tup [y,.val (.int .i64 (p:Int))]) H':=by
 unfold A3k
 cases hh:H[m]? with
 | none=>cases ABc kk kx<;>simp [hh,ARQ,AA2]
 | some o =>
  cases o with
  | mpo kk' es =>
   by_cases hk:kk'=kk
   ·subst hk; cases ABc kk' kx<;>simp [hh,ARQ,AA2,AA0]
   ·cases ABc kk kx<;>simp [hh,ARQ,AA2,hk]
  | _=>cases ABc kk kx<;>simp [hh,ARQ,AA2]
def AUi:Option Ob→Option (MK×List (List UInt8×TV))
 | some (.mpo kk es)=>some (kk,es)
 | _=>none
theorem A1p {kk:MK} {es:List (List UInt8×TV)}:AUi (some (.mpo kk es))=some (kk,es):=by simp [AUi]
theorem A5Z {m j:Nat} {q:IntKind} {v:TV}:A1C (.mp m 0) (.val (.int q (j:Int))) v H KK=AA2 (AUi H[m]?) fun p=>AB7 (lays v=true) (AA2 p.2[j]? fun y=>AA0 (p.2.set j (y.1,v)) fun es'=>AA0 (H.set m (.mpo p.1 es')) fun H'=>KK .any H'):=by
 unfold A1C
 cases hh:H[m]? with
 | none=>simp [hh,AUi,AA2]
 | some o =>
  cases o with
  | mpo kk' es =>
   simp only [hh,AUi,AA2,AB7,AA0,Int.natCast_nonneg,true_and,Int.toNat_natCast]
   cases es[j]?<;>simp
  | _=>simp [hh,AUi,AA2]
theorem A1V {kk:MK} {z kx:TV} {ok:Bool} {m:Nat}:ATd (.look kk z ok) H [.mp m 0,kx] K=AA2 (ATc kk H[m]?) fun es=>AA2 (ABc kk kx) fun kb=>AA0 (ARK z ok (AR7 kb es)) K:=by
 unfold ATd gev AU0
 cases hh:H[m]? with
 | none=>cases hb:ABc kk kx<;>simp [hh,hb,ATc,AA2]
 | some o =>
  cases o with
  | mpo kk' es =>
   by_cases hk:kk'=kk
   ·subst hk; cases hb:ABc kk' kx<;>simp [hh,hb,ATc,AA2,AA0]
   ·cases hb:ABc kk kx<;>simp [hh,hb,ATc,AA2,hk]
  | mpd kk' zs cl =>
   by_cases hk:kk'=kk
   ·subst hk; cases hb:ABc kk' kx<;>simp [hh,hb,ATc,AA2,AA0]
   ·cases hb:ABc kk kx<;>simp [hh,hb,ATc,AA2,hk]
  | _=>cases hb:ABc kk kx<;>simp [hh,hb,ATc,AA2]
theorem A0G {kk:MK} {z kx:TV} {ok:Bool}:ATd (.look kk z ok) H [.val (.map none),kx] K=AA2 (ABc kk kx) fun kb=>AA0 (ARK z ok none) K:=by
 unfold ATd gev AU0
 cases hb:ABc kk kx<;>simp [hb,AA2,AA0]
theorem A3j {m:Nat}:ATd .lenM H [.mp m 0] K=AA2 (AXT H[m]?) fun p=>AA0 p.length fun n=>AA0 (TV.val (.int .i64 (n:Int))) K:=by
 unfold ATd gev A6c
 cases hh:H[m]? with
 | none=>simp [hh,AXT,AA2]
 | some o=>cases o<;>simp [hh,AXT,AA2,AA0]
theorem A2s {id:Nat}:ATd .entM H [.op id 0 []] K=AA2 (AVX H[id]?) fun p=>AA2 (stO H[p.1]?) fun q=>AA2 (Bbq p q) K:=by
 unfold ATd gev BcM
 cases hh:H[id]? with
 | none=>simp [hh,AVX,AA2]
 | some o =>
  cases o with
  | mit m sn cl =>
   simp only [hh,AVX,AA2,Bbq]
   cases h2:stO H[m]? with
   | none=>simp
   | some q =>
    obtain ⟨kk,zs,cl'⟩:=q
    cases h3:sn.getLast? with
    | none=>simp
    | some s =>
     by_cases hc:cl'=cl
     ·subst hc; cases hf:zs.find? (·.1 == s)<;>simp [hf]
     ·simp [hc]
  | _=>simp [hh,AVX,AA2]
theorem A11 {sz:Nat}:AWA H sz (.op id ver p) y KK=AB7 (lays y=true∧AAu y=sz) (AA2 (AD3 H[id]? ver) fun z=>AA2 (AHW p z y) fun z'=>AA0 (H.set id (.obj ver z')) fun H'=>KK .any H'):=by
 unfold AWA
 simp only [AB7]
 congr 1
 cases h:H[id]? with
 | none=>simp [AD3,AA2]
 | some o =>
  cases o with
  | gone v=>simp [AD3,AA2]
  | ice v m y=>simp [AD3,AA2]
  | fact i v t m=>simp [AD3,AA2]
  | bld v t l=>simp [AD3,AA2]
  | lp st pe fn N en ps ca cb=>simp [AD3,AA2]
  | mpo kk es=>simp [AD3,AA2]
  | mpd kk zs cl=>simp [AD3,AA2]
  | mit m sn cl=>simp [AD3,AA2]
  | sit s pos=>simp [AD3,AA2]
  | obj v x =>
   by_cases hv:v=ver
   ·subst hv; simp only [AD3,AA2,AA0,if_true,true_and]; cases AHW p x y<;>rfl
   ·simp [AD3,AA2,hv]
theorem A8D {z:TV} {l c:Int} {q2:IntKind} {bytes:Nat}:BcJ H k bytes z (.val (.int q l)) (.val (.int q2 c)) KK=AB7 (0≤l∧l≤c∧(bytes:Int)*c≤281474976710656∧c≤9223372036854775807) (AA0 l.toNat fun l=>AA0 c.toNat fun c=>AA0 H.length fun m=>AA0 (H++[.obj 0 (.arr c k (List.replicate c z))]) fun H'=>KK (.os k m 0 [] 0 l c) H'):=AAi rfl
theorem A6w {bytes:Nat} {et:TypeId}:A9e k bytes et (.val (.slice none 0 0)) (some ys) H KK=AB7 (ys.length*bytes≤140737488355328∧ys.length≤9223372036854775807) (AA0 ys.length fun n=>AA0 H.length fun m=>AA0 (H++[.obj 1 (.arr n k ys)]) fun H'=>KK (.os k m 1 [] 0 n n) H'):=AAi rfl
def AX3:Option TV→Nat→Option (List TV)
 | some (.arr _ k' cs),k=>if k'=k then some cs else none
 | _,_=>none
theorem A4p:AX3 (some (.arr n k cs)) k=some cs:=by simp [AX3]
theorem A4K {v n2:Nat} {et:TypeId}:A4Q (some (.obj v (.arr n2 k cs))) v k et off n ys=some (.obj (v+1) (.arr (n+ys.length) k ((cs.drop off).take n++ys))):=by simp [A4Q]
theorem AZl {v:Nat} {et:TypeId} {l m:List UInt8}:A4Q (some (.bld v et l)) v 1 et 0 n (m.map by8)=some (.bld (v+1) et (l.take n++m)):=by
 simp only [A4Q,APk,APa,and_self,if_true]
theorem A1F {v:Nat} {et:TypeId} {l:List UInt8} {b:UInt8}:A4Q (some (.bld v et l)) v 1 et 0 n [by8 b]=some (.bld (v+1) et (l.take n++[b])):=AZl (m:=[b])
theorem A3O {v n2:Nat}:A9D (some (.obj v (.arr n2 k cs)))=cs.length:=by simp [A9D]
theorem A6p {v:Nat} {et:TypeId} {l:List UInt8}:A9D (some (.bld v et l))=l.length:=by simp [A9D]
theorem A8Y {bytes:Nat} {et:TypeId}:A9e k bytes et (.os k id ver [] off n cp) (some ys) H KK=AA2 (A4Q H[id]? ver k et off n ys) fun o=>AB7 (off+n≤A9D H[id]?∧(n+ys.length)*bytes≤140737488355328∧n+ys.length≤9223372036854775807)
   (AA0 (n+ys.length) fun m=>AA0 (H.set id o) fun H'=>KK (.os k id (ver+1) [] 0 m m) H'):=by
 unfold A9e AW9
 simp only [true_and]
 cases h:A4Q H[id]? ver k et off n ys with
 | none=>simp [AA2]
 | some o=>simp [AA2,AB7,AA0]
theorem A59 {s:ByteArray} {et:TypeId}:A3Z et x (.val (.string s)) H KK=AA0 ((bl s).map by8) fun ys=>A9e 1 1 et x (some ys) H KK:=AAi rfl
def Bev:Option TV→Option Nat
 | some (.arr n _ _)=>some n
 | _=>none
theorem A85:Bev (some (.arr n k cs))=some n:=AAi rfl
theorem A45:AYa k (.os k id ver p off n cp) (some ys) H KK=AA2 (AD3 H[id]? ver) fun z=>AA2 (AX3 (AF6 p z) k) fun cs=>AA2 (Bev (AF6 p z)) fun N=>AB7 (off+n≤cs.length) (AA2 (AHW p z (.arr N k (cs.take off++(ys.take n++cs.drop (off+min ys.length n))))) fun z' =>
  AA0 (H.set id (.obj ver z')) fun H'=>AA0 (TV.val (.int .i64 (min ys.length n:Nat))) fun r=>KK r H'):=by
 unfold AYa AM0
 simp only [true_and]
 cases h:H[id]? with
 | none=>simp [AD3,AA2]
 | some o =>
  cases o with
  | gone v=>simp [AD3,AA2]
  | ice v m y=>simp [AD3,AA2]
  | fact i v t m=>simp [AD3,AA2]
  | bld v t l=>simp [AD3,AA2]
  | lp st pe fn N en ps ca cb=>simp [AD3,AA2]
  | mpo kk es=>simp [AD3,AA2]
  | mpd kk zs cl=>simp [AD3,AA2]
  | mit m sn cl=>simp [AD3,AA2]
  | sit s pos=>simp [AD3,AA2]
  | obj v x =>
   by_cases hv:v=ver
   ·simp only [AD3,AA2,hv,if_true,true_and]
    cases hg:AF6 p x with
    | none=>simp [AX3]
    | some y =>
     cases y with
     | arr n2 k2 ds =>
      by_cases h1:k2=k
      ·subst h1; simp only [AX3,Bev,AB7,AA0,if_true,true_and]; refine congrArg (_ ∧ ·) ?_; cases AHW p x (.arr n2 k2 (ds.take off++(ys.take n++ds.drop (off+min ys.length n))))<;>rfl
      ·simp [AX3,h1]
     | _=>simp [AX3]
   ·simp [AD3,AA2,hv]
theorem A3f {s:ByteArray}:AY2 x (.val (.string s)) H KK=AA0 ((bl s).map by8) fun ys=>AYa 1 x (some ys) H KK:=AAi rfl
theorem A5B {f:FuncId} {j v:Nat} {l:List UInt8}:A3V P f (some (j,v,l)) H KK=AB7 (Bc4 P f) (AB7 (l.length≤9223372036854775807) (AA0 (H.set j (.gone v)) fun H'=>KK (.val (.string (str l))) H')):=AAi rfl
def Bb6 (o:Option Ob) (j v n:Nat) (a:TV):Option (Nat×Nat×List UInt8):=match o with
 | some (.bld v3 t l)=>if v3=v∧t=AXe∧n=l.length∧AAu a=1 then some (j,v,l) else none
 | _=>none
def A5T (H:List Ob) (j v n:Nat) (a:TV):Option (Nat×Nat×List UInt8):=Bb6 H[j]? j v n a
def A0c (H:List Ob) (q:Option TV):Option (Nat×Nat×List UInt8):=match q with
 | some (.agg [a,.os 1 j v2 [] 0 n cp])=>A5T H j v2 n a
 | _=>none
theorem A6k {id ver:Nat} {p:List (Nat×Nat)}:AZ3 H (.op id ver p)=A0c H ((AD3 H[id]? ver).bind (AF6 p)):=by
 unfold AZ3
 simp only []
 cases h:H[id]? with
 | none=>simp [AD3,A0c]
 | some o =>
  cases o with
  | obj v y =>
   by_cases hv:v=ver
   ·simp only [AD3,hv,if_true,Option.bind_some]
    unfold A0c A5T Bb6
    rfl
   ·simp [AD3,A0c,hv]
  | _=>simp [AD3,A0c]
theorem A3Q {a:TV} {j v n cp:Nat}:A0c H (some (.agg [a,.os 1 j v [] 0 n cp]))=A5T H j v n a:=AAi rfl
theorem A34 {a:TV} {j v n:Nat}:A5T H j v n a=Bb6 H[j]? j v n a:=AAi rfl
theorem A9o {a:TV} {j v n:Nat} {l:List UInt8} (hn:n=l.length) (ha:AAu a=1):Bb6 (some (.bld v 5 l)) j v n a=some (j,v,l):=by
 simp [Bb6,hn,ha,AXe]
theorem A81 {s:ByteArray}:Bc5 H (.val (.string s)) KK=AB7 ((bl s).length≤9223372036854775807) (AA0 (bl s).length fun n=>AA0 ((bl s).map by8) fun r=>AA0 H.length fun m=>AA0 (H++[.obj 0 (.arr n 1 r)]) fun H'=>KK (.os 1 m 0 [] 0 n n) H'):=AAi rfl
theorem A4a {z:TV} {j:Int} {bytes:Nat}:A4z k bytes z (.val (.slice none 0 0)) (.val (.int .i64 j)) H KK=AB7 (0≤j∧(bytes:Int)*j≤140737488355328∧j≤9223372036854775807) (AA0 j.toNat fun n=>AA0 H.length fun m=>AA0 (H++[.obj 0 (.arr n k (List.replicate n z))]) fun H'=>KK (.os k m 0 [] 0 n n) H'):=AAi rfl
theorem A4f {n:Bool} {a:Option Addr} {l c:Nat}:A6W n (.val (.slice a l c)) H KK=KK (.val (.bool (xor n a.isNone))) H:=AAi rfl
theorem A9j {n:Bool}:A6W n (.sl k cs) H KK=vif (decide (cs.length=0)) (AZY H KK) (KK (.val (.bool n)) H):=by
 unfold A6W vif AZY
 by_cases h:cs=[]
 ·subst h; simp
 ·have h2:¬ cs.length=0:=fun e=>h (List.length_eq_zero_iff.1 e)
  simp [h,h2]
theorem A9l {n:Bool} {m off l cp:Nat} {p:List (Nat×Nat)}:A6W n (.os k m ver p off l cp) H KK=vif (decide (l=0)) (AZY H KK) (KK (.val (.bool n)) H):=by
 unfold A6W vif AZY
 by_cases h:l=0
 ·subst h; simp
 ·simp [h]
theorem A1G {f:FuncId} {a b:List TV}:AUo P (.fn (.func f) a b) cs H KK=AB7 (ARd P f=true) (AA0 (a++cs++b) fun xs=>VC P f xs H KK):=AAi rfl
theorem A0a {f:FuncId}:AUo P (.val (.func (.func f) #[] #[])) cs H KK=AB7 (ARd P f=true) (VC P f cs H KK):=by
 exact propext ⟨fun h=>⟨h.2.1,h.2.2⟩,fun h=>⟨rfl,h.1,h.2⟩⟩
theorem A3s:AUo P (.yl id ver) cs H KK=VY P id ver cs H KK:=AAi rfl
theorem A8R {nm:String} {t:TypeId}:A9L P nm (.ifc t x) cs H KK=A9B P (A5b P t nm) x cs H KK:=by
 unfold A9L BcT A9B
 show (match A5b P t nm with | some (f,none)=>_ | some (f,some (ag,sz))=>_ | none=>False)=_
 rcases A5b P t nm with _ | ⟨f,_ | ⟨ag,sz⟩⟩<;>rfl
theorem BbW {f:FuncId}:A9B P (some (f,none)) x cs H KK=AB7 (ARd P f=true) (AA0 (x::cs) fun xs=>VC P f xs H KK):=AAi rfl
theorem BcE {f:FuncId} {ag:Bool} {sz:Nat}:A9B P (some (f,some (ag,sz))) x cs H KK=AB7 (ARd P f=true) (AXY H ag sz x fun y=>AA0 (y::cs) fun xs=>VC P f xs H KK):=AAi rfl
theorem BeM {t:Bool} {A B:Prop}:Gd (some t) true A B=vif t A B:=AAi rfl
theorem BdM {t:Bool} {A B:Prop}:Gd (some t) false A B=vif t B A:=by cases t<;>simp [Gd,vif]
theorem Bgn {b:Bool} {A B:Prop}:Gd none b A B=B:=AAi rfl
end
section
variable {Q:VEx→Env→List Ob→Prop} {l:List VO} {kp:List Nat} {a b:AAm}
def A6r (x:TV) (A B:Prop) [Tg A] [Tg B]:Prop:=match x with
  | .val (.bool t)=>if t=true then A else B
  | _=>False
@[congr] theorem Bew {x x':TV} {A B:Prop} (h:x=x'):A6r x A B=A6r x' A B:=by rw [h]
theorem A5Q {t:Bool} {A B:Prop}:A6r (.val (.bool t)) A B=vif t A B:=AAi rfl
theorem Bfe:vwp P (.ops l kp) Q e H=ASa P l (fun e H=>AA0 (forget kp e) fun e=>Q .nor e H) e H:=AAi rfl
def A4O (zs:List Nat) (e:Env) (H:List Ob) (K:Env→List Ob→Prop) [Tg K]:Prop:=A9A zs K e H
@[congr] theorem Bek {zs:List Nat} {e e':Env} {H H':List Ob} {K:Env→List Ob→Prop} (h1:e=e') (h2:H=H'):A4O zs e H K=A4O zs e' H' K:=by rw [h1,h2]
theorem Bfa {K:Env→List Ob→Prop}:A4O [] e H K=K e H:=AAi rfl
theorem Ba3 {l r:List VO} {zs kp:List Nat}:vwp P (.opsZ l zs r kp) Q e H=ASa P l (fun e H=>A4O zs e H fun e H=>ASa P r (fun e H=>AA0 (forget kp e) fun e=>Q .nor e H) e H) e H:=AAi rfl
theorem BcC {n:Nat}:vwp P (.draw n l kp) Q e H=(vq P (l.take n) (fun e=>ASa P (l.drop n) (fun e H=>AA0 (forget kp e) fun e=>Q .nor e H) e H) e H):=AAi rfl
def Thn (P:Program) (b:AAm) (Q:VEx→Env→List Ob→Prop):VEx→Env→List Ob→Prop:=fun x e H=>match x with | .nor=>vwp P b Q e H | .exit i=>Q (.exit i) e H | .ret=>Q .ret e H | .pan u=>Q (.pan u) e H
theorem A7o:Thn P b Q .nor e H=vwp P b Q e H:=AAi rfl
theorem A39 {i:Nat}:Thn P b Q (.exit i) e H=Q (.exit i) e H:=AAi rfl
theorem A8L:Thn P b Q .ret e H=Q .ret e H:=AAi rfl
theorem Bed:vwp P (.seq a b) Q e H=vwp P a (Thn P b Q) e H:=AAi rfl
def Blk (id:Nat) (Q:VEx→Env→List Ob→Prop):VEx→Env→List Ob→Prop:=fun x e H=>match x with | .nor=>Q .nor e H | .exit i=>if i=id then Q .nor e H else Q (.exit i) e H | .ret=>Q .ret e H | .pan u=>Q (.pan u) e H
theorem A8z {id:Nat}:Blk id Q .nor e H=Q .nor e H:=AAi rfl
theorem A6d {id:Nat}:Blk id Q (.exit id) e H=Q .nor e H:=by simp [Blk]
theorem AXS {id i:Nat} (h:i≠id):Blk id Q (.exit i) e H=Q (.exit i) e H:=by simp [Blk,h]
theorem A8j {id:Nat}:Blk id Q .ret e H=Q .ret e H:=AAi rfl
theorem A7T {id:Nat}:vwp P (.block id a) Q e H=vwp P a (Blk id Q) e H:=AAi rfl
theorem Bby {c:Opd}:vwp P (.cond c a b) Q e H=A6r (c.ev e) (vwp P a Q e H) (vwp P b Q e H):=AAi rfl
def Rnd (n0:Nat) (lv:List Nat) (Q:VEx→Env→List Ob→Prop) (I:Nat→Env→List Ob→Prop) (n:Nat):VEx→Env→List Ob→Prop:=fun x e H=>match x with
 | .nor=>∃ m g,m<n∧(n0≤g∧(H.length≤g∨(ARt g (forget lv e)=true∧ANg g (H.take g)=true)))∧I m (forget lv e) (H.take g)
 | .exit i=>Q (.exit i) e H | .ret=>Q .ret e H | .pan u=>Q (.pan u) e H
section
variable {n0:Nat} {lv:List Nat} {I:Nat→Env→List Ob→Prop} {n:Nat}
theorem A4m {i:Nat}:Rnd n0 lv Q I n (.exit i) e H=Q (.exit i) e H:=AAi rfl
theorem A8q:Rnd n0 lv Q I n .ret e H=Q .ret e H:=AAi rfl
theorem AAC (m:Nat) (hm:m<n) (h:n0≤H.length) (hR:I m (forget lv e) H):Rnd n0 lv Q I n .nor e H:=by
 refine ⟨m,H.length,hm,⟨h,.inl (Nat.le_refl _)⟩,?_⟩
 rw [List.take_length]; exact hR
theorem A1N (m g:Nat) (hm:m<n) (h:n0≤g) (he:ARt g (forget lv e)=true) (hH:ANg g (H.take g)=true) (hR:I m (forget lv e) (H.take g)):Rnd n0 lv Q I n .nor e H :=
 ⟨m,g,hm,⟨h,.inr ⟨he,hH⟩⟩,hR⟩
end
theorem ACS {lv:List Nat} {H0:List Ob} (I:Nat→Env→List Ob→Prop) (n:Nat) (h0:I n (forget lv e) H0)
  (hs:∀ n e H,I n e H→vwp P a (Rnd H0.length lv Q I n) e H):vwp P (.loop lv a) Q e H0:=by
 rw [BbZ]
 exact ⟨I,n,h0,hs⟩
theorem A65 {f:Opd} {ps:List Nat} {g:FuncId} {first caps:List TV} (hf:f.ev e = .fn (.func g) first caps) (hg:ARd P g=true) (ha:AQb a=true) (hb:AQb b=true)
  (h:∀ (N:Nat) (fn:FuncId) (ca cb:Code),AY0 P N ps ca cb a b→AAs P g (first++[.yl H.length 0]++caps) (H++[.lp .ready none fn N e ps ca cb]) (ARg Q e H.length)):vwp P (.rfunc f ps a b) Q e H:=by
 rw [vwp,hf]; exact ⟨ha,hb,hg,h⟩
theorem o_g {d s:Nat} {o:VOp} {b:Bool} {r:List VO} {K:Env→List Ob→Prop}:ASa P (⟨some d,o,some (s,b)⟩::r) K e H=ARX e s fun e q=>Gd q b (vop P o e H (fun x H=>ASa P r K ((d,x)::e) H)) (ASa P r K ((d,.val undef)::e) H):=by
 rw [BaK]; refine congrArg (ARX e s) ?_; funext e q; cases q<;>rfl
def A1W (x:TV) (e:Env) (s:Nat) (Q:Env→Option Bool→Prop) [Tg Q]:Prop:=match x with
 | .val v=>Q e (isB v)
 | .any=>(∀ t,Q ((s,.val (.bool t))::e) (some t))∧∀ v,isB v=none→Q ((s,.val v)::e) none
 | _=>False
@[congr] theorem Bez {x x':TV} {s:Nat} {Q:Env→Option Bool→Prop} (h:x=x'):A1W x e s Q=A1W x' e s Q:=by rw [h]
theorem A9R {s:Nat} {Q:Env→Option Bool→Prop}:ARX e s Q=A1W (get e s) e s Q:=AAi rfl
theorem A8m {b:Bool} {s:Nat} {Q:Env→Option Bool→Prop}:A1W (.val (.bool b)) e s Q=Q e (some b):=AAi rfl
theorem A8c {s:Nat} {Q:Env→Option Bool→Prop}:A1W (.val undef) e s Q=Q e none:=AAi rfl
theorem u_c {d:Nat} {f:FuncId} {args:List Opd} {r:List VO} {K:Env→Prop}:vq P (⟨some d,.s (.call f args),none⟩::r) K e H=AA0 (evs e args) fun xs=>AB7 (AMD xs) (vex fun x=>VC P f xs H (fun y H'=>y=x∧H'=H)∧vq P r K ((d,x)::e) H):=by
 rw [Bgj,AJj]; rfl
def Gq (x:TV) (b:Bool) (A B:Prop) [Tg A] [Tg B]:Prop:=match x with
 | .val v=>if isB v=some b then A else B
 | _=>False
@[congr] theorem Bgw {x x':TV} {b:Bool} {A B:Prop} (h:x=x'):Gq x b A B=Gq x' b A B:=by rw [h]
theorem Bge {t:Bool} {A B:Prop}:Gq (.val (.bool t)) true A B=vif t A B:=by cases t<;>simp [Gq,vif,isB]
theorem Bf8 {b:Bool} {A B:Prop}:Gq (.val undef) b A B=B:=by simp [Gq,isB,undef]
theorem Bgo {t:Bool} {A B:Prop}:Gq (.val (.bool t)) false A B=vif t B A:=by cases t<;>simp [Gq,vif,isB]
theorem u_g {d s:Nat} {o:VOp} {b:Bool} {r:List VO} {K:Env→Prop}:vq P (⟨some d,o,some (s,b)⟩::r) K e H=Gq (get e s) b (ATH P o e H fun x=>vq P r K ((d,x)::e) H) (vq P r K ((d,.val undef)::e) H):=AAi rfl
theorem Bgp {f:FuncId} {args:List Opd} {k:TV→Prop}:ATH P (.s (.call f args)) e H k=AA0 (evs e args) fun xs=>AB7 (AMD xs) (vex fun x=>VC P f xs H (fun y H'=>y=x∧H'=H)∧k x):=by
 rw [A8H,AJj]; rfl
def A9J (P:Program) (x:TV) (s k:Nat) (c:AAm) (Q:VEx→Env→List Ob→Prop) (e:Env) (H:List Ob):Prop:=match x with
  | .val (.slice none 0 0)=>vwp P c Q ((s,.os k H.length 0 [] 0 0 0)::e) (H++[.obj 0 (.arr 0 k [])])
  | _=>vwp P c Q e H
@[congr] theorem BfU {x x':TV} {s k:Nat} (h:x=x'):A9J P x s k a Q e H=A9J P x' s k a Q e H:=by rw [h]
theorem BeB {s k:Nat}:vwp P (.own s k a) Q e H=A9J P (get e s) s k a Q e H:=AAi rfl
theorem A4H {s k:Nat}:A9J P (.val (.slice none 0 0)) s k a Q e H=vwp P a Q ((s,.os k H.length 0 [] 0 0 0)::e) (H++[.obj 0 (.arr 0 k [])]):=AAi rfl
theorem A8P {s k k' id ver off n cp:Nat} {p:List (Nat×Nat)}:A9J P (.os k' id ver p off n cp) s k a Q e H=vwp P a Q e H:=AAi rfl
end
theorem Bdq {t:Nat} {K:TV→Prop}:res [.tmp t] e H K=AA0 (get e t) K:=AAi rfl
theorem Bci {t:Nat} {r:List VR} {K:List TV→Prop}:AXF (.tmp t::r) e H K=AA0 (get e t) fun x=>AXF r e H fun xs=>K (x::xs):=AAi rfl
def BfQ (K:TV→Prop) (xs:List TV):Prop:=match xs with
 | [x]=>K x
 | xs=>(∀ x∈xs,ABl x=false)∧K (.tup xs)
theorem A50 {x y:TV} {l:List TV} {K:TV→Prop}:BfQ K (x::y::l)=AB7 (AMD (x::y::l)) (AA0 (TV.tup (x::y::l)) K):=AAi rfl
theorem BaX {r s:VR} {l:List VR} {K:TV→Prop}:res (r::s::l) e H K=AXF (r::s::l) e H (BfQ K):=AAi rfl
theorem Ban {a sz:Nat} {ag:Bool} {K:TV→Prop}:res [.cell a ag sz] e H K=pop (.load ag sz (.t a)) e H K:=AAi rfl
theorem Bec {K:TV→Prop}:res [] e H K=K (.tup []):=by rw [A14]; simp
end
def VCP (P:Program) (f:FuncId) (xs:List TV) (H:List Ob) (K:TV→List Ob→Prop) (KP:Value→List Ob→Prop) [Tg K] [Tg KP]:Prop:=ANt P f xs H K KP
@[congr] theorem Bcx {P:Program} {f:FuncId} {xs xs':List TV} {H H':List Ob} {K:TV→List Ob→Prop} {KP:Value→List Ob→Prop} (he:xs=xs') (hH:H=H'):VCP P f xs H K KP=VCP P f xs' H' K KP:=by rw [he,hH]
def A9y (x:TV) (K:Value→Prop) [Tg K]:Prop:=match x with
 | .val (.iface t v)=>K (.iface t v)
 | .ifc t (.val v)=>K (.iface t v)
 | _=>False
@[congr] theorem BfO {x x':TV} {K:Value→Prop} (h:x=x'):A9y x K=A9y x' K:=by rw [h]
theorem A6A {t:TypeId} {v:Value} {K:Value→Prop}:A9y (.ifc t (.val v)) K=K (.iface t v):=AAi rfl
theorem A7A {t:TypeId} {v:Value} {K:Value→Prop}:A9y (.val (.iface t v)) K=K (.iface t v):=AAi rfl
section
variable {P:Program} {e:Env} {H:List Ob} {r:List VO} {K:Env→List Ob→Prop} {PP:Value→List Ob→Prop} {Q:VEx→Env→List Ob→Prop}
@[congr] theorem A70 {l:List VO} {e':Env} {H':List Ob} (he:e=e') (hH:H=H'):AMI P PP l K e H=AMI P PP l K e' H':=by rw [he,hH]
@[congr] theorem A82 {o:VOp} {e':Env} {H':List Ob} {KK:TV→List Ob→Prop} (he:e=e') (hH:H=H'):pvop P PP o e H KK=pvop P PP o e' H' KK:=by rw [he,hH]
theorem A9T {l:List VO} {kp:List Nat}:vwp P (.pops l kp) Q e H=AMI P (fun u H=>Q (.pan u) (AYj l e) H) l (fun e H=>AA0 (forget kp e) fun e=>Q .nor e H) e H:=AAi rfl
theorem A8u {n:Nat} {l:List VO} {kp:List Nat}:vwp P (.pdraw n l kp) Q e H=(vq P (l.take n) (fun e=>AMI P (fun u H=>Q (.pan u) [] H) (l.drop n) (fun e H=>AA0 (forget kp e) fun e=>Q .nor e H) e H) e H):=AAi rfl
theorem BaF:AMI P PP [] K e H=K e H:=AAi rfl
theorem Bf6 {d:Nat} {o:VOp}:AMI P PP (⟨some d,o,none⟩::r) K e H=pvop P PP o e H (fun x H=>AMI P PP r K ((d,x)::e) H):=AAi rfl
theorem Bet {o:VOp}:AMI P PP (⟨none,o,none⟩::r) K e H=pvop P PP o e H (fun x H=>AMI P PP r K e H):=AAi rfl
theorem Bf5 {d s:Nat} {o:VOp} {b:Bool}:AMI P PP (⟨some d,o,some (s,b)⟩::r) K e H=ARX e s fun e q=>Gd q b (pvop P PP o e H (fun x H=>AMI P PP r K ((d,x)::e) H)) (AMI P PP r K ((d,.val undef)::e) H):=by
 show AHf (pvop P PP) _ K e H=_
 rw [AHf]
 refine congrArg (ARX e s) ?_; funext e q; cases q<;>rfl
theorem Bch {o:POp} {KK:TV→List Ob→Prop}:pvop P PP (.p o) e H KK=pop o e H fun x=>KK x H:=AAi rfl
theorem A2E {f:FuncId} {args:List Opd} {KK:TV→List Ob→Prop}:pvop P PP (.s (.call f args)) e H KK=AA0 (evs e args) fun xs=>AB7 (AMD xs) (VCP P f xs H KK PP):=by
 show ((∀ x∈args,ABl (x.ev e)=false)∧_)=_
 rw [AJj]; rfl
theorem A4h {x:Opd} {KK:TV→List Ob→Prop}:pvop P PP (.s (.pan x)) e H KK=A9y (x.ev e) (fun u=>PP u H):=by
 show (match x.ev e with | .val (.iface t v)=>PP (.iface t v) H | .ifc t (.val v)=>PP (.iface t v) H | _=>False)=_
 unfold A9y
 split<;>simp_all
theorem AZR {z:TV} {KK:TV→List Ob→Prop}:pvop P PP (.s (.alloc z)) e H KK=sop P (.alloc z) e H KK:=AAi rfl
theorem A4Z {x:Opd} {KK:TV→List Ob→Prop}:pvop P PP (.s (.box x)) e H KK=sop P (.box x) e H KK:=AAi rfl
theorem AYt {k n:Nat} {z:TV} {ps:List (Nat×Opd)} {KK:TV→List Ob→Prop}:pvop P PP (.s (.bslice k n z ps)) e H KK=sop P (.bslice k n z ps) e H KK:=AAi rfl
theorem A0H {sz:Nat} {x v:Opd} {KK:TV→List Ob→Prop}:pvop P PP (.s (.store sz x v)) e H KK=sop P (.store sz x v) e H KK:=AAi rfl
theorem A5O {k bytes:Nat} {z:TV} {l c:Opd} {KK:TV→List Ob→Prop}:pvop P PP (.s (.mks k bytes z l c)) e H KK=sop P (.mks k bytes z l c) e H KK:=AAi rfl
theorem A5c {k bytes:Nat} {et:TypeId} {x y:Opd} {KK:TV→List Ob→Prop}:pvop P PP (.s (.app k bytes et x y)) e H KK=sop P (.app k bytes et x y) e H KK:=AAi rfl
theorem A1Y {et:TypeId} {x y:Opd} {KK:TV→List Ob→Prop}:pvop P PP (.s (.appS et x y)) e H KK=sop P (.appS et x y) e H KK:=AAi rfl
theorem A2X {k n:Nat} {z:TV} {x y:Opd} {KK:TV→List Ob→Prop}:pvop P PP (.s (.appZ k n z x y)) e H KK=sop P (.appZ k n z x y) e H KK:=AAi rfl
theorem A54 {x:Opd} {n:Bool} {KK:TV→List Ob→Prop}:pvop P PP (.s (.eqS x n)) e H KK=sop P (.eqS x n) e H KK:=AAi rfl
theorem A6C {x:Opd} {KK:TV→List Ob→Prop}:pvop P PP (.s (.s2b x)) e H KK=sop P (.s2b x) e H KK:=AAi rfl
theorem A1g {k:Nat} {x y:Opd} {KK:TV→List Ob→Prop}:pvop P PP (.s (.copy k x y)) e H KK=sop P (.copy k x y) e H KK:=AAi rfl
theorem A0z {x y:Opd} {KK:TV→List Ob→Prop}:pvop P PP (.s (.copyS x y)) e H KK=sop P (.copyS x y) e H KK:=AAi rfl
theorem A0x {x:Opd} {args:List Opd} {KK:TV→List Ob→Prop}:pvop P PP (.s (.callv x args)) e H KK=sop P (.callv x args) e H KK:=AAi rfl
theorem A4B {x:Opd} {nm:String} {args:List Opd} {KK:TV→List Ob→Prop}:pvop P PP (.s (.inv x nm args)) e H KK=sop P (.inv x nm args) e H KK:=AAi rfl
theorem A5h {kk:MK} {h:Option Opd} {KK:TV→List Ob→Prop}:pvop P PP (.s (.mkm kk h)) e H KK=sop P (.mkm kk h) e H KK:=AAi rfl
theorem A2i {kk:MK} {m k x:Opd} {KK:TV→List Ob→Prop}:pvop P PP (.s (.mupd kk m k x)) e H KK=sop P (.mupd kk m k x) e H KK:=AAi rfl
theorem A3p {kk:MK} {z:TV} {m k:Opd} {KK:TV→List Ob→Prop}:pvop P PP (.s (.ment kk z m k)) e H KK=sop P (.ment kk z m k) e H KK:=AAi rfl
theorem A1d {m st x:Opd} {KK:TV→List Ob→Prop}:pvop P PP (.s (.mest m st x)) e H KK=sop P (.mest m st x) e H KK:=AAi rfl
theorem AXX {z:TV} {t:TypeId} {KK:TV→List Ob→Prop}:pvop P PP (.s (.allocT z t)) e H KK=sop P (.allocT z t) e H KK:=AAi rfl
theorem A2n {x:Opd} {t:TypeId} {KK:TV→List Ob→Prop}:pvop P PP (.s (.boxT x t)) e H KK=sop P (.boxT x t) e H KK:=AAi rfl
theorem A1s {x:Opd} {KK:TV→List Ob→Prop}:pvop P PP (.s (.rngS x)) e H KK=sop P (.rngS x) e H KK:=AAi rfl
theorem A2z {x:Opd} {KK:TV→List Ob→Prop}:pvop P PP (.s (.nxtS x)) e H KK=sop P (.nxtS x) e H KK:=AAi rfl
theorem A3n {x:Opd} {KK:TV→List Ob→Prop}:pvop P PP (.s (.rngM x)) e H KK=sop P (.rngM x) e H KK:=AAi rfl
theorem A3o {x:Opd} {KK:TV→List Ob→Prop}:pvop P PP (.s (.nxtM x)) e H KK=sop P (.nxtM x) e H KK:=AAi rfl
theorem A1q {kk:MK} {m k:Opd} {KK:TV→List Ob→Prop}:pvop P PP (.s (.delM kk m k)) e H KK=sop P (.delM kk m k) e H KK:=AAi rfl
theorem A6F {x:Opd} {KK:TV→List Ob→Prop}:pvop P PP (.s (.cvS x)) e H KK=sop P (.cvS x) e H KK:=AAi rfl
theorem A2S {k:Nat} {z:TV} {x:Opd} {KK:TV→List Ob→Prop}:pvop P PP (.s (.clrS k z x)) e H KK=sop P (.clrS k z x) e H KK:=AAi rfl
theorem A2w {f:FuncId} {x:Opd} {KK:TV→List Ob→Prop}:pvop P PP (.s (.bstr f x)) e H KK=sop P (.bstr f x) e H KK:=AAi rfl
theorem A8Z {b:AAm} {u:Value}:Thn P b Q (.pan u) e H=Q (.pan u) e H:=AAi rfl
theorem A8E {id:Nat} {u:Value}:Blk id Q (.pan u) e H=Q (.pan u) e H:=AAi rfl
theorem A87 {n0:Nat} {lv:List Nat} {I:Nat→Env→List Ob→Prop} {n:Nat} {u:Value}:Rnd n0 lv Q I n (.pan u) e H=Q (.pan u) e H:=AAi rfl
theorem AZJ {vr:List VR} {R:TV→List Ob→Prop} {RP:Value→List Ob→Prop}:A0Q vr R RP .ret e H=res vr e H fun x=>R x H:=AAi rfl
theorem A0d {vr:List VR} {R:TV→List Ob→Prop} {RP:Value→List Ob→Prop}:A0Q vr R RP .nor e H=res vr e H fun x=>R x H:=AAi rfl
theorem AZ8 {vr:List VR} {R:TV→List Ob→Prop} {RP:Value→List Ob→Prop} {u:Value}:A0Q vr R RP (.pan u) e H=RP u H:=AAi rfl
def ATt (P:Program) (PP:Value→List Ob→Prop) (Ss:SsT) (l:List VO) (K:Env→List Ob→Prop) (e:Env) (H:List Ob):Prop:=AHf (pvopS P PP Ss) l K e H
@[congr] theorem A7m {Ss:SsT} {l:List VO} {e':Env} {H':List Ob} (he:e=e') (hH:H=H'):ATt P PP Ss l K e H=ATt P PP Ss l K e' H':=by rw [he,hH]
@[congr] theorem A61 {Ss:SsT} {o:VOp} {e':Env} {H':List Ob} {KK:TV→List Ob→Prop} (he:e=e') (hH:H=H'):pvopS P PP Ss o e H KK=pvopS P PP Ss o e' H' KK:=by rw [he,hH]
theorem A7M {n:Nat} {l:List VO} {kp:List Nat}:vwp P (.sdraw n l kp) Q e H=(vq P (l.take (nOf n)) (fun e=>ATt P (fun u H=>Q (.pan u) [] H) (ssN n l) (l.drop (nOf n)) (fun e H=>AA0 (forget kp e) fun e=>Q .nor e H) e H) e H):=AAi rfl
section
variable {Ss:SsT}
theorem BaU:ATt P PP Ss [] K e H=K e H:=AAi rfl
theorem Bgb {d:Nat} {o:VOp}:ATt P PP Ss (⟨some d,o,none⟩::r) K e H=pvopS P PP Ss o e H (fun x H=>ATt P PP Ss r K ((d,x)::e) H):=AAi rfl
theorem BdG {o:VOp}:ATt P PP Ss (⟨none,o,none⟩::r) K e H=pvopS P PP Ss o e H (fun x H=>ATt P PP Ss r K e H):=AAi rfl
theorem BbR {o:POp} {KK:TV→List Ob→Prop}:pvopS P PP Ss (.p o) e H KK=pop o e H fun x=>KK x H:=AAi rfl
theorem A2r {f:FuncId} {args:List Opd} {KK:TV→List Ob→Prop}:pvopS P PP Ss (.s (.call f args)) e H KK=AA0 (evs e args) fun xs=>AB7 (AMD xs) (VCP P f xs H (fun x H'=>KK x H'∧AMu Ss.l e H H') PP):=by
 show ((∀ x∈args,ABl (x.ev e)=false)∧_)=_
 rw [AJj]; rfl
theorem A0m {sz:Nat} {x v:Opd} {KK:TV→List Ob→Prop}:pvopS P PP Ss (.s (.store sz x v)) e H KK=sop P (.store sz x v) e H fun x H'=>KK x H'∧AMu Ss.st e H H':=AAi rfl
theorem A0B {z:TV} {KK:TV→List Ob→Prop}:pvopS P PP Ss (.s (.alloc z)) e H KK=sop P (.alloc z) e H KK:=AAi rfl
theorem A58 {k bytes:Nat} {z:TV} {l c:Opd} {KK:TV→List Ob→Prop}:pvopS P PP Ss (.s (.mks k bytes z l c)) e H KK=sop P (.mks k bytes z l c) e H KK:=AAi rfl
theorem A4w {k bytes:Nat} {et:TypeId} {x y:Opd} {KK:TV→List Ob→Prop}:pvopS P PP Ss (.s (.app k bytes et x y)) e H KK=vif Ss.ap (sop P (.app k bytes et x y) e H fun x H'=>KK x H'∧AMu Ss.l e H H') (sop P (.app k bytes et x y) e H KK):=by
 show sop P (.app k bytes et x y) e H (fun x H'=>KK x H'∧(Ss.ap=true→AMu Ss.l e H H'))=_
 unfold vif
 split
 ·rename_i h
  congr 1; funext x H'; simp [h]
 ·rename_i h
  congr 1; funext x H'; simp [h]
theorem A1P {et:TypeId} {x y:Opd} {KK:TV→List Ob→Prop}:pvopS P PP Ss (.s (.appS et x y)) e H KK=sop P (.appS et x y) e H KK:=AAi rfl
theorem Bbm {n:Nat}:nOf n=n % 10000:=AAi rfl
theorem BaN {n:Nat} {l:List VO}:(ssN n l).ap=decide (10000≤n):=AAi rfl
theorem A4Y {x:Opd} {KK:TV→List Ob→Prop}:pvopS P PP Ss (.s (.s2b x)) e H KK=sop P (.s2b x) e H KK:=AAi rfl
theorem AYy {k n:Nat} {z:TV} {ps:List (Nat×Opd)} {KK:TV→List Ob→Prop}:pvopS P PP Ss (.s (.bslice k n z ps)) e H KK=sop P (.bslice k n z ps) e H KK:=AAi rfl
end
theorem AU1 {e:Env} {H H':List Ob}:AMu [] e H H':=AMu.nil
theorem A09 {s:Nat} {Ss:List Nat} {e:Env} {H H':List Ob} {id ver:Nat} {p:List (Nat×Nat)} (h:get e s = .op id ver p) (h1:H'[id]?=H[id]?) (h2:AMu Ss e H H'):AMu (s::Ss) e H H':=fun t ht id' hg=>by
 rcases List.mem_cons.1 ht with rfl | ht
 ·rw [h] at hg; cases hg; exact h1
 ·exact h2 t ht id' hg
theorem AAs.callsP {f:FuncId} {args:List TV} {R:TV→List Ob→Prop} {RP:Value→List Ob→Prop} (h:AAs P f args H R):VCP P f args H R RP:=h.mayP
end
def AAp:=(aI_ (aI_ (aI_ (aI_ (aI_ (aI_ (aI_ (aI_ @BdP @Bbv) (aI_ @Bd3 @Bgg)) (aI_ (aI_ @Bcg @BeT) (aI_ @Bde @A9Q))) (aI_ (aI_ (aI_ @A5D @A8p) (aI_ @Bbb @A86)) (aI_ (aI_ @Be9 @Bbe) (aI_ @Bd1 @BbM)))) (aI_ (aI_ (aI_ (aI_ @Bcl @BdK) (aI_ @Be0 @Bfr)) (aI_ (aI_ @A7Z @Bfl) (aI_ @A9U @Beo))) (aI_ (aI_ (aI_ @BdR @Beb) (aI_ @BeK @Bdp)) (aI_ (aI_ @A8o @A3U) (aI_ @Be8 @A83))))) (aI_ (aI_ (aI_ (aI_ (aI_ @A5y @BeG) (aI_ @Bax @Bbo)) (aI_ (aI_ @Bag @Bb5) (aI_ @BcD @BaE))) (aI_ (aI_ (aI_ @Bat @A9P) (aI_ @Bd7 @A4X)) (aI_ (aI_ @A77 @Bdg) (aI_ @BdU @Bbl)))) (aI_ (aI_ (aI_ (aI_ @Baf @A8T) (aI_ @Bdw @BaD)) (aI_ (aI_ @Bd8 @BaH) (aI_ @Bb9 @BbN))) (aI_ (aI_ (aI_ @BbD @A93) (aI_ @BaI @A8G)) (aI_ (aI_ @Bd9 @Bfe) (aI_ @Ba3 @Bfa)))))) (aI_ (aI_ (aI_ (aI_ (aI_ (aI_ @BcC @Bce) (aI_ @Bed @A7T)) (aI_ (aI_ @Bby @A9Y) (aI_ @Bfo @A7n))) (aI_ (aI_ (aI_ @BeB @Bcv) (aI_ @Bbu @A4q)) (aI_ (aI_ @Bck @Bau) (aI_ @A7R @o_g)))) (aI_ (aI_ (aI_ (aI_ @A9R @Bem) (aI_ @Bfk @Bah)) (aI_ (aI_ @Bgh @u_c) (aI_ @u_g @A9k))) (aI_ (aI_ (aI_ @Bgp @AWc) (aI_ @AXd @Bdq)) (aI_ (aI_ @Ban @Bec) (aI_ @BaX @AZx))))) (aI_ (aI_ (aI_ (aI_ (aI_ @Bci @AWi) (aI_ @A50 @A7o)) (aI_ (aI_ @A39 @A8L) (aI_ @A8z @A6d))) (aI_ (aI_ (aI_ @AXS @A8j) (aI_ @A4m @A8q)) (aI_ (aI_ @A9T @A8u) (aI_ @A7M @BaU)))) (aI_ (aI_ (aI_ (aI_ @Bgb @BdG) (aI_ @BbR @A2r)) (aI_ (aI_ @A0m @A0B) (aI_ @A58 @A4w))) (aI_ (aI_ (aI_ @A1P @A4Y) (aI_ @AYy @BaF)) (aI_ (aI_ @Bf6 @Bet) (aI_ @Bf5 @Bch))))))) (aI_ (aI_ (aI_ (aI_ (aI_ (aI_ @A2E @A4h) (aI_ @AZR @A4Z)) (aI_ (aI_ @AYt @A0H) (aI_ @A5O @A5c))) (aI_ (aI_ (aI_ @A1Y @A6C) (aI_ @A2X @A54)) (aI_ (aI_ @A1g @A0z) (aI_ @A0x @A4B)))) (aI_ (aI_ (aI_ (aI_ @A5h @A2i) (aI_ @A3p @A1d)) (aI_ (aI_ @AXX @A2n) (aI_ @A1s @A2z))) (aI_ (aI_ (aI_ @A3n @A3o) (aI_ @A1q @A2S)) (aI_ (aI_ @A6F @A2w) (aI_ @A8Z @A8E))))) (aI_ (aI_ @A87 @AZJ) (aI_ @A0d @AZ8))))
def AAk:=(aI_ (aI_ (aI_ (aI_ (aI_ (aI_ (aI_ (aI_ @Bbm @BaN) (aI_ @A7A @A6A)) (aI_ (aI_ @A4t @A0T) (aI_ @A7B @A63))) (aI_ (aI_ (aI_ @BbH @Ba1) (aI_ @Bcw @A1U)) (aI_ (aI_ @A5V @A7V) (aI_ @A5L @Bbt)))) (aI_ (aI_ (aI_ (aI_ @A2J @A9t) (aI_ @A56 @Bai)) (aI_ (aI_ @A8y @BaB) (aI_ @Bad @A0V))) (aI_ (aI_ (aI_ @A8d @A3X) (aI_ @A7S @A5j)) (aI_ (aI_ @A8K @BcA) (aI_ @A5t @A9q))))) (aI_ (aI_ (aI_ (aI_ (aI_ @A7f @A5d) (aI_ @A4N @AZM)) (aI_ (aI_ @AZI @A2A) (aI_ @A4l @A49))) (aI_ (aI_ (aI_ @A0S @A2h) (aI_ @A7N @A5a)) (aI_ (aI_ @A7r @A3z) (aI_ @A3M @A5E)))) (aI_ (aI_ (aI_ (aI_ @A2M @A7q) (aI_ @A8M @A78)) (aI_ (aI_ @A7X @A8b) (aI_ @A8W @A8t))) (aI_ (aI_ (aI_ @A4x @A64) (aI_ @A32 @A8f)) (aI_ (aI_ @A1S @A8x) (aI_ @A6z @A47)))))) (aI_ (aI_ (aI_ (aI_ (aI_ (aI_ @A5k @A3t) (aI_ @AZH @A7C)) (aI_ (aI_ @A8S @Bcm) (aI_ @A90 @Ba5))) (aI_ (aI_ (aI_ @A9V @A5I) (aI_ @A3F @A4C)) (aI_ (aI_ @A6n @BaQ) (aI_ @A9G @Bcd)))) (aI_ (aI_ (aI_ (aI_ @A1V @A0G) (aI_ @A3j @A3T)) (aI_ (aI_ @A4u @A3l) (aI_ @A5C @A4a))) (aI_ (aI_ (aI_ @A4f @A9j) (aI_ @A9l @A5i)) (aI_ (aI_ @A1p @A6b) (aI_ @A7U @A4D))))) (aI_ (aI_ (aI_ (aI_ (aI_ @A9s @A8J) (aI_ @A8w @A4V)) (aI_ (aI_ @A6i @A6E) (aI_ @A6B @A53))) (aI_ (aI_ (aI_ @A5U @A08) (aI_ @A3S @A8I)) (aI_ (aI_ @Bcb @A2s) (aI_ @BcF @Bcj)))) (aI_ (aI_ (aI_ (aI_ @A7D @A7p) (aI_ @A7P @A6g)) (aI_ (aI_ @A4s @A5Z) (aI_ @Option.getD_none.{0} @Option.getD_some.{0}))) (aI_ (aI_ (aI_ @A11 @A8D) (aI_ @A6w @A4p)) (aI_ (aI_ @A4K @AZl) (aI_ @A1F @A3O))))))) (aI_ (aI_ (aI_ (aI_ (aI_ (aI_ @A6p @A8Y) (aI_ @A59 @A85)) (aI_ (aI_ @A45 @A3f) (aI_ @A81 @A5B))) (aI_ (aI_ (aI_ @A5w @A4F) (aI_ @A4A @A6k)) (aI_ (aI_ @A3Q @A34) (aI_ @A9o @A1G)))) (aI_ (aI_ (aI_ (aI_ @A8R @BbW) (aI_ @BcE @A0a)) (aI_ (aI_ @A3s @BeM) (aI_ @BdM @Bgn))) (aI_ (aI_ (aI_ @A5Q @A8m) (aI_ @A8c @Bge)) (aI_ (aI_ @Bgo @Bf8) (aI_ @A4H @A8P))))) (aI_ (aI_ (aI_ @A3I @A4W) (aI_ @A8g @A6v)) (aI_ @A27 @AZZ))))
def AAn:=(aI_ (aI_ (aI_ (aI_ (aI_ (aI_ (aI_ (aI_ @A5l @A35) (aI_ @A8Q @A7J)) (aI_ (aI_ @A67 @A7a) (aI_ @A6q @A6s))) (aI_ (aI_ (aI_ @A38 @A4d) (aI_ @A7v @A7k)) (aI_ (aI_ @A74 @A3g) (aI_ @A2H @A41)))) (aI_ (aI_ (aI_ (aI_ @A51 @A5P) (aI_ @A3W @A28)) (aI_ (aI_ @A1R @A1b) (aI_ @A1I @A30))) (aI_ (aI_ (aI_ @A4I @A4g) (aI_ @A57 @A9p)) (aI_ (aI_ @A8O @A7O) (aI_ @A7Q @A44))))) (aI_ (aI_ (aI_ (aI_ (aI_ @A5q @A4o) (aI_ @A5K @A8h)) (aI_ (aI_ @A7c @A69) (aI_ @A1w @A1n))) (aI_ (aI_ (aI_ @A4c @A6o) (aI_ @A6e @A5e)) (aI_ (aI_ @A2V @A42) (aI_ @A4S @A1i)))) (aI_ (aI_ (aI_ (aI_ @A2l @A6f) (aI_ @A4r @A3G)) (aI_ (aI_ @A5z @A2y) (aI_ @A2C @A3D))) (aI_ (aI_ (aI_ @A3L @A5A) (aI_ @A2T @A1o)) (aI_ (aI_ @AZ5 @AXK) (aI_ @A1y @A2U)))))) (aI_ (aI_ (aI_ (aI_ (aI_ (aI_ @A3u @A21) (aI_ @AZ7 @A31)) (aI_ (aI_ @A20 @AYv) (aI_ @AWO @AZV))) (aI_ (aI_ (aI_ @A5r @A1A) (aI_ @AWI @AVQ)) (aI_ (aI_ @Bgq @Bgf) (aI_ @Bga @AVr)))) (aI_ (aI_ (aI_ (aI_ @ASd @A4E) (aI_ @AMm @AOH)) (aI_ (aI_ @AZj @A0v) (aI_ @AXP @A1a))) (aI_ (aI_ (aI_ @A0s @A5S) (aI_ @A0E @AYJ)) (aI_ (aI_ @AZX @AX5) (aI_ @A1Q @A0p))))) (aI_ (aI_ (aI_ (aI_ (aI_ @AYE @AWu) (aI_ @AVs @AUd)) (aI_ (aI_ @A7L @A3H) (aI_ @A14 @A5m))) (aI_ (aI_ (aI_ @AZx @A43) (aI_ @AWi @AWc)) (aI_ (aI_ @AXd @A46) (aI_ @A6D @A7e)))) (aI_ (aI_ (aI_ (aI_ @A7b @A5n) (aI_ @A7E @A8N)) (aI_ (aI_ @A4T @A5F) (aI_ @A6h @A1X))) (aI_ (aI_ (aI_ @A0L @A9c) (aI_ @A72 @BaT)) (aI_ (aI_ @A9b @A7d) (aI_ @A7i @A68))))))) (aI_ (aI_ (aI_ @A5g @A10) (aI_ @A1j @A6l)) (aI_ (aI_ @Bfq @BbG) @BbQ)))
theorem AZ2 {α β:Type} {f:α→β} {l:List α} {i:Nat}:(l.map f).drop i=(l.drop i).map f:=List.map_drop.symm
theorem AZ1 {α β:Type} {f:α→β} {l:List α} {i:Nat}:(l.map f).take i=(l.take i).map f:=List.map_take.symm
theorem BcH {b:UInt8}:IntKind.i64.wrap (b.toNat:Int)=b.toNat:=ADL (by omega) (by have:=b.toNat_lt; omega)
theorem Bb2 {n:Nat}:IntKind.u8.wrap (n:Int)=((UInt8.ofNat n).toNat:Int):=by
 rw [IntKind.wrap_u8,UInt8.toNat_ofNat']; omega
theorem BaW {α:Type} {n i:Nat} {a:α} (h:i<n):(List.replicate n a)[i]?=some a:=by simp [h]
section
variable {a b c:Nat}
theorem A5v:(a:Int)*(b:Int)=((a*b:Nat):Int):=AAi rfl
theorem A6t (h:b≤a):(a:Int) - (b:Int)=((a - b:Nat):Int):=by omega
theorem A4P:(a:Int) / (b:Int)=((a / b:Nat):Int):=AAi rfl
theorem A3E:(a:Int) % (b:Int)=((a % b:Nat):Int):=AAi rfl
variable {t:TypeId} {k2:IntKind}
theorem Baz (h1:b≤63) (h2:a*2 ^ b≤9223372036854775807):ABW t .shl (.int .i64 (a:Int)) (.int k2 (b:Int))=some (.int .i64 ((a*2 ^ b:Nat):Int)):=by
 have e:(a:Int)*2 ^ ((b:Int).toNat)=((a*2 ^ b:Nat):Int):=by rw [Int.toNat_natCast,Int.natCast_mul,Int.natCast_pow]; rfl
 rw [Bdk (by omega) (by omega) (by rw [e]; omega) (by rw [e]; omega),e]
theorem A95 (h1:b≤63):ABW t .shr (.int .i64 (a:Int)) (.int k2 (b:Int))=some (.int .i64 ((a / 2 ^ b:Nat):Int)):=by
 have e:(a:Int) / 2 ^ ((b:Int).toNat)=((a / 2 ^ b:Nat):Int):=by rw [Int.toNat_natCast,Int.natCast_ediv,Int.natCast_pow]; rfl
 rw [Bey (by omega) (by omega) (by omega),e]
variable {k:IntKind}
theorem Bcq (h:b≠0):ABW t .rem (.int k (a:Int)) (.int k (b:Int))=some (.int k ((a % b:Nat):Int)):=by rw [Bel (by omega) (by omega),Int.natCast_emod]
theorem A6J (h:b≠0) (h2:a≤9223372036854775807):ABW t .quo (.int .i64 (a:Int)) (.int .i64 (b:Int))=some (.int .i64 ((a / b:Nat):Int)):=by rw [Bdf (by omega) (by omega) (by omega),Int.natCast_ediv]
end
theorem AAs.toPureV {P:Program} {f:FuncId} {args:List TV} {R:TV→Prop} (h:AAs P f args [] fun x H'=>AA2 (frz H' x) R):AAR P f args R :=
 AAs.toPure (h.mono fun x H' hx=>by
  cases hf:frz H' x with
  | none=>rw [hf] at hx; exact hx
  | some y=>rw [hf] at hx; exact hx)
abbrev mv_ (d s:Nat):VO:=⟨some d,.p (.mov (.t s)),none⟩
abbrev po_ (d:Nat) (p:POp):VO:=⟨some d,.p p,none⟩
abbrev so_ (d:Nat) (q:SOp):VO:=⟨some d,.s q,none⟩
abbrev ci_ (n:Nat):Opd := .c (.int .i64 (n:Int))
theorem ABp {P:Program} {f:FuncId} {fn:Func} {vc:AAm} {vr:List VR} (n:Nat) (hf:P.funcs[f]?=some fn) (ht:fn.body.bind (trC P fn.ntmps)=some (er vc)) (hr:trR P fn.results.toList=some vr) (hn:fn.ntmps=n) :
  ∀ ⦃args:List TV⦄ ⦃H:List Ob⦄ ⦃R:TV→List Ob→Prop⦄,args.length≤n→vwp P vc (AXL vr R) (AVa 0 args) H→AAs P f args H R:=fun _ _ _ h1 h2=>A0R hf ht hr (hn▸h1) h2
theorem AAj {c c':AAm} (h:c=c'):∀ (P:Program) (Q:VEx→Env→List Ob→Prop) (e:Env) (H:List Ob),vwp P c Q e H=vwp P c' Q e H:=fun _ _ _ _=>by rw [h]
theorem AAl {α:Type}:(∀ {l:List α} {i:Nat} {a:α},(l.set i a).length=l.length)∧(∀ {l m:List α},(l++m).length=l.length+m.length)∧(∀ {a:α} {l:List α},(a::l).length=l.length+1)∧([]:List α).length=0:=⟨List.length_set,List.length_append,List.length_cons,List.length_nil⟩
theorem AAs.toFreshV {P:Program} {f:FuncId} {args:List TV} {R:TV→Prop} (h:AAs P f args [] fun x H'=>AA2 (frs H' x) R):AHk P f args R :=
 AAs.toFresh (h.mono fun x H' hx=>by
  cases hf:frs H' x with
  | none=>rw [hf] at hx; exact hx
  | some y=>rw [hf] at hx; exact hx)
theorem A3J {α:Type} {l:List α} {n:Nat} (h:l.length≤n):l.take n=l:=List.take_of_length_le h
theorem BeF {α:Type} {c:Prop} [Decidable c] {a b:α} (h:c):(if c then a else b)=a:=if_pos h
theorem BeU {α:Type} {c:Prop} [Decidable c] {a b:α} (h:¬ c):(if c then a else b)=b:=if_neg h
theorem AYI {α:Type} {l:List α} {n:Nat} (h:n≤l.length):(l.take n).length=n:=by simp [h]
theorem AVK {α:Type} {l:List α} {i:Nat}:(l.drop i).take (l.length - i)=l.drop i:=List.take_of_length_le (by simp)
theorem A36 {a b:Nat}:a+b - a=b:=Nat.add_sub_cancel_left a b
theorem A6y {α:Type} {l m:List α}:(l++m).take l.length=l:=List.take_left
theorem A3Y {α:Type} {l m:List α}:(l++m).drop l.length=m:=List.drop_left
theorem A3A {a b:Nat}:a+b - b=a:=Nat.add_sub_cancel a b
def AAo:=(aI_ (aI_ (aI_ (aI_ (aI_ (aI_ (aI_ @A6y @A3Y) (aI_ @A36 @AVK)) (aI_ (aI_ @AYI @List.length_drop.{0}) (aI_ @BeF @BeU))) (aI_ (aI_ (aI_ @A3J @A3A) (aI_ @Nat.zero_le @A9H)) (aI_ (aI_ @List.nil_append.{0} @List.length_nil.{0}) (aI_ @List.length_cons.{0} @List.cons_append.{0})))) (aI_ (aI_ (aI_ (aI_ @List.getElem?_cons_zero.{0} @List.getElem?_cons_succ.{0}) (aI_ @List.set_cons_zero.{0} @List.set_cons_succ.{0})) (aI_ (aI_ @List.map_cons.{0,0} @List.map_nil.{0,0}) (aI_ @A52 @A37))) (aI_ (aI_ (aI_ @true_and @and_true) (aI_ @List.take_zero.{0} @List.take_succ_cons.{0})) (aI_ (aI_ @List.drop_succ_cons.{0} @List.take_nil.{0}) (aI_ @List.drop_nil.{0} @Nat.zero_add))))) (aI_ (aI_ (aI_ (aI_ (aI_ @Bd4 @BeV) (aI_ @BeX @BdB)) (aI_ (aI_ @BdL @Bdu) (aI_ @BdQ @BdA))) (aI_ (aI_ (aI_ @Bee @Bex) (aI_ @Bgm @Bcq)) (aI_ (aI_ @A6J @A6Y) (aI_ @A18 @A05)))) (aI_ (aI_ (aI_ (aI_ @A3m @A29) (aI_ @A0n @A1E)) (aI_ (aI_ @A04 @A1K) (aI_ @A2f @A2m))) (aI_ (aI_ (aI_ @Bool.false_xor @Bool.true_xor) (aI_ @BdC @Bep)) (aI_ (aI_ @BeR @decide_true) (aI_ @decide_false @Bool.not_true)))))) (aI_ (aI_ (aI_ (aI_ (aI_ (aI_ @Bool.not_false @not_true_eq_false) (aI_ @not_false_eq_true @Bool.false_eq_true)) (aI_ (aI_ @Bool.true_eq_false @Option.bind_some.{0,0}) (aI_ @Option.map_some.{0,0} @Bool.and_self))) (aI_ (aI_ (aI_ @and_self @Nat.sub_zero) (aI_ @Nat.mul_one @List.length_map.{0,0})) (aI_ (aI_ @Int.toNat_natCast @List.getElem?_map.{0,0}) (aI_ @Int.natCast_nonneg @List.length_append.{0})))) (aI_ (aI_ (aI_ (aI_ @List.drop_zero.{0} @AZ2) (aI_ @AZ1 @A3x)) (aI_ (aI_ @A5X @A3C) (aI_ @A7x @A8U))) (aI_ (aI_ (aI_ @A8k @A7z) (aI_ @List.replicate_zero.{0} @List.take_length.{0})) (aI_ (aI_ @List.length_set.{0} @List.length_replicate.{0}) (aI_ @BcH @ADL))))) (aI_ (aI_ (aI_ (aI_ @Bb2 @List.set_set.{0}) (aI_ @List.getElem?_nil.{0} @BaW)) (aI_ (aI_ @A5v @A6t) (aI_ @A4P @A3E))) (aI_ @Baz @A95))))
end
section
open Go.RowKit
variable [AAE]
theorem A0y {g:Nat} {x:GV} (h:AEf g=some x):(g,x)∈AAE.l:=by
 unfold AEf at h
 obtain ⟨p,hp,rfl⟩:=Option.map_eq_some_iff.1 h
 have h1:=List.mem_of_find?_eq_some hp
 have h2:=List.find?_some hp
 have h3:p.1=g:=by simpa using h2
 obtain ⟨a,b⟩:=p
 simp only at h3; subst h3; exact h1
section
omit [AAE]
theorem AVE {P:Program} {w:World} {name:String} {g:Nat} {cs:Array Value} (hg:P.globalNamed name=some g) (h:w.var? P name=some cs):∃ t fr,w.heap[g]?=some (.cells cs t fr):=by
 unfold World.var? at h
 rw [hg,Option.bind_some] at h
 split at h
 ·rename_i c t fr hh; cases h; exact ⟨t,fr,hh⟩
 ·cases h
def A5o (P:Program) (t:TypeId):Bool:=match P.underlying t with
 | some (.int _)=>true
 | some .string=>true
 | _=>false
def BcS:DataW Unit→Option Value
 | .lit (.int k n)=>some (.int k n)
 | .lit (.string l)=>some (.string ⟨l.toArray⟩)
 | _=>none
variable {P:Program} {w:World} {fuel:Nat} {cs:List Value}
theorem AXU {t:TypeId} {x:DataW Unit×List MemPlace} (ht:A5o P t=true) (h:DataW.trod (fun _=>()) P w 0 (fun _=>true) false fuel t cs=some x):∃ v,BcS x.1=some v∧cs=[v]:=by
 unfold A5o at ht
 split at ht
 ·rename_i k hk
  obtain ⟨n,rfl,rfl,_⟩:=DataW.trod_int hk h
  exact ⟨_,rfl,rfl⟩
 ·rename_i hk
  obtain ⟨s,rfl,rfl,_⟩:=DataW.trod_string hk h
  exact ⟨_,rfl,by simp⟩
 ·cases ht
theorem AYf {t e:TypeId} {n:Nat} {ds:List (DataW Unit)} {p:List MemPlace} {vs:List Value} (ht:P.underlying t=some (.array n e)) (he:A5o P e=true) (hce:P.cellsOf e=1) (hct:P.cellsOf t=n) (hv:ds.map BcS=vs.map some)
  (h:DataW.trod (fun _=>()) P w 0 (fun _=>true) false fuel t cs=some (.agg ds,p)):cs=vs:=by
 cases fuel with
 | zero=>simp [DataW.trod] at h
 | succ fuel =>
  simp only [DataW.trod,ht,hce,hct,Nat.mul_one] at h
  split at h
  ·rename_i hl
   obtain ⟨xs,hm,hx⟩:=Option.map_eq_some_iff.1 h
   have hxs:xs.map (·.1)=ds:=by
    have:=congrArg Prod.fst hx
    simpa using this
   have hxl:xs.length=n:=by simpa using Lib.mapM_length hm
   have hvl:vs.length=n:=by
    have h1:=congrArg List.length hxs
    have h2:=congrArg List.length hv
    simp at h1 h2
    omega
   apply List.ext_getElem?
   intro i
   by_cases hi:i<n
   ·obtain ⟨b,hb,hf⟩:=Lib.mapM_at hm i i (by simp [hi])
    obtain ⟨v,hv1,hv2⟩:=AXU he hf
    have h1:cs[i]?=some v:=by
     have:=congrArg (·[0]?) hv2
     simpa [List.getElem?_take,List.getElem?_drop] using this
    have h2:ds[i]?=some b.1:=by rw [←hxs]; simp [hb]
    have h3:(ds.map BcS)[i]?=some (some v):=by simp [h2,hv1]
    rw [hv] at h3
    simp only [List.getElem?_map,Option.map_eq_some_iff,Option.some.injEq] at h3
    obtain ⟨u,hu,rfl⟩:=h3
    rw [h1,hu]
   ·rw [List.getElem?_eq_none (by omega),List.getElem?_eq_none (by omega)]
  ·cases h
theorem AYV {name:String} {d:DataW Unit}:∀ {laid:List (String×DataW Unit)} {ps:List MemPlace},DataW.LaidVars P w laid ps→(name,d)∈laid →
  ∃ g t cs fuel p,P.globalNamed name=some g∧(P.globals[g]?).map (·.type)=some t∧w.var? P name=some cs∧DataW.trod (fun _=>()) P w 0 (fun _=>true) false fuel t cs.toList=some (d,p)
 | [],ps,_,hm=>by simp at hm
 | (n,d')::r,ps,h,hm=>by
  obtain ⟨g,t,cs,fuel,p,q,h1,h2,h3,h4,h5,_⟩:=h
  rcases List.mem_cons.1 hm with e | hm
  ·cases e; exact ⟨g,t,cs,fuel,p,h1,h2,h3,h4⟩
  ·exact AYV h5 hm
theorem AU6 {laid:List (String×DataW Unit)} (h:laidMet P laid w) {name:String} {ds:List (DataW Unit)} (hm:(name,DataW.agg ds)∈laid) {g:Nat} {t e:TypeId} {n:Nat} {vs:List Value} (hg:P.globalNamed name=some g) (hty:(P.globals[g]?).map (·.type)=some t)
  (ht:P.underlying t=some (.array n e)) (he:A5o P e=true) (hce:P.cellsOf e=1) (hct:P.cellsOf t=n) (hv:ds.map BcS=vs.map some):∃ tt fr,w.heap[g]?=some (.cells vs.toArray tt fr):=by
 obtain ⟨ps,h,_⟩:=h
 obtain ⟨g',t',cs,fuel,p,h1,h2,h3,h4⟩:=AYV h hm
 obtain rfl:=Option.some.inj (hg.symm.trans h1)
 obtain rfl:=Option.some.inj (hty.symm.trans h2)
 have:=AYf ht he hce hct hv h4
 have e:cs=vs.toArray:=by rw [←this,Array.toArray_toList]
 rw [e] at h3
 exact AVE hg h3
end
end
section
open Go.RowKit Go.WideShapes Go.ChangeShapes
section
variable {H:Type} {enc:TypeId×Value→H}
end
theorem AVC {P:Program} {w:World} {g:Nat} {t:TypeId} {zero:Array Value} {k:IntKind} (h:w.ShapedOpen P) (hg:g<P.globals.size)
  (h0:((begin P (fun _ _=>0) default).world.heap[g]?).bind Obj.row?=some (zero,t)) (hz:zero.size=1)
  (hb:P.buildable t=true) (hc:P.cellTypes P.depth t=some [t]) (hu:P.underlying t=some (.int k)):∃ m tt fr,w.heap[g]?=some (.cells #[.int k m] tt fr):=by
 obtain ⟨m,hm⟩:=cell_of_shapedOpen_int h hg h0 hz hb hc hu
 obtain ⟨cs,hh,hs,_⟩:=h.1 g zero t hg h0
 have h1:cs[0]?=some (.int k m):=by simpa [World.cell?,hh] using hm
 have e:cs = #[.int k m]:=by
  apply Array.ext
  ·rw [hs,hz]; rfl
  ·intro i h2 h3
   have hi:i=0:=by simpa using h3
   subst hi
   have:=(Array.getElem?_eq_some_iff.1 h1).2
   simpa using this
 rw [e] at hh
 exact ⟨m,_,_,hh⟩
end
section
open Go.RowKit Go.WideShapes Go.ChangeShapes
variable [AAE]
set_option autoImplicit false
def came (w:World):Ctx:=⟨fun _ _=>none,[],fun b=>b<w.heap.size⟩
mutual
def AWB {H:Type}:DataW H→List Nat
 | .lit (.string b)=>[b.length]
 | .slice el _=>AOc el
 | .agg ps=>AOc ps
 | _=>[]
def AOc {H:Type}:List (DataW H)→List Nat
 | []=>[]
 | d::r=>AWB d++AOc r
end
theorem ASU {H:Type} {d:DataW H} {n:Nat} (hn:n∈AWB d):∀ {ds:List (DataW H)},d∈ds→n∈AOc ds
 | d0::ds,h=>by
  rw [AOc,List.mem_append]
  rcases List.mem_cons.1 h with rfl | h
  ·exact Or.inl hn
  ·exact Or.inr (ASU hn h)
theorem APW {R:Nat} {l m:List Nat} (h:m.all (· ≤ R)=true) (hs:∀ n∈l,n∈m):l.all (· ≤ R)=true:=List.all_eq_true.2 fun n hn=>List.all_eq_true.1 h n (hs n hn)
variable {R:Nat}
def AF8 (R:Nat) (P:Program) (t:TypeId) {α:Type} (f:α→TV) (ok:α→Prop):Prop :=
 ∀ {H:Type} (enc:TypeId×Value→H) (w:World) (fuel:Nat) (cs:List Value) (d:DataW H) (ps:List MemPlace),DataW.trod enc P w 0 (fun _=>true) true fuel t cs=some (d,ps)→(d.weights P t).all (· ≤ reachBytes)=true→(AWB d).all (· ≤ R)=true→∃ a,AAq (came w) w (f a) cs∧ok a
theorem AWx {α β:Type} {f:α→Option β}:∀ {l:List α} {xs:List β},l.mapM f=some xs→xs.length=l.length∧∀ (i:Nat) a,l[i]?=some a→∃ x,xs[i]?=some x∧f a=some x
 | [],xs,h=>by simp at h; subst h; simp
 | a::l,xs,h=>by
  rw [List.mapM_cons] at h
  cases hf:f a with
  | none=>rw [hf] at h; cases h
  | some y =>
   rw [hf] at h
   cases hl:l.mapM f with
   | none=>rw [hl] at h; cases h
   | some ys =>
    rw [hl] at h
    have e:xs=y::ys:=by simpa using h.symm
    subst e
    obtain ⟨h1,h2⟩:=AWx hl
    refine ⟨by simp [h1],fun i b hb => ?_⟩
    cases i with
    | zero=>simp at hb; subst hb; exact ⟨y,by simp,hf⟩
    | succ i=>simpa using h2 i b (by simpa using hb)
theorem AMs {β:Type} {f:Nat→Option β} {n:Nat} {xs:List β} (h:(List.range n).mapM f=some xs):xs.length=n∧∀ i,i<n→∃ x,xs[i]?=some x∧f i=some x:=by
 obtain ⟨h1,h2⟩:=AWx h
 exact ⟨by simpa using h1,fun i hi=>h2 i i (by simp [hi])⟩
section
variable {P:Program} {t e:TypeId}
theorem AOv {H:Type} {enc:TypeId×Value→H} {w:World} {fuel:Nat} {cs:List Value} {x:DataW H×List MemPlace} (h:DataW.trod enc P w 0 (fun _=>true) true fuel t cs=some x):∃ n,fuel=n+1:=by
 cases fuel with
 | zero=>simp [DataW.trod] at h
 | succ n=>exact ⟨n,rfl⟩
theorem A0F {k:IntKind} (ht:P.underlying t=some (.int k)):AF8 R P t (fun n => .val (.int k n)) (fun n=>(Lit.int k n).wf=true):=by
 intro H enc w fuel cs d ps h _ _
 obtain ⟨n,rfl⟩:=AOv h
 unfold DataW.trod at h; rw [ht] at h
 split at h<;>rename_i h1<;>try (simp at h1; done)
 all_goals try (cases h; done)
 all_goals try (simp only [Option.some.injEq,TypeDesc.int.injEq] at h1)
 all_goals first
  | (subst h1; split at h; (rename_i hc; obtain ⟨rfl,hw⟩:=hc; cases h; exact ⟨_,by rw [AAq]; exact ⟨rfl,rfl⟩,hw⟩); cases h)
  | (simp at h1; done)
  | (simp at h; done)
theorem APd (ht:P.underlying t=some .string):AF8 R P t (fun l => .val (.string (str l))) (fun l=>l.length≤R):=by
 intro H enc w fuel cs d ps h _ hw
 obtain ⟨n,rfl⟩:=AOv h
 unfold DataW.trod at h; rw [ht] at h
 split at h<;>rename_i h1<;>try (simp at h1; done)
 all_goals first
  | (simp at h1; done)
  | (simp at h; done)
  | (simp only [Option.ite_none_right_eq_some,Option.some.injEq,Prod.mk.injEq] at h; obtain ⟨hm,rfl,rfl⟩:=h; refine ⟨bl _,by rw [AAq,BbX]; exact ⟨rfl,rfl⟩,?_⟩; simp only [AWB,List.all_cons,List.all_nil,Bool.and_true] at hw; exact of_decide_eq_true hw)
end
theorem AHT {H:Type} {P:Program} {e:TypeId} {d:DataW H} {n:Nat} (hn:n∈d.weights P e):∀ {ds:List (DataW H)},d∈ds→n∈DataW.weightsAll P e ds
 | d0::ds,h=>by
  simp only [DataW.weightsAll,List.mem_append]
  rcases List.mem_cons.1 h with rfl | h
  ·exact Or.inl hn
  ·exact Or.inr (AHT hn h)
theorem AEw {l m:List Nat} (h:m.all (· ≤ reachBytes)=true) (hs:∀ n∈l,n∈m):l.all (· ≤ reachBytes)=true:=List.all_eq_true.2 fun n hn=>List.all_eq_true.1 h n (hs n hn)
theorem A8C (a:Addr) (i j:Nat):(a.add i).add j=a.add (i+j):=by
 unfold Addr.add
 by_cases h1:i=0<;>by_cases h2:j=0<;>simp [h1,h2,Nat.add_assoc]
theorem A40 (b off i:Nat):(⟨b,off,none⟩:Addr).add i=⟨b,off+i,none⟩:=by
 unfold Addr.add
 by_cases h1:i=0<;>simp [h1]
theorem A0A {w:World} {a:Addr} {n:Nat} {us:List Value} (h:w.cells? 0 a n=some us):us.length=n∧∀ i,i<n→∃ u,us[i]?=some u∧w.cell? (a.add i)=some u:=by
 unfold World.cells? at h
 rw [if_pos (Nat.zero_le _)] at h
 exact AMs h
theorem AWr {α:Type} {f:α→TV} {ok:α→Prop} {k:Nat} (hw:∀ a,ok a→AAu (f a)=k) {w:World} {b off:Nat}:∀ (n i0:Nat),(∀ i,i<n→∃ us a,AAq (came w) w (f a) us∧ok a∧us.length=k∧ABr w b (off+(i0+i)*k) us) →
  ∃ (l:List α) (us:List Value),l.length=n∧(∀ a∈l,ok a)∧AAr (came w) w (l.map f) us∧us.length=n*k∧ABr w b (off+i0*k) us
 | 0,i0,_=>⟨[],[],rfl,by simp,by rw [List.map_nil,AAr],by simp,fun j u h=>by simp at h⟩
 | n+1,i0,h=>by
  obtain ⟨us,a,h1,h2,h3,h4⟩:=h 0 (by omega)
  obtain ⟨l,vs,k1,k2,k3,k4,k5⟩:=AWr hw n (i0+1) (fun i hi=>by
   obtain ⟨us,a,h1,h2,h3,h4⟩:=h (i+1) (by omega)
   exact ⟨us,a,h1,h2,h3,by rw [show i0+1+i=i0+(i+1) from by omega]; exact h4⟩)
  refine ⟨a::l,us++vs,by simp [k1],fun c hc => ?_,?_,?_,?_⟩
  ·rcases List.mem_cons.1 hc with rfl | hc
   ·exact h2
   ·exact k2 c hc
  ·rw [List.map_cons,AAr]; exact ⟨us,vs,rfl,h1,k3⟩
  ·rw [List.length_append,h3,k4,Nat.succ_mul,Nat.add_comm]
  ·intro j u hj
   by_cases hjk:j<k
   ·rw [List.getElem?_append_left (by omega)] at hj
    have:=h4 j u hj
    rwa [Nat.add_zero] at this
   ·rw [List.getElem?_append_right (by omega),h3] at hj
    have:=k5 (j - k) u hj
    rw [show off+(i0+1)*k+(j - k)=off+i0*k+j from by rw [Nat.succ_mul]; omega] at this
    exact this
section
variable {P:Program} {t e:TypeId} {α:Type} {f:α→TV} {ok:α→Prop} {k B:Nat}
theorem ARj (ht:P.underlying t=some (.slice e)) (hk:P.cellsOf e=k) (hB:P.bytesOf e=B) (hc:AF8 R P e f ok) (hw:∀ a,ok a→AAu (f a)=k) (h0:k≠0) :
  AF8 R P t (fun l:List α => .sl k (l.map f)) (fun l=>(∀ a∈l,ok a)∧l.length*B≤140737488351232∧l.length≤9223372036854775807):=by
 intro H enc w fuel cs d ps h hwt hst
 obtain ⟨n,rfl⟩:=AOv h
 unfold DataW.trod at h; rw [ht] at h
 split at h<;>rename_i h1<;>try (simp at h1; done)
 all_goals first
  | (simp at h; done)
  | skip
 ·cases h
  refine ⟨[],?_,by simp,by simp,by simp⟩
  rw [AAq]; exact ⟨by simp,.inl ⟨rfl,none,0,rfl,by omega⟩⟩
 ·rename_i a len cap
  simp only [Option.some.injEq,TypeDesc.slice.injEq] at h1
  subst h1
  split at h
  ·rename_i hcond
   obtain ⟨-,hlc,hcm⟩:=hcond
   rw [Option.bind_eq_some_iff] at h
   obtain ⟨elems,he,h⟩:=h
   rw [if_pos rfl,Option.map_eq_some_iff] at h
   obtain ⟨rest,hr,h⟩:=h
   simp only [Prod.mk.injEq] at h
   obtain ⟨rfl,rfl⟩:=h
   obtain ⟨e1,e2⟩:=AMs he
   obtain ⟨r1,_⟩:=AMs hr
   unfold maxLen at hcm
   simp only [DataW.weights,ht,List.all_cons,Bool.and_eq_true,decide_eq_true_eq,reachBytes,List.length_map,e1,r1,hB] at hwt
   have hcapB:cap*B≤140737488351232:=by have:=of_decide_eq_true hwt.1; rwa [Nat.add_sub_cancel' hlc] at this
   have hlen:len*B≤140737488351232:=Nat.le_trans (Nat.mul_le_mul_right _ hlc) hcapB
   have hwe:(DataW.weightsAll P e (elems.map (·.1))).all (· ≤ reachBytes)=true:=AEw (m:=DataW.weightsAll P e (elems.map (·.1))++DataW.weightsAll P e (rest.map (·.1))) hwt.2 (fun n hn=>List.mem_append_left _ hn)
   obtain ⟨b,off,spot⟩:=a
   have key:∀ i,i<len→∃ us a,AAq (came w) w (f a) us∧ok a∧us.length=k∧(∀ j u,us[j]?=some u→w.cell? ((⟨b,off,spot⟩:Addr).add (i*k+j))=some u):=by
    intro i hi
    obtain ⟨x,hx,hxe⟩:=e2 i hi
    rw [Option.bind_eq_some_iff] at hxe
    obtain ⟨us,hus,htr⟩:=hxe
    rw [hk] at hus
    obtain ⟨c1,c2⟩:=A0A hus
    obtain ⟨a,ha,hok⟩:=hc enc w n us x.1 x.2 htr (AEw hwe fun m hm=>AHT hm (List.mem_map.2 ⟨x,List.mem_of_getElem? hx,rfl⟩)) (APW hst fun m hm=>by rw [AWB]; exact ASU hm (List.mem_map.2 ⟨x,List.mem_of_getElem? hx,rfl⟩))
    refine ⟨us,a,ha,hok,c1,fun j u hj => ?_⟩
    have hjk:j<k:=by rw [←c1]; exact (List.getElem?_eq_some_iff.1 hj).1
    obtain ⟨u',hu',hcu⟩:=c2 j hjk
    rw [hj] at hu'; cases hu'
    rw [A8C] at hcu
    exact hcu
   by_cases hl0:len=0
   ·subst hl0
    refine ⟨[],?_,by simp,by simp,by simp⟩
    rw [AAq]; exact ⟨by simp,.inl ⟨rfl,_,cap,rfl,hcm⟩⟩
   ·have hsp:spot=none:=by
     obtain ⟨us,a,_,_,c1,c2⟩:=key 0 (by omega)
     have hu:us[0]?=some us[0]:=List.getElem?_eq_getElem (by omega)
     have:=c2 0 _ hu
     simpa [Addr.add] using World.cell?_spot this
    subst hsp
    obtain ⟨l,us,l1,l2,l3,l4,l5⟩:=AWr (f:=f) (ok:=ok) hw (w:=w) (b:=b) (off:=off) len 0 (fun i hi=>by
     obtain ⟨us,a,h1,h2,h3,h4⟩:=key i hi
     refine ⟨us,a,h1,h2,h3,fun j u hj => ?_⟩
     have:=h4 j u hj
     rw [A40] at this
     rw [Nat.zero_add,Nat.add_assoc]; exact this)
    refine ⟨l,?_,l2,by rw [l1]; exact hlen,by omega⟩
    rw [AAq]
    refine ⟨fun x hx => ?_,.inr ⟨b,off,cap,us,by rw [List.length_map,l1],by rw [List.length_map,l1]; exact hlc,hcm,?_,l3,by simpa using l5⟩⟩
    ·obtain ⟨a,ha,rfl⟩:=List.mem_map.1 hx; exact hw a (l2 a ha)
    ·have hus:0<us.length:=by rw [l4]; exact Nat.mul_pos (by omega) (by omega)
     exact A7y (l5 0 us[0] (List.getElem?_eq_getElem hus))
  ·cases h
end
section
variable {P:Program} {t e:TypeId} {α:Type} {f:α→TV} {ok:α→Prop} {k:Nat}
theorem AH2 {β:Type} {g:β→TV} {ok':β→Prop} (h:AF8 R P t f ok) (hm:∀ a,ok a→∃ b,f a=g b∧ok' b):AF8 R P t g ok':=by
 intro H enc w fuel cs d ps h1 h2 h2'
 obtain ⟨a,h3,h4⟩:=h enc w fuel cs d ps h1 h2 h2'
 obtain ⟨b,h5,h6⟩:=hm a h4
 exact ⟨b,by rw [←h5]; exact h3,h6⟩
theorem AXE (ht:P.underlying t=some (.int .u8)):AF8 R P t by8 (fun _=>True) :=
 AH2 (A0F ht) fun n h=>by
  have:=bounds_u8 h
  refine ⟨UInt8.ofNat n.toNat,?_,trivial⟩
  rw [by8,UInt8.toNat_ofNat',Nat.mod_eq_of_lt (by omega)]
  congr 2; omega
theorem AV9 (ht:P.underlying t=some (.slice e)) (he:P.underlying e=some (.int .u8)) (hk:P.cellsOf e=1) (hB:P.bytesOf e=1):AF8 R P t slB (fun l=>l.length≤140737488351232) :=
 AH2 (ARj ht hk hB (AXE he) (fun _ _=>rfl) (by omega)) fun l h=>⟨l,rfl,by have:=h.2; omega⟩
theorem A80 {H:Type} {P:Program} {e:TypeId} {parts:List (DataW H)} (h:(DataW.weightsAll P e parts).all (· ≤ reachBytes)=true) {d:DataW H} (hd:d∈parts):(d.weights P e).all (· ≤ reachBytes)=true :=
 AEw h fun n hn=>AHT hn hd
theorem AZq {w:World} (hw:∀ a,ok a→AAu (f a)=k):∀ (n i0:Nat) (cs:List Value),cs.length=n*k→(∀ i,i<n→∃ a,AAq (came w) w (f a) ((cs.drop (i*k)).take k)∧ok a) →
  ∃ l:List α,l.length=n∧(∀ a∈l,ok a)∧AAr (came w) w (l.map f) cs
 | 0,i0,cs,hl,_=>⟨[],rfl,by simp,by rw [List.map_nil,AAr]; exact List.length_eq_zero_iff.1 (by simpa using hl)⟩
 | n+1,i0,cs,hl,h=>by
  obtain ⟨a,h1,h2⟩:=h 0 (by omega)
  rw [Nat.zero_mul,List.drop_zero] at h1
  rw [Nat.succ_mul] at hl
  obtain ⟨l,k1,k2,k3⟩:=AZq hw n 0 (cs.drop k) (by rw [List.length_drop]; omega) (fun i hi=>by
   obtain ⟨a,h1,h2⟩:=h (i+1) (by omega)
   exact ⟨a,by rw [List.drop_drop]; rw [Nat.succ_mul,Nat.add_comm] at h1; exact h1,h2⟩)
  refine ⟨a::l,by simp [k1],fun c hc => ?_,?_⟩
  ·rcases List.mem_cons.1 hc with rfl | hc
   ·exact h2
   ·exact k2 c hc
  ·rw [List.map_cons,AAr]
   exact ⟨cs.take k,cs.drop k,(List.take_append_drop k cs).symm,h1,k3⟩
theorem AXt {n:Nat} (ht:P.underlying t=some (.array n e)) (hk:P.cellsOf e=k) (hn:P.cellsOf t=n*k) (hc:AF8 R P e f ok) (hw:∀ a,ok a→AAu (f a)=k) :
  AF8 R P t (fun l:List α => .arr n k (l.map f)) (fun l=>l.length=n∧∀ a∈l,ok a):=by
 intro H enc w fuel cs d ps h hwt hst
 obtain ⟨m,rfl⟩:=AOv h
 unfold DataW.trod at h; rw [ht] at h
 split at h<;>rename_i h1<;>try (simp at h1; done)
 all_goals first
  | (simp at h; done)
  | exact ((‹∀ (n_1:Nat) (e_1:TypeId),some (TypeDesc.array n e)=some (TypeDesc.array n_1 e_1)→False› : ∀ (n_1:Nat) (e_1:TypeId),some (TypeDesc.array n e)=some (TypeDesc.array n_1 e_1)→False) n e rfl).elim
  | skip
 cases h1
 split at h
 ·rename_i hlen
  rw [Option.map_eq_some_iff] at h
  obtain ⟨xs,hx,h⟩:=h
  simp only [Prod.mk.injEq] at h
  obtain ⟨rfl,rfl⟩:=h
  obtain ⟨e1,e2⟩:=AMs hx
  simp only [DataW.weights,ht] at hwt
  rw [hn] at hlen
  obtain ⟨l,l1,l2,l3⟩:=AZq (f:=f) (ok:=ok) (w:=w) hw _ 0 _ hlen (fun i hi=>by
   obtain ⟨x,hx,hxe⟩:=e2 i hi
   rw [hk] at hxe
   obtain ⟨a,ha,hok⟩:=hc enc w m _ x.1 x.2 hxe (A80 hwt (List.mem_map.2 ⟨x,List.mem_of_getElem? hx,rfl⟩)) (APW hst fun m hm=>by rw [AWB]; exact ASU hm (List.mem_map.2 ⟨x,List.mem_of_getElem? hx,rfl⟩))
   exact ⟨a,ha,hok⟩)
  refine ⟨l,?_,l1,l2⟩
  rw [AAq]
  refine ⟨by rw [List.length_map,l1],fun x hx => ?_,l3⟩
  obtain ⟨a,ha,rfl⟩:=List.mem_map.1 hx; exact hw a (l2 a ha)
 ·cases h
end
def AVv (R:Nat) (P:Program) (off:Nat) (fs:List Field) {α:Type} (f:α→List TV) (ok:α→Prop):Prop :=
 ∀ {H:Type} (enc:TypeId×Value→H) (w:World) (fuel:Nat) (cs:List Value) (xs:List (DataW H×List MemPlace)),(fs.mapM fun fd=>DataW.trod enc P w 0 (fun _=>true) true fuel fd.type ((cs.drop fd.offset).take (P.cellsOf fd.type)))=some xs→(DataW.weightsEach P (fs.map (·.type)) (xs.map (·.1))).all (· ≤ reachBytes)=true→(AOc (xs.map (·.1))).all (· ≤ R)=true →
  cs.length=off+(fs.map fun fd=>P.cellsOf fd.type).sum→∃ a,AAr (came w) w (f a) (cs.drop off)∧ok a
theorem ATk {P:Program} {off:Nat}:AVv R P off [] (fun _:Unit=>[]) (fun _=>True):=by
 intro H enc w fuel cs xs _ _ _ hl
 refine ⟨(),?_,trivial⟩
 rw [AAr]; exact List.drop_eq_nil_of_le (by simp at hl; omega)
theorem AHx {P:Program} {off n:Nat} {fd:Field} {fs:List Field} {α β:Type} {f:α→TV} {ok:α→Prop} {g:β→List TV} {ok':β→Prop} (h0:fd.offset=off) (hn:P.cellsOf fd.type=n) (hc:AF8 R P fd.type f ok) (hr:AVv R P (off+n) fs g ok') :
  AVv R P off (fd::fs) (fun x:α×β=>f x.1::g x.2) (fun x=>ok x.1∧ok' x.2):=by
 intro H enc w fuel cs xs hx hw hs hl
 rw [List.mapM_cons] at hx
 cases h1:DataW.trod enc P w 0 (fun _=>true) true fuel fd.type ((cs.drop fd.offset).take (P.cellsOf fd.type)) with
 | none=>rw [h1] at hx; cases hx
 | some y =>
  rw [h1] at hx
  cases h2:(fs.mapM fun fd=>DataW.trod enc P w 0 (fun _=>true) true fuel fd.type ((cs.drop fd.offset).take (P.cellsOf fd.type))) with
  | none=>rw [h2] at hx; cases hx
  | some ys =>
   rw [h2] at hx
   have e:xs=y::ys:=by simpa using hx.symm
   subst e
   simp only [List.map_cons,DataW.weightsEach] at hw
   simp only [List.map_cons,AOc] at hs
   obtain ⟨a,ha,hoka⟩:=hc enc w fuel _ y.1 y.2 h1 (AEw hw fun n hn=>List.mem_append_left _ hn) (APW hs fun n hn=>List.mem_append_left _ hn)
   obtain ⟨b,hb,hokb⟩:=hr enc w fuel cs ys h2 (AEw hw fun n hn=>List.mem_append_right _ hn) (APW hs fun n hn=>List.mem_append_right _ hn) (by simp [hn] at hl ⊢; omega)
   refine ⟨(a,b),?_,hoka,hokb⟩
   rw [AAr]
   refine ⟨(cs.drop off).take n,cs.drop (off+n),?_,by rw [←h0,←hn]; exact ha,hb⟩
   rw [←List.drop_drop,List.take_append_drop]
theorem APx {P:Program} {t:TypeId} {fs:Array Field} {α:Type} {f:α→List TV} {ok:α→Prop} (ht:P.underlying t=some (.struct fs)) (hn:P.cellsOf t=(fs.toList.map fun fd=>P.cellsOf fd.type).sum) (hc:AVv R P 0 fs.toList f ok) :
  AF8 R P t (fun a => .agg (f a)) ok:=by
 intro H enc w fuel cs d ps h hwt hst
 obtain ⟨m,rfl⟩:=AOv h
 unfold DataW.trod at h; rw [ht] at h
 split at h<;>rename_i h1<;>try (simp at h1; done)
 all_goals first
  | (simp at h; done)
  | exact ((‹∀ (fs_1:Array Field),some (TypeDesc.struct fs)=some (TypeDesc.struct fs_1)→False› : ∀ (fs_1:Array Field),some (TypeDesc.struct fs)=some (TypeDesc.struct fs_1)→False) fs rfl).elim
  | skip
 cases h1
 split at h
 ·rename_i hlen
  rw [Option.map_eq_some_iff] at h
  obtain ⟨xs,hx,h⟩:=h
  simp only [Prod.mk.injEq] at h
  obtain ⟨rfl,rfl⟩:=h
  simp only [DataW.weights,ht] at hwt
  obtain ⟨a,ha,hok⟩:=hc enc w m _ xs hx hwt (by rw [AWB] at hst; exact hst) (by rw [hlen,hn,Nat.zero_add])
  exact ⟨a,by rw [AAq]; rw [List.drop_zero] at ha; exact ha,hok⟩
 ·cases h
def API (R:Nat) (P:Program) (ts:List TypeId) {α:Type} (f:α→List TV) (ok:α→Prop):Prop :=
 ∀ {H:Type} (enc:TypeId×Value→H) (w:World) (vs:List Value) (ds:List (DataW H)) (ps:List MemPlace),DataW.TrodAll enc P w 0 (fun _=>true) true ts vs ds ps→(∀ (j:Nat) t v,ts[j]?=some t→vs[j]?=some v→∃ base,Value.okWide P w .any base t v)→(DataW.weightsEach P ts ds).all (· ≤ reachBytes)=true→(AOc ds).all (· ≤ R)=true→∃ a,AAZ (came w) w (f a) vs∧ok a
theorem AVl {P:Program}:API R P [] (fun _:Unit=>[]) (fun _=>True):=by
 intro H enc w vs ds ps h _ _ _
 obtain ⟨rfl,rfl,rfl⟩:=trodAll_nil h
 exact ⟨(),by rw [AAZ],trivial⟩
def AYK (P:Program) (t:TypeId) (b:Bool):Prop:=∀ w base v,Value.okWide P w .any base t v→if b then ∃ cs,v = .agg cs else v.cells = #[v]
theorem AWm {P:Program} {t e:TypeId} (ht:P.underlying t=some (.slice e)):AYK P t false:=fun w _ v h=>by obtain ⟨_,_,_,rfl⟩:=okWide_slice ht h; rfl
theorem AVN {P:Program} {t:TypeId} {fs:Array Field} (ht:P.underlying t=some (.struct fs)):AYK P t true:=fun w _ v h=>by obtain ⟨cs,rfl,_⟩:=okWide_struct ht h; exact ⟨cs,rfl⟩
theorem A2N {c:Ctx} {P:Program} {w:World} {t:TypeId} {v:Value} {x:TV} {b:Bool} (hf:AYK P t b) {base:Nat} (hv:Value.okWide P w .any base t v) (hx:ANn x=b):v=mkV x v.cells.toList:=by
 have h:=hf w base v hv
 cases b with
 | true =>
  simp only [if_true] at h
  obtain ⟨cs,rfl⟩:=h
  rw [AZu hx]; simp [Value.cells]
 | false =>
  simp only [Bool.false_eq_true,if_false] at h
  rw [h]
  exact (ASg hx).symm
theorem AMT {P:Program} {t:TypeId} {ts:List TypeId} {α β:Type} {f:α→TV} {ok:α→Prop} {g:β→List TV} {ok':β→Prop} {b:Bool} (hc:AF8 R P t f ok) (hf:AYK P t b) (hm:∀ a,ANn (f a)=b) (hr:API R P ts g ok') :
  API R P (t::ts) (fun x:α×β=>f x.1::g x.2) (fun x=>ok x.1∧ok' x.2):=by
 intro H enc w vs ds ps h hv hw hs
 obtain ⟨v,vs',d,ds',p,q,rfl,rfl,rfl,h0,r0⟩:=trodAll_cons h
 simp only [DataW.weightsEach] at hw
 simp only [AOc] at hs
 obtain ⟨fuel,hfu⟩:=h0
 obtain ⟨a,ha,hoka⟩:=hc enc w fuel _ d p hfu (AEw hw fun n hn=>List.mem_append_left _ hn) (APW hs fun n hn=>List.mem_append_left _ hn)
 obtain ⟨b,hb,hokb⟩:=hr enc w vs' ds' q r0 (fun j t v h1 h2=>hv (j+1) t v (by simpa using h1) (by simpa using h2)) (AEw hw fun n hn=>List.mem_append_right _ hn) (APW hs fun n hn=>List.mem_append_right _ hn)
 refine ⟨(a,b),AAZ.cons.2 ⟨v,vs',rfl,.inr (.inr ⟨v.cells.toList,ha,A2N (c:=came w) hf (hv 0 t v rfl rfl).choose_spec (hm a)⟩),hb⟩,hoka,hokb⟩
theorem APC {H:Type} {enc:TypeId×Value→H} {P:Program} (hl:laidOutB P=true) {W W':World} (hb:Below W.heap.size W W'):∀ {ts:List TypeId} {vs:List Value} {ds:List (DataW H)} {ps:List MemPlace},(ts.all fun t=>P.readableRec t && decide (t<P.types.size))=true →
  DataW.TrodAll enc P W 0 (fun _=>true) true ts vs ds ps→DataW.TrodAll enc P W' 0 (fun b=>decide (b<W.heap.size)) true ts vs ds ps
 | [],vs,ds,ps,_,h=>by
  obtain ⟨rfl,rfl,rfl⟩:=trodAll_nil h
  exact trodAll_mk0
 | t::ts,vs,ds,ps,hr,h=>by
  obtain ⟨v,vs',d,ds',p,q,rfl,rfl,rfl,h0,r0⟩:=trodAll_cons h
  simp only [List.all_cons,Bool.and_eq_true,decide_eq_true_eq] at hr
  refine trodAll_cons_mk (Below.trod hl hr.1.1 hr.1.2 h0 hb ?_) (APC hl hb (by simpa using hr.2) r0)
  obtain ⟨m,hm⟩:=h0
  exact DataW.trod_lt m _ _ _ hm
theorem AKv.below {F F':Nat→Prop} {w w':World} (h:AKv F w F' w'):Below w.heap.size w w':=⟨h.os,h.tape,h.output,h.size,fun k hk=>h.same k hk⟩
theorem Ba4 {P:Program} {f:FuncId} {ts:List TypeId} {α:Type} {g:α→List TV} {ok:α→Prop} (hc:API R P ts g ok) (hlaw:∀ a,ok a→AAR P f (g a) (fun x=>x=tb true)) {H:Type} {enc:TypeId×Value→H} {w:World} {args:Array Value} {ds:List (DataW H)} {ps:List MemPlace}
  (h:DataW.TrodAll enc P w 0 (fun _=>true) true ts args.toList ds ps) (hv:∀ (j:Nat) t v,ts[j]?=some t→args.toList[j]?=some v→∃ base,Value.okWide P w .any base t v) (hw:(DataW.weightsEach P ts ds).all (· ≤ reachBytes)=true) (hs:(AOc ds).all (· ≤ R)=true) (hg:AFv (fun b=>b<w.heap.size) w) :
  Calls P f args w fun e w'=>e = .returned (.bool true)∧Below w.heap.size w w':=by
 obtain ⟨a,ha,hok⟩:=hc enc w args.toList ds ps h hv hw hs
 have:=hlaw a hok (fun _ _=>none) (fun b=>b<w.heap.size) w args.toList ⟨fun b h=>h,hg⟩ ha
 rw [Array.toArray_toList] at this
 refine this.mono ?_
 rintro e w' ⟨v,x,F',rfl,rfl,hx,hst⟩
 rw [Rep.val] at hx
 exact ⟨by rw [hx],hst.below⟩
end
section
open Go.RowKit
variable [AAE]
set_option autoImplicit false
end
section
open Go.RowKit
variable [AAE]
section
variable {t:TypeId} {a b:Nat} {k2:IntKind}
end
end
section
open Go.RowKit
variable [AAE]
section
variable {t:TypeId} {a b:Nat} {k2:IntKind}
theorem AQw {n:Nat} (h:n<18446744073709551616):IntKind.u64.wrap (n:Int)=n:=by rw [IntKind.wrap_u64]; omega
theorem AYR (h1:a*b<18446744073709551616):ABW t .mul (.int .u64 (a:Int)) (.int .u64 (b:Int))=some (.int .u64 ((a*b:Nat):Int)):=by
 rw [show ABW t .mul (.int .u64 (a:Int)) (.int .u64 (b:Int))=some (.int .u64 (IntKind.u64.wrap ((a:Int)*(b:Int)))) from rfl,show (a:Int)*(b:Int)=((a*b:Nat):Int) from rfl,AQw h1]
theorem A4L (h1:b≤a) (h2:a<18446744073709551616):ABW t .sub (.int .u64 (a:Int)) (.int .u64 (b:Int))=some (.int .u64 ((a - b:Nat):Int)):=by
 rw [show ABW t .sub (.int .u64 (a:Int)) (.int .u64 (b:Int))=some (.int .u64 (IntKind.u64.wrap ((a:Int) - (b:Int)))) from rfl,show (a:Int) - (b:Int)=((a - b:Nat):Int) from by omega,AQw (by omega)]
theorem A4J (h2:b≤63) (h4:a*2 ^ b<18446744073709551616):ABW t .shl (.int .u64 (a:Int)) (.int k2 (b:Int))=some (.int .u64 ((a*2 ^ b:Nat):Int)):=by
 have e:binOp .shl t (.int .u64 (a:Int)) (.int k2 (b:Int))=pure (.int .u64 ((a*2 ^ b:Nat):Int)):=by
  show Op.shift .shl .u64 a k2 b=_
  unfold Op.shift
  rw [if_neg (by omega)]
  have hm:min ((b:Int)).toNat IntKind.u64.bits=b:=by
   have:IntKind.u64.bits=64:=rfl
   omega
  simp only [hm]
  have e2:(a:Int)*2 ^ b=((a*2 ^ b:Nat):Int):=by rw [Int.natCast_mul,Int.natCast_pow]; rfl
  rw [e2,AQw h4]
 unfold ABW; rw [e]; rfl
end
end
section
open Go.RowKit
variable [AAE]
set_option autoImplicit false
section
variable {t:TypeId} {a b:Nat} {k2:IntKind}
theorem A9g {n:Nat} (h:n<256):IntKind.u8.wrap (n:Int)=n:=by rw [IntKind.wrap_u8]; omega
theorem bv8 {n:Nat}:(BitVec.ofInt 8 (n:Int)).toNat=n % 256:=by
 rw [BitVec.toNat_ofInt]; omega
theorem AUw:ABW t .add (.int .u8 (a:Int)) (.int .u8 (b:Int))=some (.int .u8 (((a+b) % 256:Nat):Int)):=by
 rw [show ABW t .add (.int .u8 (a:Int)) (.int .u8 (b:Int))=some (.int .u8 (IntKind.u8.wrap ((a:Int)+b))) from rfl,IntKind.wrap_u8]
 congr 2
theorem A6N:ABW t .mul (.int .u8 (a:Int)) (.int .u8 (b:Int))=some (.int .u8 (((a*b) % 256:Nat):Int)):=by
 rw [show ABW t .mul (.int .u8 (a:Int)) (.int .u8 (b:Int))=some (.int .u8 (IntKind.u8.wrap ((a:Int)*b))) from rfl,IntKind.wrap_u8]
 congr 2
theorem AUt (h:b≤a) (h2:a<256):ABW t .sub (.int .u8 (a:Int)) (.int .u8 (b:Int))=some (.int .u8 ((a - b:Nat):Int)):=by
 rw [show ABW t .sub (.int .u8 (a:Int)) (.int .u8 (b:Int))=some (.int .u8 (IntKind.u8.wrap ((a:Int) - b))) from rfl,IntKind.wrap_u8]
 congr 2; omega
theorem BbY (h1:a<256) (h2:b<256):ABW t .and (.int .u8 (a:Int)) (.int .u8 (b:Int))=some (.int .u8 ((a &&& b:Nat):Int)):=by
 rw [show ABW t .and (.int .u8 (a:Int)) (.int .u8 (b:Int))=some (.int .u8 (IntKind.u8.wrap ((BitVec.ofInt 8 a &&& BitVec.ofInt 8 b).toNat:Int))) from rfl,BitVec.toNat_and,bv8,bv8,Nat.mod_eq_of_lt (by omega),Nat.mod_eq_of_lt (by omega)]
 have:=Nat.and_le_left (n:=a) (m:=b)
 rw [A9g (by omega)]
theorem BeY (h1:a<256) (h2:b<256):ABW t .or (.int .u8 (a:Int)) (.int .u8 (b:Int))=some (.int .u8 ((a ||| b:Nat):Int)):=by
 rw [show ABW t .or (.int .u8 (a:Int)) (.int .u8 (b:Int))=some (.int .u8 (IntKind.u8.wrap ((BitVec.ofInt 8 a ||| BitVec.ofInt 8 b).toNat:Int))) from rfl,BitVec.toNat_or,bv8,bv8,Nat.mod_eq_of_lt (by omega),Nat.mod_eq_of_lt (by omega)]
 have:=Nat.or_lt_two_pow (n:=8) (x:=a) (y:=b) (by omega) (by omega)
 rw [A9g (by omega)]
theorem Bbc (h1:a<256) (h2:b≤8):ABW t .shr (.int .u8 (a:Int)) (.int k2 (b:Int))=some (.int .u8 ((a / 2 ^ b:Nat):Int)):=by
 have e:binOp .shr t (.int .u8 (a:Int)) (.int k2 (b:Int))=pure (.int .u8 ((a / 2 ^ b:Nat):Int)):=by
  show Op.shift .shr .u8 a k2 b=_
  unfold Op.shift
  rw [if_neg (by omega)]
  have hm:min ((b:Int)).toNat IntKind.u8.bits=b:=by
   have:IntKind.u8.bits=8:=rfl
   omega
  simp only [hm]
  rw [Int.fdiv_eq_ediv_of_nonneg _ (by exact Int.le_of_lt (Int.pow_pos (by omega)))]
  have hle:a / 2 ^ b≤a:=Nat.div_le_self _ _
  have e2:(a:Int) / 2 ^ b=((a / 2 ^ b:Nat):Int):=by rw [Int.natCast_ediv,Int.natCast_pow]; rfl
  rw [e2]
 unfold ABW; rw [e]; rfl
theorem Bbx (h:b≠0) (h1:a<256):ABW t .quo (.int .u8 (a:Int)) (.int .u8 (b:Int))=some (.int .u8 ((a / b:Nat):Int)):=by
 have hz:¬ (b:Int)=0:=by omega
 have hle:a / b≤a:=Nat.div_le_self _ _
 have e2:(a:Int).tdiv (b:Int)=((a / b:Nat):Int):=by rw [Int.tdiv_eq_ediv_of_nonneg (by omega)]; rfl
 have e:binOp .quo t (.int .u8 (a:Int)) (.int .u8 (b:Int))=pure (.int .u8 ((a / b:Nat):Int)):=by
  unfold binOp
  simp only [ne_eq,not_true_eq_false,if_false,Op.intDiv,hz,e2,A9g (show a / b<256 by omega)]
 unfold ABW; rw [e]; rfl
end
theorem AZz {n:Nat} (h:n<256):TV.val (.int .u8 (n:Int))=by8 (UInt8.ofNat n):=by
 show TV.val (.int .u8 (n:Int))=TV.val (.int .u8 ((UInt8.ofNat n).toNat:Int))
 rw [UInt8.toNat_ofNat',Nat.mod_eq_of_lt (by omega)]
theorem AAD {l:List UInt8}:bl (str l)=l:=by simp [bl,str]
theorem A8A {l m:List UInt8}:str l++str m=str (l++m):=by
 apply ByteArray.ext
 simp [str]
theorem AXN {t:TypeId} {l m:List UInt8} (h:l.length+m.length≤9223372036854775807):ABW t .add (.string (str l)) (.string (str m))=some (.string (str (l++m))):=by
 have e1:(str l).size=l.length:=by show l.toArray.size=_; simp
 have e2:(str m).size=m.length:=by show m.toArray.size=_; simp
 rw [←A8A,ABW,binOp_string_add,Op.stringOp]
 simp only [e1,e2]
 rw [if_neg (by show ¬ ((l.length+m.length:Nat):Int) > 9223372036854775807; omega)]
 rfl
end
section
variable [AAE]
set_option maxRecDepth 100000
def AEI:AAm := .seq (.ops [mv_ 65 0,po_ 66 (.lenS (.t 65)),po_ 67 (.bin 3 .geq (.t 66) (ci_ 3)),mv_ 68 67,⟨some 69,.p (.mov (.t 0)),some ⟨68,true⟩⟩,⟨some 70,.p (.idxS (.t 69) (ci_ 1)),some ⟨68,true⟩⟩,⟨some 71,.s (.call 135 [.t 70]),some ⟨68,true⟩⟩,⟨some 72,.p (.bin 5 .eql (.t 71) (.c (.int .u8 ((120:Nat):Int)))),some ⟨68,true⟩⟩,po_ 73 (.pick (.t 68) (.t 72) (.c (.bool false))),mv_ 64 73] [0,2,8,9,64])
 (.cond (.t 64)
 (.seq (.ops [po_ 1 (.mov (ci_ 16))] [0,1,2,8,9])
  (.ops [mv_ 74 0,po_ 75 (.slS (.t 74) (some (ci_ 2)) none),mv_ 0 75] [0,1,2,8,9]))
 (.seq (.ops [po_ 1 (.mov (ci_ 8))] [0,1,2,8,9])
  (.ops [mv_ 38 0,po_ 39 (.slS (.t 38) (some (ci_ 1)) none),mv_ 0 39] [0,1,2,8,9])))
def AEA:AAm := .cond (.t 52)
 (.seq (.ops [po_ 1 (.mov (ci_ 8))] [0,1,2,8,9])
  (.ops [mv_ 62 0,po_ 63 (.slS (.t 62) (some (ci_ 2)) none),mv_ 0 63] [0,1,2,8,9]))
 AEI
def AED:AAm := .seq (.ops [mv_ 53 0,po_ 54 (.lenS (.t 53)),po_ 55 (.bin 3 .geq (.t 54) (ci_ 3)),mv_ 56 55,⟨some 57,.p (.mov (.t 0)),some ⟨56,true⟩⟩,⟨some 58,.p (.idxS (.t 57) (ci_ 1)),some ⟨56,true⟩⟩,⟨some 59,.s (.call 135 [.t 58]),some ⟨56,true⟩⟩,⟨some 60,.p (.bin 5 .eql (.t 59) (.c (.int .u8 ((111:Nat):Int)))),some ⟨56,true⟩⟩,po_ 61 (.pick (.t 56) (.t 60) (.c (.bool false))),mv_ 52 61] [0,2,8,9,52])
 AEA
def AER:AAm := .cond (.t 40)
 (.seq (.ops [po_ 1 (.mov (ci_ 2))] [0,1,2,8,9])
  (.ops [mv_ 50 0,po_ 51 (.slS (.t 50) (some (ci_ 2)) none),mv_ 0 51] [0,1,2,8,9]))
 AED
def AEF:AAm := .block 1 (.seq (.ops [mv_ 41 0,po_ 42 (.lenS (.t 41)),po_ 43 (.bin 3 .geq (.t 42) (ci_ 3)),mv_ 44 43,⟨some 45,.p (.mov (.t 0)),some ⟨44,true⟩⟩,⟨some 46,.p (.idxS (.t 45) (ci_ 1)),some ⟨44,true⟩⟩,⟨some 47,.s (.call 135 [.t 46]),some ⟨44,true⟩⟩,⟨some 48,.p (.bin 5 .eql (.t 47) (.c (.int .u8 ((98:Nat):Int)))),some ⟨44,true⟩⟩,po_ 49 (.pick (.t 44) (.t 48) (.c (.bool false))),mv_ 40 49] [0,2,8,9,40])
 AER)
def AEB:AAm := .cond (.t 37)
 AEF
 (.skip)
def AEP:AAm := .seq (.ops [mv_ 35 0,po_ 36 (.idxS (.t 35) (ci_ 0)),po_ 37 (.bin 5 .eql (.t 36) (.c (.int .u8 ((48:Nat):Int))))] [0,1,2,8,9,37])
 AEB
def AEG:AAm := .seq (.ops [po_ 1 (.mov (ci_ 10))] [0,1,2,8,9])
 AEP
def AEO:AAm := .cond (.t 32)
 AEG
 (.seq (.ops [po_ 24 (.iface 207 (ci_ 3)),po_ 6 (.mov (.c (.int .u64 ((0:Nat):Int)))),mv_ 7 24] [6,7])
  (.ret))
def AD6:AAm := .seq (.ops [mv_ 33 1,po_ 34 (.bin 3 .eql (.t 33) (ci_ 0)),mv_ 32 34] [0,2,8,9,32])
 AEO
def ACe:AAm := .cond (.t 25)
 (.skip)
 AD6
def ABZ:AAm := .seq (.ops [mv_ 78 2,po_ 79 (.bin 3 .lss (.t 78) (ci_ 0)),mv_ 80 79,⟨some 81,.p (.mov (.t 2)),some ⟨80,false⟩⟩,⟨some 82,.p (.bin 3 .gtr (.t 81) (ci_ 64)),some ⟨80,false⟩⟩,po_ 83 (.pick (.t 80) (.c (.bool true)) (.t 82))] [0,1,2,8,9,83])
 (.cond (.t 83)
 (.seq (.ops [po_ 84 (.iface 207 (ci_ 4)),po_ 6 (.mov (.c (.int .u64 ((0:Nat):Int)))),mv_ 7 84] [6,7])
  (.ret))
 (.skip))
def AB9:AAm := .seq (.ops [po_ 93 (.bin 3 .eql (.t 85) (ci_ 16)),mv_ 92 93] [0,1,2,8,9,92])
 (.cond (.t 92)
 (.ops [po_ 10 (.mov (.c (.int .u64 ((1152921504606846976:Nat):Int))))] [0,1,2,8,9,10])
 (.ops [mv_ 86 1,po_ 87 (.conv .u64 (.t 86)),po_ 88 (.bin 190 .quo (.c (.int .u64 ((18446744073709551615:Nat):Int))) (.t 87)),po_ 89 (.bin 190 .add (.t 88) (.c (.int .u64 ((1:Nat):Int)))),mv_ 10 89] [0,1,2,8,9,10]))
def ABS:AAm := .seq (.ops [mv_ 122 15,so_ 123 (.call 135 [.t 122]),po_ 124 (.bin 5 .leq (.c (.int .u8 ((97:Nat):Int))) (.t 123)),mv_ 125 124,⟨some 126,.p (.mov (.t 15)),some ⟨125,true⟩⟩,⟨some 127,.s (.call 135 [.t 126]),some ⟨125,true⟩⟩,⟨some 128,.p (.bin 5 .leq (.t 127) (.c (.int .u8 ((122:Nat):Int)))),some ⟨125,true⟩⟩,po_ 129 (.pick (.t 125) (.t 128) (.c (.bool false))),mv_ 121 129] [1,8,9,10,11,12,13,15,99,100,101,121])
 (.cond (.t 121)
 (.ops [mv_ 130 15,so_ 131 (.call 135 [.t 130]),po_ 132 (.bin 5 .sub (.t 131) (.c (.int .u8 ((97:Nat):Int)))),po_ 133 (.bin 5 .add (.t 132) (.c (.int .u8 ((10:Nat):Int)))),mv_ 16 133] [1,8,9,10,11,12,13,16,99,100,101])
 (.seq (.ops [po_ 105 (.iface 207 (ci_ 2)),po_ 6 (.mov (.c (.int .u64 ((0:Nat):Int)))),mv_ 7 105] [6,7])
  (.ret)))
def AB6:AAm := .cond (.t 112)
 (.ops [mv_ 119 15,po_ 120 (.bin 5 .sub (.t 119) (.c (.int .u8 ((48:Nat):Int)))),mv_ 16 120] [1,8,9,10,11,12,13,16,99,100,101])
 ABS
def ACb:AAm := .seq (.ops [mv_ 113 15,po_ 114 (.bin 5 .leq (.c (.int .u8 ((48:Nat):Int))) (.t 113)),mv_ 115 114,⟨some 116,.p (.mov (.t 15)),some ⟨115,true⟩⟩,⟨some 117,.p (.bin 5 .leq (.t 116) (.c (.int .u8 ((57:Nat):Int)))),some ⟨115,true⟩⟩,po_ 118 (.pick (.t 115) (.t 117) (.c (.bool false))),mv_ 112 118] [1,8,9,10,11,12,13,15,99,100,101,112])
 AB6
def ACg:AAm := .cond (.t 106)
 (.seq (.ops [po_ 12 (.mov (.c (.bool true)))] [1,8,9,10,11,12,13,99,100,101])
  (.exit 4))
 ACb
def ABQ:AAm := .seq (.seq (.ops [mv_ 152 17,mv_ 153 13,po_ 154 (.bin 190 .lss (.t 152) (.t 153)),mv_ 155 154,⟨some 156,.p (.mov (.t 17)),some ⟨155,false⟩⟩,⟨some 157,.p (.mov (.t 11)),some ⟨155,false⟩⟩,⟨some 158,.p (.bin 190 .gtr (.t 156) (.t 157)),some ⟨155,false⟩⟩,po_ 159 (.pick (.t 155) (.c (.bool true)) (.t 158))] [1,8,9,10,11,12,17,99,100,101,159])
 (.cond (.t 159)
 (.seq (.ops [mv_ 160 11,po_ 161 (.iface 207 (ci_ 1)),mv_ 6 160,mv_ 7 161] [6,7])
  (.ret))
 (.skip)))
 (.ops [mv_ 162 17,mv_ 13 162] [1,8,9,10,11,12,13,99,100,101])
def ACh:AAm := .seq (.ops [mv_ 148 13,mv_ 149 16,po_ 150 (.conv .u64 (.t 149)),po_ 151 (.bin 190 .add (.t 148) (.t 150)),mv_ 17 151] [1,8,9,10,11,12,13,17,99,100,101])
 ABQ
def AB2:AAm := .seq (.ops [mv_ 144 13,mv_ 145 1,po_ 146 (.conv .u64 (.t 145)),po_ 147 (.bin 190 .mul (.t 144) (.t 146)),mv_ 13 147] [1,8,9,10,11,12,13,16,99,100,101])
 ACh
def AB4:AAm := .seq (.seq (.ops [mv_ 139 13,mv_ 140 10,po_ 141 (.bin 190 .geq (.t 139) (.t 140))] [1,8,9,10,11,12,13,16,99,100,101,141])
 (.cond (.t 141)
 (.seq (.ops [mv_ 142 11,po_ 143 (.iface 207 (ci_ 1)),mv_ 6 142,mv_ 7 143] [6,7])
  (.ret))
 (.skip)))
 AB2
def ABj:AAm := .seq (.seq (.ops [mv_ 134 16,mv_ 135 1,po_ 136 (.conv .u8 (.t 135)),po_ 137 (.bin 5 .geq (.t 134) (.t 136))] [1,8,9,10,11,12,13,16,99,100,101,137])
 (.cond (.t 137)
 (.seq (.ops [po_ 138 (.iface 207 (ci_ 2)),po_ 6 (.mov (.c (.int .u64 ((0:Nat):Int)))),mv_ 7 138] [6,7])
  (.ret))
 (.skip)))
 AB4
def ACf:AAm := .seq (.block 5 (.seq (.ops [mv_ 107 15,po_ 108 (.bin 5 .eql (.t 107) (.c (.int .u8 ((95:Nat):Int)))),mv_ 109 108,⟨some 110,.p (.mov (.t 8)),some ⟨109,true⟩⟩,po_ 111 (.pick (.t 109) (.t 110) (.c (.bool false))),mv_ 106 111] [1,8,9,10,11,12,13,15,99,100,101,106])
 ACg))
 ABj
def AB5:AAm := .seq (.ops [po_ 16 (.mov (.c (.int .u8 ((0:Nat):Int))))] [1,8,9,10,11,12,13,15,99,100,101])
 ACf
def ABY:AAm := .seq (.block 4 (.seq (.ops [po_ 103 (.idxA 1 (.t 99) (.t 101)),po_ 104 (.load false 1 (.t 103)),mv_ 15 104] [1,8,9,10,11,12,13,15,99,100,101])
 AB5))
 (.ops [po_ 163 (.bin 3 .add (.t 101) (ci_ 1)),mv_ 101 163] [1,8,9,10,11,12,13,99,100,101])
def ACi:AAm := .seq (.cond (.t 102)
 (.skip)
 (.exit 3))
 ABY
def ABT:AAm := .seq (.ops [po_ 102 (.bin 3 .lss (.t 101) (.t 100))] [1,8,9,10,11,12,13,99,100,101,102])
 ACi
def ABX:AAm := .block 3 (.loop [1,8,9,10,11,12,13,99,100,101] ABT)
def ACa:AAm := .seq (.seq (.ops [mv_ 164 12,mv_ 165 164,⟨some 166,.p (.mov (.t 9)),some ⟨165,true⟩⟩,⟨some 167,.s (.call 136 [.t 166]),some ⟨165,true⟩⟩,⟨some 168,.p (.un .not (.t 167)),some ⟨165,true⟩⟩,po_ 169 (.pick (.t 165) (.t 168) (.c (.bool false)))] [13,169])
 (.cond (.t 169)
 (.seq (.ops [po_ 170 (.iface 207 (ci_ 2)),po_ 6 (.mov (.c (.int .u64 ((0:Nat):Int)))),mv_ 7 170] [6,7])
  (.ret))
 (.skip)))
 (.seq (.ops [mv_ 171 13,mv_ 6 171,po_ 7 (.mov (.c .nilIface))] [6,7])
 (.ret))
def ABU:AAm := .seq (.seq (.ops [mv_ 98 0,so_ 99 (.s2b (.t 98)),po_ 100 (.lenV (.t 99)),po_ 101 (.mov (ci_ 0))] [1,8,9,10,11,12,13,99,100,101])
 ABX)
 ACa
def AB0:AAm := .seq (.ops [po_ 13 (.mov (.c (.int .u64 ((0:Nat):Int))))] [0,1,8,9,10,11,12,13])
 ABU
def ABV:AAm := .seq (.ops [po_ 12 (.mov (.c (.bool false)))] [0,1,8,9,10,11,12])
 AB0
def ACl:AAm := .seq (.ops [mv_ 94 2,po_ 95 (.conv .u64 (.t 94)),po_ 96 (.bin 190 .shl (.c (.int .u64 ((1:Nat):Int))) (.t 95)),po_ 97 (.bin 190 .sub (.t 96) (.c (.int .u64 ((1:Nat):Int)))),mv_ 11 97] [0,1,8,9,10,11])
 ABV
def AB3:AAm := .seq (.seq (.ops [mv_ 85 1] [0,1,2,8,9,85])
 (.block 2 (.seq (.ops [po_ 91 (.bin 3 .eql (.t 85) (ci_ 10)),mv_ 90 91] [0,1,2,8,9,85,90])
 (.cond (.t 90)
 (.ops [po_ 10 (.mov (.c (.int .u64 ((1844674407370955162:Nat):Int))))] [0,1,2,8,9,10])
 AB9))))
 ACl
def ACk:AAm := .seq (.ops [po_ 10 (.mov (.c (.int .u64 ((0:Nat):Int))))] [0,1,2,8,9])
 AB3
def AB1:AAm := .seq (.seq (.ops [mv_ 76 2,po_ 77 (.bin 3 .eql (.t 76) (ci_ 0))] [0,1,2,8,9,77])
 (.cond (.t 77)
 (.ops [po_ 2 (.mov (ci_ 64))] [0,1,2,8,9])
 ABZ))
 ACk
def AB8:AAm := .seq (.block 0 (.seq (.ops [mv_ 26 1,po_ 27 (.bin 3 .leq (ci_ 2) (.t 26)),mv_ 28 27,⟨some 29,.p (.mov (.t 1)),some ⟨28,true⟩⟩,⟨some 30,.p (.bin 3 .leq (.t 29) (ci_ 36)),some ⟨28,true⟩⟩,po_ 31 (.pick (.t 28) (.t 30) (.c (.bool false))),mv_ 25 31] [0,1,2,8,9,25])
 ACe))
 AB1
def ACj:AAm := .seq (.ops [mv_ 23 0,mv_ 9 23] [0,1,2,8,9])
 AB8
def ACd:AAm := .seq (.ops [mv_ 21 1,po_ 22 (.bin 3 .eql (.t 21) (ci_ 0)),mv_ 8 22] [0,1,2,8])
 ACj
def ACc:AAm := .seq (.seq (.ops [mv_ 18 0,po_ 19 (.bin 9 .eql (.t 18) (.c (.string (str []))))] [0,1,2,19])
 (.cond (.t 19)
 (.seq (.ops [po_ 20 (.iface 207 (ci_ 2)),po_ 6 (.mov (.c (.int .u64 ((0:Nat):Int)))),mv_ 7 20] [6,7])
  (.ret))
 (.skip)))
 ACd
def ACG:AAm := .seq (.ops [po_ 6 (.mov (.c (.int .u64 ((0:Nat):Int)))),po_ 7 (.mov (.c .nilIface))] [0,1,2])
 ACc
def ACJ:List VR:=[.tmp 6,.tmp 7]
theorem AGj:Tryz.f119.body.bind (trC Tryz.prog Tryz.f119.ntmps)=some (er ACG):=by kernel_rfl
theorem AGf:trR Tryz.prog Tryz.f119.results.toList=some ACJ:=by kernel_rfl
def ADe:=AAj ACe.eq_1
def ADr:=AAj ABZ.eq_1
def ADn:=AAj AB9.eq_1
def ABb:=AAj ABS.eq_1
def AAV:=AAj AB6.eq_1
def AAW:=AAj ACb.eq_1
def AAX:=AAj ACg.eq_1
def ABC:=AAj ABQ.eq_1
def ABA:=AAj ACh.eq_1
def ABE:=AAj AB2.eq_1
def ABB:=AAj AB4.eq_1
def ABa:=AAj ABj.eq_1
def AAT:=AAj ACf.eq_1
def AAU:=AAj AB5.eq_1
def AAS:=AAj ABY.eq_1
def AAI:=AAj ACi.eq_1
def AAJ:=AAj ABT.eq_1
def ADl:=AAj ABX.eq_1
def ADg:=AAj ACa.eq_1
def ADf:=AAj ABU.eq_1
def ADp:=AAj AB0.eq_1
def ADq:=AAj ABV.eq_1
def ADi:=AAj ACl.eq_1
def ADd:=AAj AB3.eq_1
def ADm:=AAj ACk.eq_1
def ADj:=AAj AB1.eq_1
def ADk:=AAj AB8.eq_1
def ADh:=AAj ACj.eq_1
def ADs:=AAj ACd.eq_1
def ABD:=AAj ACc.eq_1
def ACo:=AAj ACG.eq_1
theorem AAt {K:TV→Prop} {e:Env} {H:List Ob}:res ACJ e H K=res [.tmp 6,.tmp 7] e H K:=AAi rfl
def AFK:=ABp 172 Tryz.func119 AGj AGf rfl
def AC9:AAm := .seq (.ops [po_ 2 (.mov (.c (.int .u8 ((0:Nat):Int))))] [0])
 (.seq (.ops [mv_ 3 0,po_ 4 (.bin 5 .or (.t 3) (.c (.int .u8 ((32:Nat):Int)))),mv_ 2 4] [2])
 (.ret))
def AC7:List VR:=[.tmp 2]
theorem AIe:Tryz.f135.body.bind (trC Tryz.prog Tryz.f135.ntmps)=some (er AC9):=by kernel_rfl
theorem AH3:trR Tryz.prog Tryz.f135.results.toList=some AC7:=by kernel_rfl
def AG4:=AAj AC9.eq_1
theorem AG5 {K:TV→Prop} {e:Env} {H:List Ob}:res AC7 e H K=res [.tmp 2] e H K:=AAi rfl
def AH6:=(aI_ @AG4 @AG5)
def AHM:=ABp 5 Tryz.func135 AIe AH3 rfl
def AEi:AAm := .seq (.ops [mv_ 19 8,mv_ 20 0,mv_ 21 1,mv_ 22 2,mv_ 23 9,so_ 24 (.call 108 [.c (.string (str [80,97,114,115,101,85,105,110,116])),.t 20,.t 21,.t 22,.t 23]),mv_ 6 19,mv_ 7 24] [6,7])
 (.ret)
def AEc:AAm := .seq (.seq (.ops [mv_ 17 9,po_ 18 (.eqN 1 (.t 17) (.c .nilIface) true)] [0,1,2,8,9,18])
 (.cond (.t 18)
 AEi
 (.skip)))
 (.seq (.ops [mv_ 25 8,mv_ 6 25,po_ 7 (.mov (.c .nilIface))] [6,7])
 (.ret))
def AEm:AAm := .seq (.ops [mv_ 11 0,mv_ 12 1,mv_ 13 2,so_ 14 (.call 119 [.t 11,.t 12,.t 13]),mv_ 10 14,po_ 15 (.ext 0 (.t 10)),po_ 16 (.ext 1 (.t 10)),mv_ 8 15,mv_ 9 16] [0,1,2,8,9])
 AEc
def AGr:AAm := .seq (.ops [po_ 6 (.mov (.c (.int .u64 ((0:Nat):Int)))),po_ 7 (.mov (.c .nilIface))] [0,1,2])
 AEm
def AGz:List VR:=[.tmp 6,.tmp 7]
theorem ANB:Tryz.f103.body.bind (trC Tryz.prog Tryz.f103.ntmps)=some (er AGr):=by kernel_rfl
theorem ANL:trR Tryz.prog Tryz.f103.results.toList=some AGz:=by kernel_rfl
def AIw:=AAj AEi.eq_1
def AIq:=AAj AEc.eq_1
def AIY:=AAj AEm.eq_1
def ALN:=AAj AGr.eq_1
theorem ALk {K:TV→Prop} {e:Env} {H:List Ob}:res AGz e H K=res [.tmp 6,.tmp 7] e H K:=AAi rfl
def ACy:=(aI_ (aI_ (aI_ @AIw @AIq) (aI_ @AIY @ALN)) @ALk)
def AMO:=ABp 26 Tryz.func103 ANB ANL rfl
end
section
open Go.RowKit
variable [AAE]
end
end Go.Proofs.YtnikbdnebdmmiaaGreatDoor
namespace Go.Proofs
open Go.Shelf
def Tryz.lays156_ren:Go.Shelf.Ren:=⟨fun | 156=>55 | 165=>87 | 166=>88 | 169=>57 | 240=>89 | 241=>109 | 276=>110 | 277=>131 | n=>n,fun | 31=>111 | 9=>9 | 3=>3 | 4=>4 | 0=>0 | 20=>20 | 72=>116 | 76=>164 | 70=>114 | 37=>23 | 75=>25 | 127=>168 | 164=>121 | 5=>5 | 80=>119 | n=>n,fun | n=>n⟩
theorem Tryz.lays156:Go.Proofs.Lays.n156 Tryz.prog Tryz.lays156_ren:={
 mixed:=by kernel_rfl
 f156:=Tryz.func55.trans (congrArg some (by kernel_rfl))
 f165:=Tryz.func87.trans (congrArg some (by kernel_rfl))
 f166:=Tryz.func88.trans (congrArg some (by kernel_rfl))
 f169:=Tryz.func57.trans (congrArg some (by kernel_rfl))
 f240:=Tryz.func89.trans (congrArg some (by kernel_rfl))
 f241:=Tryz.func109.trans (congrArg some (by kernel_rfl))
 f276:=Tryz.func110.trans (congrArg some (by kernel_rfl))
 f277:=Tryz.func131.trans (congrArg some (by kernel_rfl))
 t0:=Tryz.underlying0
 a0:=Tryz.isAgg0
 z0:=Tryz.sizeOf0
 v0:=Tryz.zeroValue0
 t3:=Tryz.underlying3
 a3:=Tryz.isAgg3
 z3:=Tryz.sizeOf3
 v3:=Tryz.zeroValue3
 t4:=Tryz.underlying4
 a4:=Tryz.isAgg4
 z4:=Tryz.sizeOf4
 v4:=Tryz.zeroValue4
 t9:=Tryz.underlying9
 a9:=Tryz.isAgg9
 z9:=Tryz.sizeOf9
 v9:=Tryz.zeroValue9
 t20:=Tryz.underlying20
 a20:=Tryz.isAgg20
 z20:=Tryz.sizeOf20
 v20:=Tryz.zeroValue20
 t31:=Tryz.underlying111
 a31:=Tryz.isAgg111
 z31:=Tryz.sizeOf111
 v31:=Tryz.zeroValue111
 t37:=Tryz.underlying23
 a37:=Tryz.isAgg23
 z37:=Tryz.sizeOf23
 v37:=Tryz.zeroValue23
 t70:=Tryz.underlying114
 a70:=Tryz.isAgg114
 z70:=Tryz.sizeOf114
 v70:=Tryz.zeroValue114
 t72:=Tryz.underlying116
 a72:=Tryz.isAgg116
 z72:=Tryz.sizeOf116
 v72:=Tryz.zeroValue116
 t75:=Tryz.underlying25
 a75:=Tryz.isAgg25
 z75:=Tryz.sizeOf25
 v75:=Tryz.zeroValue25
 t76:=Tryz.underlying164
 a76:=Tryz.isAgg164
 z76:=Tryz.sizeOf164
 v76:=Tryz.zeroValue164
 t127:=Tryz.underlying168
 a127:=Tryz.isAgg168
 z127:=Tryz.sizeOf168
 v127:=Tryz.zeroValue168
 t164:=Tryz.underlying121
 a164:=Tryz.isAgg121
 z164:=Tryz.sizeOf121
 v164:=Tryz.zeroValue121 }
theorem Tryz.Builder_Extra_156:Builder.Extra Tryz.prog Tryz.lays156_ren:={
 sizeBuilder:=by kernel_rfl
 liesBuilder:=by kernel_rfl
 t5:=Tryz.underlying5
 a5:=Tryz.isAgg5
 z5:=Tryz.sizeOf5
 v5:=Tryz.zeroValue5
 infoByte:=by kernel_rfl
 cellsByte:=by kernel_rfl
 sizeByte:=by kernel_rfl
 neB5:=by decide }
open Go.RowKit in
theorem Tryz.strings_Join (bk o c:Nat) (xs:List ByteArray) (sep:ByteArray) (w:World) (hcells:∀ (j:Nat) x,xs[j]?=some x→w.cell? ⟨bk,o+j,none⟩=some (.string x)) (hbk:bk<w.heap.size) (hN:xs.length≤140737488355328) (hcap:xs.length≤c) (hlen:(Lib.join (xs.map (·.data.toList)) sep.data.toList).length≤140737488355328) :
  Calls Tryz.prog 55 #[.slice (some ⟨bk,o,none⟩) xs.length c,.string sep] w fun e w'=>e = .returned (.string ⟨(Lib.join (xs.map (·.data.toList)) sep.data.toList).toArray⟩)∧Below w.heap.size w w':=Any.strings_Join Tryz.lays156 Tryz.Builder_Extra_156 bk o c xs sep w hcells hbk hN hcap hlen
def Tryz.laysC245_ren:Go.Shelf.Ren:=⟨fun | 245=>108 | 279=>127 | 280=>128 | 281=>129 | 282=>130 | 316=>144 | 171=>50 | 205=>145 | 243=>83 | 246=>106 | 283=>122 | 284=>123 | 285=>124 | 286=>125 | 129=>140 | 317=>139 | 318=>141 | 319=>142 | 320=>143 | 337=>147 | 338=>148 | n=>n,fun | 9=>9 | 3=>3 | 75=>25 | 167=>207 | 4=>4 | 168=>210 | 210=>223 | 37=>23 | 0=>0 | 127=>168 | 145=>234 | 143=>232 | 2=>2 | 171=>202 | 53=>190 | 5=>5 | 173=>205 | 212=>216 | 51=>217 | 20=>20 | 213=>218 | 46=>118 | 232=>235 | 233=>236 | 80=>119 | n=>n,fun | 15=>3 | 16=>4 | 17=>2 | 18=>7 | 19=>8 | n=>n⟩
theorem Tryz.laysC245:Go.Proofs.LaysC.n245 Tryz.prog Tryz.laysC245_ren:={
 mixed:=by kernel_rfl
 f129:=Tryz.func140.trans (congrArg some (by kernel_rfl))
 f171:=Tryz.func50.trans (congrArg some (by kernel_rfl))
 f205:=Tryz.func145.trans (congrArg some (by kernel_rfl))
 f243:=Tryz.func83.trans (congrArg some (by kernel_rfl))
 f245:=Tryz.func108.trans (congrArg some (by kernel_rfl))
 f246:=Tryz.func106.trans (congrArg some (by kernel_rfl))
 f279:=Tryz.func127.trans (congrArg some (by kernel_rfl))
 f280:=Tryz.func128.trans (congrArg some (by kernel_rfl))
 f281:=Tryz.func129.trans (congrArg some (by kernel_rfl))
 f282:=Tryz.func130.trans (congrArg some (by kernel_rfl))
 f283:=Tryz.func122.trans (congrArg some (by kernel_rfl))
 f284:=Tryz.func123.trans (congrArg some (by kernel_rfl))
 f285:=Tryz.func124.trans (congrArg some (by kernel_rfl))
 f286:=Tryz.func125.trans (congrArg some (by kernel_rfl))
 f316:=Tryz.func144.trans (congrArg some (by kernel_rfl))
 f317:=Tryz.func139.trans (congrArg some (by kernel_rfl))
 f318:=Tryz.func141.trans (congrArg some (by kernel_rfl))
 f319:=Tryz.func142.trans (congrArg some (by kernel_rfl))
 f320:=Tryz.func143.trans (congrArg some (by kernel_rfl))
 f337:=Tryz.func147.trans (congrArg some (by kernel_rfl))
 f338:=Tryz.func148.trans (congrArg some (by kernel_rfl))
 t0:=Tryz.underlying0
 a0:=Tryz.isAgg0
 z0:=Tryz.sizeOf0
 v0:=Tryz.zeroValue0
 t2:=Tryz.underlying2
 a2:=Tryz.isAgg2
 z2:=Tryz.sizeOf2
 v2:=Tryz.zeroValue2
 t3:=Tryz.underlying3
 a3:=Tryz.isAgg3
 z3:=Tryz.sizeOf3
 v3:=Tryz.zeroValue3
 t4:=Tryz.underlying4
 a4:=Tryz.isAgg4
 z4:=Tryz.sizeOf4
 v4:=Tryz.zeroValue4
 t5:=Tryz.underlying5
 a5:=Tryz.isAgg5
 z5:=Tryz.sizeOf5
 v5:=Tryz.zeroValue5
 t9:=Tryz.underlying9
 a9:=Tryz.isAgg9
 z9:=Tryz.sizeOf9
 v9:=Tryz.zeroValue9
 t20:=Tryz.underlying20
 a20:=Tryz.isAgg20
 z20:=Tryz.sizeOf20
 v20:=Tryz.zeroValue20
 t37:=Tryz.underlying23
 a37:=Tryz.isAgg23
 z37:=Tryz.sizeOf23
 v37:=Tryz.zeroValue23
 t46:=Tryz.underlying118
 a46:=Tryz.isAgg118
 z46:=Tryz.sizeOf118
 v46:=Tryz.zeroValue118
 t51:=Tryz.underlying217
 a51:=Tryz.isAgg217
 z51:=Tryz.sizeOf217
 v51:=Tryz.zeroValue217
 t53:=Tryz.underlying190
 a53:=Tryz.isAgg190
 z53:=Tryz.sizeOf190
 v53:=Tryz.zeroValue190
 t75:=Tryz.underlying25
 a75:=Tryz.isAgg25
 z75:=Tryz.sizeOf25
 v75:=Tryz.zeroValue25
 t127:=Tryz.underlying168
 a127:=Tryz.isAgg168
 z127:=Tryz.sizeOf168
 v127:=Tryz.zeroValue168
 t143:=Tryz.underlying232
 a143:=Tryz.isAgg232
 z143:=Tryz.sizeOf232
 v143:=Tryz.zeroValue232
 t145:=Tryz.underlying234
 a145:=Tryz.isAgg234
 z145:=Tryz.sizeOf234
 v145:=Tryz.zeroValue234
 t167:=Tryz.underlying207
 a167:=Tryz.isAgg207
 z167:=Tryz.sizeOf207
 v167:=Tryz.zeroValue207
 t168:=Tryz.underlying210
 a168:=Tryz.isAgg210
 z168:=Tryz.sizeOf210
 v168:=Tryz.zeroValue210
 t171:=Tryz.underlying202
 a171:=Tryz.isAgg202
 z171:=Tryz.sizeOf202
 v171:=Tryz.zeroValue202
 t173:=Tryz.underlying205
 a173:=Tryz.isAgg205
 z173:=Tryz.sizeOf205
 v173:=Tryz.zeroValue205
 t210:=Tryz.underlying223
 a210:=Tryz.isAgg223
 z210:=Tryz.sizeOf223
 v210:=Tryz.zeroValue223
 t212:=Tryz.underlying216
 a212:=Tryz.isAgg216
 z212:=Tryz.sizeOf216
 v212:=Tryz.zeroValue216
 t213:=Tryz.underlying218
 a213:=Tryz.isAgg218
 z213:=Tryz.sizeOf218
 t232:=Tryz.underlying235
 a232:=Tryz.isAgg235
 z232:=Tryz.sizeOf235
 v232:=Tryz.zeroValue235
 t233:=Tryz.underlying236
 a233:=Tryz.isAgg236
 z233:=Tryz.sizeOf236
 v233:=Tryz.zeroValue236
 g15:=by kernel_rfl
 g16:=by kernel_rfl
 g17:=by kernel_rfl
 g18:=by kernel_rfl
 g19:=by kernel_rfl
 t80:=Tryz.underlying119
 a80:=Tryz.isAgg119
 z80:=Tryz.sizeOf119
 v80:=Tryz.zeroValue119
 i0:=by kernel_rfl
 i2:=by kernel_rfl
 i3:=by kernel_rfl
 i4:=by kernel_rfl
 i5:=by kernel_rfl
 i9:=by kernel_rfl
 i20:=by kernel_rfl
 i37:=by kernel_rfl
 i46:=by kernel_rfl
 i51:=by kernel_rfl
 i53:=by kernel_rfl
 i75:=by kernel_rfl
 i80:=by kernel_rfl
 i127:=by kernel_rfl
 i143:=by kernel_rfl
 i145:=by kernel_rfl
 i167:=by kernel_rfl
 i168:=by kernel_rfl
 i171:=by kernel_rfl
 i173:=by kernel_rfl
 i210:=by kernel_rfl
 i212:=by kernel_rfl
 i232:=by kernel_rfl
 i233:=by kernel_rfl
 m15:=by kernel_rfl
 m16:=by kernel_rfl
 m17:=by kernel_rfl
 m18:=by kernel_rfl
 m19:=by kernel_rfl
 c0:=by kernel_rfl
 c2:=by kernel_rfl
 c3:=by kernel_rfl
 c4:=by kernel_rfl
 c5:=by kernel_rfl
 c9:=by kernel_rfl
 c20:=by kernel_rfl
 c37:=by kernel_rfl
 c46:=by kernel_rfl
 c51:=by kernel_rfl
 c53:=by kernel_rfl
 c75:=by kernel_rfl
 c80:=by kernel_rfl
 c127:=by kernel_rfl
 c143:=by kernel_rfl
 c145:=by kernel_rfl
 c167:=by kernel_rfl
 c168:=by kernel_rfl
 c171:=by kernel_rfl
 c173:=by kernel_rfl
 c210:=by kernel_rfl
 c212:=by kernel_rfl
 c213:=by kernel_rfl
 c232:=by kernel_rfl
 c233:=by kernel_rfl }
open Go.RowKit in
theorem Tryz.strconv_toError_syntax (fn s:ByteArray) (base bits:Int) (ev:Value) (w:World) (hlim:s.size≤281474976710656) (hv:w.cell? ⟨3,0,none⟩=some ev) (hev:ev = .nilIface∨∃ te pe,ev = .iface te pe) :
  Calls Tryz.prog 108 #[.string fn,.string s,.int .i64 base,.int .i64 bits,.iface 207 (.int .i64 2)] w fun e w'=>∃ N,e = .returned (.iface 210 (.pointer (some ⟨N,0,none⟩)))∧w.heap.size≤N∧w'.heap[N]?=some (.cells #[.string fn,.string s,ev] 223 (0,0))∧Below w.heap.size w w':=Any.strconv_toError_syntax Tryz.laysC245 fn s base bits ev w hlim hv hev
open Go.RowKit in
theorem Tryz.strconv_toError_range (fn s:ByteArray) (base bits:Int) (ev:Value) (w:World) (hlim:s.size≤281474976710656) (hv:w.cell? ⟨4,0,none⟩=some ev) (hev:ev = .nilIface∨∃ te pe,ev = .iface te pe) :
  Calls Tryz.prog 108 #[.string fn,.string s,.int .i64 base,.int .i64 bits,.iface 207 (.int .i64 1)] w fun e w'=>∃ N,e = .returned (.iface 210 (.pointer (some ⟨N,0,none⟩)))∧w.heap.size≤N∧w'.heap[N]?=some (.cells #[.string fn,.string s,ev] 223 (0,0))∧Below w.heap.size w w':=Any.strconv_toError_range Tryz.laysC245 fn s base bits ev w hlim hv hev
def Tryz.lays143_ren:Go.Shelf.Ren:=⟨fun | 143=>99 | 219=>112 | 217=>111 | 225=>116 | 224=>115 | 267=>133 | 266=>132 | 314=>146 | n=>n,fun | 9=>9 | 3=>3 | 4=>4 | 5=>5 | 46=>118 | 146=>225 | 51=>217 | n=>n,fun | 1=>1 | n=>n⟩
theorem Tryz.lays143:Go.Proofs.Lays.n143 Tryz.prog Tryz.lays143_ren:={
 mixed:=by kernel_rfl
 f143:=Tryz.func99.trans (congrArg some (by kernel_rfl))
 f217:=Tryz.func111.trans (congrArg some (by kernel_rfl))
 f219:=Tryz.func112.trans (congrArg some (by kernel_rfl))
 f224:=Tryz.func115.trans (congrArg some (by kernel_rfl))
 f225:=Tryz.func116.trans (congrArg some (by kernel_rfl))
 f266:=Tryz.func132.trans (congrArg some (by kernel_rfl))
 f267:=Tryz.func133.trans (congrArg some (by kernel_rfl))
 f314:=Tryz.func146.trans (congrArg some (by kernel_rfl))
 t3:=Tryz.underlying3
 a3:=Tryz.isAgg3
 z3:=Tryz.sizeOf3
 v3:=Tryz.zeroValue3
 t4:=Tryz.underlying4
 a4:=Tryz.isAgg4
 z4:=Tryz.sizeOf4
 v4:=Tryz.zeroValue4
 t5:=Tryz.underlying5
 a5:=Tryz.isAgg5
 z5:=Tryz.sizeOf5
 v5:=Tryz.zeroValue5
 t9:=Tryz.underlying9
 a9:=Tryz.isAgg9
 z9:=Tryz.sizeOf9
 v9:=Tryz.zeroValue9
 t46:=Tryz.underlying118
 a46:=Tryz.isAgg118
 z46:=Tryz.sizeOf118
 v46:=Tryz.zeroValue118
 t51:=Tryz.underlying217
 a51:=Tryz.isAgg217
 z51:=Tryz.sizeOf217
 v51:=Tryz.zeroValue217
 t146:=Tryz.underlying225
 a146:=Tryz.isAgg225
 z146:=Tryz.sizeOf225
 v146:=Tryz.zeroValue225
 g1:=by kernel_rfl }
open Go.RowKit Go.Lib in
theorem Tryz.strings_Index_one (s:ByteArray) (c:UInt8) (w:World) :
  Calls Tryz.prog 99 #[.string s,.string ⟨#[c]⟩] w fun e w'=>e = .returned (.int .i64 (Lib.indexByte s.data.toList c))∧w'=w:=Any.strings_Index_one Tryz.lays143 s c w
def Tryz.lays144_ren:Go.Shelf.Ren:=⟨fun | 144=>72 | 143=>99 | 219=>112 | 217=>111 | 225=>116 | 224=>115 | 267=>133 | 266=>132 | 314=>146 | n=>n,fun | 9=>9 | 4=>4 | 3=>3 | 5=>5 | 46=>118 | 146=>225 | 51=>217 | n=>n,fun | 1=>1 | n=>n⟩
theorem Tryz.lays144:Go.Proofs.Lays.n144 Tryz.prog Tryz.lays144_ren:={
 mixed:=by kernel_rfl
 f143:=Tryz.func99.trans (congrArg some (by kernel_rfl))
 f144:=Tryz.func72.trans (congrArg some (by kernel_rfl))
 f217:=Tryz.func111.trans (congrArg some (by kernel_rfl))
 f219:=Tryz.func112.trans (congrArg some (by kernel_rfl))
 f224:=Tryz.func115.trans (congrArg some (by kernel_rfl))
 f225:=Tryz.func116.trans (congrArg some (by kernel_rfl))
 f266:=Tryz.func132.trans (congrArg some (by kernel_rfl))
 f267:=Tryz.func133.trans (congrArg some (by kernel_rfl))
 f314:=Tryz.func146.trans (congrArg some (by kernel_rfl))
 t3:=Tryz.underlying3
 a3:=Tryz.isAgg3
 z3:=Tryz.sizeOf3
 v3:=Tryz.zeroValue3
 t4:=Tryz.underlying4
 a4:=Tryz.isAgg4
 z4:=Tryz.sizeOf4
 v4:=Tryz.zeroValue4
 t5:=Tryz.underlying5
 a5:=Tryz.isAgg5
 z5:=Tryz.sizeOf5
 v5:=Tryz.zeroValue5
 t9:=Tryz.underlying9
 a9:=Tryz.isAgg9
 z9:=Tryz.sizeOf9
 v9:=Tryz.zeroValue9
 t46:=Tryz.underlying118
 a46:=Tryz.isAgg118
 z46:=Tryz.sizeOf118
 v46:=Tryz.zeroValue118
 t51:=Tryz.underlying217
 a51:=Tryz.isAgg217
 z51:=Tryz.sizeOf217
 v51:=Tryz.zeroValue217
 t146:=Tryz.underlying225
 a146:=Tryz.isAgg225
 z146:=Tryz.sizeOf225
 v146:=Tryz.zeroValue225
 g1:=by kernel_rfl }
open Go.RowKit Go.Lib in
theorem Tryz.strings_Contains (s sub:ByteArray) (m:Int) (w:World) (hs:s.size<4294967281) (hm:w.cell? ⟨1,0,none⟩=some (.int .i64 m)) :
  Calls Tryz.prog 72 #[.string s,.string sub] w fun e w'=>e = .returned (.bool (Lib.contains s.data.toList sub.data.toList))∧w'=w:=Any.strings_Contains Tryz.lays144 s sub m w hs hm
def Tryz.lays138_ren:Go.Shelf.Ren:=⟨fun | 138=>121 | 195=>137 | 218=>138 | 143=>99 | 219=>112 | 217=>111 | 225=>116 | 224=>115 | 267=>133 | 266=>132 | 314=>146 | n=>n,fun | 9=>9 | 3=>3 | 4=>4 | 5=>5 | 0=>0 | 46=>118 | 146=>225 | 51=>217 | n=>n,fun | 1=>1 | n=>n⟩
theorem Tryz.lays138:Go.Proofs.Lays.n138 Tryz.prog Tryz.lays138_ren:={
 mixed:=by kernel_rfl
 f138:=Tryz.func121.trans (congrArg some (by kernel_rfl))
 f143:=Tryz.func99.trans (congrArg some (by kernel_rfl))
 f195:=Tryz.func137.trans (congrArg some (by kernel_rfl))
 f217:=Tryz.func111.trans (congrArg some (by kernel_rfl))
 f218:=Tryz.func138.trans (congrArg some (by kernel_rfl))
 f219:=Tryz.func112.trans (congrArg some (by kernel_rfl))
 f224:=Tryz.func115.trans (congrArg some (by kernel_rfl))
 f225:=Tryz.func116.trans (congrArg some (by kernel_rfl))
 f266:=Tryz.func132.trans (congrArg some (by kernel_rfl))
 f267:=Tryz.func133.trans (congrArg some (by kernel_rfl))
 f314:=Tryz.func146.trans (congrArg some (by kernel_rfl))
 t0:=Tryz.underlying0
 a0:=Tryz.isAgg0
 z0:=Tryz.sizeOf0
 v0:=Tryz.zeroValue0
 t3:=Tryz.underlying3
 a3:=Tryz.isAgg3
 z3:=Tryz.sizeOf3
 v3:=Tryz.zeroValue3
 t4:=Tryz.underlying4
 a4:=Tryz.isAgg4
 z4:=Tryz.sizeOf4
 v4:=Tryz.zeroValue4
 t5:=Tryz.underlying5
 a5:=Tryz.isAgg5
 z5:=Tryz.sizeOf5
 v5:=Tryz.zeroValue5
 t9:=Tryz.underlying9
 a9:=Tryz.isAgg9
 z9:=Tryz.sizeOf9
 v9:=Tryz.zeroValue9
 t46:=Tryz.underlying118
 a46:=Tryz.isAgg118
 z46:=Tryz.sizeOf118
 v46:=Tryz.zeroValue118
 t51:=Tryz.underlying217
 a51:=Tryz.isAgg217
 z51:=Tryz.sizeOf217
 v51:=Tryz.zeroValue217
 t146:=Tryz.underlying225
 a146:=Tryz.isAgg225
 z146:=Tryz.sizeOf225
 v146:=Tryz.zeroValue225
 g1:=by kernel_rfl }
open Go.RowKit Go.Lib in
theorem Tryz.strings_Count_one (s:ByteArray) (c:UInt8) (w:World) :
  Calls Tryz.prog 121 #[.string s,.string ⟨#[c]⟩] w fun e w'=>e = .returned (.int .i64 (Lib.countByte s.data.toList c))∧w'=w:=Any.strings_Count_one Tryz.lays138 s c w
def Tryz.lays99_ren:Go.Shelf.Ren:=⟨fun | 99=>70 | 206=>97 | n=>n,fun | 9=>9 | 4=>4 | 3=>3 | n=>n,fun | n=>n⟩
theorem Tryz.lays99:Go.Proofs.Lays.n99 Tryz.prog Tryz.lays99_ren:={
 mixed:=by kernel_rfl
 f99:=Tryz.func70.trans (congrArg some (by kernel_rfl))
 f206:=Tryz.func97.trans (congrArg some (by kernel_rfl))
 t3:=Tryz.underlying3
 a3:=Tryz.isAgg3
 z3:=Tryz.sizeOf3
 v3:=Tryz.zeroValue3
 t4:=Tryz.underlying4
 a4:=Tryz.isAgg4
 z4:=Tryz.sizeOf4
 v4:=Tryz.zeroValue4
 t9:=Tryz.underlying9
 a9:=Tryz.isAgg9
 z9:=Tryz.sizeOf9
 v9:=Tryz.zeroValue9 }
open Go.RowKit Go.Lib in
theorem Tryz.strings_HasPrefix (s p:ByteArray) (w:World) :
  Calls Tryz.prog 70 #[.string s,.string p] w fun e w'=>e = .returned (.bool (Lib.hasPrefix s.data.toList p.data.toList))∧w'=w:=Any.strings_HasPrefix Tryz.lays99 s p w
def Tryz.lays100_ren:Go.Shelf.Ren:=⟨fun | 100=>71 | 207=>98 | n=>n,fun | 9=>9 | 4=>4 | 3=>3 | n=>n,fun | n=>n⟩
theorem Tryz.lays100:Go.Proofs.Lays.n100 Tryz.prog Tryz.lays100_ren:={
 mixed:=by kernel_rfl
 f100:=Tryz.func71.trans (congrArg some (by kernel_rfl))
 f207:=Tryz.func98.trans (congrArg some (by kernel_rfl))
 t3:=Tryz.underlying3
 a3:=Tryz.isAgg3
 z3:=Tryz.sizeOf3
 v3:=Tryz.zeroValue3
 t4:=Tryz.underlying4
 a4:=Tryz.isAgg4
 z4:=Tryz.sizeOf4
 v4:=Tryz.zeroValue4
 t9:=Tryz.underlying9
 a9:=Tryz.isAgg9
 z9:=Tryz.sizeOf9
 v9:=Tryz.zeroValue9 }
open Go.RowKit Go.Lib in
theorem Tryz.strings_HasSuffix (s p:ByteArray) (w:World) (hs:s.size≤9223372036854775807) :
  Calls Tryz.prog 71 #[.string s,.string p] w fun e w'=>e = .returned (.bool (Lib.hasSuffix s.data.toList p.data.toList))∧w'=w:=Any.strings_HasSuffix Tryz.lays100 s p w hs
def Tryz.lays102_ren:Go.Shelf.Ren:=⟨fun | 102=>79 | 209=>105 | 207=>98 | n=>n,fun | 9=>9 | 4=>4 | 3=>3 | n=>n,fun | n=>n⟩
theorem Tryz.lays102:Go.Proofs.Lays.n102 Tryz.prog Tryz.lays102_ren:={
 mixed:=by kernel_rfl
 f102:=Tryz.func79.trans (congrArg some (by kernel_rfl))
 f207:=Tryz.func98.trans (congrArg some (by kernel_rfl))
 f209:=Tryz.func105.trans (congrArg some (by kernel_rfl))
 t3:=Tryz.underlying3
 a3:=Tryz.isAgg3
 z3:=Tryz.sizeOf3
 v3:=Tryz.zeroValue3
 t4:=Tryz.underlying4
 a4:=Tryz.isAgg4
 z4:=Tryz.sizeOf4
 v4:=Tryz.zeroValue4
 t9:=Tryz.underlying9
 a9:=Tryz.isAgg9
 z9:=Tryz.sizeOf9
 v9:=Tryz.zeroValue9 }
open Go.RowKit Go.Lib in
theorem Tryz.strings_TrimSuffix (s p:ByteArray) (w:World) (hs:s.size≤9223372036854775807) :
  Calls Tryz.prog 79 #[.string s,.string p] w fun e w'=>e = .returned (.string ⟨(Lib.trimSuffix s.data.toList p.data.toList).toArray⟩)∧w'=w:=Any.strings_TrimSuffix Tryz.lays102 s p w hs
def Tryz.lays151_ren:Go.Shelf.Ren:=⟨fun | 151=>75 | 152=>101 | 137=>95 | 119=>114 | 224=>115 | 225=>116 | 217=>111 | 266=>132 | n=>n,fun | 9=>9 | 21=>21 | 4=>4 | 3=>3 | 5=>5 | 0=>0 | 46=>118 | n=>n,fun | n=>n⟩
theorem Tryz.lays151:Go.Proofs.Lays.n151 Tryz.prog Tryz.lays151_ren:={
 mixed:=by kernel_rfl
 f119:=Tryz.func114.trans (congrArg some (by kernel_rfl))
 f137:=Tryz.func95.trans (congrArg some (by kernel_rfl))
 f151:=Tryz.func75.trans (congrArg some (by kernel_rfl))
 f152:=Tryz.func101.trans (congrArg some (by kernel_rfl))
 f217:=Tryz.func111.trans (congrArg some (by kernel_rfl))
 f224:=Tryz.func115.trans (congrArg some (by kernel_rfl))
 f225:=Tryz.func116.trans (congrArg some (by kernel_rfl))
 f266:=Tryz.func132.trans (congrArg some (by kernel_rfl))
 t0:=Tryz.underlying0
 a0:=Tryz.isAgg0
 z0:=Tryz.sizeOf0
 v0:=Tryz.zeroValue0
 t3:=Tryz.underlying3
 a3:=Tryz.isAgg3
 z3:=Tryz.sizeOf3
 v3:=Tryz.zeroValue3
 t4:=Tryz.underlying4
 a4:=Tryz.isAgg4
 z4:=Tryz.sizeOf4
 v4:=Tryz.zeroValue4
 t5:=Tryz.underlying5
 a5:=Tryz.isAgg5
 z5:=Tryz.sizeOf5
 v5:=Tryz.zeroValue5
 t9:=Tryz.underlying9
 a9:=Tryz.isAgg9
 z9:=Tryz.sizeOf9
 v9:=Tryz.zeroValue9
 t21:=Tryz.underlying21
 a21:=Tryz.isAgg21
 z21:=Tryz.sizeOf21
 v21:=Tryz.zeroValue21
 t46:=Tryz.underlying118
 a46:=Tryz.isAgg118
 z46:=Tryz.sizeOf118
 v46:=Tryz.zeroValue118 }
open Go.RowKit Go.Lib in
theorem Tryz.strings_ContainsRune_ascii (s:ByteArray) (r:Int) (w:World) (h0:0≤r) (h1:r<128) :
  Calls Tryz.prog 75 #[.string s,.int .i32 r] w fun e w'=>e = .returned (.bool (decide (0≤Lib.indexByte s.data.toList r.toNat.toUInt8)))∧w'=w:=Any.strings_ContainsRune_ascii Tryz.lays151 s r w h0 h1
end Go.Proofs
namespace Go.Proofs.YtnikbdnebdmmiaaGreatDoor
section
open Go.RowKit
variable [AAE]
theorem AUl (b:UInt8):AAR Tryz.prog 135 [by8 b] (fun r=>r = .val (.int .u8 ((b.toNat ||| 32:Nat):Int))):=by
 refine AAs.toPureV (AHM (by simp) ?_)
 have hb:=b.toNat_lt
 simp -dsimp (disch:=first | assumption | omega | (simp only [AAl];try omega)) only [↓AAp,AAk,AAn,AAo,eq_self,↓reduceIte,reduceCtorEq,↓AH6,BeY]
class AAx [AAE]:Prop where
 k:∃ t a,AEf 3=some (.one (.iface t (.pointer (some a))))
class AAz [AAE]:Prop where
 k:∃ t a,AEf 4=some (.one (.iface t (.pointer (some a))))
theorem AWX {F:Nat→Prop} {w:World} (h:AFv F w) {g:Nat} {v:Value} (e:AEf g=some (.one v)):w.cell? ⟨g,0,none⟩=some v:=by
 have:=h.at e 0 v rfl
 simpa using this
variable [AAx] [AAz]
theorem Bcc (fn s:List UInt8) (base bits:Int) (hs:s.length≤1000000) (c:Nat) (hc:c=1∨c=2):AAR Tryz.prog 108 [ts fn,ts s,i64 base,i64 bits,.ifc 207 (i64 (c:Int))] (fun r=>r = .ifc 210 .any):=by
 intro β F w vs hF hv
 obtain ⟨v1,us,rfl,h1,hv⟩:=AAZ.cons.1 hv
 obtain ⟨v2,us,rfl,h2,hv⟩:=AAZ.cons.1 hv
 obtain ⟨v3,us,rfl,h3,hv⟩:=AAZ.cons.1 hv
 obtain ⟨v4,us,rfl,h4,hv⟩:=AAZ.cons.1 hv
 obtain ⟨v5,us,rfl,h5,hv⟩:=AAZ.cons.1 hv
 rw [AAZ.nil] at hv; subst hv
 obtain rfl:=Rep.val.1 (Or.inl h1:Rep _ _ _ _)
 obtain rfl:=Rep.val.1 (Or.inl h2:Rep _ _ _ _)
 obtain rfl:=Rep.val.1 (Or.inl h3:Rep _ _ _ _)
 obtain rfl:=Rep.val.1 (Or.inl h4:Rep _ _ _ _)
 have e5:v5 = .iface 207 (.int .i64 (c:Int)):=by
  rcases h5 with h5 | h5 | ⟨us,h5,rfl⟩
  ·cases h5
  ·cases h5
  ·rw [AAq] at h5
   obtain ⟨u,rfl,vs,h6,rfl⟩:=h5
   rw [AAq] at h6
   rw [h6.1]; rfl
 subst e5
 have hsz:(str s).size≤281474976710656:=by simp [str,ByteArray.size]; omega
 have fin:∀ e w',(∃ N,e=Ending.returned (.iface 210 (.pointer (some ⟨N,0,none⟩)))∧Below w.heap.size w w')→∃ v x F',e = .returned v∧x = .ifc 210 .any∧Rep ⟨β,[],F'⟩ w' x v∧AKv F w F' w':=by
  rintro e w' ⟨N,rfl,hb⟩
  refine ⟨_,_,F,rfl,rfl,Rep.of_cells (us:=[.iface 210 (.pointer (some ⟨N,0,none⟩))]) ?_,⟨hb.os,hb.tape,hb.output,hb.size,hb.block,fun _ h=>h,fun _ _ h=>h,fun b hb'=>Nat.lt_of_lt_of_le (hF.1 b hb') hb.size⟩⟩
  rw [AAq]
  refine ⟨_,rfl,[.pointer (some ⟨N,0,none⟩)],?_,rfl⟩
  rw [AAq]
  exact ⟨_,rfl,rfl⟩
 rcases hc with rfl | rfl
 ·obtain ⟨t,a,hk⟩:=AAz.k
  refine (Tryz.strconv_toError_range (str fn) (str s) base bits _ w hsz (AWX hF.2 hk) (.inr ⟨_,_,rfl⟩)).mono ?_
  rintro e w' ⟨N,rfl,_,_,hb⟩
  exact fin _ _ ⟨N,rfl,hb⟩
 ·obtain ⟨t,a,hk⟩:=AAx.k
  refine (Tryz.strconv_toError_syntax (str fn) (str s) base bits _ w hsz (AWX hF.2 hk) (.inr ⟨_,_,rfl⟩)).mono ?_
  rintro e w' ⟨N,rfl,_,_,hb⟩
  exact fin _ _ ⟨N,rfl,hb⟩
end
section
open Go.RowKit
variable [AAE]
def xv (b:UInt8):Nat:=if 48≤b.toNat∧b.toNat≤57 then b.toNat - 48 else if 97≤b.toNat ||| 32∧b.toNat ||| 32≤102 then (b.toNat ||| 32) - 97+10 else 16
def AWq:Nat→List UInt8→Nat
 | n,[]=>n
 | n,b::l=>AWq (n*16+xv b) l
theorem AVG:∀ (l m:List UInt8) (n:Nat),AWq n (l++m)=AWq (AWq n l) m
 | [],_,_=>rfl
 | b::l,m,n=>AVG l m _
theorem A00:∀ (l:List UInt8) (n:Nat),n≤AWq n l
 | [],n=>Nat.le_refl _
 | b::l,n=>Nat.le_trans (by omega) (A00 l _)
def isX (b:UInt8):Bool:=decide (xv b<16)
def pX (s:List UInt8):Option Nat:=if s≠[]∧s.all isX∧AWq 0 s<65536 then some (AWq 0 s) else none
def AX2 (s:List UInt8) (r:TV):Prop:=(∀ n,pX s=some n→r = .tup [.val (.int .u64 (n:Int)),.val .nilIface])∧(pX s=none→∃ m c:Nat,m≤65535∧(c=1∨c=2)∧r = .tup [.val (.int .u64 (m:Int)),.ifc 207 (i64 (c:Int))])
theorem AX2.no {s:List UInt8} (h:pX s=none) {m c:Nat} (hc:c=1∨c=2) (hm:m≤65535):AX2 s (.tup [.val (.int .u64 (m:Int)),.ifc 207 (i64 (c:Int))]) :=
 ⟨fun n hn=>(by rw [h] at hn; cases hn),fun _=>⟨m,c,hm,hc,rfl⟩⟩
theorem AX2.yes {s:List UInt8} {n:Nat} (h:pX s=some n):AX2 s (.tup [.val (.int .u64 (n:Int)),.val .nilIface]) :=
 ⟨fun m hm=>(by rw [h] at hm; cases hm; rfl),fun hn=>(by rw [h] at hn; cases hn)⟩
theorem AUJ {s:List UInt8} {i:Nat} {b:UInt8} (h:s[i]?=some b) (hb:16≤xv b):pX s=none:=by
 unfold pX
 rw [if_neg]
 rintro ⟨_,h2,_⟩
 have:=List.all_eq_true.1 h2 b (List.mem_of_getElem? h)
 unfold isX at this
 simp at this; omega
theorem BcB {s:List UInt8} {i:Nat} (h:65536≤AWq 0 (s.take i)):pX s=none:=by
 unfold pX
 rw [if_neg]
 rintro ⟨_,_,h3⟩
 have:AWq 0 s=AWq (AWq 0 (s.take i)) (s.drop i):=by rw [←AVG,List.take_append_drop]
 have h4:=A00 (s.drop i) (AWq 0 (s.take i))
 omega
abbrev A8V (n:Nat):TV := .val (.int .u64 (n:Int))
abbrev pxE (s:List UInt8) (n i:Nat):Env:=[(1,i64 ((16:Nat):Int)),(8,tb false),(9,ts s),(10,A8V 1152921504606846976),(11,A8V 65535),(12,tb false),(13,A8V n),(99,.os 1 0 0 [] 0 s.length s.length),(100,i64 (s.length:Int)),(101,i64 (i:Int))]
theorem A2W {s:List UInt8} {i n d:Nat} {H:List Ob} {Q:VEx→Env→List Ob→Prop} (hn:n<65536) (hd:d<256)
  (hE:∀ m c:Nat,m≤65535→(c=1∨c=2)→(16≤d∨65536≤n*16+d)→Q .ret [(6,A8V m),(7,.ifc 207 (i64 (c:Int)))] H)
  (hN:d<16→n*16+d<65536→Q .nor (pxE s (n*16+d) i) H) :
  vwp Tryz.prog ABj Q [(1,i64 ((16:Nat):Int)),(8,tb false),(9,ts s),(10,A8V 1152921504606846976),(11,A8V 65535),(12,tb false),(13,A8V n),(16,.val (.int .u8 (d:Int))),(99,.os 1 0 0 [] 0 s.length s.length),(100,i64 (s.length:Int)),(101,i64 (i:Int))] H:=by
 have hw8:IntKind.u8.wrap ((16:Nat):Int)=((16:Nat):Int):=by decide
 have hw8':IntKind.u64.wrap ((16:Nat):Int)=((16:Nat):Int):=by decide
 by_cases h16:16≤d
 ·simp -dsimp (disch:=first | assumption | omega | (simp only [AAl];try omega)) only [↓AAp,AAk,AAn,AAo,eq_self,Nat.reduceEqDiff,↓reduceIte,↓ABa,hw8]
  exact hE 0 2 (by omega) (.inr rfl) (.inl h16)
 have hwd:IntKind.u64.wrap ((d:Nat):Int)=((d:Nat):Int):=AQw (by omega)
 have hn8:n*16<18446744073709551616:=by omega
 have hadd:∀ t,ABW t .add (.int .u64 ((n*16:Nat):Int)) (.int .u64 ((d:Nat):Int))=some (.int .u64 ((n*16+d:Nat):Int)):=fun t=>by
  rw [show ABW t .add (.int .u64 ((n*16:Nat):Int)) (.int .u64 ((d:Nat):Int))=some (.int .u64 (IntKind.u64.wrap (((n*16:Nat):Int)+((d:Nat):Int)))) from rfl,IntKind.wrap_u64]
  congr 2
  omega
 by_cases hbig:65536≤n*16+d
 ·simp -dsimp (disch:=first | assumption | omega | (simp only [AAl];try omega)) only [↓AAp,AAk,AAn,AAo,eq_self,Nat.reduceEqDiff,↓reduceIte,↓ABa,hw8,↓ABB,↓ABE,↓ABA,↓ABC,hw8',AYR,hwd,hadd]
  exact hE 65535 1 (by omega) (.inl rfl) (.inr hbig)
 ·simp -dsimp (disch:=first | assumption | omega | (simp only [AAl];try omega)) only [↓AAp,AAk,AAn,AAo,eq_self,Nat.reduceEqDiff,↓reduceIte,↓ABa,hw8,↓ABB,↓ABE,↓ABA,↓ABC,hw8',AYR,hwd,hadd]
  exact hN (by omega) (by omega)
theorem Ba0 (s:List UInt8) (hs:s.length≤1000000):AAR Tryz.prog 119 [ts s,i64 ((16:Nat):Int),i64 ((16:Nat):Int)] (AX2 s):=by
 refine AAs.toPureV (AFK (by simp) ?_)
 by_cases h0:s=[]
 ·subst h0
  have hn:pX []=none:=by unfold pX; simp
  simp -dsimp (disch:=first | assumption | omega | (simp only [AAl];try omega)) only [↓AAp,AAk,AAn,AAo,eq_self,Nat.reduceEqDiff,↓reduceIte,Nat.reduceAdd,reduceCtorEq,↓ACo,↓ABD,↓AAt]
  exact AX2.no hn (.inr rfl) (by omega)
 have hw1:IntKind.u64.wrap ((16:Nat):Int)=((16:Nat):Int):=AQw (by omega)
 simp -dsimp (disch:=first | assumption | omega | (simp only [AAl];try omega)) only [↓AAp,AAk,AAn,AAo,eq_self,Nat.reduceLT,Nat.reduceEqDiff,↓reduceIte,Nat.reduceAdd,reduceCtorEq,Nat.reduceLeDiff,↓ACo,↓ABD,h0,↓ADs,↓ADh,↓ADk,↓ADe,↓ADj,↓ADr]
 simp -dsimp (disch:=first | assumption | omega | (simp only [AAl];try omega)) only [↓AAp,AAk,AAn,AAo,eq_self,Nat.reduceEqDiff,Nat.reduceSub,Nat.reduceMul,Nat.reducePow,↓reduceIte,reduceCtorEq,↓ADm,↓ADd,↓ADn,↓ADi,↓ADq,↓ADp,↓ADf,↓ADl,hw1,A4J,A4L,AAD]
 refine ACS (fun q e H=>∃ (i n:Nat),q=s.length - i∧i≤s.length∧(s.take i).all isX=true∧n=AWq 0 (s.take i)∧n<65536∧H=[.obj 0 (.arr s.length 1 (s.map by8))]∧e=pxE s n i) s.length ?_ ?_
 ·refine ⟨0,0,?_,Nat.zero_le _,?_,?_,?_,?_,?_⟩
  ·simp
  ·rw [List.take_zero]; rfl
  ·rw [List.take_zero]; rfl
  ·omega
  ·simp
  ·simp [forget,get]
 rintro q e H ⟨i,n,rfl,hi,hall,hn,hnl,rfl,rfl⟩
 by_cases c:i<s.length
 case neg =>
  have hi2:i=s.length:=by omega
  subst hi2
  rw [List.take_length] at hn hall
  have hyes:pX s=some n:=by unfold pX; rw [if_pos ⟨h0,hall,by rw [←hn]; exact hnl⟩,hn]
  simp -dsimp (disch:=first | assumption | omega | (simp only [AAl];try omega)) only [↓AAp,AAk,AAn,AAo,eq_self,Nat.reduceEqDiff,↓reduceIte,↓AAJ,↓AAI,↓ADg,↓AAt]
  exact AX2.yes hyes
 have hg:s[i]?=some s[i]:=List.getElem?_eq_getElem c
 have hsucc:=List.take_succ_eq_append_getElem c
 generalize s[i]=b at *
 have hb:=b.toNat_lt
 have hnum:AWq 0 (s.take (i+1))=n*16+xv b:=by rw [hsucc,AVG,←hn]; rfl
 have hno:∀ d,(d<16→xv b=d)→(16≤d→16≤xv b)→16≤d∨65536≤n*16+d→pX s=none:=fun d h1 h2 h3=>by
  rcases Nat.lt_or_ge d 16 with h | h
  ·rcases h3 with h3 | h3
   ·omega
   ·exact BcB (s:=s) (i:=i+1) (by rw [hnum,h1 h]; exact h3)
  ·exact AUJ hg (h2 h)
 have hnext:∀ d,xv b=d→d<16→n*16+d<65536→(s.take (i+1)).all isX=true∧n*16+d=AWq 0 (s.take (i+1)):=fun d h1 h2 h3=>by
  refine ⟨?_,by rw [hnum,h1]⟩
  rw [hsucc,List.all_append,hall]
  simp [isX,h1,h2]
 by_cases hd:48≤b.toNat∧b.toNat≤57
 ·have hx:xv b=b.toNat - 48:=by unfold xv; rw [if_pos hd]
  have h95:¬ b.toNat=95:=by omega
  obtain ⟨hd1,hd2⟩:=hd
  simp -dsimp (disch:=first | assumption | omega | (simp only [AAl];try omega)) only [↓AAp,AAk,AAn,AAo,eq_self,Nat.reduceEqDiff,↓reduceIte,↓AAJ,↓AAI,↓AAS,hg,↓AAU,↓AAT,h95,↓AAX,↓AAW,↓AAV,AUt]
  refine A2W hnl (by omega) (fun m c' h1 h2 h3 => ?_) (fun h1 h2 => ?_)
  ·simp -dsimp (disch:=first | assumption | omega | (simp only [AAl];try omega)) only [↓AAp,AAk,AAn,AAo,eq_self,Nat.reduceEqDiff,↓reduceIte,↓AAt]
   exact AX2.no (hno _ (fun _=>hx) (fun h=>by omega) h3) h2 h1
  ·obtain ⟨g1,g2⟩:=hnext _ hx h1 h2
   simp -dsimp (disch:=first | assumption | omega | (simp only [AAl];try omega)) only [↓AAp,AAk,AAn,AAo,eq_self,Nat.reduceEqDiff,↓reduceIte]
   exact AAC (s.length - (i+1)) (by omega) (by simp) ⟨i+1,n*16+(b.toNat - 48),rfl,by omega,g1,g2,h2,rfl,by simp [forget,get]⟩
 by_cases h95:b.toNat=95
 ·have hor:(b.toNat ||| 32)=127:=by rw [h95]; rfl
  have hb16:16≤xv b:=by unfold xv; rw [if_neg hd,if_neg (by rw [hor]; omega)]; omega
  simp -dsimp (disch:=first | assumption | omega | (simp only [AAl];try omega)) only [↓AAp,AAk,AAn,AAo,eq_self,Nat.reduceEqDiff,↓reduceIte,Nat.reduceLeDiff,↓AAJ,↓AAI,↓AAS,hg,↓AAU,↓AAT,h95,↓AAX,↓AAW,↓AAV,↓ABb]
  refine (AUl b).calls rfl fun r hr => ?_
  subst hr
  rw [hor]
  simp -dsimp (disch:=first | assumption | omega | (simp only [AAl];try omega)) only [↓AAp,AAk,AAn,AAo,eq_self,Nat.reduceEqDiff,↓reduceIte,Nat.reduceLeDiff]
  refine (AUl b).calls rfl fun r hr => ?_
  subst hr
  rw [hor]
  simp -dsimp (disch:=first | assumption | omega | (simp only [AAl];try omega)) only [↓AAp,AAk,AAn,AAo,eq_self,Nat.reduceEqDiff,↓reduceIte,Nat.reduceLeDiff,↓AAt]
  exact AX2.no (AUJ hg hb16) (.inr rfl) (by omega)
 have rest:∀ x,x=b.toNat ||| 32→97≤x→x≤122→(x - 97+10<16→xv b=x - 97+10)∧(16≤x - 97+10→16≤xv b):=fun x hx h1 h2=>by
  subst hx
  constructor
  ·intro h; unfold xv; rw [if_neg hd,if_pos ⟨h1,by omega⟩]
  ·intro h; unfold xv; rw [if_neg hd,if_neg (by omega)]; omega
 have lows:¬ 97≤b.toNat ||| 32∨¬ b.toNat ||| 32≤122→16≤xv b:=fun h=>by
  unfold xv; rw [if_neg hd,if_neg (by omega)]; omega
 by_cases c48:48≤b.toNat
 ·have c57:¬ b.toNat≤57:=by omega
  simp -dsimp (disch:=first | assumption | omega | (simp only [AAl];try omega)) only [↓AAp,AAk,AAn,AAo,eq_self,Nat.reduceEqDiff,↓reduceIte,↓AAJ,↓AAI,↓AAS,hg,↓AAU,↓AAT,h95,↓AAX,↓AAW,↓AAV,↓ABb]
  refine (AUl b).calls rfl fun r hr => ?_
  subst hr
  have hlw:=AUl b
  generalize hxx:b.toNat ||| 32=x at *
  by_cases c97:97≤x
  ·simp -dsimp (disch:=first | assumption | omega | (simp only [AAl];try omega)) only [↓AAp,AAk,AAn,AAo,eq_self,Nat.reduceEqDiff,↓reduceIte]
   refine hlw.calls rfl fun r hr => ?_
   subst hr
   by_cases c122:x≤122
   ·obtain ⟨r1,r2⟩:=rest x rfl c97 c122
    have hmod:(x - 97+10) % 256=x - 97+10:=Nat.mod_eq_of_lt (by omega)
    simp -dsimp (disch:=first | assumption | omega | (simp only [AAl];try omega)) only [↓AAp,AAk,AAn,AAo,eq_self,Nat.reduceEqDiff,↓reduceIte]
    refine hlw.calls rfl fun r hr => ?_
    subst hr
    simp -dsimp (disch:=first | assumption | omega | (simp only [AAl];try omega)) only [↓AAp,AAk,AAn,AAo,eq_self,Nat.reduceEqDiff,↓reduceIte,AUt,AUw,hmod]
    refine A2W hnl (by omega) (fun m c' h1 h2 h3 => ?_) (fun h1 h2 => ?_)
    ·simp -dsimp (disch:=first | assumption | omega | (simp only [AAl];try omega)) only [↓AAp,AAk,AAn,AAo,eq_self,Nat.reduceEqDiff,↓reduceIte,↓AAt]
     exact AX2.no (hno _ r1 r2 h3) h2 h1
    ·obtain ⟨g1,g2⟩:=hnext _ (r1 h1) h1 h2
     simp -dsimp (disch:=first | assumption | omega | (simp only [AAl];try omega)) only [↓AAp,AAk,AAn,AAo,eq_self,Nat.reduceEqDiff,↓reduceIte]
     exact AAC (s.length - (i+1)) (by omega) (by simp) ⟨i+1,_,rfl,by omega,g1,g2,h2,rfl,by simp [forget,get]⟩
   ·simp -dsimp (disch:=first | assumption | omega | (simp only [AAl];try omega)) only [↓AAp,AAk,AAn,AAo,eq_self,Nat.reduceEqDiff,↓reduceIte,↓AAt]
    exact AX2.no (AUJ hg (lows (.inr c122))) (.inr rfl) (by omega)
  ·simp -dsimp (disch:=first | assumption | omega | (simp only [AAl];try omega)) only [↓AAp,AAk,AAn,AAo,eq_self,Nat.reduceEqDiff,↓reduceIte,↓AAt]
   exact AX2.no (AUJ hg (lows (.inl c97))) (.inr rfl) (by omega)
 ·simp -dsimp (disch:=first | assumption | omega | (simp only [AAl];try omega)) only [↓AAp,AAk,AAn,AAo,eq_self,Nat.reduceEqDiff,↓reduceIte,↓AAJ,↓AAI,↓AAS,hg,↓AAU,↓AAT,h95,↓AAX,↓AAW,↓AAV,↓ABb]
  refine (AUl b).calls rfl fun r hr => ?_
  subst hr
  have hlw:=AUl b
  generalize hxx:b.toNat ||| 32=x at *
  by_cases c97:97≤x
  ·simp -dsimp (disch:=first | assumption | omega | (simp only [AAl];try omega)) only [↓AAp,AAk,AAn,AAo,eq_self,Nat.reduceEqDiff,↓reduceIte]
   refine hlw.calls rfl fun r hr => ?_
   subst hr
   by_cases c122:x≤122
   ·obtain ⟨r1,r2⟩:=rest x rfl c97 c122
    have hmod:(x - 97+10) % 256=x - 97+10:=Nat.mod_eq_of_lt (by omega)
    simp -dsimp (disch:=first | assumption | omega | (simp only [AAl];try omega)) only [↓AAp,AAk,AAn,AAo,eq_self,Nat.reduceEqDiff,↓reduceIte]
    refine hlw.calls rfl fun r hr => ?_
    subst hr
    simp -dsimp (disch:=first | assumption | omega | (simp only [AAl];try omega)) only [↓AAp,AAk,AAn,AAo,eq_self,Nat.reduceEqDiff,↓reduceIte,AUt,AUw,hmod]
    refine A2W hnl (by omega) (fun m c' h1 h2 h3 => ?_) (fun h1 h2 => ?_)
    ·simp -dsimp (disch:=first | assumption | omega | (simp only [AAl];try omega)) only [↓AAp,AAk,AAn,AAo,eq_self,Nat.reduceEqDiff,↓reduceIte,↓AAt]
     exact AX2.no (hno _ r1 r2 h3) h2 h1
    ·obtain ⟨g1,g2⟩:=hnext _ (r1 h1) h1 h2
     simp -dsimp (disch:=first | assumption | omega | (simp only [AAl];try omega)) only [↓AAp,AAk,AAn,AAo,eq_self,Nat.reduceEqDiff,↓reduceIte]
     exact AAC (s.length - (i+1)) (by omega) (by simp) ⟨i+1,_,rfl,by omega,g1,g2,h2,rfl,by simp [forget,get]⟩
   ·simp -dsimp (disch:=first | assumption | omega | (simp only [AAl];try omega)) only [↓AAp,AAk,AAn,AAo,eq_self,Nat.reduceEqDiff,↓reduceIte,↓AAt]
    exact AX2.no (AUJ hg (lows (.inr c122))) (.inr rfl) (by omega)
  ·simp -dsimp (disch:=first | assumption | omega | (simp only [AAl];try omega)) only [↓AAp,AAk,AAn,AAo,eq_self,Nat.reduceEqDiff,↓reduceIte,↓AAt]
   exact AX2.no (AUJ hg (lows (.inl c97))) (.inr rfl) (by omega)
variable [AAx] [AAz]
theorem AYl (s:List UInt8) (hs:s.length≤1000000):AAR Tryz.prog 103 [ts s,i64 ((16:Nat):Int),i64 ((16:Nat):Int)] (fun r=>(∀ n,pX s=some n→r = .tup [.val (.int .u64 (n:Int)),.val .nilIface])∧(pX s=none→∃ m:Nat,m≤65535∧r = .tup [.val (.int .u64 (m:Int)),.ifc 210 .any])):=by
 refine AAs.toPureV (AMO (by simp) ?_)
 simp -dsimp (disch:=first | assumption | omega | (simp only [AAl];try omega)) only [↓AAp,AAk,AAn,AAo,eq_self,Nat.reduceEqDiff,↓reduceIte,Nat.reduceAdd,reduceCtorEq,↓ACy]
 refine (Ba0 s hs).calls rfl fun r hr => ?_
 cases hp:pX s with
 | some n =>
  rw [hr.1 n hp]
  simp -dsimp (disch:=first | assumption | omega | (simp only [AAl];try omega)) only [↓AAp,AAk,AAn,AAo,eq_self,Nat.reduceEqDiff,↓reduceIte,reduceCtorEq,↓ACy]
  exact ⟨fun m hm=>(by cases hm; rfl),fun h=>(by cases h)⟩
 | none =>
  obtain ⟨m,c,hm,hc,rfl⟩:=hr.2 hp
  simp -dsimp (disch:=first | assumption | omega | (simp only [AAl];try omega)) only [↓AAp,AAk,AAn,AAo,eq_self,Nat.reduceEqDiff,↓reduceIte,reduceCtorEq,↓ACy]
  refine (Bcc _ s _ _ hs c hc).calls rfl fun r hr => ?_
  subst hr
  simp -dsimp (disch:=first | assumption | omega | (simp only [AAl];try omega)) only [↓AAp,AAk,AAn,AAo,eq_self,forall_const,Nat.reduceEqDiff,↓reduceIte,reduceCtorEq,↓ACy]
  exact ⟨fun n h=>h.elim,m,hm,rfl⟩
end
section
variable [AAE]
set_option maxRecDepth 100000
def ALQ:AAm := .seq (.ops [po_ 8 (.bin 3 .lss (.t 7) (ci_ 20))] [3,6,7,8])
 (.seq (.cond (.t 8)
 (.skip)
 (.exit 0))
 (.seq (.block 1 (.seq (.ops [po_ 9 (.idx false 20 1 (.t 6) (.t 7)),mv_ 5 9] [3,5,6,7])
 (.seq (.ops [mv_ 10 5,po_ 11 (.bin 5 .shr (.t 10) (.c (.int .u64 ((4:Nat):Int)))),po_ 12 (.idxS (.c (.string (str [48,49,50,51,52,53,54,55,56,57,97,98,99,100,101,102]))) (.t 11)),so_ 13 (.call 56 [.t 3,.t 12])] [3,5,6,7])
 (.ops [mv_ 14 5,po_ 15 (.bin 5 .and (.t 14) (.c (.int .u8 ((15:Nat):Int)))),po_ 16 (.idxS (.c (.string (str [48,49,50,51,52,53,54,55,56,57,97,98,99,100,101,102]))) (.t 15)),so_ 17 (.call 56 [.t 3,.t 16])] [3,6,7]))))
 (.ops [po_ 18 (.bin 3 .add (.t 7) (ci_ 1)),mv_ 7 18] [3,6,7])))
def AKU:AAm := .block 0 (.ownT 3 [(1,1)] 5 (.loop [3,6,7] ALQ))
def ALf:AAm := .seq (.ops [so_ 19 (.bstr 57 (.t 3)),mv_ 2 19] [2])
 (.ret)
def ALn:AAm := .seq (.seq (.ops [po_ 6 (.load true 20 (.t 1)),po_ 7 (.mov (ci_ 0))] [3,6,7])
 AKU)
 ALf
def AK3:AAm := .seq (.ops [so_ 3 (.allocT (.agg [.val (.pointer none),.val (.slice none 0 0)]) 116)] [1,3])
 ALn
def ARz:AAm := .seq (.ops [so_ 1 (.box (.t 0)),po_ 2 (.mov (.c (.string (str []))))] [1])
 AK3
def ARl:List VR:=[.tmp 2]
theorem AWo:Tryz.f30.body.bind (trC Tryz.prog Tryz.f30.ntmps)=some (er ARz):=by kernel_rfl
theorem AXC:trR Tryz.prog Tryz.f30.results.toList=some ARl:=by kernel_rfl
def AQt:=AAj ALQ.eq_1
def AQH:=AAj AKU.eq_1
def AQv:=AAj ALf.eq_1
def AQe:=AAj ALn.eq_1
def AQM:=AAj AK3.eq_1
def ATI:=AAj ARz.eq_1
theorem AT0 {K:TV→Prop} {e:Env} {H:List Ob}:res ARl e H K=res [.tmp 2] e H K:=AAi rfl
def ALl:=(aI_ (aI_ (aI_ @AQt @AQH) (aI_ @AQv @AQe)) (aI_ (aI_ @AQM @ATI) @AT0))
def AV1:=ABp 20 Tryz.func30 AWo AXC rfl
def APN:AAm := .seq (.block 1 (.draw 10 [mv_ 9 3,mv_ 10 4,po_ 11 (.idxAA 20 1 (.t 1) (.t 10)),po_ 12 (.load false 1 (.t 11)),po_ 13 (.bin 5 .quo (.t 12) (.c (.int .u8 ((16:Nat):Int)))),so_ 14 (.call 59 [.t 13]),mv_ 15 4,po_ 16 (.idxAA 20 1 (.t 1) (.t 15)),po_ 17 (.load false 1 (.t 16)),po_ 18 (.bin 5 .rem (.t 17) (.c (.int .u8 ((16:Nat):Int)))),so_ 19 (.call 59 [.t 18]),⟨some 20,.s (.bslice 1 2 (.val (.int .u8 ((0:Nat):Int))) [⟨0,.t 14⟩,⟨1,.t 19⟩]),none⟩,so_ 21 (.app 1 1 5 (.t 9) (.t 20)),mv_ 3 21] [1,3,4]))
 (.ops [mv_ 7 4,po_ 8 (.bin 3 .add (.t 7) (ci_ 1)),mv_ 4 8] [1,3,4])
def APB:AAm := .seq (.seq (.ops [mv_ 5 4,po_ 6 (.bin 3 .lss (.t 5) (ci_ 20))] [1,3,4,6])
 (.cond (.t 6)
 (.skip)
 (.exit 0)))
 APN
def AOI:AAm := .block 0 (.own 3 1 (.loop [1,3,4] APB))
def APy:AAm := .seq (.ops [mv_ 22 3,po_ 23 (.b2s (.t 22)),mv_ 2 23] [2])
 (.ret)
def AOj:AAm := .seq (.seq (.ops [po_ 4 (.mov (ci_ 0))] [1,3,4])
 AOI)
 APy
def APJ:AAm := .seq (.ops [po_ 3 (.mov (.c (.slice none 0 0)))] [1,3])
 AOj
def AUf:AAm := .seq (.ops [so_ 1 (.box (.t 0)),po_ 2 (.mov (.c (.string (str []))))] [1])
 APJ
def AUA:List VR:=[.tmp 2]
theorem A0b:Tryz.f35.body.bind (trC Tryz.prog Tryz.f35.ntmps)=some (er AUf):=by kernel_rfl
theorem A0g:trR Tryz.prog Tryz.f35.results.toList=some AUA:=by kernel_rfl
def ASx:=AAj APN.eq_1
def ASY:=AAj APB.eq_1
def ASA:=AAj AOI.eq_1
def ASL:=AAj APy.eq_1
def ATj:=AAj AOj.eq_1
def ATr:=AAj APJ.eq_1
def AWH:=AAj AUf.eq_1
theorem AXz {K:TV→Prop} {e:Env} {H:List Ob}:res AUA e H K=res [.tmp 2] e H K:=AAi rfl
def AQi:=(aI_ (aI_ (aI_ @ASx @ASY) (aI_ @ASA @ASL)) (aI_ (aI_ @ATj @ATr) (aI_ @AWH @AXz)))
def AXO:=ABp 24 Tryz.func35 A0b A0g rfl
def ARe:AAm := .seq (.ops [po_ 2 (.mov (.c (.int .u8 ((0:Nat):Int))))] [0])
 (.seq (.seq (.ops [mv_ 3 0,po_ 4 (.bin 5 .lss (.t 3) (.c (.int .u8 ((10:Nat):Int))))] [0,4])
 (.cond (.t 4)
 (.seq (.ops [mv_ 5 0,po_ 6 (.bin 5 .add (.c (.int .u8 ((48:Nat):Int))) (.t 5)),mv_ 2 6] [2])
  (.ret))
 (.skip)))
 (.seq (.ops [mv_ 7 0,po_ 8 (.bin 5 .add (.c (.int .u8 ((97:Nat):Int))) (.t 7)),po_ 9 (.bin 5 .sub (.t 8) (.c (.int .u8 ((10:Nat):Int)))),mv_ 2 9] [2])
 (.ret)))
def ARD:List VR:=[.tmp 2]
theorem AXa:Tryz.f59.body.bind (trC Tryz.prog Tryz.f59.ntmps)=some (er ARe):=by kernel_rfl
theorem AXA:trR Tryz.prog Tryz.f59.results.toList=some ARD:=by kernel_rfl
def AT3:=AAj ARe.eq_1
theorem ATY {K:TV→Prop} {e:Env} {H:List Ob}:res ARD e H K=res [.tmp 2] e H K:=AAi rfl
def ALz:=(aI_ @AT3 @ATY)
def AU7:=ABp 10 Tryz.func59 AXa AXA rfl
def AI1:AAm := .seq (.seq (.ops [mv_ 27 6,po_ 28 (.bin 3 .lss (.t 27) (ci_ 0)),mv_ 29 28,⟨some 30,.p (.mov (.t 7)),some ⟨29,false⟩⟩,⟨some 31,.p (.bin 3 .lss (.t 30) (ci_ 0)),some ⟨29,false⟩⟩,po_ 32 (.pick (.t 29) (.c (.bool true)) (.t 31))] [0,2,4,5,6,7,13,32])
 (.cond (.t 32)
 (.seq (.ops [po_ 33 (.buildA 20 1 [.val (.int .u8 ((0:Nat):Int)),.val (.int .u8 ((0:Nat):Int)),.val (.int .u8 ((0:Nat):Int)),.val (.int .u8 ((0:Nat):Int)),.val (.int .u8 ((0:Nat):Int)),.val (.int .u8 ((0:Nat):Int)),.val (.int .u8 ((0:Nat):Int)),.val (.int .u8 ((0:Nat):Int)),.val (.int .u8 ((0:Nat):Int)),.val (.int .u8 ((0:Nat):Int)),.val (.int .u8 ((0:Nat):Int)),.val (.int .u8 ((0:Nat):Int)),.val (.int .u8 ((0:Nat):Int)),.val (.int .u8 ((0:Nat):Int)),.val (.int .u8 ((0:Nat):Int)),.val (.int .u8 ((0:Nat):Int)),.val (.int .u8 ((0:Nat):Int)),.val (.int .u8 ((0:Nat):Int)),.val (.int .u8 ((0:Nat):Int)),.val (.int .u8 ((0:Nat):Int))] []),po_ 34 (.iface 33 (ci_ 12)),⟨none,.s (.store 20 (.t 2) (.t 33)),none⟩,mv_ 3 34] [2,3])
  (.ret))
 (.skip)))
 (.ops [mv_ 35 5,mv_ 36 6,po_ 37 (.bin 3 .shl (.t 36) (.c (.int .u64 ((4:Nat):Int)))),mv_ 38 7,po_ 39 (.bin 3 .or (.t 37) (.t 38)),po_ 40 (.conv .u8 (.t 39)),po_ 41 (.idxAA 20 1 (.t 4) (.t 35)),⟨none,.s (.store 1 (.t 41) (.t 40)),none⟩] [0,2,4,13])
def AH4:AAm := .seq (.draw 10 [mv_ 16 0,mv_ 17 5,po_ 18 (.bin 3 .mul (ci_ 2) (.t 17)),po_ 19 (.idxS (.t 16) (.t 18)),so_ 20 (.call 95 [.c (.string (str [48,49,50,51,52,53,54,55,56,57,97,98,99,100,101,102])),.t 19]),mv_ 21 0,mv_ 22 5,po_ 23 (.bin 3 .mul (ci_ 2) (.t 22)),po_ 24 (.bin 3 .add (.t 23) (ci_ 1)),po_ 25 (.idxS (.t 21) (.t 24)),so_ 26 (.call 95 [.c (.string (str [48,49,50,51,52,53,54,55,56,57,97,98,99,100,101,102])),.t 25]),mv_ 6 20,mv_ 7 26] [0,2,4,5,6,7,13])
 AI1
def AId:AAm := .seq (.block 1 (.seq (.ops [mv_ 15 13,mv_ 5 15] [0,2,4,5,13])
 AH4))
 (.ops [po_ 42 (.bin 3 .add (.t 13) (ci_ 1)),mv_ 13 42] [0,2,4,13])
def AIX:AAm := .seq (.cond (.t 14)
 (.skip)
 (.exit 0))
 AId
def AIo:AAm := .seq (.ops [po_ 14 (.bin 3 .lss (.t 13) (ci_ 20))] [0,2,4,13,14])
 AIX
def AIx:AAm := .block 0 (.loop [0,2,4,13] AIo)
def AIQ:AAm := .seq (.ops [po_ 43 (.load true 20 (.t 4)),⟨none,.s (.store 20 (.t 2) (.t 43)),none⟩,po_ 3 (.mov (.c .nilIface))] [2,3])
 (.ret)
def AIa:AAm := .seq (.seq (.ops [po_ 13 (.mov (ci_ 0))] [0,2,4,13])
 AIx)
 AIQ
def AID:AAm := .seq (.seq (.ops [mv_ 8 0,po_ 9 (.lenS (.t 8)),po_ 10 (.bin 3 .neq (.t 9) (ci_ 40))] [0,2,4,10])
 (.cond (.t 10)
 (.seq (.ops [po_ 11 (.load true 20 (.t 4)),po_ 12 (.iface 33 (ci_ 12)),⟨none,.s (.store 20 (.t 2) (.t 11)),none⟩,mv_ 3 12] [2,3])
  (.ret))
 (.skip)))
 AIa
def AHc:AAm := .seq (.ops [so_ 4 (.alloc (.arr 20 1 [.val (.int .u8 ((0:Nat):Int)),.val (.int .u8 ((0:Nat):Int)),.val (.int .u8 ((0:Nat):Int)),.val (.int .u8 ((0:Nat):Int)),.val (.int .u8 ((0:Nat):Int)),.val (.int .u8 ((0:Nat):Int)),.val (.int .u8 ((0:Nat):Int)),.val (.int .u8 ((0:Nat):Int)),.val (.int .u8 ((0:Nat):Int)),.val (.int .u8 ((0:Nat):Int)),.val (.int .u8 ((0:Nat):Int)),.val (.int .u8 ((0:Nat):Int)),.val (.int .u8 ((0:Nat):Int)),.val (.int .u8 ((0:Nat):Int)),.val (.int .u8 ((0:Nat):Int)),.val (.int .u8 ((0:Nat):Int)),.val (.int .u8 ((0:Nat):Int)),.val (.int .u8 ((0:Nat):Int)),.val (.int .u8 ((0:Nat):Int)),.val (.int .u8 ((0:Nat):Int))]))] [0,2,4])
 AID
def ANj:AAm := .seq (.ops [so_ 2 (.alloc (.arr 20 1 [.val (.int .u8 ((0:Nat):Int)),.val (.int .u8 ((0:Nat):Int)),.val (.int .u8 ((0:Nat):Int)),.val (.int .u8 ((0:Nat):Int)),.val (.int .u8 ((0:Nat):Int)),.val (.int .u8 ((0:Nat):Int)),.val (.int .u8 ((0:Nat):Int)),.val (.int .u8 ((0:Nat):Int)),.val (.int .u8 ((0:Nat):Int)),.val (.int .u8 ((0:Nat):Int)),.val (.int .u8 ((0:Nat):Int)),.val (.int .u8 ((0:Nat):Int)),.val (.int .u8 ((0:Nat):Int)),.val (.int .u8 ((0:Nat):Int)),.val (.int .u8 ((0:Nat):Int)),.val (.int .u8 ((0:Nat):Int)),.val (.int .u8 ((0:Nat):Int)),.val (.int .u8 ((0:Nat):Int)),.val (.int .u8 ((0:Nat):Int)),.val (.int .u8 ((0:Nat):Int))])),po_ 3 (.mov (.c .nilIface))] [0,2])
 AHc
def ANk:List VR:=[.cell 2 true 20,.tmp 3]
theorem AT1:Tryz.f65.body.bind (trC Tryz.prog Tryz.f65.ntmps)=some (er ANj):=by kernel_rfl
theorem ATS:trR Tryz.prog Tryz.f65.results.toList=some ANk:=by kernel_rfl
def ANF:=AAj AI1.eq_1
def ANz:=AAj AH4.eq_1
def ANG:=AAj AId.eq_1
def AN8:=AAj AIX.eq_1
def AOb:=AAj AIo.eq_1
def ANw:=AAj AIx.eq_1
def AN9:=AAj AIQ.eq_1
def AN5:=AAj AIa.eq_1
def ANE:=AAj AID.eq_1
def AMQ:=AAj AHc.eq_1
def ARY:=AAj ANj.eq_1
theorem AR0 {K:TV→Prop} {e:Env} {H:List Ob}:res ANk e H K=res [.cell 2 true 20,.tmp 3] e H K:=AAi rfl
def ACz:=(aI_ (aI_ (aI_ (aI_ @ANF @ANz) (aI_ @ANG @AN8)) (aI_ (aI_ @AOb @ANw) (aI_ @AN9 @AN5))) (aI_ (aI_ @ANE @AMQ) (aI_ @ARY @AR0)))
def ASC:=ABp 44 Tryz.func65 AT1 ATS rfl
def AL4:AAm := .seq (.ops [mv_ 30 6,po_ 31 (.bin 5 .geq (.t 30) (.c (.int .u8 ((97:Nat):Int)))),mv_ 32 31,⟨some 33,.p (.mov (.t 6)),some ⟨32,true⟩⟩,⟨some 34,.p (.bin 5 .leq (.t 33) (.c (.int .u8 ((102:Nat):Int)))),some ⟨32,true⟩⟩,po_ 35 (.pick (.t 32) (.t 34) (.c (.bool false))),mv_ 29 35] [0,2,4,5,6,29])
 (.cond (.t 29)
 (.ops [mv_ 36 6,po_ 37 (.bin 5 .sub (.t 36) (.c (.int .u8 ((97:Nat):Int)))),po_ 38 (.bin 5 .add (.t 37) (.c (.int .u8 ((10:Nat):Int)))),mv_ 7 38] [0,2,4,5,7])
 (.seq (.ops [po_ 19 (.buildA 20 1 [.val (.int .u8 ((0:Nat):Int)),.val (.int .u8 ((0:Nat):Int)),.val (.int .u8 ((0:Nat):Int)),.val (.int .u8 ((0:Nat):Int)),.val (.int .u8 ((0:Nat):Int)),.val (.int .u8 ((0:Nat):Int)),.val (.int .u8 ((0:Nat):Int)),.val (.int .u8 ((0:Nat):Int)),.val (.int .u8 ((0:Nat):Int)),.val (.int .u8 ((0:Nat):Int)),.val (.int .u8 ((0:Nat):Int)),.val (.int .u8 ((0:Nat):Int)),.val (.int .u8 ((0:Nat):Int)),.val (.int .u8 ((0:Nat):Int)),.val (.int .u8 ((0:Nat):Int)),.val (.int .u8 ((0:Nat):Int)),.val (.int .u8 ((0:Nat):Int)),.val (.int .u8 ((0:Nat):Int)),.val (.int .u8 ((0:Nat):Int)),.val (.int .u8 ((0:Nat):Int))] []),⟨none,.s (.store 20 (.t 2) (.t 19)),none⟩,po_ 3 (.mov (.c (.bool false)))] [2,3])
  (.ret)))
def ALI:AAm := .cond (.t 20)
 (.ops [mv_ 27 6,po_ 28 (.bin 5 .sub (.t 27) (.c (.int .u8 ((48:Nat):Int)))),mv_ 7 28] [0,2,4,5,7])
 AL4
def ALB:AAm := .seq (.block 2 (.seq (.ops [mv_ 21 6,po_ 22 (.bin 5 .geq (.t 21) (.c (.int .u8 ((48:Nat):Int)))),mv_ 23 22,⟨some 24,.p (.mov (.t 6)),some ⟨23,true⟩⟩,⟨some 25,.p (.bin 5 .leq (.t 24) (.c (.int .u8 ((57:Nat):Int)))),some ⟨23,true⟩⟩,po_ 26 (.pick (.t 23) (.t 25) (.c (.bool false))),mv_ 20 26] [0,2,4,5,6,20])
 ALI))
 (.ops [mv_ 39 5,po_ 40 (.bin 3 .quo (.t 39) (ci_ 2)),mv_ 41 5,po_ 42 (.bin 3 .quo (.t 41) (ci_ 2)),po_ 43 (.idxAA 20 1 (.t 4) (.t 42)),po_ 44 (.load false 1 (.t 43)),po_ 45 (.bin 5 .mul (.t 44) (.c (.int .u8 ((16:Nat):Int)))),mv_ 46 7,po_ 47 (.bin 5 .add (.t 45) (.t 46)),po_ 48 (.idxAA 20 1 (.t 4) (.t 40)),⟨none,.s (.store 1 (.t 48) (.t 47)),none⟩] [0,2,4,5])
def ALq:AAm := .seq (.ops [po_ 7 (.mov (.c (.int .u8 ((0:Nat):Int))))] [0,2,4,5,6])
 ALB
def AMc:AAm := .seq (.block 1 (.seq (.ops [mv_ 16 0,mv_ 17 5,po_ 18 (.idxS (.t 16) (.t 17)),mv_ 6 18] [0,2,4,5,6])
 ALq))
 (.ops [mv_ 14 5,po_ 15 (.bin 3 .add (.t 14) (ci_ 1)),mv_ 5 15] [0,2,4,5])
def AL7:AAm := .seq (.seq (.ops [mv_ 12 5,po_ 13 (.bin 3 .lss (.t 12) (ci_ 40))] [0,2,4,5,13])
 (.cond (.t 13)
 (.skip)
 (.exit 0)))
 AMc
def AMg:AAm := .block 0 (.loop [0,2,4,5] AL7)
def ALr:AAm := .seq (.ops [po_ 49 (.load true 20 (.t 4)),⟨none,.s (.store 20 (.t 2) (.t 49)),none⟩,po_ 3 (.mov (.c (.bool true)))] [2,3])
 (.ret)
def AK9:AAm := .seq (.seq (.ops [po_ 5 (.mov (ci_ 0))] [0,2,4,5])
 AMg)
 ALr
def AKs:AAm := .seq (.seq (.ops [mv_ 8 0,po_ 9 (.lenS (.t 8)),po_ 10 (.bin 3 .neq (.t 9) (ci_ 40))] [0,2,4,10])
 (.cond (.t 10)
 (.seq (.ops [po_ 11 (.load true 20 (.t 4)),⟨none,.s (.store 20 (.t 2) (.t 11)),none⟩,po_ 3 (.mov (.c (.bool false)))] [2,3])
  (.ret))
 (.skip)))
 AK9
def AJK:AAm := .seq (.ops [so_ 4 (.alloc (.arr 20 1 [.val (.int .u8 ((0:Nat):Int)),.val (.int .u8 ((0:Nat):Int)),.val (.int .u8 ((0:Nat):Int)),.val (.int .u8 ((0:Nat):Int)),.val (.int .u8 ((0:Nat):Int)),.val (.int .u8 ((0:Nat):Int)),.val (.int .u8 ((0:Nat):Int)),.val (.int .u8 ((0:Nat):Int)),.val (.int .u8 ((0:Nat):Int)),.val (.int .u8 ((0:Nat):Int)),.val (.int .u8 ((0:Nat):Int)),.val (.int .u8 ((0:Nat):Int)),.val (.int .u8 ((0:Nat):Int)),.val (.int .u8 ((0:Nat):Int)),.val (.int .u8 ((0:Nat):Int)),.val (.int .u8 ((0:Nat):Int)),.val (.int .u8 ((0:Nat):Int)),.val (.int .u8 ((0:Nat):Int)),.val (.int .u8 ((0:Nat):Int)),.val (.int .u8 ((0:Nat):Int))]))] [0,2,4])
 AKs
def AQ7:AAm := .seq (.ops [so_ 2 (.alloc (.arr 20 1 [.val (.int .u8 ((0:Nat):Int)),.val (.int .u8 ((0:Nat):Int)),.val (.int .u8 ((0:Nat):Int)),.val (.int .u8 ((0:Nat):Int)),.val (.int .u8 ((0:Nat):Int)),.val (.int .u8 ((0:Nat):Int)),.val (.int .u8 ((0:Nat):Int)),.val (.int .u8 ((0:Nat):Int)),.val (.int .u8 ((0:Nat):Int)),.val (.int .u8 ((0:Nat):Int)),.val (.int .u8 ((0:Nat):Int)),.val (.int .u8 ((0:Nat):Int)),.val (.int .u8 ((0:Nat):Int)),.val (.int .u8 ((0:Nat):Int)),.val (.int .u8 ((0:Nat):Int)),.val (.int .u8 ((0:Nat):Int)),.val (.int .u8 ((0:Nat):Int)),.val (.int .u8 ((0:Nat):Int)),.val (.int .u8 ((0:Nat):Int)),.val (.int .u8 ((0:Nat):Int))])),po_ 3 (.mov (.c (.bool false)))] [0,2])
 AJK
def ARx:List VR:=[.cell 2 true 20,.tmp 3]
theorem AXg:Tryz.f69.body.bind (trC Tryz.prog Tryz.f69.ntmps)=some (er AQ7):=by kernel_rfl
theorem AW7:trR Tryz.prog Tryz.f69.results.toList=some ARx:=by kernel_rfl
def AQA:=AAj AL4.eq_1
def AP9:=AAj ALI.eq_1
def APY:=AAj ALB.eq_1
def AQX:=AAj ALq.eq_1
def AP6:=AAj AMc.eq_1
def AQ0:=AAj AL7.eq_1
def AQx:=AAj AMg.eq_1
def AQU:=AAj ALr.eq_1
def AQW:=AAj AK9.eq_1
def AOq:=AAj AKs.eq_1
def APA:=AAj AJK.eq_1
def AT4:=AAj AQ7.eq_1
theorem ATy {K:TV→Prop} {e:Env} {H:List Ob}:res ARx e H K=res [.cell 2 true 20,.tmp 3] e H K:=AAi rfl
def ACp:=(aI_ (aI_ (aI_ (aI_ @AQA @AP9) (aI_ @APY @AQX)) (aI_ (aI_ @AP6 @AQ0) (aI_ @AQx @AQU))) (aI_ (aI_ (aI_ @AQW @AOq) (aI_ @APA @AT4)) @ATy))
def AV0:=ABp 50 Tryz.func69 AXg AW7 rfl
def AGN:AAm := .seq (.ops [po_ 4 (.mov (ci_ 0))] [0,1])
 (.seq (.ops [mv_ 5 0,mv_ 6 1,so_ 7 (.call 111 [.t 5,.t 6]),mv_ 4 7] [4])
 (.ret))
def AG0:List VR:=[.tmp 4]
theorem ANm:Tryz.f95.body.bind (trC Tryz.prog Tryz.f95.ntmps)=some (er AGN):=by kernel_rfl
theorem ANI:trR Tryz.prog Tryz.f95.results.toList=some AG0:=by kernel_rfl
def ALs:=AAj AGN.eq_1
theorem ALw {K:TV→Prop} {e:Env} {H:List Ob}:res AG0 e H K=res [.tmp 4] e H K:=AAi rfl
def AGF:=(aI_ @ALs @ALw)
def AML:=ABp 8 Tryz.func95 ANm ANI rfl
end
section
open Go.RowKit
variable [AAE]
theorem ARu:∃ j,Tryz.prog.info? 116=some j∧j.size≠0:=by
 have h:((Tryz.prog.info? 116).map fun j=>decide (j.size≠0))=some true:=by kernel_rfl
 obtain ⟨j,h1,h2⟩:=Option.map_eq_some_iff.1 h
 exact ⟨j,h1,by simpa using h2⟩
set_option maxHeartbeats 2000000 in
set_option maxRecDepth 100000 in
theorem ATZ (b o:Nat) (w:World) (h0:w.cell? ⟨b,o,none⟩=some (.pointer (some ⟨b,o,none⟩))) :
  Calls Tryz.prog 89 #[.pointer (some ⟨b,o,none⟩)] w fun e w'=>e = .returned (.tuple #[])∧w'=w:=by
 obtain ⟨j,hj,_⟩:=ARu
 go_enter Tryz.func89,Tryz.ntmps89
 go_wp2
 rw [Lib.run_neq_ptr_same w _ Tryz.underlying114 hj]
 go_wp2
 go_end0
 exact ⟨rfl,rfl⟩
set_option maxHeartbeats 2000000 in
set_option maxRecDepth 100000 in
theorem ASt (b o:Nat) (T:TypeId) (m:Nat) (w:World) (h0:w.cell? ⟨b,o,none⟩=some (.pointer none)) (hsh:w.shape? b=some (T,m)) (hom:o<m) (hlies:liesAt Tryz.prog Tryz.prog.depth T (m / Tryz.prog.cellsOf T) o 116 1=true) (hfz:w.frozen? ⟨b,o,none⟩=false) :
  Calls Tryz.prog 89 #[.pointer (some ⟨b,o,none⟩)] w fun e w'=>e = .returned (.tuple #[])∧w'=w.setCell ⟨b,o,none⟩ (.pointer (some ⟨b,o,none⟩)):=by
 obtain ⟨j,hj,hj0⟩:=ARu
 go_enter Tryz.func89,Tryz.ntmps89
 go_wp2
 rw [Lib.run_to_unsafe w ⟨b,o,none⟩ Tryz.underlying114 Tryz.underlying121 hj hj0 hsh hom]
 simp only [Result.andThen]
 rw [Oper.upon_value]
 go_wp2
 rw [run_callFunc_extern Tryz.func110 (by kernel_rfl) (by kernel_rfl) (by kernel_rfl) (e:=Extern.AbiNoEscape.same) (by kernel_rfl)]
 rw [Lib.run_noEscape]
 simp only [Result.andThen]
 rw [Oper.upon_value]
 go_wp2
 rw [Lib.run_from_unsafe w ⟨b,o,none⟩ Tryz.underlying121 Tryz.underlying114 hj hsh hlies]
 simp only [Result.andThen]
 rw [Oper.upon_value]
 go_wp2
 go_end0
 exact ⟨rfl,rfl⟩
end
section
open Go.RowKit
variable [AAE]
theorem AYQ {c:Ctx} {w:World}:Rep c w (.tup []) (.tuple #[]) := .inr ⟨[],[],rfl,rfl,by rw [AAZ]⟩
theorem A6H {c:Ctx} {w:World} {id ver:Nat} {p:List (Nat×Nat)} {vs:List Value} (h:AAZ c w [.op id ver p] vs):c.has id ver∧∃ b o,c.β id ver=some (b,o)∧vs=[.pointer (some ⟨b,o+ABs p,none⟩)]:=by
 obtain ⟨u,us,rfl,h1,h2⟩:=AAZ.cons.1 h
 rw [AAZ.nil] at h2; subst h2
 obtain ⟨g1,b,o,g2,g3⟩:=Rep.op (Or.inl h1:Rep c w (.op id ver p) u)
 exact ⟨g1,b,o,g2,by rw [g3]⟩
theorem AWJ {β:Nat→Nat→Option (Nat×Nat)} {H:List Ob} {F:Nat→Prop} {w:World} (hs:Sim ⟨β,H,F⟩ w) {id ver b o:Nat} {p:List (Nat×Nat)} {x u v:TV} (ho:H[id]?=some (.obj ver x)) (hb:β id ver=some (b,o)) (hg:AF6 p x=some (.agg [u,v])) (hu:AAu u=1) (hv:AAu v=1) :
  ∃ u' v',AAq ⟨β,H,F⟩ w u [u']∧AAq ⟨β,H,F⟩ w v [v']∧w.cell? ⟨b,o+ABs p,none⟩=some u'∧w.cell? ⟨b,o+ABs p+1,none⟩=some v':=by
 obtain ⟨us,h1,h2⟩:=AVB hs ho hb hg
 rw [AAq,AAr] at h1
 obtain ⟨a,r,rfl,h3,h4⟩:=h1
 rw [AAr] at h4
 obtain ⟨a2,r2,rfl,h5,h6⟩:=h4
 rw [AAr] at h6; subst h6
 have l1:=h3.length; rw [hu] at l1
 have l2:=h5.length; rw [hv] at l2
 obtain ⟨u',rfl⟩:=List.length_eq_one_iff.1 l1
 obtain ⟨v',rfl⟩:=List.length_eq_one_iff.1 l2
 exact ⟨u',v',h3,h5,by simpa using h2 0 u' rfl,h2 1 v' rfl⟩
def ATg (id ver:Nat) (p:List (Nat×Nat)) (a:TV):Prop:=a = .val (.pointer none)∨a = .op id ver p
def AZA (T:TypeId) (m o:Nat):Prop:=o<m∧liesAt Tryz.prog Tryz.prog.depth T (m / Tryz.prog.cellsOf T) o 116 1=true
set_option maxRecDepth 100000 in
theorem A0u {id ver q m:Nat} {T:TypeId} {p:List (Nat×Nat)} {x x' a v:TV} {H:List Ob} {K:TV→List Ob→Prop} (ho:H[id]?=some (.obj ver x)) (hg:AF6 p x=some (.agg [a,v])) (hv1:AAu v=1) (ha:ATg id ver p a)
  (hq:H[q]?=some (.fact id ver T m)) (hT:AZA T m (ABs p)) (hp1:AHW p x (.agg [.op id ver p,v])=some x') (hlv:lays v=true) (hk:K (.tup []) (H.set id (.obj ver x'))) :
  AAs Tryz.prog 89 [.op id ver p] H K:=by
 intro β F w vs hs hv
 obtain ⟨g1,b,o,hb,rfl⟩:=A6H hv
 have hb':β id ver=some (b,o):=hb
 obtain ⟨_,hfact⟩:=hs.ob q _ hq
 obtain ⟨rfl,hsh⟩:=hfact b o hb
 obtain ⟨hom,hlies⟩:=hT
 have ha1:AAu a=1:=by rcases ha with rfl | rfl<;>rfl
 obtain ⟨u',v',r1,r2,c0,c1⟩:=AWJ hs ho hb hg ha1 hv1
 simp only [Nat.zero_add] at c0 c1
 have hrow:AAq ⟨β,H,F⟩ w (.agg [.op id ver p,v]) [.pointer (some ⟨b,ABs p,none⟩),v']:=by
  rw [AAq,AAr]
  refine ⟨[_],[v'],rfl,?_,?_⟩
  ·rw [AAq]; exact ⟨g1,b,0,hb,by simp⟩
  ·rw [AAr]; exact ⟨[v'],[],rfl,r2,by rw [AAr]⟩
 obtain ⟨k1,k2,ht⟩:=hs.store ho hb hp1 hrow
 simp only [Nat.zero_add] at k1 k2 ht
 -- what AZA there behind
 have hsets:w.setCells b (ABs p) [.pointer (some ⟨b,ABs p,none⟩),v']=w.setCell ⟨b,ABs p,none⟩ (.pointer (some ⟨b,ABs p,none⟩)):=by
  have h1:=ADw b [.pointer (some ⟨b,ABs p,none⟩)] [v'] (ABs p) w
  refine h1.trans ?_
  have hc:ABr w b (ABs p+1) [v']:=fun j u hj=>by
   cases j with
   | zero=>simp at hj; subst hj; exact c1
   | succ j=>simp at hj
  exact AGh (AKb hc (Nat.le_refl _))
 rw [hsets] at k1 k2
 rcases ha with rfl | rfl
 ·rw [AAq] at r1
  have hu:u' = .pointer none:=by simpa using r1.1
  subst hu
  have hfz:w.frozen? ⟨b,ABs p,none⟩=false:=(ht 0 (by simp)).2
  have hc:=ASt b (ABs p) T m w c0 hsh hom hlies hfz
  have ea:([Value.pointer (some ⟨b,0+ABs p,none⟩)]).toArray = #[.pointer (some ⟨b,ABs p,none⟩)]:=by rw [Nat.zero_add]
  rw [ea]
  refine hc.mono ?_
  rintro e w' ⟨rfl,rfl⟩
  exact ⟨_,_,β,_,F,rfl,hk,k1,k2,AYQ⟩
 ·rw [AAq] at r1
  obtain ⟨_,b',o',hb2,hu⟩:=r1
  have hb2':β id ver=some (b',o'):=hb2
  rw [hb'] at hb2'; cases hb2'
  have hu:u' = .pointer (some ⟨b,ABs p,none⟩):=by simpa using hu
  subst hu
  have hc:=ATZ b (ABs p) w c0
  have ea:([Value.pointer (some ⟨b,0+ABs p,none⟩)]).toArray = #[.pointer (some ⟨b,ABs p,none⟩)]:=by rw [Nat.zero_add]
  rw [ea]
  refine hc.mono ?_
  rintro e w' ⟨rfl,rfl⟩
  rw [AQ5 c0] at k1 k2
  exact ⟨_,_,β,_,F,rfl,hk,k1,k2,AYQ⟩
end
section
open Go.RowKit
variable [AAE]
set_option maxHeartbeats 4000000 in
set_option maxRecDepth 100000 in
theorem ATa {b o:Nat} {w W:World} {v:Value} {n:Nat} {ad q:Option Addr} {cap:Nat} {s:ByteArray} {w1 w2:World} (hv:v = .slice ad n cap) (c1:w.cell? ⟨b,o+1,none⟩=some v)
  (hSD:(Builtin.unsafeSliceData_ #[23] 168 #[v]).run Tryz.prog w.drew = .ok (.pointer q) w1) (c2:w1.cell? ⟨b,o+1,none⟩=some v)
  (hUS:(Builtin.unsafeString_ #[168,3] 9 #[.pointer q,.int .i64 n]).run Tryz.prog w1 = .ok (.string s) w2) :
  Calls Tryz.prog 57 #[.pointer (some ⟨b,o,none⟩)] w fun e w'=>e = .returned (.string s)∧w'=w2:=by
 subst hv
 have c1':w.drew.cell? ⟨b,o+1,none⟩=some (.slice ad n cap):=c1
 have mixed:Tryz.prog.follows .mixedOrders=true:=by kernel_rfl
 go_enter Tryz.func57,Tryz.ntmps57
 go_wp2
 go_region_o
 all_goals (go_wp2; go_ret; exact ⟨rfl,rfl⟩)
theorem Sim.die {β:Nat→Nat→Option (Nat×Nat)} {H:List Ob} {F:Nat→Prop} {w w':World} (hs:Sim ⟨β,H,F⟩ w) {j:Nat} {o:Ob} (ho:H[j]?=some o) (hl:o.live=true)
  (h1:w'.os=w.os) (h2:w'.tape=w.tape) (h3:w'.output=w.output) (hz:w.heap.size≤w'.heap.size) (hsh:∀ b,b<w.heap.size→w'.shape? b=w.shape? b)
  (hb:∀ b,b<w.heap.size→(∀ off,β j o.ver≠some (b,off))→w'.heap[b]?=w.heap[b]?):Sim ⟨β,H.set j (.gone o.ver),F⟩ w'∧AAB ⟨β,H,F⟩ w ⟨β,H.set j (.gone o.ver),F⟩ w' :=
 hs.turnG ho hl (Nat.le_refl _) (fun _ _ _=>rfl) (fun b off e => .inl ⟨off,e⟩) h1 h2 h3 hz hsh hb fun _=>trivial
theorem AWy (w:World) (a:Addr) (n b:Nat):(w.freeze a n).shape? b=w.shape? b:=by
 unfold World.freeze
 split
 ·rfl
 ·simp only [World.shape?,Array.getElem?_modify]
  by_cases hb:a.block=b
  ·rw [if_pos hb]
   cases hh:w.heap[b]? with
   | none=>simp
   | some x=>cases x<;>simp
  ·rw [if_neg hb]
theorem AXW (w:World) (a:Addr) (n b:Nat) (h:b≠a.block):(w.freeze a n).heap[b]?=w.heap[b]?:=by
 unfold World.freeze
 split
 ·rfl
 ·simp only [Array.getElem?_modify]
  rw [if_neg (fun e=>h e.symm)]
theorem AX9 (w:World) (a:Addr) (n:Nat):(w.freeze a n).heap.size=w.heap.size:=by
 unfold World.freeze
 split<;>simp
theorem A1x (w:World) (a:Addr) (n:Nat):(w.freeze a n).os=w.os∧(w.freeze a n).tape=w.tape∧(w.freeze a n).output=w.output:=by
 unfold World.freeze
 split<;>exact ⟨rfl,rfl,rfl⟩
set_option maxRecDepth 100000 in
theorem cellsByte:Tryz.prog.cellsOf 5=1:=by kernel_rfl
set_option maxRecDepth 100000 in
theorem A79 {id ver j v cp:Nat} {p:List (Nat×Nat)} {x a:TV} {l:List UInt8} {H:List Ob} {K:TV→List Ob→Prop} (ho:H[id]?=some (.obj ver x)) (hg:AF6 p x=some (.agg [a,.os 1 j v [] 0 l.length cp])) (ha:AAu a=1)
  (hj:H[j]?=some (.bld v 5 l)) (h63:l.length≤9223372036854775807) (hk:K (.val (.string (str l))) (H.set j (.gone v))):AAs Tryz.prog 57 [.op id ver p] H K:=by
 intro β F w vs hs hv
 obtain ⟨g1,b,o,hb,rfl⟩:=A6H hv
 obtain ⟨u',v',r1,r2,c0,c1⟩:=AWJ hs ho hb hg ha rfl
 have hjl:j<H.length:=(List.getElem?_eq_some_iff.1 hj).1
 rw [AAq] at r2
 obtain ⟨g2,r2⟩:=r2
 have ea:([Value.pointer (some ⟨b,o+ABs p,none⟩)]).toArray = #[.pointer (some ⟨b,o+ABs p,none⟩)]:=rfl
 rw [ea]
 -- what is empty
 have emp:∀ {ad q:Option Addr} {cap:Nat} {w1:World},v' = .slice ad 0 cap→l=[]→(Builtin.unsafeSliceData_ #[23] 168 #[v']).run Tryz.prog w.drew = .ok (.pointer q) w1→w1.cell? ⟨b,o+ABs p+1,none⟩=some v'→Sim ⟨β,H,F⟩ w1→AAB ⟨β,H,F⟩ w ⟨β,H,F⟩ w1 →
   Calls Tryz.prog 57 #[.pointer (some ⟨b,o+ABs p,none⟩)] w fun e w'=>∃ v x β' H' F',e = .returned v∧K x H'∧Sim ⟨β',H',F'⟩ w'∧AAB ⟨β,H,F⟩ w ⟨β',H',F'⟩ w'∧Rep ⟨β',H',F'⟩ w' x v:=by
  intro ad q cap w1 hv' hl hSD c2 hs1 hl1
  have hUS:=Lib.run_unsafeString_none (P:=Tryz.prog) w1 168 3 9 q
  refine (ATa (W:=w) (n:=0) hv' c1 hSD c2 hUS).mono ?_
  rintro e w' ⟨rfl,rfl⟩
  obtain ⟨k1,k2⟩:=hs1.die (w':=w') hj rfl rfl rfl rfl (Nat.le_refl _) (fun _ _=>rfl) (fun _ _ _=>rfl)
  subst hl
  exact ⟨_,_,β,_,F,rfl,hk,k1,hl1.trans k2,Rep.of_val⟩
 rcases r2 with ⟨hl0,ad,hv',_,han⟩ | ⟨b2,o2,cap,t,m,hb2,hv',hn,hcap,hsh,hroom,_⟩
 ·have hl:l=[]:=List.length_eq_zero_iff.1 hl0
  have hv':v' = .slice ad 0 0:=by simpa using hv'
  cases ad with
  | none =>
   refine emp hv' hl (q:=none) (w1:=w.drew) ?_ c1 (hs.heap rfl) (AAB.heap rfl rfl rfl rfl)
   rw [hv']; exact Lib.run_unsafeSliceData_nil w.drew _ _ _ _
  | some ad =>
   obtain ⟨s,hs2⟩:=Option.isSome_iff_exists.1 (han ad rfl)
   obtain ⟨k1,k2⟩:=(hs.heap (w':=w.drew) rfl).extra (.view ad 5)
   refine emp hv' hl (q:=some ⟨w.drew.heap.size,0,none⟩) (w1:=w.drew.alloc (.view ad 5)) ?_ ?_ k1 ((AAB.heap (w:=w) (w':=w.drew) rfl rfl rfl rfl).trans k2)
   ·rw [hv']; exact Lib.run_unsafeSliceData_zero w.drew _ _ _ Tryz.underlying168 ad 0 s hs2
   ·rw [World.cell?_of_block (w:=w.drew) (ABq _ _ (World.block_lt_of_cell? w _ c1))]; exact c1
 ·have hv':v' = .slice (some ⟨b2,o2,none⟩) l.length cap:=by simpa [ABs] using hv'
  rcases hs.ob j _ hj with ⟨q1,_⟩ | ⟨b3,post,fr,q1,q2,q3⟩
  ·have q1':β j v=none:=q1
   have hb2':β j v=some (b2,o2):=hb2
   rw [q1'] at hb2'; cases hb2'
  have q1':β j v=some (b3,0):=q1
  have hb2':β j v=some (b2,o2):=hb2
  rw [q1'] at hb2'; cases hb2'
  by_cases hl:l=[]
  ·subst hl
   by_cases hc0:cap=0
   ·subst hc0
    obtain ⟨k1,k2⟩:=(hs.heap (w':=w.drew) rfl).extra (.view ⟨b2,0,none⟩ 5)
    refine emp hv' rfl (q:=some ⟨w.drew.heap.size,0,none⟩) (w1:=w.drew.alloc (.view ⟨b2,0,none⟩ 5)) ?_ ?_ k1 ((AAB.heap (w:=w) (w':=w.drew) rfl rfl rfl rfl).trans k2)
    ·rw [hv']; exact Lib.run_unsafeSliceData_zero w.drew _ _ _ Tryz.underlying168 ⟨b2,0,none⟩ 0 _ hsh
    ·rw [World.cell?_of_block (w:=w.drew) (ABq _ _ (World.block_lt_of_cell? w _ c1))]; exact c1
   ·refine emp hv' rfl (q:=some ⟨b2,0,none⟩) (w1:=w.drew) ?_ c1 (hs.heap rfl) (AAB.heap rfl rfl rfl rfl)
    rw [hv']; exact Lib.run_unsafeSliceData_row w.drew _ _ _ _ _ hc0
  ·have hlp:0<l.length:=List.length_pos_iff.2 hl
   have hSD:(Builtin.unsafeSliceData_ #[23] 168 #[v']).run Tryz.prog w.drew = .ok (.pointer (some ⟨b2,0,none⟩)) w.drew:=by
    rw [hv']; exact Lib.run_unsafeSliceData_row w.drew _ _ _ _ _ (by omega)
   have hsh':w.drew.shape? b2=some (5,((l.map fun x:UInt8=>Value.int .u8 x.toNat)++post).length):=by
    have q2':w.drew.heap[b2]?=_:=q2
    simp only [World.shape?,q2',List.size_toArray]
   have hcell:∀ i y,l[i]?=some y→w.drew.cell? ((⟨b2,0,none⟩:Addr).add i)=some (.int .u8 y.toNat):=by
    intro i y hy
    rw [ABG,Nat.zero_add]
    have q2':w.drew.heap[b2]?=_:=q2
    rw [cell_of_row w.drew b2 i _ _ _ q2']
    have hil:i<l.length:=(List.getElem?_eq_some_iff.1 hy).1
    simp only [List.getElem?_toArray]
    rw [List.getElem?_append_left (by simpa using hil),List.getElem?_map,hy]; rfl
   have hUS:=Lib.run_unsafeString_row (P:=Tryz.prog) w.drew 168 3 9 5 Tryz.underlying168 cellsByte b2 _ hsh' l hl (by simp) h63 hcell
   refine (ATa (W:=w) hv' c1 hSD c1 hUS).mono ?_
   rintro e w' ⟨rfl,rfl⟩
   obtain ⟨f1,f2,f3⟩:=A1x w.drew ⟨b2,0,none⟩ l.length
   obtain ⟨k1,k2⟩:=hs.die (w':=w.drew.freeze ⟨b2,0,none⟩ l.length) hj rfl f1 f2 f3 (by rw [AX9]; exact Nat.le_refl _) (fun b _=>AWy w.drew _ _ b) (fun b _ hne=>AXW w.drew _ _ b fun e=>hne 0 (by rw [e]; exact q1'))
   exact ⟨_,_,β,_,F,rfl,hk,k1,k2,Rep.of_val⟩
theorem A8s:Bc4 Tryz.prog 57:=fun id ver j v cp p x a l H K ho hg ha hj h63 hk=>A79 ho hg ha hj h63 hk
end
end Go.Proofs.YtnikbdnebdmmiaaGreatDoor
