/- What the proof of DiffAppliesCard stands on (texts merged; names shortened by a program): part 5. -/
import Derived.Test.YtkoilgokgaigbaaGreatDoorQD
import Derived.ProofKit
import Derived.Lib.LaidTab
import Derived.LaidHandle
import Derived.Handed
import Derived.ShapedOpen
import Derived.Shelf.Vars
import Derived.OpenShut
import Derived.ShutString
import Derived.ChangeOld
import Derived.Below
import Derived.Carry
import Derived.SizedLaws
import Derived.Lib.Bytealg
import Derived.WalkKit
import Derived.WalkSpells
import Derived.WalkLawsBesides
import Derived.Lib.Hide
import Derived.Deep.QuietTactic
import Derived.BigQuiet
import Derived.Deep.OwnRows
import Derived.Laws.CopyOwn
import Derived.Lib.ItoaMem
import Derived.Lib.AtoiAll
import Derived.Lib.SlTrimSet
import Derived.Lib.Strings
import Derived.Lib.IndexMore
import Derived.Shelf.Strings.Builder1
import Derived.Shelf.Strings.Builder2
import Derived.Shelf.Strings.OnBuilder
import Derived.Shelf.Strings.Trim
import Derived.Shelf.Small.Utf8
import Derived.Shelf.Small.Strs
import Derived.Shelf.Small.Wraps
import Derived.Shelf.Strconv.Atoi
import Derived.Shelf.Strconv.Itoa0
import Derived.Shelf.Strconv.Itoa1
import Derived.Shelf.LaysM
import Derived.Shelf.Strconv.Itoa2
import Derived.Shelf.Strconv.Itoa3
import Derived.Shelf.Strconv.AtoiErrFast
import Derived.Shelf.Strconv.ParseIntEmpty
import Derived.Shelf.Strconv.AtoiFail
import Derived.Shelf.Strconv.Clone
import Derived.Shelf.Strconv.SyntaxError
import Derived.Shelf.LaysC
import Derived.Shelf.Strconv.ToError
import Derived.Shelf.Strconv.Lower
import Derived.Shelf.Strconv.ParseUint10
import Derived.Shelf.Strconv.ParseUint10Empty
import Derived.Shelf.Strconv.ParseUint10Any
import Derived.Shelf.Strconv.ParseInt10
import Derived.Shelf.Strconv.AtoiLong
import Derived.Shelf.Strconv.AtoiInnerAll
import Derived.Shelf.Strconv.RangeError
import Derived.Shelf.Strconv.ToErrorRange
import Derived.Shelf.Strconv.AtoiAll
import Derived.Shelf.Strings.Search1
import Derived.Shelf.Strings.Search2
import Derived.Shelf.Strings.Cut
import Derived.Shelf.Strings.Shaped
import Derived.Shelf.Strings.Prefix
import Derived.Shelf.Strings.Runes
import Derived.Shelf.Strings.AsciiSet
import Derived.Shelf.Unicode.DecodeSlow
import Derived.Shelf.Bytes.SlIndexAt
import Derived.Shelf.Bytes.IndexByte
import Derived.Test.YtkoilgokgaigbaaGreatDoorProg
import Derived.Shelf.Strings.SlTrimAscii
set_option linter.defProp false
set_option linter.unusedSectionVars false
set_option linter.unusedSimpArgs false
set_option linter.unusedVariables false
namespace Go.Proofs.YtkoilgokgaigbaaGreatDoor
theorem aI_ {a b:Prop} (x:a) (y:b):a∧b:=⟨x,y⟩
section
open Go.RowKit
variable [AtW]
set_option autoImplicit false
universe u
class Tg {α:Sort u} (a:α):Type where
instance tg {α:Sort u} (a:α):Tg a:={}
def vif (t:Bool) (A B:Prop) [Tg A] [Tg B]:Prop:=if t=true then A else B
def At3 {α:Type} (o:Option α) (K:α→Prop) [Tg K]:Prop:=match o with | some y=>K y | none=>False
def AuP (A K:Prop) [Tg K]:Prop:=A∧K
def At1 {α:Type} (x:α) (K:α→Prop) [Tg K]:Prop:=K x
def vex (K:TV→Prop) [Tg K]:Prop:=∃ x,K x
def VC (P:Program) (f:FuncId) (xs:List TV) (H:List Ob) (K:TV→List Ob→Prop) [Tg K]:Prop:=Ato P f xs H K
def VY (P:Program) (id ver:Nat) (xs:List TV) (H:List Ob) (K:TV→List Ob→Prop) [Tg K]:Prop:=AAR P id ver xs H K
theorem AvI {P:Program} {f:FuncId} {xs:List TV} {H:List Ob} {K:TV→List Ob→Prop} (h:Ato P f xs H K):VC P f xs H K:=h
section
variable {A A' B K:Prop} {α:Type}
@[congr] theorem AX1 {t t':Bool} (h:t=t'):vif t A B=vif t' A B:=by rw [h]
@[congr] theorem AV8 {o o':Option α} {K:α→Prop} (h:o=o'):At3 o K=At3 o' K:=by rw [h]
@[congr] theorem AWd (h:A=A'):AuP A K=AuP A' K:=by rw [h]
@[congr] theorem AV5 {x x':α} {K:α→Prop} (h:x=x'):At1 x K=At1 x' K:=by rw [h]
@[congr] theorem AXn {P:Program} {c:Atc} {Q:VEx→Env→List Ob→Prop} {e e':Env} {H H':List Ob} (he:e=e') (hH:H=H'):vwp P c Q e H=vwp P c Q e' H':=by rw [he,hH]
@[congr] theorem AZj {P:Program} {f:FuncId} {xs xs':List TV} {H H':List Ob} {K:TV→List Ob→Prop} (he:xs=xs') (hH:H=H'):VC P f xs H K=VC P f xs' H' K:=by rw [he,hH]
@[congr] theorem AZg {P:Program} {id ver:Nat} {xs xs':List TV} {H H':List Ob} {K:TV→List Ob→Prop} (he:xs=xs') (hH:H=H'):VY P id ver xs H K=VY P id ver xs' H' K:=by rw [he,hH]
theorem ARX:vif true A B=A:=by simp [vif]
theorem AOV:vif false A B=B:=by simp [vif]
theorem AYP {p:Prop} [Decidable p] (h:p):vif (decide p) A B=A:=by simp [vif,h]
theorem AX6 {p:Prop} [Decidable p] (h:¬ p):vif (decide p) A B=B:=by simp [vif,h]
theorem AVa {t:Bool}:vif (!t) A B=vif t B A:=by cases t<;>simp [vif]
theorem AHh {p:Prop} [Decidable p] (h1:p→A) (h2:¬ p→B):vif (decide p) A B:=by by_cases h:p<;>simp [vif,h,h1,h2]
theorem AVF {s t:Bool}:vif (s && t) A B=vif s (vif t A B) B:=by cases s<;>simp [vif]
theorem AWk {s t:Bool}:vif (s || t) A B=vif s A (vif t A B):=by cases s<;>simp [vif]
theorem APv {y:α} {K:α→Prop}:At3 (some y) K=K y:=rfl
theorem AQC {β:Type} {f:α→β} {o:Option α} {K:β→Prop}:At3 (o.map f) K=At3 o fun y=>K (f y):=by cases o<;>rfl
theorem AUn {cs:List α} {i:Nat} {K:α→Prop} (h:i<cs.length):At3 cs[i]? K=K cs[i]:=by rw [List.getElem?_eq_getElem h]; rfl
theorem APl (h:A):AuP A K=K:=by simp [AuP,h]
theorem AWz:AuP True K=K:=by simp [AuP]
theorem ASk:AuP (A∧B) K=AuP A (AuP B K):=by simp [AuP,and_assoc]
theorem AVd {x:α} {K:α→Prop}:At1 x K=K x:=rfl
end
def AvO:Option Ob→Nat→Option TV
 | some (.obj v x),ver=>if v=ver then some x else none
 | _,_=>none
theorem ASa {v:Nat} {x:TV}:AvO (some (.obj v x)) v=some x:=by simp [AvO]
section
variable {H l:List Ob} {o:Ob} {n k:Nat}
theorem AXl (h:H.length=n):(H++l)[n]?=l[0]?:=by rw [List.getElem?_append_right (by omega),h,Nat.sub_self]
theorem ATZ (h:H.length=n):(H++l)[n+k]?=l[k]?:=by rw [List.getElem?_append_right (by omega)]; congr 1; omega
theorem AXj (h:n<H.length):(H++l)[n]?=H[n]?:=List.getElem?_append_left h
theorem AYk (h:n<H.length):(H.set n o)[n]?=some o:=by simp [h]
theorem APT {m:Nat} (h:m≠n):(H.set m o)[n]?=H[n]?:=by rw [List.getElem?_set_ne h]
theorem AVl (h:H.length=n):(H++l).set n o=H++l.set 0 o:=by rw [List.set_append_right _ _ (by omega),h,Nat.sub_self]
theorem AQv (h:H.length=n):(H++l).set (n+k) o=H++l.set k o:=by rw [List.set_append_right _ _ (by omega)]; congr 2; omega
theorem AVx (h:n<H.length):(H++l).set n o=H.set n o++l:=List.set_append_left _ _ h
end
section
variable {P:Program} {e:Env} {H:List Ob}
def AOn (c a b:TV) (K:TV→Prop) [Tg K]:Prop:=match c with | .val (.bool t)=>K (if t then a else b) | _=>False
def AZi (t:TypeId) (op:BinOp) (x y:TV) (K:TV→Prop) [Tg K]:Prop:=match x,y with
  | .val u,.val v=>AQh u v=true∧(match Axl t op u v with | some r=>K (.val r) | none=>False)
  | _,_=>False
def Pun (op:UnOp) (x:TV) (K:TV→Prop) [Tg K]:Prop:=match x with
  | .val u=>(match unV op u with | some r=>K (.val r) | none=>False)
  | _=>False
def AQH (k:IntKind) (x:TV) (K:TV→Prop) [Tg K]:Prop:=match x with
  | .val (.int _ n)=>K (.val (.int k (k.wrap n)))
  | _=>False
def AZm (x:TV) (K:TV→Prop) [Tg K]:Prop:=match x with
  | .val (.string s)=>K (.val (.string s))
  | _=>False
def AZe (x:Option (List TV)) (K:TV→Prop) [Tg K]:Prop:=match x with
  | some cs=>(∀ y∈cs,ANl y)∧K (.val (.string (str (cs.map AFX))))
  | none=>False
def AK7 (H:List Ob) (ag:Bool) (sz:Nat) (x:TV) (K:TV→Prop) [Tg K]:Prop:=match x with
  | .fp y=>AId ag sz y∧K y
  | .op id ver p=>(match H[id]? with
   | some (.obj v x)=>v=ver∧(match Ax2 p x with | some y=>AId ag sz y∧K y | none=>False)
   | _=>False)
  | _=>False
def AFp (i off:Nat) (x:TV) (K:TV→Prop) [Tg K]:Prop:=match x with
  | .op id ver p=>K (.op id ver (p++[(i,off)]))
  | .fp (.agg cs)=>Auh (cs.take i)=off∧(match cs[i]? with | some y=>K (.fp y) | none=>False)
  | _=>False
def AJJ (ag:Bool) (sz i off:Nat) (x:TV) (K:TV→Prop) [Tg K]:Prop:=match x with
  | .agg cs=>Auh (cs.take i)=off∧(match cs[i]? with | some y=>AId ag sz y∧K y | none=>False)
  | _=>False
def ANh (k:Nat) (x i:TV) (K:TV→Prop) [Tg K]:Prop:=match x,i with
  | .sl k' cs,.val (.int _ j)=>k'=k∧0≤j∧(match cs[j.toNat]? with | some y=>K (.fp y) | none=>False)
  | .os k' id ver p off n cp,.val (.int _ j)=>k'=k∧0≤j∧j<n∧K (.op id ver (p++[(off+j.toNat,(off+j.toNat)*k)]))
  | _,_=>False
def AIk (n k:Nat) (x i:TV) (K:TV→Prop) [Tg K]:Prop:=match x,i with
  | .fp (.arr n' k' cs),.val (.int _ j)=>k'=k∧n'=n∧0≤j∧(match cs[j.toNat]? with | some y=>K (.fp y) | none=>False)
  | .op id ver p,.val (.int _ j)=>0≤j∧j<n∧K (.op id ver (p++[(j.toNat,j.toNat*k)]))
  | _,_=>False
def AWu (ag:Bool) (n k:Nat) (x i:TV) (K:TV→Prop) [Tg K]:Prop:=match x,i with
  | .arr n' k' cs,.val (.int _ j)=>k'=k∧n'=n∧0≤j∧(match cs[j.toNat]? with | some y=>AId ag k y∧K y | none=>False)
  | _,_=>False
def AN9 (x i:TV) (K:TV→Prop) [Tg K]:Prop:=match x,i with
  | .val (.string s),.val (.int _ j)=>0≤j∧(match (bl s)[j.toNat]? with | some b=>K (by8 b) | none=>False)
  | _,_=>False
def AYE (i:Nat) (x:TV) (K:TV→Prop) [Tg K]:Prop:=match x with
  | .tup xs=>(match xs[i]? with | some y=>K y | none=>False)
  | _=>False
def AQS (x:TV) (K:TV→Prop) [Tg K]:Prop:=match x with
  | .val (.string s)=>K (.val (.int .i64 (bl s).length))
  | _=>False
def AMo (x:TV) (K:TV→Prop) [Tg K]:Prop:=match x with
  | .val (.slice _ n _)=>K (.val (.int .i64 n))
  | .sl _ cs=>K (.val (.int .i64 cs.length))
  | .os _ _ _ _ _ n _=>K (.val (.int .i64 n))
  | _=>False
def AJj (lo hi:Option TV) (len lim:Nat) (K:Nat→Nat→Prop) [Tg K]:Prop :=
 match (match lo with | none=>some 0 | some x=>(match x with | .val (.int _ i)=>some i | _=>none)),(match hi with | none=>some (len:Int) | some x=>(match x with | .val (.int _ i)=>some i | _=>none)) with
 | some l,some h=>(0≤l∧l≤h∧h≤lim)∧K l.toNat h.toNat
 | _,_=>False
def evO (e:Env):Option Opd→Option TV
 | none=>none
 | some x=>some (x.ev e)
theorem ASj:evO e none=none:=As8 rfl
theorem ARA {x:Opd}:evO e (some x)=some (x.ev e):=As8 rfl
theorem AN2 {lo hi:Option Opd} {len lim:Nat} {K:Nat→Nat→Prop}:bnd e lo hi len lim K=AJj (evO e lo) (evO e hi) len lim K:=by
 cases lo<;>cases hi<;>rfl
def AZc (x:TV) (lo hi:Option TV) (K:TV→Prop) [Tg K]:Prop:=match x with
  | .val (.string s)=>AJj lo hi (bl s).length (bl s).length fun l h=>K (.val (.string (str (((bl s).drop l).take (h - l)))))
  | _=>False
def AWb (k:Nat) (x:TV) (lo hi:Option TV) (K:TV→Prop) [Tg K]:Prop:=match x with
  | .sl k' cs=>k'=k∧AJj lo hi cs.length cs.length fun l h=>K (.sl k ((cs.drop l).take (h - l)))
  | .os k' id ver p off n cp=>k'=k∧AJj lo hi n cp fun l h=>K (.os k id ver p (off+l) (h - l) (cp - l))
  | .val (.slice ad 0 0)=>AJj lo hi 0 0 fun l h=>K (.val (.slice ad 0 0))
  | _=>False
def AV7 (H:List Ob) (n k:Nat) (x:TV) (lo hi:Option TV) (K:TV→Prop) [Tg K]:Prop:=match x with
  | .fp (.arr n' k' cs)=>k'=k∧n'=n∧n≤9223372036854775807∧AJj lo hi n n fun l h=>K (.sl k ((cs.drop l).take (h - l)))
  | .op id ver p=>(match H[id]? with
   | some (.obj v x)=>v=ver∧n≤9223372036854775807∧(match Ax2 p x with | some (.arr n' k' cs)=>k'=k∧n'=n∧AJj lo hi n n fun l h=>K (.os k id ver p l (h - l) (n - l)) | _=>False)
   | _=>False)
  | _=>False
def AL6 (t:TypeId) (x:TV) (K:TV→Prop) [Tg K]:Prop:=lays x=true∧K (.ifc t x)
def AWM (f:Fn) (first caps:List TV) (K:TV→Prop) [Tg K]:Prop:=(∀ x∈first++caps,AuA x=false)∧K (.fn f first caps)
def AJ3 (x:TV) (K:TV→Prop) [Tg K]:Prop:=match x with
  | .op id ver p=>K (.op id ver p)
  | .fp y=>K (.fp y)
  | .fn (.func f) a b=>K (.fn (.func f) a b)
  | .ifc t y=>K (.ifc t y)
  | .val (.func (.func f) a b)=>K (.val (.func (.func f) a b))
  | _=>False
def AY0 (x y:TV) (K:TV→Prop) [Tg K]:Prop:=match x,y with
  | .val (.int k a),.val (.int _ b)=>K (.val (.int k (if b<a then b else a)))
  | _,_=>False
def AY7 (x y:TV) (K:TV→Prop) [Tg K]:Prop:=match x,y with
  | .val (.int k a),.val (.int _ b)=>K (.val (.int k (if b > a then b else a)))
  | _,_=>False
def AHs (g:GOp) (H:List Ob) (xs:List TV) (K:TV→Prop) [Tg K]:Prop:=match gev g H xs with
  | some y=>K y
  | none=>False
def AWJ (neg:Bool) (x y:TV) (K:TV→Prop) [Tg K]:Prop:=match x,y with
  | .val (.bool a),.val (.bool b)=>K (.val (.bool (xor neg (a == b))))
  | _,_=>False
def AWi (neg:Bool) (x y:Option Bool) (K:TV→Prop) [Tg K]:Prop:=match x,y with
  | some true,some b=>K (.val (.bool (xor neg b)))
  | some false,some true=>K (.val (.bool (xor neg false)))
  | _,_=>False
def AJx (H:List Ob) (sz:Nat) (x v:TV) (K:TV→List Ob→Prop) [Tg K]:Prop:=(lays v=true∧Atu v=sz)∧(match x with
  | .op id ver p=>(match H[id]? with
   | some (.obj vr y)=>vr=ver∧(match ADt p y v with | some y'=>K .any (H.set id (.obj ver y')) | none=>False)
   | _=>False)
  | _=>False)
def AY6 (H:List Ob) (k bytes:Nat) (z l c:TV) (K:TV→List Ob→Prop) [Tg K]:Prop:=match l,c with
  | .val (.int _ l),.val (.int _ c)=>(0≤l∧l≤c∧(bytes:Int)*c≤281474976710656∧c≤9223372036854775807)∧K (.os k H.length 0 [] 0 l.toNat c.toNat) (H++[.obj 0 (.arr c.toNat k (List.replicate c.toNat z))])
  | _,_=>False
def AVK (k bytes:Nat) (et:TypeId) (x:TV) (y:Option (List TV)) (H:List Ob) (K:TV→List Ob→Prop) [Tg K]:Prop:=match y with
  | some ys=>AJ2 k bytes et x ys H K
  | none=>False
def AK5 (k:Nat) (x:TV) (y:Option (List TV)) (H:List Ob) (K:TV→List Ob→Prop) [Tg K]:Prop:=match y with
  | some ys=>ACO k x ys H K
  | none=>False
def ASn (et:TypeId) (x y:TV) (H:List Ob) (K:TV→List Ob→Prop) [Tg K]:Prop:=match y with
  | .val (.string s)=>AJ2 1 1 et x ((bl s).map by8) H K
  | _=>False
def ALZ (x y:TV) (H:List Ob) (K:TV→List Ob→Prop) [Tg K]:Prop:=match y with
  | .val (.string s)=>ACO 1 x ((bl s).map by8) H K
  | _=>False
def AQx (P:Program) (f:FuncId) (x:Option (Nat×Nat×List UInt8)) (H:List Ob) (K:TV→List Ob→Prop) [Tg K]:Prop:=A0I P f∧(match x with
  | some (j,v,l)=>l.length≤9223372036854775807∧K (.val (.string (str l))) (H.set j (.gone v))
  | none=>False)
def AY9 (H:List Ob) (x:TV) (K:TV→List Ob→Prop) [Tg K]:Prop:=match x with
  | .val (.string s)=>(bl s).length≤9223372036854775807∧K (.os 1 H.length 0 [] 0 (bl s).length (bl s).length) (H++[.obj 0 (.arr (bl s).length 1 ((bl s).map by8))])
  | _=>False
def ASP (k bytes:Nat) (z x n:TV) (H:List Ob) (K:TV→List Ob→Prop) [Tg K]:Prop:=match x,n with
  | .val (.slice none 0 0),.val (.int .i64 j)=>(0≤j∧(bytes:Int)*j≤140737488355328∧j≤9223372036854775807)∧K (.os k H.length 0 [] 0 j.toNat j.toNat) (H++[.obj 0 (.arr j.toNat k (List.replicate j.toNat z))])
  | _,_=>False
def AMH (H:List Ob) (K:TV→List Ob→Prop) [Tg K]:Prop:=K (.val (.bool true)) H∧K (.val (.bool false)) H
def ATv (neg:Bool) (x:TV) (H:List Ob) (K:TV→List Ob→Prop) [Tg K]:Prop:=match x with
  | .val (.slice a _ _)=>K (.val (.bool (xor neg a.isNone))) H
  | .sl _ cs=>(cs=[]→K (.val (.bool true)) H∧K (.val (.bool false)) H)∧(cs≠[]→K (.val (.bool neg)) H)
  | .os _ _ _ _ _ n _=>(n=0→K (.val (.bool true)) H∧K (.val (.bool false)) H)∧(n≠0→K (.val (.bool neg)) H)
  | _=>False
def AIj (P:Program) (x:TV) (args:List TV) (H:List Ob) (K:TV→List Ob→Prop) [Tg K]:Prop:=match x with
  | .fn (.func f) first caps=>AGh P f=true∧Ato P f (first++args++caps) H K
  | .val (.func (.func f) xs ys)=>(xs.isEmpty && ys.isEmpty)=true∧AGh P f=true∧Ato P f args H K
  | .yl id ver=>AAR P id ver args H K
  | _=>False
def AXE (P:Program) (nm:String) (x:TV) (args:List TV) (H:List Ob) (K:TV→List Ob→Prop) [Tg K]:Prop:=AZa P nm H x fun f r=>Ato P f (r::args) H K
def AWe (P:Program) (q:Option (FuncId×Option (Bool×Nat))) (r:TV) (args:List TV) (H:List Ob) (K:TV→List Ob→Prop) [Tg K]:Prop:=match q with
 | some (f,none)=>AGh P f=true∧Ato P f (r::args) H K
 | some (f,some (ag,sz))=>AGh P f=true∧ldT H ag sz r fun y=>Ato P f (y::args) H K
 | none=>False
def Gd (q:Option Bool) (b:Bool) (A B:Prop) [Tg A] [Tg B]:Prop:=match q with
 | some t=>if t=b then A else B
 | none=>B
def evs (e:Env) (xs:List Opd):List TV:=xs.map (·.ev e)
theorem AUU:evs e []=[]:=As8 rfl
theorem AS2 {x:Opd} {xs:List Opd}:evs e (x::xs)=x.ev e::evs e xs:=As8 rfl
def ACE (xs:List TV):Prop:=∀ x∈xs,AuA x=false
theorem ANZ:ACE []=True:=by simp [ACE]
theorem AMN {x:TV} {xs:List TV}:ACE (x::xs)=(AuA x=false∧ACE xs):=by simp [ACE]
theorem AAb {args:List Opd}:(∀ x∈args,AuA (x.ev e)=false)=ACE (evs e args):=by simp [ACE,evs]
section
variable {c c' a a' b b' x x' y y':TV} {K:TV→Prop} {KK:TV→List Ob→Prop} {lo lo' hi hi':Option TV} {ox ox':Option (List TV)} {q q' q2 q2':Option Bool} {xs xs':List TV} {A B:Prop} {H':List Ob}
@[congr] theorem A0u (h1:c=c') (h2:a=a') (h3:b=b'):AOn c a b K=AOn c' a' b' K:=by rw [h1,h2,h3]
@[congr] theorem A15 {t:TypeId} {op:BinOp} (h1:x=x') (h2:y=y'):AZi t op x y K=AZi t op x' y' K:=by rw [h1,h2]
@[congr] theorem A2s {op:UnOp} (h1:x=x'):Pun op x K=Pun op x' K:=by rw [h1]
@[congr] theorem A0P {k:IntKind} (h1:x=x'):AQH k x K=AQH k x' K:=by rw [h1]
@[congr] theorem A1O (h1:x=x'):AZm x K=AZm x' K:=by rw [h1]
@[congr] theorem A1C (h1:ox=ox'):AZe ox K=AZe ox' K:=by rw [h1]
@[congr] theorem A04 {ag:Bool} {sz:Nat} (h1:x=x') (h2:H=H'):AK7 H ag sz x K=AK7 H' ag sz x' K:=by rw [h1,h2]
@[congr] theorem AXK {i o:Nat} (h1:x=x'):AFp i o x K=AFp i o x' K:=by rw [h1]
@[congr] theorem AZk {ag:Bool} {sz i o:Nat} (h1:x=x'):AJJ ag sz i o x K=AJJ ag sz i o x' K:=by rw [h1]
@[congr] theorem A0K {k:Nat} (h1:x=x') (h2:y=y'):ANh k x y K=ANh k x' y' K:=by rw [h1,h2]
@[congr] theorem AY4 {n k:Nat} (h1:x=x') (h2:y=y'):AIk n k x y K=AIk n k x' y' K:=by rw [h1,h2]
@[congr] theorem A1X {ag:Bool} {n k:Nat} (h1:x=x') (h2:y=y'):AWu ag n k x y K=AWu ag n k x' y' K:=by rw [h1,h2]
@[congr] theorem AZ7 (h1:x=x') (h2:y=y'):AN9 x y K=AN9 x' y' K:=by rw [h1,h2]
@[congr] theorem A1K {i:Nat} (h1:x=x'):AYE i x K=AYE i x' K:=by rw [h1]
@[congr] theorem A1j (h1:x=x'):AQS x K=AQS x' K:=by rw [h1]
@[congr] theorem A1y (h1:x=x'):AMo x K=AMo x' K:=by rw [h1]
@[congr] theorem A14 {n m:Nat} {K:Nat→Nat→Prop} {n' m':Nat} (h1:lo=lo') (h2:hi=hi') (h3:n=n') (h4:m=m'):AJj lo hi n m K=AJj lo' hi' n' m' K:=by rw [h1,h2,h3,h4]
@[congr] theorem A19 (h1:x=x') (h2:lo=lo') (h3:hi=hi'):AZc x lo hi K=AZc x' lo' hi' K:=by rw [h1,h2,h3]
@[congr] theorem A18 {k:Nat} (h1:x=x') (h2:lo=lo') (h3:hi=hi'):AWb k x lo hi K=AWb k x' lo' hi' K:=by rw [h1,h2,h3]
@[congr] theorem A1H {n k:Nat} (h0:H=H') (h1:x=x') (h2:lo=lo') (h3:hi=hi'):AV7 H n k x lo hi K=AV7 H' n k x' lo' hi' K:=by rw [h0,h1,h2,h3]
@[congr] theorem AY2 {t:TypeId} (h1:x=x'):AL6 t x K=AL6 t x' K:=by rw [h1]
@[congr] theorem A1N {f:Fn} {ys ys':List TV} (h1:xs=xs') (h2:ys=ys'):AWM f xs ys K=AWM f xs' ys' K:=by rw [h1,h2]
@[congr] theorem A05 (h1:x=x'):AJ3 x K=AJ3 x' K:=by rw [h1]
@[congr] theorem A1V (h1:x=x') (h2:y=y'):AY0 x y K=AY0 x' y' K:=by rw [h1,h2]
@[congr] theorem A12 (h1:x=x') (h2:y=y'):AY7 x y K=AY7 x' y' K:=by rw [h1,h2]
@[congr] theorem A1E {g:GOp} {xs xs':List TV} (h1:H=H') (h2:xs=xs'):AHs g H xs K=AHs g H' xs' K:=by rw [h1,h2]
@[congr] theorem A1R {n:Bool} (h1:x=x') (h2:y=y'):AWJ n x y K=AWJ n x' y' K:=by rw [h1,h2]
@[congr] theorem A1Z {n:Bool} (h1:q=q') (h2:q2=q2'):AWi n q q2 K=AWi n q' q2' K:=by rw [h1,h2]
@[congr] theorem AY1 {sz:Nat} (h0:H=H') (h1:x=x') (h2:y=y'):AJx H sz x y KK=AJx H' sz x' y' KK:=by rw [h0,h1,h2]
@[congr] theorem A1Y {k n:Nat} {z:TV} (h0:H=H') (h1:x=x') (h2:y=y'):AY6 H k n z x y KK=AY6 H' k n z x' y' KK:=by rw [h0,h1,h2]
@[congr] theorem A1P {k n:Nat} {et:TypeId} (h0:H=H') (h1:x=x') (h2:ox=ox'):AVK k n et x ox H KK=AVK k n et x' ox' H' KK:=by rw [h0,h1,h2]
@[congr] theorem A0C {k:Nat} (h0:H=H') (h1:x=x') (h2:ox=ox'):AK5 k x ox H KK=AK5 k x' ox' H' KK:=by rw [h0,h1,h2]
@[congr] theorem A1f {et:TypeId} (h0:H=H') (h1:x=x') (h2:y=y'):ASn et x y H KK=ASn et x' y' H' KK:=by rw [h0,h1,h2]
@[congr] theorem AZd (h0:H=H') (h1:x=x') (h2:y=y'):ALZ x y H KK=ALZ x' y' H' KK:=by rw [h0,h1,h2]
@[congr] theorem A0e {P:Program} {f:FuncId} {r r':Option (Nat×Nat×List UInt8)} (h0:H=H') (h1:r=r'):AQx P f r H KK=AQx P f r' H' KK:=by rw [h0,h1]
@[congr] theorem A0j {k n:Nat} {z:TV} (h0:H=H') (h1:x=x') (h2:y=y'):ASP k n z x y H KK=ASP k n z x' y' H' KK:=by rw [h0,h1,h2]
@[congr] theorem A1I {n:Bool} (h0:H=H') (h1:x=x'):ATv n x H KK=ATv n x' H' KK:=by rw [h0,h1]
@[congr] theorem A1l (h0:H=H'):AMH H KK=AMH H' KK:=by rw [h0]
@[congr] theorem A1G (h0:H=H') (h1:x=x'):AY9 H x KK=AY9 H' x' KK:=by rw [h0,h1]
@[congr] theorem AZn (h0:H=H') (h1:x=x') (h2:xs=xs'):AIj P x xs H KK=AIj P x' xs' H' KK:=by rw [h0,h1,h2]
@[congr] theorem A1U {P:Program} {nm:String} (h0:H=H') (h1:x=x') (h2:xs=xs'):AXE P nm x xs H KK=AXE P nm x' xs' H' KK:=by rw [h0,h1,h2]
@[congr] theorem A2a {P:Program} {g g':Option (FuncId×Option (Bool×Nat))} (h:g=g') (h0:H=H') (h1:x=x') (h2:xs=xs'):AWe P g x xs H KK=AWe P g' x' xs' H' KK:=by rw [h,h0,h1,h2]
@[congr] theorem A2w {b:Bool} (h1:q=q'):Gd q b A B=Gd q' b A B:=by rw [h1]
end
section
variable {K:TV→Prop} {KK:TV→List Ob→Prop} {x y i a b c:Opd} {lo hi:Option Opd}
theorem A0L:pop (.mov x) e H K=At1 (x.ev e) K:=As8 rfl
theorem AWQ:pop (.pick c a b) e H K=AOn (c.ev e) (a.ev e) (b.ev e) K:=As8 rfl
theorem A0b {t:TypeId} {op:BinOp}:pop (.bin t op x y) e H K=AZi t op (x.ev e) (y.ev e) K:=As8 rfl
theorem A2d {op:UnOp}:pop (.un op x) e H K=Pun op (x.ev e) K:=As8 rfl
theorem AX7 {k:IntKind}:pop (.conv k x) e H K=AQH k (x.ev e) K:=As8 rfl
theorem AZr:pop (.s2s x) e H K=AZm (x.ev e) K:=As8 rfl
theorem A0f:pop (.b2s x) e H K=AZe (Aud H 1 (x.ev e)) K:=As8 rfl
theorem AWm {ag:Bool} {sz:Nat}:pop (.load ag sz x) e H K=AK7 H ag sz (x.ev e) K:=As8 rfl
theorem AQL {n o:Nat}:pop (.fieldA n o x) e H K=AFp n o (x.ev e) K:=As8 rfl
theorem AVB {ag:Bool} {sz n o:Nat}:pop (.field ag sz n o x) e H K=AJJ ag sz n o (x.ev e) K:=As8 rfl
theorem AWW {k:Nat}:pop (.idxA k x i) e H K=ANh k (x.ev e) (i.ev e) K:=As8 rfl
theorem AUv {n k:Nat}:pop (.idxAA n k x i) e H K=AIk n k (x.ev e) (i.ev e) K:=As8 rfl
theorem AZ3 {ag:Bool} {n k:Nat}:pop (.idx ag n k x i) e H K=AWu ag n k (x.ev e) (i.ev e) K:=As8 rfl
theorem AYO:pop (.idxS x i) e H K=AN9 (x.ev e) (i.ev e) K:=As8 rfl
theorem A0a {n:Nat}:pop (.ext n x) e H K=AYE n (x.ev e) K:=As8 rfl
theorem AXH:pop (.lenS x) e H K=AQS (x.ev e) K:=As8 rfl
theorem AX5:pop (.lenV x) e H K=AMo (x.ev e) K:=As8 rfl
theorem A0E:pop (.slS x lo hi) e H K=AZc (x.ev e) (evO e lo) (evO e hi) K:=by
 show (match x.ev e with | .val (.string s)=>bnd e lo hi (bl s).length (bl s).length fun l h=>K (.val (.string (str (((bl s).drop l).take (h - l))))) | _=>False)=_
 simp only [AN2]; rfl
theorem A0M {k:Nat}:pop (.slV k x lo hi) e H K=AWb k (x.ev e) (evO e lo) (evO e hi) K:=by
 rw [A1b]; simp only [AN2]; rfl
theorem A1e {n k:Nat}:pop (.slA n k x lo hi) e H K=AV7 H n k (x.ev e) (evO e lo) (evO e hi) K:=by
 rw [AZI]; simp only [AN2]; rfl
theorem AT1 {t:TypeId}:pop (.iface t x) e H K=AL6 t (x.ev e) K:=As8 rfl
theorem AZ0 {f:Fn} {xs ys:List Opd}:pop (.mkf f xs ys) e H K=AWM f (evs e xs) (evs e ys) K:=by
 rw [A1p]; unfold AWM evs; rw [←List.map_append]
 refine congrArg (· ∧ _) (propext ⟨fun h y hy => ?_,fun h y hy=>h _ (List.mem_map.2 ⟨y,hy,rfl⟩)⟩)
 obtain ⟨z,hz,rfl⟩:=List.mem_map.1 hy; exact h z hz
theorem AYV:pop (.nilc x) e H K=AJ3 (x.ev e) K:=As8 rfl
theorem AZL:pop (.min x y) e H K=AY0 (x.ev e) (y.ev e) K:=As8 rfl
theorem AZG:pop (.max x y) e H K=AY7 (x.ev e) (y.ev e) K:=As8 rfl
theorem A1A {g:GOp} {xs:List Opd}:pop (.gen g xs) e H K=AHs g H (evs e xs) K:=As8 rfl
theorem A0U {n:Bool}:pop (.eqB x y n) e H K=AWJ n (x.ev e) (y.ev e) K:=As8 rfl
theorem AZ4 {kd:Nat} {n:Bool}:pop (.eqN kd x y n) e H K=AWi n (AuW kd (x.ev e)) (AuW kd (y.ev e)) K:=As8 rfl
theorem ATW {zs:List TV} {szs:List Nat} {ps:List (Nat×Opd)}:pop (.build zs szs ps) e H K=AuP (Au4 e szs ps) (At1 (TV.agg (Avp e zs ps)) K):=As8 rfl
theorem ASW {n k:Nat} {zs:List TV} {ps:List (Nat×Opd)}:pop (.buildA n k zs ps) e H K=AuP (Au4 e (List.replicate n k) ps) (AuP (At6 e ps) (At1 (TV.arr n k (Avp e zs ps)) K)):=As8 rfl
theorem A0w {k n:Nat} {z:TV} {ps:List (Nat×Opd)}:pop (.bsl k n z ps) e H K=AuP (Au4 e (List.replicate n k) ps) (AuP (At6 e ps∧n≤1000) (At1 (TV.sl k (Avp e (List.replicate n z) ps)) K)):=by
 show ((_∧_∧_)∧_)=_
 simp only [AuP,At1,and_assoc]
theorem AVr {z:TV}:sop P (.alloc z) e H KK=At1 (H.length) fun n=>At1 (H++[.obj 0 z]) fun H'=>KK (.op n 0 []) H':=As8 rfl
theorem AQc {z:TV} {t:TypeId}:sop P (.allocT z t) e H KK=At1 (H.length) fun n=>At1 (Atu z) fun m=>At1 (H++[.obj 0 z,.fact n 0 t m]) fun H'=>KK (.op n 0 []) H':=As8 rfl
theorem AX9 {t:TypeId}:sop P (.boxT x t) e H KK=At1 (x.ev e) fun v=>AuP (lays v=true) (At1 (H.length) fun n=>At1 (Atu v) fun m=>At1 (H++[.obj 0 v,.fact n 0 t m]) fun H'=>KK (.op n 0 []) H'):=As8 rfl
theorem AWN {f:FuncId}:sop P (.bstr f x) e H KK=AQx P f (AM8 H (x.ev e)) H KK:=As8 rfl
def AQR (x:TV) (H:List Ob) (K:TV→List Ob→Prop) [Tg K]:Prop:=match x with
 | .val (.string s)=>K (.op H.length 0 []) (H++[.sit (bl s) 0])
 | _=>False
@[congr] theorem A0o {x x':TV} {H':List Ob} (h1:x=x') (h2:H=H'):AQR x H KK=AQR x' H' KK:=by rw [h1,h2]
theorem AXe:sop P (.rngS x) e H KK=AQR (x.ev e) H KK:=As8 rfl
theorem AR2 {s:ByteArray}:AQR (.val (.string s)) H KK=At1 H.length fun n=>At1 (H++[.sit (bl s) 0]) fun H'=>KK (.op n 0 []) H':=As8 rfl
def AOm:Option Ob→Option (List UInt8×Nat)
 | some (.sit s pos)=>some (s,pos)
 | _=>none
theorem ASe {s:List UInt8} {pos:Nat}:AOm (some (.sit s pos))=some (s,pos):=As8 rfl
def APS (x:TV) (H:List Ob) (K:TV→List Ob→Prop) [Tg K]:Prop:=match x with
 | .op id 0 []=>(match H[id]? with
  | some (.sit s pos)=>if pos<s.length then K (.tup [.val (.bool true),.val (.int .i64 (pos:Int)),.val (.int .i32 ((Utf8.decode (str s) pos).1:Int))]) (H.set id (.sit s (pos+(Utf8.decode (str s) pos).2))) else K (.tup [.val (.bool false)]) H
  | _=>False)
 | _=>False
@[congr] theorem A09 {x x':TV} {H':List Ob} (h1:x=x') (h2:H=H'):APS x H KK=APS x' H' KK:=by rw [h1,h2]
theorem AYI:sop P (.nxtS x) e H KK=APS (x.ev e) H KK:=As8 rfl
theorem AQ5 {id:Nat}:APS (.op id 0 []) H KK=At3 (AOm H[id]?) fun p=>vif (decide (p.2<p.1.length))
  (At1 (H.set id (.sit p.1 (p.2+(Utf8.decode (str p.1) p.2).2))) fun H'=>KK (.tup [.val (.bool true),.val (.int .i64 (p.2:Int)),.val (.int .i32 ((Utf8.decode (str p.1) p.2).1:Int))]) H') (KK (.tup [.val (.bool false)]) H):=by
 unfold APS
 cases h:H[id]? with
 | none=>simp [AOm,At3,h]
 | some o =>
  cases o with
  | sit s pos=>simp only [h,AOm,At3,At1]; by_cases hp:pos<s.length<;>simp [vif,hp]
  | _=>simp [AOm,At3,h]
theorem AZs:sop P (.box x) e H KK=At1 (x.ev e) fun v=>AuP (lays v=true) (At1 (H.length) fun n=>At1 (H++[.obj 0 v]) fun H'=>KK (.op n 0 []) H'):=As8 rfl
theorem AS5 {k n:Nat} {z:TV} {ps:List (Nat×Opd)}:sop P (.bslice k n z ps) e H KK=AuP (Au4 e (List.replicate n k) ps) (AuP (At6 e ps∧n≤1000) (At1 H.length fun m=>At1 (H++[.obj 0 (.arr n k (Avp e (List.replicate n z) ps))]) fun H'=>KK (.os k m 0 [] 0 n n) H')):=by
 rw [ARI]; simp only [AuP,At1,and_assoc]
def AGo (kk:MK):Option Ob→Option (List (List UInt8×TV))
 | some (.mpo kk' es)=>if kk'=kk then some es else none
 | _=>none
def AHz (kk:MK):Option Ob→Option (List (List UInt8×TV))
 | some (.mpo kk' es)=>if kk'=kk then some es else none
 | some (.mpd kk' zs _)=>if kk'=kk then some (zs.map (·.2)) else none
 | _=>none
theorem ASz {kk:MK} {es:List (List UInt8×TV)}:AHz kk (some (.mpo kk es))=some es:=by simp [AHz]
theorem AV1 {kk:MK} {zs:List (Nat×List UInt8×TV)} {cl:Nat}:AHz kk (some (.mpd kk zs cl))=some (zs.map (·.2)):=by simp [AHz]
def AKU:Option Ob→Option (List (List UInt8×TV))
 | some (.mpo _ es)=>some es
 | some (.mpd _ zs _)=>some (zs.map (·.2))
 | _=>none
theorem ARk {kk:MK} {es:List (List UInt8×TV)}:AKU (some (.mpo kk es))=some es:=by simp [AKU]
theorem AUS {kk:MK} {zs:List (Nat×List UInt8×TV)} {cl:Nat}:AKU (some (.mpd kk zs cl))=some (zs.map (·.2)):=by simp [AKU]
theorem ATJ {kk:MK} {es:List (List UInt8×TV)}:stO (some (.mpo kk es))=some (kk,AF0 0 es,es.length):=As8 rfl
theorem AUC {kk:MK} {zs:List (Nat×List UInt8×TV)} {cl:Nat}:stO (some (.mpd kk zs cl))=some (kk,zs,cl):=As8 rfl
def AOG (x:TV) (H:List Ob) (K:TV→List Ob→Prop) [Tg K]:Prop:=match x with
 | .mp id 0=>(match stO H[id]? with
  | some (_,_,cl)=>K (.op H.length 0 []) (H++[.mit id [] cl])
  | none=>False)
 | _=>False
@[congr] theorem A1m {x x':TV} {H':List Ob} (h1:x=x') (h2:H=H'):AOG x H KK=AOG x' H' KK:=by rw [h1,h2]
theorem AYd:sop P (.rngM x) e H KK=AOG (x.ev e) H KK:=As8 rfl
theorem ART {id:Nat}:AOG (.mp id 0) H KK=At3 (stO H[id]?) fun p=>At1 H.length fun n=>At1 (H++[.mit id [] p.2.2]) fun H'=>KK (.op n 0 []) H':=by
 unfold AOG
 cases h:stO H[id]? with
 | none=>simp [At3,h]
 | some o=>obtain ⟨a,b,c⟩:=o; simp [At3,At1,h]
def AJe:Option Ob→Option (Nat×List Nat×Nat)
 | some (.mit m sn cl)=>some (m,sn,cl)
 | _=>none
theorem AQg {m cl:Nat} {sn:List Nat}:AJe (some (.mit m sn cl))=some (m,sn,cl):=As8 rfl
def APb (x:TV) (H:List Ob) (K:TV→List Ob→Prop) [Tg K]:Prop:=match x with
 | .op id 0 []=>(match H[id]? with
  | some (.mit m sn cl)=>(match stO H[m]? with
   | some (kk,zs,cl')=>(cl'=cl∧∀ z∈zs,z.1<cl)∧(∀ z∈zs,z.1∉sn→K (.tup [.val (.bool true),kTV kk z.2.1,z.2.2]) (H.set id (.mit m (sn++[z.1]) cl)))∧((∀ z∈zs,z.1∈sn)→K (.tup [.val (.bool false)]) H)
   | none=>False)
  | _=>False)
 | _=>False
@[congr] theorem A0G {x x':TV} {H':List Ob} (h1:x=x') (h2:H=H'):APb x H KK=APb x' H' KK:=by rw [h1,h2]
theorem AYm:sop P (.nxtM x) e H KK=APb (x.ev e) H KK:=As8 rfl
def AY5 (id m:Nat) (sn:List Nat) (cl:Nat) (kk:MK) (zs:List (Nat×List UInt8×TV)) (cl':Nat) (H:List Ob) (K:TV→List Ob→Prop) [Tg K]:Prop :=
 (cl'=cl∧∀ z∈zs,z.1<cl)∧(∀ z∈zs,z.1∉sn→K (.tup [.val (.bool true),kTV kk z.2.1,z.2.2]) (H.set id (.mit m (sn++[z.1]) cl)))∧((∀ z∈zs,z.1∈sn)→K (.tup [.val (.bool false)]) H)
@[congr] theorem A13 {id m:Nat} {sn sn':List Nat} {cl c2:Nat} {kk:MK} {zs zs':List (Nat×List UInt8×TV)} {cl' c2':Nat} {H':List Ob} (h1:sn=sn') (h2:cl=c2) (h3:zs=zs') (h4:cl'=c2') (h5:H=H'):AY5 id m sn cl kk zs cl' H KK=AY5 id m sn' c2 kk zs' c2' H' KK:=by rw [h1,h2,h3,h4,h5]
theorem AQf {id:Nat}:APb (.op id 0 []) H KK=At3 (AJe H[id]?) fun p=>At3 (stO H[p.1]?) fun q=>AY5 id p.1 p.2.1 p.2.2 q.1 q.2.1 q.2.2 H KK:=by
 unfold APb
 cases h:H[id]? with
 | none=>simp [AJe,At3,h]
 | some o =>
  cases o with
  | mit m sn cl =>
   simp only [h,AJe,At3]
   cases h2:stO H[m]? with
   | none=>simp
   | some q=>obtain ⟨a,b,c⟩:=q; simp only [AY5]
  | _=>simp [AJe,At3,h]
def AXu (p:Nat×List Nat×Nat) (q:MK×List (Nat×List UInt8×TV)×Nat):Option TV:=match p.2.1.getLast? with
 | some s=>if q.2.2=p.2.2 then (match q.2.1.find? (·.1 == s) with
  | some z=>some (.tup [kTV q.1 z.2.1,z.2.2])
  | none=>none) else none
 | none=>none
def AV2 (kk:MK) (o:Option Ob):Option (List (Nat×List UInt8×TV)×Nat):=match stO o with
 | some (kk',zs,cl)=>if kk'=kk then some (zs,cl) else none
 | none=>none
theorem AQG {kk:MK} {es:List (List UInt8×TV)}:AV2 kk (some (.mpo kk es))=some (AF0 0 es,es.length):=by simp [AV2,stO]
theorem ARS {kk:MK} {zs:List (Nat×List UInt8×TV)} {cl:Nat}:AV2 kk (some (.mpd kk zs cl))=some (zs,cl):=by simp [AV2,stO]
def APt (kk:MK) (m k:TV) (H:List Ob) (K:TV→List Ob→Prop) [Tg K]:Prop:=match m,Aub kk k with
 | .mp id 0,some kb=>(match stO H[id]? with
  | some (kk',zs,cl)=>kk'=kk∧K .any (H.set id (.mpd kk (zs.eraseIdx (AHA kb (zs.map (·.2)))) cl))
  | none=>False)
 | _,_=>False
@[congr] theorem A1z {kk:MK} {H':List Ob} {m m' k k':TV} (h1:m=m') (h2:k=k') (h4:H=H'):APt kk m k H KK=APt kk m' k' H' KK:=by rw [h1,h2,h4]
theorem AX8 {kk:MK} {m k:Opd}:sop P (.delM kk m k) e H KK=APt kk (m.ev e) (k.ev e) H KK:=As8 rfl
theorem AQ0 {kk:MK} {id:Nat} {kx:TV}:APt kk (.mp id 0) kx H KK=At3 (AV2 kk H[id]?) fun p=>At3 (Aub kk kx) fun kb=>At1 (p.1.eraseIdx (AHA kb (p.1.map (·.2)))) fun zs=>At1 (H.set id (.mpd kk zs p.2)) fun H'=>KK .any H':=by
 unfold APt AV2
 cases h:stO H[id]? with
 | none=>cases Aub kk kx<;>simp [h,At3]
 | some q =>
  obtain ⟨kk',zs,cl⟩:=q
  by_cases hk:kk'=kk
  ·subst hk; cases Aub kk' kx<;>simp [h,At3,At1]
  ·cases Aub kk kx<;>simp [h,At3,hk]
def AYZ (H:List Ob) (x:TV) (K:TV→List Ob→Prop) [Tg K]:Prop:=match x with
 | .os k id ver [] off n cp=>n≠0∧obV H[id]?=some ver∧K (.os k id ver [] off n cp) H
 | _=>False
@[congr] theorem A1B {H':List Ob} {x x':TV} (h0:H=H') (h1:x=x'):AYZ H x KK=AYZ H' x' KK:=by rw [h0,h1]
theorem A0t {x:Opd}:sop P (.cvS x) e H KK=AYZ H (x.ev e) KK:=As8 rfl
theorem AVZ {k id ver off n cp:Nat}:AYZ H (.os k id ver [] off n cp) KK=AuP (n≠0) (AuP (obV H[id]?=some ver) (KK (.os k id ver [] off n cp) H)):=As8 rfl
theorem AWE {v:Nat} {y:TV}:obV (some (.obj v y))=some v:=As8 rfl
def APK (k:Nat) (z x:TV) (H:List Ob) (K:TV→List Ob→Prop) [Tg K]:Prop:=match x with
 | .os k' id ver p off n cp=>ACO k (.os k' id ver p off n cp) (List.replicate n z) H fun _ H'=>K .any H'
 | .val (.slice none 0 0)=>K .any H
 | _=>False
@[congr] theorem A0y {k:Nat} {z x x':TV} {H':List Ob} (h1:x=x') (h2:H=H'):APK k z x H KK=APK k z x' H' KK:=by rw [h1,h2]
theorem AXi {k:Nat} {z:TV}:sop P (.clrS k z x) e H KK=APK k z (x.ev e) H KK:=As8 rfl
theorem AOw {k:Nat} {z:TV}:APK k z (.val (.slice none 0 0)) H KK=KK .any H:=As8 rfl
theorem ASA {k id ver off n cp:Nat} {p:List (Nat×Nat)} {z:TV}:APK k z (.os k id ver p off n cp) H KK=At1 (List.replicate n z) fun ys=>AK5 k (.os k id ver p off n cp) (some ys) H fun _ H'=>KK .any H':=As8 rfl
theorem ARe {kk:MK} {es:List (List UInt8×TV)}:AGo kk (some (.mpo kk es))=some es:=by simp [AGo]
theorem AXx {l:List UInt8}:Aub .str (.val (.string (str l)))=some l:=by simp [Aub,bl,str]
theorem AXy {n:Nat} {l:List UInt8}:Aub (.arr n) (.arr n 1 (l.map by8))=some l:=by
 unfold Aub; simp only [AEa,ACj,and_self,if_true]
theorem AUj {z:TV} {r:Option TV}:AGr z false r=r.getD z:=by simp [AGr]
theorem ATI {z:TV} {r:Option TV}:AGr z true r = .tup [r.getD z,.val (.bool r.isSome)]:=by simp [AGr]
def AWa (x:TV) (A:Prop) [Tg A]:Prop:=match x with
 | .val (.int _ _)=>A
 | _=>False
@[congr] theorem A1T {x x':TV} {A:Prop} (h:x=x'):AWa x A=AWa x' A:=by rw [h]
theorem AUi {q:IntKind} {n:Int} {A:Prop}:AWa (.val (.int q n)) A=A:=by simp [AWa]
theorem AW8 {kk:MK}:sop P (.mkm kk none) e H KK=At1 H.length fun n=>At1 (H++[.mpo kk []]) fun H'=>KK (.mp n 0) H':=by simp [sop,At1]
theorem AXb {kk:MK}:sop P (.mkm kk (some x)) e H KK=AWa (x.ev e) (At1 H.length fun n=>At1 (H++[.mpo kk []]) fun H'=>KK (.mp n 0) H'):=by
 simp only [sop,At1,AWa]
 cases x.ev e with
 | val v=>cases v<;>simp
 | _=>simp
def APB (kk:MK) (m k v:TV) (H:List Ob) (K:TV→List Ob→Prop) [Tg K]:Prop:=match m,Aub kk k with
 | .mp id 0,some kb=>(match H[id]? with
  | some (.mpo kk' es)=>(kk'=kk∧lays v=true)∧K .any (H.set id (.mpo kk (AH8 kb v es)))
  | _=>False)
 | _,_=>False
@[congr] theorem AZ2 {kk:MK} {H':List Ob} {m m' k k' v v':TV} (h1:m=m') (h2:k=k') (h3:v=v') (h4:H=H'):APB kk m k v H KK=APB kk m' k' v' H' KK:=by rw [h1,h2,h3,h4]
theorem AXQ {kk:MK} {m k:Opd}:sop P (.mupd kk m k x) e H KK=APB kk (m.ev e) (k.ev e) (x.ev e) H KK:=As8 rfl
def AOH (kk:MK) (z m k:TV) (H:List Ob) (K:TV→List Ob→Prop) [Tg K]:Prop:=match m,Aub kk k with
 | .mp id 0,some kb=>(match H[id]? with
  | some (.mpo kk' es)=>kk'=kk∧K (.tup [(AGA kb es).getD z,.val (.int .i64 (AHA kb es))]) (H.set id (.mpo kk (AH8 kb ((AGA kb es).getD z) es)))
  | _=>False)
 | _,_=>False
@[congr] theorem AZP {kk:MK} {H':List Ob} {z m m' k k':TV} (h1:m=m') (h2:k=k') (h4:H=H'):AOH kk z m k H KK=AOH kk z m' k' H' KK:=by rw [h1,h2,h4]
theorem AYi {kk:MK} {z:TV} {m k:Opd}:sop P (.ment kk z m k) e H KK=AOH kk z (m.ev e) (k.ev e) H KK:=As8 rfl
def AOT (m st v:TV) (H:List Ob) (K:TV→List Ob→Prop) [Tg K]:Prop:=match m,st with
 | .mp id 0,.val (.int _ j)=>(match H[id]? with
  | some (.mpo kk es)=>(0≤j∧lays v=true)∧(match es[j.toNat]? with
   | some (k,_)=>K .any (H.set id (.mpo kk (es.set j.toNat (k,v))))
   | none=>False)
  | _=>False)
 | _,_=>False
@[congr] theorem AZw {H':List Ob} {m m' st st' v v':TV} (h1:m=m') (h2:st=st') (h3:v=v') (h4:H=H'):AOT m st v H KK=AOT m' st' v' H' KK:=by rw [h1,h2,h3,h4]
theorem AWR {m st:Opd}:sop P (.mest m st x) e H KK=AOT (m.ev e) (st.ev e) (x.ev e) H KK:=As8 rfl
theorem AUR {sz:Nat}:sop P (.store sz x y) e H KK=AJx H sz (x.ev e) (y.ev e) KK:=As8 rfl
theorem A0X {k n:Nat} {z:TV}:sop P (.mks k n z x y) e H KK=AY6 H k n z (x.ev e) (y.ev e) KK:=As8 rfl
theorem A1d {k n:Nat} {et:TypeId}:sop P (.app k n et x y) e H KK=AVK k n et (x.ev e) (Aud H k (y.ev e)) H KK:=As8 rfl
theorem AXY {et:TypeId}:sop P (.appS et x y) e H KK=ASn et (x.ev e) (y.ev e) H KK:=As8 rfl
theorem AWp {k:Nat}:sop P (.copy k x y) e H KK=AK5 k (x.ev e) (Aud H k (y.ev e)) H KK:=As8 rfl
theorem ATM:sop P (.copyS x y) e H KK=ALZ (x.ev e) (y.ev e) H KK:=As8 rfl
theorem AYT {k n:Nat} {z:TV}:sop P (.appZ k n z x y) e H KK=ASP k n z (x.ev e) (y.ev e) H KK:=As8 rfl
theorem A1s {n:Bool}:sop P (.eqS x n) e H KK=ATv n (x.ev e) H KK:=As8 rfl
theorem AZy:sop P (.s2b x) e H KK=AY9 H (x.ev e) KK:=As8 rfl
theorem AYQ {f:FuncId} {args:List Opd}:sop P (.call f args) e H KK=At1 (evs e args) fun xs=>AuP (ACE xs) (VC P f xs H KK):=by
 rw [AWr,AAb]; rfl
theorem A0O {nm:String} {args:List Opd}:sop P (.inv x nm args) e H KK=At1 (evs e args) fun xs=>AuP (ACE xs) (AXE P nm (x.ev e) xs H KK):=by
 show ((∀ y∈args,AuA (y.ev e)=false)∧_)=_
 rw [AAb]; rfl
theorem AUm {args:List Opd}:sop P (.callv x args) e H KK=At1 (evs e args) fun xs=>AuP (ACE xs) (AIj P (x.ev e) xs H KK):=by
 rw [AVj,AAb]; rfl
end
section
variable {K:TV→Prop} {KK:TV→List Ob→Prop} {x y:TV} {cs ys:List TV} {n n' k k':Nat} {id ver off cp:Nat} {p:List (Nat×Nat)} {j:Int} {q:IntKind} {lo hi:Option TV}
theorem ARs {t:Bool}:AOn (.val (.bool t)) x y K=vif t (K x) (K y):=by cases t<;>simp [AOn,vif]
theorem ATV {t:TypeId} {op:BinOp} {u v:Value}:AZi t op (.val u) (.val v) K=AuP (AQh u v=true) (At3 (Axl t op u v) fun r=>At1 (TV.val r) K):=by
 show (_∧_)=_; cases Axl t op u v<;>rfl
theorem AXA {op:UnOp} {u:Value}:Pun op (.val u) K=At3 (unV op u) fun r=>At1 (TV.val r) K:=by
 unfold Pun; simp only; cases unV op u<;>rfl
theorem ASI {k:IntKind}:AQH k (.val (.int q j)) K=At1 (TV.val (.int k (k.wrap j))) K:=As8 rfl
theorem AVk {s:ByteArray}:AZm (.val (.string s)) K=K (.val (.string s)):=As8 rfl
theorem ATD:AZe (some cs) K=AuP (∀ y∈cs,ANl y) (At1 (TV.val (.string (str (cs.map AFX)))) K):=As8 rfl
theorem ARb {ag:Bool} {sz:Nat}:AK7 H ag sz (.fp y) K=AuP (AId ag sz y) (K y):=As8 rfl
theorem AQs {ag:Bool} {sz:Nat}:AK7 H ag sz (.op id ver p) K=At3 (AvO H[id]? ver) fun x=>At3 (Ax2 p x) fun y=>AuP (AId ag sz y) (K y):=by
 unfold AK7
 simp only
 cases h:H[id]? with
 | none=>simp [AvO,At3]
 | some o =>
  cases o with
  | gone v=>simp [AvO,At3]
  | ice v m y=>simp [AvO,At3]
  | fact i v t m=>simp [AvO,At3]
  | bld v t l=>simp [AvO,At3]
  | lp st pe fn N en ps ca cb=>simp [AvO,At3]
  | mpo kk es=>simp [AvO,At3]
  | mpd kk zs cl=>simp [AvO,At3]
  | mit m sn cl=>simp [AvO,At3]
  | sit s pos=>simp [AvO,At3]
  | obj v x =>
   by_cases hv:v=ver
   ·subst hv; simp only [AvO,At3,AuP,if_true,true_and]; cases Ax2 p x<;>rfl
   ·simp [AvO,At3,hv]
theorem AML {i o:Nat}:AFp i o (.op id ver p) K=At1 (p++[(i,o)]) fun p=>K (.op id ver p):=As8 rfl
theorem AMq {i o:Nat}:AFp i o (.fp (.agg cs)) K=AuP (Auh (cs.take i)=o) (At3 cs[i]? fun y=>K (.fp y)):=by
 unfold AFp; simp only; cases cs[i]?<;>rfl
theorem AOy {ag:Bool} {sz i o:Nat}:AJJ ag sz i o (.agg cs) K=AuP (Auh (cs.take i)=o) (At3 cs[i]? fun y=>AuP (AId ag sz y) (K y)):=by
 unfold AJJ; simp only; cases cs[i]?<;>rfl
theorem ARZ:ANh k (.sl k cs) (.val (.int q j)) K=AuP (0≤j) (At3 cs[j.toNat]? fun y=>K (.fp y)):=by
 unfold ANh; simp only [true_and]; cases cs[j.toNat]?<;>rfl
theorem ARp:ANh k (.os k id ver p off n cp) (.val (.int q j)) K=AuP (0≤j∧j<n) (At1 (off+j.toNat) fun m=>At1 (p++[(m,m*k)]) fun p=>K (.op id ver p)):=by
 show (k=k∧_)=_; simp [AuP,At1,and_assoc]
theorem AOt:AIk n k (.fp (.arr n k cs)) (.val (.int q j)) K=AuP (0≤j) (At3 cs[j.toNat]? fun y=>K (.fp y)):=by
 unfold AIk; simp only [true_and]; cases cs[j.toNat]?<;>rfl
theorem AOS:AIk n k (.op id ver p) (.val (.int q j)) K=AuP (0≤j∧j<n) (At1 j.toNat fun m=>At1 (p++[(m,m*k)]) fun p=>K (.op id ver p)):=by
 show (_∧_)=_; simp [AuP,At1,and_assoc]
theorem AUZ {ag:Bool}:AWu ag n k (.arr n k cs) (.val (.int q j)) K=AuP (0≤j) (At3 cs[j.toNat]? fun y=>AuP (AId ag k y) (K y)):=by
 unfold AWu; simp only [true_and]; cases cs[j.toNat]?<;>rfl
theorem ASs {s:ByteArray}:AN9 (.val (.string s)) (.val (.int q j)) K=AuP (0≤j) (At3 (bl s)[j.toNat]? fun b=>K (by8 b)):=by
 unfold AN9; simp only; cases (bl s)[j.toNat]?<;>rfl
theorem AVo {i:Nat}:AYE i (.tup cs) K=At3 cs[i]? K:=by
 unfold AYE; simp only; cases cs[i]?<;>rfl
theorem AQl {s:ByteArray}:AQS (.val (.string s)) K=At1 (TV.val (.int .i64 (bl s).length)) K:=As8 rfl
theorem AQA:AMo (.sl k cs) K=At1 (TV.val (.int .i64 cs.length)) K:=As8 rfl
theorem AQa:AMo (.os k id ver p off n cp) K=K (.val (.int .i64 n)):=As8 rfl
theorem AP1 {ad:Option Addr} {c:Nat}:AMo (.val (.slice ad n c)) K=K (.val (.int .i64 n)):=As8 rfl
section
variable {len lim:Nat} {KN:Nat→Nat→Prop} {l h:Int} {q2:IntKind}
theorem AVf:AJj none none len lim KN=AuP (len≤lim) (KN 0 len):=by
 show ((0≤(0:Int)∧(0:Int)≤(len:Int)∧(len:Int)≤lim)∧KN (Int.toNat 0) (Int.toNat len))=_
 simp [AuP]
theorem AVy:AJj (some (.val (.int q l))) none len lim KN=AuP (0≤l∧l≤len∧(len:Int)≤lim) (At1 l.toNat fun l=>KN l len):=by
 show ((0≤l∧l≤(len:Int)∧(len:Int)≤lim)∧KN l.toNat (Int.toNat len))=_
 simp [AuP,At1]
theorem ATR:AJj none (some (.val (.int q h))) len lim KN=AuP (0≤h∧h≤lim) (At1 h.toNat fun h=>KN 0 h):=by
 show ((0≤(0:Int)∧0≤h∧h≤lim)∧KN (Int.toNat 0) h.toNat)=_
 simp [AuP,At1]
theorem AT3:AJj (some (.val (.int q l))) (some (.val (.int q2 h))) len lim KN=AuP (0≤l∧l≤h∧h≤lim) (At1 l.toNat fun l=>At1 h.toNat fun h=>KN l h):=As8 rfl
end
theorem AUK {s:ByteArray}:AZc (.val (.string s)) lo hi K=AJj lo hi (bl s).length (bl s).length fun l h=>At1 (((bl s).drop l).take (h - l)) fun r=>K (.val (.string (str r))):=As8 rfl
theorem AVb:AWb k (.sl k cs) lo hi K=AJj lo hi cs.length cs.length fun l h=>At1 ((cs.drop l).take (h - l)) fun r=>K (.sl k r):=by
 exact propext ⟨fun h=>h.2,fun h=>⟨rfl,h⟩⟩
theorem AUA:AWb k (.os k id ver p off n cp) lo hi K=AJj lo hi n cp fun l h=>At1 (off+l) fun o=>At1 (h - l) fun m=>At1 (cp - l) fun c=>K (.os k id ver p o m c):=by
 exact propext ⟨fun h=>h.2,fun h=>⟨rfl,h⟩⟩
theorem AS1 {ad:Option Addr}:AWb k (.val (.slice ad 0 0)) lo hi K=AJj lo hi 0 0 fun l h=>K (.val (.slice ad 0 0)):=As8 rfl
theorem AUI:AV7 H n k (.fp (.arr n k cs)) lo hi K=AuP (n≤9223372036854775807) (AJj lo hi n n fun l h=>At1 ((cs.drop l).take (h - l)) fun r=>K (.sl k r)):=by
 exact propext ⟨fun h=>⟨h.2.2.1,h.2.2.2⟩,fun h=>⟨rfl,rfl,h.1,h.2⟩⟩
def AKs:Option TV→Nat→Nat→Option (List TV)
 | some (.arr n' k' cs),n,k=>if n'=n∧k'=k then some cs else none
 | _,_,_=>none
theorem ATd:AKs (some (.arr n k cs)) n k=some cs:=by simp [AKs]
theorem AUE:AV7 H n k (.op id ver p) lo hi K=At3 (AvO H[id]? ver) fun x=>AuP (n≤9223372036854775807) (At3 (AKs (Ax2 p x) n k) fun _=>AJj lo hi n n fun l h=>At1 (h - l) fun m=>At1 (n - l) fun c=>K (.os k id ver p l m c)):=by
 unfold AV7
 simp only
 cases h:H[id]? with
 | none=>simp [AvO,At3]
 | some o =>
  cases o with
  | gone v=>simp [AvO,At3]
  | ice v m y=>simp [AvO,At3]
  | fact i v t m=>simp [AvO,At3]
  | bld v t l=>simp [AvO,At3]
  | lp st pe fn N en ps ca cb=>simp [AvO,At3]
  | mpo kk es=>simp [AvO,At3]
  | mpd kk zs cl=>simp [AvO,At3]
  | mit m sn cl=>simp [AvO,At3]
  | sit s pos=>simp [AvO,At3]
  | obj v x =>
   by_cases hv:v=ver
   ·simp only [AvO,At3,hv,AuP,At1,if_true,true_and]
    congr 1
    cases hg:Ax2 p x with
    | none=>simp [AKs]
    | some y =>
     cases y with
     | arr n2 k2 ds =>
      by_cases h1:n2=n
      ·by_cases h2:k2=k
       ·simp [AKs,h1,h2]; exact Iff.rfl
       ·simp [AKs,h1,h2]
      ·simp [AKs,h1]
     | _=>simp [AKs]
   ·simp [AvO,At3,hv]
theorem ANW {t:TypeId}:AL6 t x K=AuP (lays x=true) (K (.ifc t x)):=As8 rfl
theorem ATO {f:Fn}:AWM f cs ys K=AuP (ACE (cs++ys)) (K (.fn f cs ys)):=As8 rfl
theorem AQ9:AJ3 (.op id ver p) K=K (.op id ver p):=As8 rfl
theorem ASB:AJ3 (.fp y) K=K (.fp y):=As8 rfl
theorem ASU {f:FuncId} {a b:List TV}:AJ3 (.fn (.func f) a b) K=K (.fn (.func f) a b):=As8 rfl
theorem APm {t:TypeId}:AJ3 (.ifc t y) K=K (.ifc t y):=As8 rfl
theorem AMZ {f:FuncId} {a b:Array Value}:AJ3 (.val (.func (.func f) a b)) K=K (.val (.func (.func f) a b)):=As8 rfl
section
variable {a b:Int} {q2:IntKind}
theorem AU5:AY0 (.val (.int q a)) (.val (.int q2 b)) K=vif (decide (b<a)) (K (.val (.int q b))) (K (.val (.int q a))):=by
 show K _=_
 by_cases h:b<a<;>simp [vif,h]
theorem AUd:AY7 (.val (.int q a)) (.val (.int q2 b)) K=vif (decide (a<b)) (K (.val (.int q b))) (K (.val (.int q a))):=by
 show K _=_
 by_cases h:a<b<;>simp [vif,h]
theorem ASf {q1 q2 q3:IntKind} {l h m:Int}:AHs (.sl3 k) H [.sl k cs,.val (.int q1 l),.val (.int q2 h),.val (.int q3 m)] K=AuP (0≤l∧l≤h∧h≤m∧m≤cs.length) (At1 ((cs.drop l.toNat).take (h.toNat - l.toNat)) fun r=>K (.sl k r)):=by
 unfold AHs gev AuP At1
 simp only [true_and]
 by_cases hc:0≤l∧l≤h∧h≤m∧m≤cs.length
 ·rw [if_pos hc]; simp [hc]
 ·rw [if_neg hc]; simp only [hc,false_and]
theorem ARj {sh:List EL} {b:Bool} {xs ys:List TV}:AHs (.eqR sh b) H [.agg xs,.agg ys] K=At3 (AIA sh xs ys) fun r=>At1 (TV.val (.bool (xor b r))) K:=by
 have hg:gev (.eqR sh b) H [.agg xs,.agg ys]=(AIA sh xs ys).map fun r => .val (.bool (xor b r)):=by unfold gev; rfl
 unfold AHs At3 At1
 rw [hg]
 cases AIA sh xs ys<;>rfl
theorem AQt:AIA [] [] []=some true:=As8 rfl
theorem AYC {l:List EL} {k:IntKind} {a b:Int} {xs ys:List TV}:AIA (.i::l) (.val (.int k a)::xs) (.val (.int k b)::ys)=(AIA l xs ys).map fun r=>(a == b) && r:=by rw [AIA,if_pos rfl]
theorem AW6 {l:List EL} {a b:ByteArray} {xs ys:List TV}:AIA (.s::l) (.val (.string a)::xs) (.val (.string b)::ys)=(AIA l xs ys).map fun r=>(a == b) && r:=As8 rfl
theorem AYA {l:List EL} {n:Nat} {a b:List UInt8} {xs ys:List TV}:AIA (.b n::l) (.arr n 1 (a.map by8)::xs) (.arr n 1 (b.map by8)::ys)=(AIA l xs ys).map fun r=>(a == b) && r:=by
 rw [AIA]
 simp only [AEa,ACj,and_self,if_true]
theorem ARz {n:Nat} {b:Bool} {xs ys:List UInt8}:AHs (.eqA n b) H [.arr n 1 (xs.map by8),.arr n 1 (ys.map by8)] K=At1 (TV.val (.bool (xor b (xs == ys)))) K:=by
 unfold AHs gev At1
 simp only [AEa,ACj,and_self,if_true]
theorem AQ8 {q:IntKind} {n:Int}:AHs .r2s H [.val (.int q n)] K=At1 (TV.val (.string (Utf8.encode n))) K:=As8 rfl
theorem ASO {t t':TypeId}:AHs (.tas t) H [.ifc t' x] K=AuP (t'=t) (K x):=by
 unfold AHs gev AuP
 by_cases h:t'=t<;>simp [h]
theorem APu {a:Option Addr} {l n:Nat}:AHs .capV H [.val (.slice a l n)] K=At1 (TV.val (.int .i64 (n:Int))) K:=As8 rfl
theorem AQn {n:Nat}:AHs (.s2a n k) H [.sl k cs] K=AuP (0<n∧n≤cs.length) (At1 (cs.take n) fun r=>K (.fp (.arr n k r))):=by
 unfold AHs gev AuP At1
 simp only [true_and]
 by_cases hc:0<n∧n≤cs.length
 ·rw [if_pos hc]; simp [hc]
 ·rw [if_neg hc]; simp only [hc,false_and]
theorem AXs {s t:Bool}:AWJ false (.val (.bool s)) (.val (.bool t)) K=At1 (TV.val (.bool (s == t))) K:=by
 show K _=_; simp [At1]
theorem AYN {s t:Bool}:AWJ true (.val (.bool s)) (.val (.bool t)) K=At1 (TV.val (.bool (!(s == t)))) K:=by
 show K _=_; simp [At1]
theorem AYj {m b:Bool}:AWi m (some true) (some b) K=At1 (TV.val (.bool (xor m b))) K:=As8 rfl
theorem AWI {m:Bool}:AWi m (some false) (some true) K=At1 (TV.val (.bool (xor m false))) K:=As8 rfl
end
theorem AS4 {kk:MK} {m:Nat} {kx v:TV}:APB kk (.mp m 0) kx v H KK=At3 (AGo kk H[m]?) fun es=>At3 (Aub kk kx) fun kb=>AuP (lays v=true) (At1 (AH8 kb v es) fun es'=>At1 (H.set m (.mpo kk es')) fun H'=>KK .any H'):=by
 unfold APB
 cases hh:H[m]? with
 | none=>cases Aub kk kx<;>simp [hh,AGo,At3]
 | some o =>
  cases o with
  | mpo kk' es =>
   by_cases hk:kk'=kk
   ·subst hk; cases Aub kk' kx<;>simp [hh,AGo,At3,AuP,At1]
   ·cases Aub kk kx<;>simp [hh,AGo,At3,hk]
  | _=>cases Aub kk kx<;>simp [hh,AGo,At3]
theorem ARR {kk:MK} {m:Nat} {kx z:TV}:AOH kk z (.mp m 0) kx H KK=At3 (AGo kk H[m]?) fun es=>At3 (Aub kk kx) fun kb=>At1 ((AGA kb es).getD z) fun y=>At1 (AHA kb es) fun p=>At1 (AH8 kb y es) fun es'=>At1 (H.set m (.mpo kk es')) fun H'=>KK (.tup [y,.val (.int .i64 (p:Int))]) H':=by
 unfold AOH
 cases hh:H[m]? with
 | none=>cases Aub kk kx<;>simp [hh,AGo,At3]
 | some o =>
  cases o with
  | mpo kk' es =>
   by_cases hk:kk'=kk
   ·subst hk; cases Aub kk' kx<;>simp [hh,AGo,At3,At1]
   ·cases Aub kk kx<;>simp [hh,AGo,At3,hk]
  | _=>cases Aub kk kx<;>simp [hh,AGo,At3]
def AIa:Option Ob→Option (MK×List (List UInt8×TV))
 | some (.mpo kk es)=>some (kk,es)
 | _=>none
theorem ANL {kk:MK} {es:List (List UInt8×TV)}:AIa (some (.mpo kk es))=some (kk,es):=by simp [AIa]
theorem AQr {m j:Nat} {q:IntKind} {v:TV}:AOT (.mp m 0) (.val (.int q (j:Int))) v H KK=At3 (AIa H[m]?) fun p=>AuP (lays v=true) (At3 p.2[j]? fun y=>At1 (p.2.set j (y.1,v)) fun es'=>At1 (H.set m (.mpo p.1 es')) fun H'=>KK .any H'):=by
 unfold AOT
 cases hh:H[m]? with
 | none=>simp [hh,AIa,At3]
 | some o =>
  cases o with
  | mpo kk' es =>
   simp only [hh,AIa,At3,AuP,At1,Int.natCast_nonneg,true_and,Int.toNat_natCast]
   cases es[j]?<;>simp
  | _=>simp [hh,AIa,At3]
theorem ANO {kk:MK} {z kx:TV} {ok:Bool} {m:Nat}:AHs (.look kk z ok) H [.mp m 0,kx] K=At3 (AHz kk H[m]?) fun es=>At3 (Aub kk kx) fun kb=>At1 (AGr z ok (AGA kb es)) K:=by
 unfold AHs gev AIR
 cases hh:H[m]? with
 | none=>cases hb:Aub kk kx<;>simp [hh,hb,AHz,At3]
 | some o =>
  cases o with
  | mpo kk' es =>
   by_cases hk:kk'=kk
   ·subst hk; cases hb:Aub kk' kx<;>simp [hh,hb,AHz,At3,At1]
   ·cases hb:Aub kk kx<;>simp [hh,hb,AHz,At3,hk]
  | mpd kk' zs cl =>
   by_cases hk:kk'=kk
   ·subst hk; cases hb:Aub kk' kx<;>simp [hh,hb,AHz,At3,At1]
   ·cases hb:Aub kk kx<;>simp [hh,hb,AHz,At3,hk]
  | _=>cases hb:Aub kk kx<;>simp [hh,hb,AHz,At3]
theorem AME {kk:MK} {z kx:TV} {ok:Bool}:AHs (.look kk z ok) H [.val (.map none),kx] K=At3 (Aub kk kx) fun kb=>At1 (AGr z ok none) K:=by
 unfold AHs gev AIR
 cases hb:Aub kk kx<;>simp [hb,At3,At1]
theorem APZ {m:Nat}:AHs .lenM H [.mp m 0] K=At3 (AKU H[m]?) fun p=>At1 p.length fun n=>At1 (TV.val (.int .i64 (n:Int))) K:=by
 unfold AHs gev AP9
 cases hh:H[m]? with
 | none=>simp [hh,AKU,At3]
 | some o=>cases o<;>simp [hh,AKU,At3,At1]
theorem AOJ {id:Nat}:AHs .entM H [.op id 0 []] K=At3 (AJe H[id]?) fun p=>At3 (stO H[p.1]?) fun q=>At3 (AXu p q) K:=by
 unfold AHs gev AY3
 cases hh:H[id]? with
 | none=>simp [hh,AJe,At3]
 | some o =>
  cases o with
  | mit m sn cl =>
   simp only [hh,AJe,At3,AXu]
   cases h2:stO H[m]? with
   | none=>simp
   | some q =>
    obtain ⟨kk,zs,cl'⟩:=q
    cases h3:sn.getLast? with
    | none=>simp
    | some s =>
     by_cases hc:cl'=cl
     ·subst hc; cases hf:zs.find? (·.1 == s)<;>simp [hf]
     ·simp [hc]
  | _=>simp [hh,AJe,At3]
theorem APj {sz:Nat}:AJx H sz (.op id ver p) y KK=AuP (lays y=true∧Atu y=sz) (At3 (AvO H[id]? ver) fun z=>At3 (ADt p z y) fun z'=>At1 (H.set id (.obj ver z')) fun H'=>KK .any H'):=by
 unfold AJx
 simp only [AuP]
 congr 1
 cases h:H[id]? with
 | none=>simp [AvO,At3]
 | some o =>
  cases o with
  | gone v=>simp [AvO,At3]
  | ice v m y=>simp [AvO,At3]
  | fact i v t m=>simp [AvO,At3]
  | bld v t l=>simp [AvO,At3]
  | lp st pe fn N en ps ca cb=>simp [AvO,At3]
  | mpo kk es=>simp [AvO,At3]
  | mpd kk zs cl=>simp [AvO,At3]
  | mit m sn cl=>simp [AvO,At3]
  | sit s pos=>simp [AvO,At3]
  | obj v x =>
   by_cases hv:v=ver
   ·subst hv; simp only [AvO,At3,At1,if_true,true_and]; cases ADt p x y<;>rfl
   ·simp [AvO,At3,hv]
theorem AUF {z:TV} {l c:Int} {q2:IntKind} {bytes:Nat}:AY6 H k bytes z (.val (.int q l)) (.val (.int q2 c)) KK=AuP (0≤l∧l≤c∧(bytes:Int)*c≤281474976710656∧c≤9223372036854775807) (At1 l.toNat fun l=>At1 c.toNat fun c=>At1 H.length fun m=>At1 (H++[.obj 0 (.arr c k (List.replicate c z))]) fun H'=>KK (.os k m 0 [] 0 l c) H'):=As8 rfl
theorem ASC {bytes:Nat} {et:TypeId}:AVK k bytes et (.val (.slice none 0 0)) (some ys) H KK=AuP (ys.length*bytes≤140737488355328∧ys.length≤9223372036854775807) (At1 ys.length fun n=>At1 H.length fun m=>At1 (H++[.obj 1 (.arr n k ys)]) fun H'=>KK (.os k m 1 [] 0 n n) H'):=As8 rfl
def AKQ:Option TV→Nat→Option (List TV)
 | some (.arr _ k' cs),k=>if k'=k then some cs else none
 | _,_=>none
theorem ARD:AKQ (some (.arr n k cs)) k=some cs:=by simp [AKQ]
theorem AQ3 {v n2:Nat} {et:TypeId}:ASQ (some (.obj v (.arr n2 k cs))) v k et off n ys=some (.obj (v+1) (.arr (n+ys.length) k ((cs.drop off).take n++ys))):=by simp [ASQ]
theorem ALH {v:Nat} {et:TypeId} {l m:List UInt8}:ASQ (some (.bld v et l)) v 1 et 0 n (m.map by8)=some (.bld (v+1) et (l.take n++m)):=by
 simp only [ASQ,AEa,ACj,and_self,if_true]
theorem AO4 {v:Nat} {et:TypeId} {l:List UInt8} {b:UInt8}:ASQ (some (.bld v et l)) v 1 et 0 n [by8 b]=some (.bld (v+1) et (l.take n++[b])):=ALH (m:=[b])
theorem ASc {v n2:Nat}:AWc (some (.obj v (.arr n2 k cs)))=cs.length:=by simp [AWc]
theorem AS3 {v:Nat} {et:TypeId} {l:List UInt8}:AWc (some (.bld v et l))=l.length:=by simp [AWc]
theorem ATN {bytes:Nat} {et:TypeId}:AVK k bytes et (.os k id ver [] off n cp) (some ys) H KK=At3 (ASQ H[id]? ver k et off n ys) fun o=>AuP (off+n≤AWc H[id]?∧(n+ys.length)*bytes≤140737488355328∧n+ys.length≤9223372036854775807)
   (At1 (n+ys.length) fun m=>At1 (H.set id o) fun H'=>KK (.os k id (ver+1) [] 0 m m) H'):=by
 unfold AVK AJ2
 simp only [true_and]
 cases h:ASQ H[id]? ver k et off n ys with
 | none=>simp [At3]
 | some o=>simp [At3,AuP,At1]
theorem AP7 {s:ByteArray} {et:TypeId}:ASn et x (.val (.string s)) H KK=At1 ((bl s).map by8) fun ys=>AVK 1 1 et x (some ys) H KK:=As8 rfl
def A03:Option TV→Option Nat
 | some (.arr n _ _)=>some n
 | _=>none
theorem AU2:A03 (some (.arr n k cs))=some n:=As8 rfl
theorem AR9:AK5 k (.os k id ver p off n cp) (some ys) H KK=At3 (AvO H[id]? ver) fun z=>At3 (AKQ (Ax2 p z) k) fun cs=>At3 (A03 (Ax2 p z)) fun N=>AuP (off+n≤cs.length) (At3 (ADt p z (.arr N k (cs.take off++(ys.take n++cs.drop (off+min ys.length n))))) fun z' =>
  At1 (H.set id (.obj ver z')) fun H'=>At1 (TV.val (.int .i64 (min ys.length n:Nat))) fun r=>KK r H'):=by
 unfold AK5 ACO
 simp only [true_and]
 cases h:H[id]? with
 | none=>simp [AvO,At3]
 | some o =>
  cases o with
  | gone v=>simp [AvO,At3]
  | ice v m y=>simp [AvO,At3]
  | fact i v t m=>simp [AvO,At3]
  | bld v t l=>simp [AvO,At3]
  | lp st pe fn N en ps ca cb=>simp [AvO,At3]
  | mpo kk es=>simp [AvO,At3]
  | mpd kk zs cl=>simp [AvO,At3]
  | mit m sn cl=>simp [AvO,At3]
  | sit s pos=>simp [AvO,At3]
  | obj v x =>
   by_cases hv:v=ver
   ·simp only [AvO,At3,hv,if_true,true_and]
    cases hg:Ax2 p x with
    | none=>simp [AKQ]
    | some y =>
     cases y with
     | arr n2 k2 ds =>
      by_cases h1:k2=k
      ·subst h1; simp only [AKQ,A03,AuP,At1,if_true,true_and]; refine congrArg (_ ∧ ·) ?_; cases ADt p x (.arr n2 k2 (ds.take off++(ys.take n++ds.drop (off+min ys.length n))))<;>rfl
      ·simp [AKQ,h1]
     | _=>simp [AKQ]
   ·simp [AvO,At3,hv]
theorem ANo {s:ByteArray}:ALZ x (.val (.string s)) H KK=At1 ((bl s).map by8) fun ys=>AK5 1 x (some ys) H KK:=As8 rfl
theorem AQE {f:FuncId} {j v:Nat} {l:List UInt8}:AQx P f (some (j,v,l)) H KK=AuP (A0I P f) (AuP (l.length≤9223372036854775807) (At1 (H.set j (.gone v)) fun H'=>KK (.val (.string (str l))) H')):=As8 rfl
def AXW (o:Option Ob) (j v n:Nat) (a:TV):Option (Nat×Nat×List UInt8):=match o with
 | some (.bld v3 t l)=>if v3=v∧t=AKr∧n=l.length∧Atu a=1 then some (j,v,l) else none
 | _=>none
def ARm (H:List Ob) (j v n:Nat) (a:TV):Option (Nat×Nat×List UInt8):=AXW H[j]? j v n a
def ANc (H:List Ob) (q:Option TV):Option (Nat×Nat×List UInt8):=match q with
 | some (.agg [a,.os 1 j v2 [] 0 n cp])=>ARm H j v2 n a
 | _=>none
theorem ARg {id ver:Nat} {p:List (Nat×Nat)}:AM8 H (.op id ver p)=ANc H ((AvO H[id]? ver).bind (Ax2 p)):=by
 unfold AM8
 simp only []
 cases h:H[id]? with
 | none=>simp [AvO,ANc]
 | some o =>
  cases o with
  | obj v y =>
   by_cases hv:v=ver
   ·simp only [AvO,hv,if_true,Option.bind_some]
    unfold ANc ARm AXW
    rfl
   ·simp [AvO,ANc,hv]
  | _=>simp [AvO,ANc]
theorem ASF {a:TV} {j v n cp:Nat}:ANc H (some (.agg [a,.os 1 j v [] 0 n cp]))=ARm H j v n a:=As8 rfl
theorem AQN {a:TV} {j v n:Nat}:ARm H j v n a=AXW H[j]? j v n a:=As8 rfl
theorem AU3 {a:TV} {j v n:Nat} {l:List UInt8} (hn:n=l.length) (ha:Atu a=1):AXW (some (.bld v 5 l)) j v n a=some (j,v,l):=by
 simp [AXW,hn,ha,AKr]
theorem AUo {s:ByteArray}:AY9 H (.val (.string s)) KK=AuP ((bl s).length≤9223372036854775807) (At1 (bl s).length fun n=>At1 ((bl s).map by8) fun r=>At1 H.length fun m=>At1 (H++[.obj 0 (.arr n 1 r)]) fun H'=>KK (.os 1 m 0 [] 0 n n) H'):=As8 rfl
theorem ASx {z:TV} {j:Int} {bytes:Nat}:ASP k bytes z (.val (.slice none 0 0)) (.val (.int .i64 j)) H KK=AuP (0≤j∧(bytes:Int)*j≤140737488355328∧j≤9223372036854775807) (At1 j.toNat fun n=>At1 H.length fun m=>At1 (H++[.obj 0 (.arr n k (List.replicate n z))]) fun H'=>KK (.os k m 0 [] 0 n n) H'):=As8 rfl
theorem AQV {n:Bool} {a:Option Addr} {l c:Nat}:ATv n (.val (.slice a l c)) H KK=KK (.val (.bool (xor n a.isNone))) H:=As8 rfl
theorem AU1 {n:Bool}:ATv n (.sl k cs) H KK=vif (decide (cs.length=0)) (AMH H KK) (KK (.val (.bool n)) H):=by
 unfold ATv vif AMH
 by_cases h:cs=[]
 ·subst h; simp
 ·have h2:¬ cs.length=0:=fun e=>h (List.length_eq_zero_iff.1 e)
  simp [h,h2]
theorem ATz {n:Bool} {m off l cp:Nat} {p:List (Nat×Nat)}:ATv n (.os k m ver p off l cp) H KK=vif (decide (l=0)) (AMH H KK) (KK (.val (.bool n)) H):=by
 unfold ATv vif AMH
 by_cases h:l=0
 ·subst h; simp
 ·simp [h]
theorem APh {f:FuncId} {a b:List TV}:AIj P (.fn (.func f) a b) cs H KK=AuP (AGh P f=true) (At1 (a++cs++b) fun xs=>VC P f xs H KK):=As8 rfl
theorem AMz {f:FuncId}:AIj P (.val (.func (.func f) #[] #[])) cs H KK=AuP (AGh P f=true) (VC P f cs H KK):=by
 exact propext ⟨fun h=>⟨h.2.1,h.2.2⟩,fun h=>⟨rfl,h.1,h.2⟩⟩
theorem API:AIj P (.yl id ver) cs H KK=VY P id ver cs H KK:=As8 rfl
theorem AT9 {nm:String} {t:TypeId}:AXE P nm (.ifc t x) cs H KK=AWe P (AP5 P t nm) x cs H KK:=by
 unfold AXE AZa AWe
 show (match AP5 P t nm with | some (f,none)=>_ | some (f,some (ag,sz))=>_ | none=>False)=_
 rcases AP5 P t nm with _ | ⟨f,_ | ⟨ag,sz⟩⟩<;>rfl
theorem AWU {f:FuncId}:AWe P (some (f,none)) x cs H KK=AuP (AGh P f=true) (At1 (x::cs) fun xs=>VC P f xs H KK):=As8 rfl
theorem AXg {f:FuncId} {ag:Bool} {sz:Nat}:AWe P (some (f,some (ag,sz))) x cs H KK=AuP (AGh P f=true) (AK7 H ag sz x fun y=>At1 (y::cs) fun xs=>VC P f xs H KK):=As8 rfl
theorem AZW {t:Bool} {A B:Prop}:Gd (some t) true A B=vif t A B:=As8 rfl
theorem AZ5 {t:Bool} {A B:Prop}:Gd (some t) false A B=vif t B A:=by cases t<;>simp [Gd,vif]
theorem A2t {b:Bool} {A B:Prop}:Gd none b A B=B:=As8 rfl
end
section
variable {Q:VEx→Env→List Ob→Prop} {l:List VO} {kp:List Nat} {a b:Atc}
def ARf (x:TV) (A B:Prop) [Tg A] [Tg B]:Prop:=match x with
  | .val (.bool t)=>if t=true then A else B
  | _=>False
@[congr] theorem AZN {x x':TV} {A B:Prop} (h:x=x'):ARf x A B=ARf x' A B:=by rw [h]
theorem AQ2 {t:Bool} {A B:Prop}:ARf (.val (.bool t)) A B=vif t A B:=As8 rfl
theorem AZA:vwp P (.ops l kp) Q e H=AGm P l (fun e H=>At1 (forget kp e) fun e=>Q .nor e H) e H:=As8 rfl
def AQ4 (zs:List Nat) (e:Env) (H:List Ob) (K:Env→List Ob→Prop) [Tg K]:Prop:=AV3 zs K e H
@[congr] theorem A0S {zs:List Nat} {e e':Env} {H H':List Ob} {K:Env→List Ob→Prop} (h1:e=e') (h2:H=H'):AQ4 zs e H K=AQ4 zs e' H' K:=by rw [h1,h2]
theorem A1h {K:Env→List Ob→Prop}:AQ4 [] e H K=K e H:=As8 rfl
theorem AXZ {l r:List VO} {zs kp:List Nat}:vwp P (.opsZ l zs r kp) Q e H=AGm P l (fun e H=>AQ4 zs e H fun e H=>AGm P r (fun e H=>At1 (forget kp e) fun e=>Q .nor e H) e H) e H:=As8 rfl
theorem AXR {n:Nat}:vwp P (.draw n l kp) Q e H=(vq P (l.take n) (fun e=>AGm P (l.drop n) (fun e H=>At1 (forget kp e) fun e=>Q .nor e H) e H) e H):=As8 rfl
def Thn (P:Program) (b:Atc) (Q:VEx→Env→List Ob→Prop):VEx→Env→List Ob→Prop:=fun x e H=>match x with | .nor=>vwp P b Q e H | .exit i=>Q (.exit i) e H | .ret=>Q .ret e H | .pan u=>Q (.pan u) e H
theorem AVY:Thn P b Q .nor e H=vwp P b Q e H:=As8 rfl
theorem AQX {i:Nat}:Thn P b Q (.exit i) e H=Q (.exit i) e H:=As8 rfl
theorem ATL:Thn P b Q .ret e H=Q .ret e H:=As8 rfl
theorem A1q:vwp P (.seq a b) Q e H=vwp P a (Thn P b Q) e H:=As8 rfl
def Blk (id:Nat) (Q:VEx→Env→List Ob→Prop):VEx→Env→List Ob→Prop:=fun x e H=>match x with | .nor=>Q .nor e H | .exit i=>if i=id then Q .nor e H else Q (.exit i) e H | .ret=>Q .ret e H | .pan u=>Q (.pan u) e H
theorem AT2 {id:Nat}:Blk id Q .nor e H=Q .nor e H:=As8 rfl
theorem ASG {id:Nat}:Blk id Q (.exit id) e H=Q .nor e H:=by simp [Blk]
theorem AKZ {id i:Nat} (h:i≠id):Blk id Q (.exit i) e H=Q (.exit i) e H:=by simp [Blk,h]
theorem AUa {id:Nat}:Blk id Q .ret e H=Q .ret e H:=As8 rfl
theorem ATQ {id:Nat}:vwp P (.block id a) Q e H=vwp P a (Blk id Q) e H:=As8 rfl
theorem AXd {c:Opd}:vwp P (.cond c a b) Q e H=ARf (c.ev e) (vwp P a Q e H) (vwp P b Q e H):=As8 rfl
def Rnd (n0:Nat) (lv:List Nat) (Q:VEx→Env→List Ob→Prop) (I:Nat→Env→List Ob→Prop) (n:Nat):VEx→Env→List Ob→Prop:=fun x e H=>match x with
 | .nor=>∃ m g,m<n∧(n0≤g∧(H.length≤g∨(AD3 g (forget lv e)=true∧ABN g (H.take g)=true)))∧I m (forget lv e) (H.take g)
 | .exit i=>Q (.exit i) e H | .ret=>Q .ret e H | .pan u=>Q (.pan u) e H
section
variable {n0:Nat} {lv:List Nat} {I:Nat→Env→List Ob→Prop} {n:Nat}
theorem ASg {i:Nat}:Rnd n0 lv Q I n (.exit i) e H=Q (.exit i) e H:=As8 rfl
theorem AUD:Rnd n0 lv Q I n .ret e H=Q .ret e H:=As8 rfl
theorem Auj (m:Nat) (hm:m<n) (h:n0≤H.length) (hR:I m (forget lv e) H):Rnd n0 lv Q I n .nor e H:=by
 refine ⟨m,H.length,hm,⟨h,.inl (Nat.le_refl _)⟩,?_⟩
 rw [List.take_length]; exact hR
theorem Au8 (m g:Nat) (hm:m<n) (h:n0≤g) (he:AD3 g (forget lv e)=true) (hH:ABN g (H.take g)=true) (hR:I m (forget lv e) (H.take g)):Rnd n0 lv Q I n .nor e H :=
 ⟨m,g,hm,⟨h,.inr ⟨he,hH⟩⟩,hR⟩
end
theorem Av3 {lv:List Nat} {H0:List Ob} (I:Nat→Env→List Ob→Prop) (n:Nat) (h0:I n (forget lv e) H0)
  (hs:∀ n e H,I n e H→vwp P a (Rnd H0.length lv Q I n) e H):vwp P (.loop lv a) Q e H0:=by
 rw [AWK]
 exact ⟨I,n,h0,hs⟩
theorem AUq {f:Opd} {ps:List Nat} {g:FuncId} {first caps:List TV} (hf:f.ev e = .fn (.func g) first caps) (hg:AGh P g=true) (ha:AFI a=true) (hb:AFI b=true)
  (h:∀ (N:Nat) (fn:FuncId) (ca cb:Code),AMd P N ps ca cb a b→Ato P g (first++[.yl H.length 0]++caps) (H++[.lp .ready none fn N e ps ca cb]) (AIl Q e H.length)):vwp P (.rfunc f ps a b) Q e H:=by
 rw [vwp,hf]; exact ⟨ha,hb,hg,h⟩
theorem o_g {d s:Nat} {o:VOp} {b:Bool} {r:List VO} {K:Env→List Ob→Prop}:AGm P (⟨some d,o,some (s,b)⟩::r) K e H=AHK e s fun e q=>Gd q b (vop P o e H (fun x H=>AGm P r K ((d,x)::e) H)) (AGm P r K ((d,.val undef)::e) H):=by
 rw [AYS]; refine congrArg (AHK e s) ?_; funext e q; cases q<;>rfl
def AOM (x:TV) (e:Env) (s:Nat) (Q:Env→Option Bool→Prop) [Tg Q]:Prop:=match x with
 | .val v=>Q e (isB v)
 | .any=>(∀ t,Q ((s,.val (.bool t))::e) (some t))∧∀ v,isB v=none→Q ((s,.val v)::e) none
 | _=>False
@[congr] theorem AZu {x x':TV} {s:Nat} {Q:Env→Option Bool→Prop} (h:x=x'):AOM x e s Q=AOM x' e s Q:=by rw [h]
theorem AWA {s:Nat} {Q:Env→Option Bool→Prop}:AHK e s Q=AOM (get e s) e s Q:=As8 rfl
theorem AVW {b:Bool} {s:Nat} {Q:Env→Option Bool→Prop}:AOM (.val (.bool b)) e s Q=Q e (some b):=As8 rfl
theorem AU8 {s:Nat} {Q:Env→Option Bool→Prop}:AOM (.val undef) e s Q=Q e none:=As8 rfl
theorem u_c {d:Nat} {f:FuncId} {args:List Opd} {r:List VO} {K:Env→Prop}:vq P (⟨some d,.s (.call f args),none⟩::r) K e H=At1 (evs e args) fun xs=>AuP (ACE xs) (vex fun x=>VC P f xs H (fun y H'=>y=x∧H'=H)∧vq P r K ((d,x)::e) H):=by
 rw [A2i,AAb]; rfl
def Gq (x:TV) (b:Bool) (A B:Prop) [Tg A] [Tg B]:Prop:=match x with
 | .val v=>if isB v=some b then A else B
 | _=>False
@[congr] theorem A2v {x x':TV} {b:Bool} {A B:Prop} (h:x=x'):Gq x b A B=Gq x' b A B:=by rw [h]
theorem A2f {t:Bool} {A B:Prop}:Gq (.val (.bool t)) true A B=vif t A B:=by cases t<;>simp [Gq,vif,isB]
theorem A2b {b:Bool} {A B:Prop}:Gq (.val undef) b A B=B:=by simp [Gq,isB,undef]
theorem A2u {t:Bool} {A B:Prop}:Gq (.val (.bool t)) false A B=vif t B A:=by cases t<;>simp [Gq,vif,isB]
theorem u_g {d s:Nat} {o:VOp} {b:Bool} {r:List VO} {K:Env→Prop}:vq P (⟨some d,o,some (s,b)⟩::r) K e H=Gq (get e s) b (AHL P o e H fun x=>vq P r K ((d,x)::e) H) (vq P r K ((d,.val undef)::e) H):=As8 rfl
theorem A2p {f:FuncId} {args:List Opd} {k:TV→Prop}:AHL P (.s (.call f args)) e H k=At1 (evs e args) fun xs=>AuP (ACE xs) (vex fun x=>VC P f xs H (fun y H'=>y=x∧H'=H)∧k x):=by
 rw [ATF,AAb]; rfl
def AXO (P:Program) (x:TV) (s k:Nat) (c:Atc) (Q:VEx→Env→List Ob→Prop) (e:Env) (H:List Ob):Prop:=match x with
  | .val (.slice none 0 0)=>vwp P c Q ((s,.os k H.length 0 [] 0 0 0)::e) (H++[.obj 0 (.arr 0 k [])])
  | _=>vwp P c Q e H
@[congr] theorem A1F {x x':TV} {s k:Nat} (h:x=x'):AXO P x s k a Q e H=AXO P x' s k a Q e H:=by rw [h]
theorem AZO {s k:Nat}:vwp P (.own s k a) Q e H=AXO P (get e s) s k a Q e H:=As8 rfl
theorem ARl {s k:Nat}:AXO P (.val (.slice none 0 0)) s k a Q e H=vwp P a Q ((s,.os k H.length 0 [] 0 0 0)::e) (H++[.obj 0 (.arr 0 k [])]):=As8 rfl
theorem ATE {s k k' id ver off n cp:Nat} {p:List (Nat×Nat)}:AXO P (.os k' id ver p off n cp) s k a Q e H=vwp P a Q e H:=As8 rfl
end
theorem AZ9 {t:Nat} {K:TV→Prop}:res [.tmp t] e H K=At1 (get e t) K:=As8 rfl
theorem AWt {t:Nat} {r:List VR} {K:List TV→Prop}:AKD (.tmp t::r) e H K=At1 (get e t) fun x=>AKD r e H fun xs=>K (x::xs):=As8 rfl
def A1D (K:TV→Prop) (xs:List TV):Prop:=match xs with
 | [x]=>K x
 | xs=>(∀ x∈xs,AuA x=false)∧K (.tup xs)
theorem AQW {x y:TV} {l:List TV} {K:TV→Prop}:A1D K (x::y::l)=AuP (ACE (x::y::l)) (At1 (TV.tup (x::y::l)) K):=As8 rfl
theorem AYs {r s:VR} {l:List VR} {K:TV→Prop}:res (r::s::l) e H K=AKD (r::s::l) e H (A1D K):=As8 rfl
theorem AXG {a sz:Nat} {ag:Bool} {K:TV→Prop}:res [.cell a ag sz] e H K=pop (.load ag sz (.t a)) e H K:=As8 rfl
theorem AZ6 {K:TV→Prop}:res [] e H K=K (.tup []):=by rw [AOK]; simp
end
def VCP (P:Program) (f:FuncId) (xs:List TV) (H:List Ob) (K:TV→List Ob→Prop) (KP:Value→List Ob→Prop) [Tg K] [Tg KP]:Prop:=ADK P f xs H K KP
@[congr] theorem AWj {P:Program} {f:FuncId} {xs xs':List TV} {H H':List Ob} {K:TV→List Ob→Prop} {KP:Value→List Ob→Prop} (he:xs=xs') (hH:H=H'):VCP P f xs H K KP=VCP P f xs' H' K KP:=by rw [he,hH]
def AV4 (x:TV) (K:Value→Prop) [Tg K]:Prop:=match x with
 | .val (.iface t v)=>K (.iface t v)
 | .ifc t (.val v)=>K (.iface t v)
 | _=>False
@[congr] theorem A17 {x x':TV} {K:Value→Prop} (h:x=x'):AV4 x K=AV4 x' K:=by rw [h]
theorem AR3 {t:TypeId} {v:Value} {K:Value→Prop}:AV4 (.ifc t (.val v)) K=K (.iface t v):=As8 rfl
theorem ATH {t:TypeId} {v:Value} {K:Value→Prop}:AV4 (.val (.iface t v)) K=K (.iface t v):=As8 rfl
section
variable {P:Program} {e:Env} {H:List Ob} {r:List VO} {K:Env→List Ob→Prop} {PP:Value→List Ob→Prop} {Q:VEx→Env→List Ob→Prop}
@[congr] theorem AUH {l:List VO} {e':Env} {H':List Ob} (he:e=e') (hH:H=H'):ACH P PP l K e H=ACH P PP l K e' H':=by rw [he,hH]
@[congr] theorem AVg {o:VOp} {e':Env} {H':List Ob} {KK:TV→List Ob→Prop} (he:e=e') (hH:H=H'):pvop P PP o e H KK=pvop P PP o e' H' KK:=by rw [he,hH]
theorem AYo {l:List VO} {kp:List Nat}:vwp P (.pops l kp) Q e H=ACH P (fun u H=>Q (.pan u) (ALt l e) H) l (fun e H=>At1 (forget kp e) fun e=>Q .nor e H) e H:=As8 rfl
theorem AUB {n:Nat} {l:List VO} {kp:List Nat}:vwp P (.pdraw n l kp) Q e H=(vq P (l.take n) (fun e=>ACH P (fun u H=>Q (.pan u) [] H) (l.drop n) (fun e H=>At1 (forget kp e) fun e=>Q .nor e H) e H) e H):=As8 rfl
theorem AX0:ACH P PP [] K e H=K e H:=As8 rfl
theorem A2l {d:Nat} {o:VOp}:ACH P PP (⟨some d,o,none⟩::r) K e H=pvop P PP o e H (fun x H=>ACH P PP r K ((d,x)::e) H):=As8 rfl
theorem A0D {o:VOp}:ACH P PP (⟨none,o,none⟩::r) K e H=pvop P PP o e H (fun x H=>ACH P PP r K e H):=As8 rfl
theorem A2c {d s:Nat} {o:VOp} {b:Bool}:ACH P PP (⟨some d,o,some (s,b)⟩::r) K e H=AHK e s fun e q=>Gd q b (pvop P PP o e H (fun x H=>ACH P PP r K ((d,x)::e) H)) (ACH P PP r K ((d,.val undef)::e) H):=by
 show AyO (pvop P PP) _ K e H=_
 rw [AyO]
 refine congrArg (AHK e s) ?_; funext e q; cases q<;>rfl
theorem AYv {o:POp} {KK:TV→List Ob→Prop}:pvop P PP (.p o) e H KK=pop o e H fun x=>KK x H:=As8 rfl
theorem APs {f:FuncId} {args:List Opd} {KK:TV→List Ob→Prop}:pvop P PP (.s (.call f args)) e H KK=At1 (evs e args) fun xs=>AuP (ACE xs) (VCP P f xs H KK PP):=by
 show ((∀ x∈args,AuA (x.ev e)=false)∧_)=_
 rw [AAb]; rfl
theorem ARq {x:Opd} {KK:TV→List Ob→Prop}:pvop P PP (.s (.pan x)) e H KK=AV4 (x.ev e) (fun u=>PP u H):=by
 show (match x.ev e with | .val (.iface t v)=>PP (.iface t v) H | .ifc t (.val v)=>PP (.iface t v) H | _=>False)=_
 unfold AV4
 split<;>simp_all
theorem AMr {z:TV} {KK:TV→List Ob→Prop}:pvop P PP (.s (.alloc z)) e H KK=sop P (.alloc z) e H KK:=As8 rfl
theorem AP8 {x:Opd} {KK:TV→List Ob→Prop}:pvop P PP (.s (.box x)) e H KK=sop P (.box x) e H KK:=As8 rfl
theorem ALi {k n:Nat} {z:TV} {ps:List (Nat×Opd)} {KK:TV→List Ob→Prop}:pvop P PP (.s (.bslice k n z ps)) e H KK=sop P (.bslice k n z ps) e H KK:=As8 rfl
theorem AM4 {sz:Nat} {x v:Opd} {KK:TV→List Ob→Prop}:pvop P PP (.s (.store sz x v)) e H KK=sop P (.store sz x v) e H KK:=As8 rfl
theorem ARF {k bytes:Nat} {z:TV} {l c:Opd} {KK:TV→List Ob→Prop}:pvop P PP (.s (.mks k bytes z l c)) e H KK=sop P (.mks k bytes z l c) e H KK:=As8 rfl
theorem ASS {k bytes:Nat} {et:TypeId} {x y:Opd} {KK:TV→List Ob→Prop}:pvop P PP (.s (.app k bytes et x y)) e H KK=sop P (.app k bytes et x y) e H KK:=As8 rfl
theorem ANE {et:TypeId} {x y:Opd} {KK:TV→List Ob→Prop}:pvop P PP (.s (.appS et x y)) e H KK=sop P (.appS et x y) e H KK:=As8 rfl
theorem APM {k n:Nat} {z:TV} {x y:Opd} {KK:TV→List Ob→Prop}:pvop P PP (.s (.appZ k n z x y)) e H KK=sop P (.appZ k n z x y) e H KK:=As8 rfl
theorem AQT {x:Opd} {n:Bool} {KK:TV→List Ob→Prop}:pvop P PP (.s (.eqS x n)) e H KK=sop P (.eqS x n) e H KK:=As8 rfl
theorem ASv {x:Opd} {KK:TV→List Ob→Prop}:pvop P PP (.s (.s2b x)) e H KK=sop P (.s2b x) e H KK:=As8 rfl
theorem AOh {k:Nat} {x y:Opd} {KK:TV→List Ob→Prop}:pvop P PP (.s (.copy k x y)) e H KK=sop P (.copy k x y) e H KK:=As8 rfl
theorem AMu {x y:Opd} {KK:TV→List Ob→Prop}:pvop P PP (.s (.copyS x y)) e H KK=sop P (.copyS x y) e H KK:=As8 rfl
theorem AMY {x:Opd} {args:List Opd} {KK:TV→List Ob→Prop}:pvop P PP (.s (.callv x args)) e H KK=sop P (.callv x args) e H KK:=As8 rfl
theorem AQZ {x:Opd} {nm:String} {args:List Opd} {KK:TV→List Ob→Prop}:pvop P PP (.s (.inv x nm args)) e H KK=sop P (.inv x nm args) e H KK:=As8 rfl
theorem ASh {kk:MK} {h:Option Opd} {KK:TV→List Ob→Prop}:pvop P PP (.s (.mkm kk h)) e H KK=sop P (.mkm kk h) e H KK:=As8 rfl
theorem AOk {kk:MK} {m k x:Opd} {KK:TV→List Ob→Prop}:pvop P PP (.s (.mupd kk m k x)) e H KK=sop P (.mupd kk m k x) e H KK:=As8 rfl
theorem ANP {kk:MK} {z:TV} {m k:Opd} {KK:TV→List Ob→Prop}:pvop P PP (.s (.ment kk z m k)) e H KK=sop P (.ment kk z m k) e H KK:=As8 rfl
theorem ANA {m st x:Opd} {KK:TV→List Ob→Prop}:pvop P PP (.s (.mest m st x)) e H KK=sop P (.mest m st x) e H KK:=As8 rfl
theorem AK9 {z:TV} {t:TypeId} {KK:TV→List Ob→Prop}:pvop P PP (.s (.allocT z t)) e H KK=sop P (.allocT z t) e H KK:=As8 rfl
theorem APF {x:Opd} {t:TypeId} {KK:TV→List Ob→Prop}:pvop P PP (.s (.boxT x t)) e H KK=sop P (.boxT x t) e H KK:=As8 rfl
theorem AN4 {x:Opd} {KK:TV→List Ob→Prop}:pvop P PP (.s (.rngS x)) e H KK=sop P (.rngS x) e H KK:=As8 rfl
theorem AOQ {x:Opd} {KK:TV→List Ob→Prop}:pvop P PP (.s (.nxtS x)) e H KK=sop P (.nxtS x) e H KK:=As8 rfl
theorem ANQ {x:Opd} {KK:TV→List Ob→Prop}:pvop P PP (.s (.rngM x)) e H KK=sop P (.rngM x) e H KK:=As8 rfl
theorem AOX {x:Opd} {KK:TV→List Ob→Prop}:pvop P PP (.s (.nxtM x)) e H KK=sop P (.nxtM x) e H KK:=As8 rfl
theorem APd {kk:MK} {m k:Opd} {KK:TV→List Ob→Prop}:pvop P PP (.s (.delM kk m k)) e H KK=sop P (.delM kk m k) e H KK:=As8 rfl
theorem AQi {x:Opd} {KK:TV→List Ob→Prop}:pvop P PP (.s (.cvS x)) e H KK=sop P (.cvS x) e H KK:=As8 rfl
theorem AOr {k:Nat} {z:TV} {x:Opd} {KK:TV→List Ob→Prop}:pvop P PP (.s (.clrS k z x)) e H KK=sop P (.clrS k z x) e H KK:=As8 rfl
theorem ANJ {f:FuncId} {x:Opd} {KK:TV→List Ob→Prop}:pvop P PP (.s (.bstr f x)) e H KK=sop P (.bstr f x) e H KK:=As8 rfl
theorem ATK {b:Atc} {u:Value}:Thn P b Q (.pan u) e H=Q (.pan u) e H:=As8 rfl
theorem AVV {id:Nat} {u:Value}:Blk id Q (.pan u) e H=Q (.pan u) e H:=As8 rfl
theorem AUc {n0:Nat} {lv:List Nat} {I:Nat→Env→List Ob→Prop} {n:Nat} {u:Value}:Rnd n0 lv Q I n (.pan u) e H=Q (.pan u) e H:=As8 rfl
theorem AMX {vr:List VR} {R:TV→List Ob→Prop} {RP:Value→List Ob→Prop}:ANN vr R RP .ret e H=res vr e H fun x=>R x H:=As8 rfl
theorem ANd {vr:List VR} {R:TV→List Ob→Prop} {RP:Value→List Ob→Prop}:ANN vr R RP .nor e H=res vr e H fun x=>R x H:=As8 rfl
theorem AM3 {vr:List VR} {R:TV→List Ob→Prop} {RP:Value→List Ob→Prop} {u:Value}:ANN vr R RP (.pan u) e H=RP u H:=As8 rfl
def AJ7 (P:Program) (PP:Value→List Ob→Prop) (Ss:SsT) (l:List VO) (K:Env→List Ob→Prop) (e:Env) (H:List Ob):Prop:=AyO (pvopS P PP Ss) l K e H
@[congr] theorem ATS {Ss:SsT} {l:List VO} {e':Env} {H':List Ob} (he:e=e') (hH:H=H'):AJ7 P PP Ss l K e H=AJ7 P PP Ss l K e' H':=by rw [he,hH]
@[congr] theorem ATe {Ss:SsT} {o:VOp} {e':Env} {H':List Ob} {KK:TV→List Ob→Prop} (he:e=e') (hH:H=H'):pvopS P PP Ss o e H KK=pvopS P PP Ss o e' H' KK:=by rw [he,hH]
theorem ATA {n:Nat} {l:List VO} {kp:List Nat}:vwp P (.sdraw n l kp) Q e H=(vq P (l.take (nOf n)) (fun e=>AJ7 P (fun u H=>Q (.pan u) [] H) (ssN n l) (l.drop (nOf n)) (fun e H=>At1 (forget kp e) fun e=>Q .nor e H) e H) e H):=As8 rfl
section
variable {Ss:SsT}
theorem AXN:AJ7 P PP Ss [] K e H=K e H:=As8 rfl
theorem A2e {d:Nat} {o:VOp}:AJ7 P PP Ss (⟨some d,o,none⟩::r) K e H=pvopS P PP Ss o e H (fun x H=>AJ7 P PP Ss r K ((d,x)::e) H):=As8 rfl
theorem A0Z {o:VOp}:AJ7 P PP Ss (⟨none,o,none⟩::r) K e H=pvopS P PP Ss o e H (fun x H=>AJ7 P PP Ss r K e H):=As8 rfl
theorem AWy {o:POp} {KK:TV→List Ob→Prop}:pvopS P PP Ss (.p o) e H KK=pop o e H fun x=>KK x H:=As8 rfl
theorem APE {f:FuncId} {args:List Opd} {KK:TV→List Ob→Prop}:pvopS P PP Ss (.s (.call f args)) e H KK=At1 (evs e args) fun xs=>AuP (ACE xs) (VCP P f xs H (fun x H'=>KK x H'∧ADP Ss.l e H H') PP):=by
 show ((∀ x∈args,AuA (x.ev e)=false)∧_)=_
 rw [AAb]; rfl
theorem ANe {sz:Nat} {x v:Opd} {KK:TV→List Ob→Prop}:pvopS P PP Ss (.s (.store sz x v)) e H KK=sop P (.store sz x v) e H fun x H'=>KK x H'∧ADP Ss.st e H H':=As8 rfl
theorem AMv {z:TV} {KK:TV→List Ob→Prop}:pvopS P PP Ss (.s (.alloc z)) e H KK=sop P (.alloc z) e H KK:=As8 rfl
theorem AP2 {k bytes:Nat} {z:TV} {l c:Opd} {KK:TV→List Ob→Prop}:pvopS P PP Ss (.s (.mks k bytes z l c)) e H KK=sop P (.mks k bytes z l c) e H KK:=As8 rfl
theorem ARQ {k bytes:Nat} {et:TypeId} {x y:Opd} {KK:TV→List Ob→Prop}:pvopS P PP Ss (.s (.app k bytes et x y)) e H KK=vif Ss.ap (sop P (.app k bytes et x y) e H fun x H'=>KK x H'∧ADP Ss.l e H H') (sop P (.app k bytes et x y) e H KK):=by
 show sop P (.app k bytes et x y) e H (fun x H'=>KK x H'∧(Ss.ap=true→ADP Ss.l e H H'))=_
 unfold vif
 split
 ·rename_i h
  congr 1; funext x H'; simp [h]
 ·rename_i h
  congr 1; funext x H'; simp [h]
theorem AP0 {et:TypeId} {x y:Opd} {KK:TV→List Ob→Prop}:pvopS P PP Ss (.s (.appS et x y)) e H KK=sop P (.appS et x y) e H KK:=As8 rfl
theorem AXa {n:Nat}:nOf n=n % 10000:=As8 rfl
theorem AYW {n:Nat} {l:List VO}:(ssN n l).ap=decide (10000≤n):=As8 rfl
theorem ARr {x:Opd} {KK:TV→List Ob→Prop}:pvopS P PP Ss (.s (.s2b x)) e H KK=sop P (.s2b x) e H KK:=As8 rfl
theorem ALg {k n:Nat} {z:TV} {ps:List (Nat×Opd)} {KK:TV→List Ob→Prop}:pvopS P PP Ss (.s (.bslice k n z ps)) e H KK=sop P (.bslice k n z ps) e H KK:=As8 rfl
end
theorem Ato.callsP {f:FuncId} {args:List TV} {R:TV→List Ob→Prop} {RP:Value→List Ob→Prop} (h:Ato P f args H R):VCP P f args H R RP:=h.mayP
end
def Ate:=(aI_ (aI_ (aI_ (aI_ (aI_ (aI_ (aI_ (aI_ @A0L @AWQ) (aI_ @A0b @A2d)) (aI_ (aI_ @AX7 @AZr) (aI_ @A0f @AWm))) (aI_ (aI_ (aI_ @AQL @AVB) (aI_ @AWW @AUv)) (aI_ (aI_ @AZ3 @AYO) (aI_ @A0a @AXH)))) (aI_ (aI_ (aI_ (aI_ @AX5 @A0E) (aI_ @A0M @A1e)) (aI_ (aI_ @AT1 @AZ0) (aI_ @AYV @AZL))) (aI_ (aI_ (aI_ @AZG @A0U) (aI_ @AZ4 @A1A)) (aI_ (aI_ @ATW @ASW) (aI_ @A0w @AVr))))) (aI_ (aI_ (aI_ (aI_ (aI_ @AQc @AZs) (aI_ @AX9 @AWN)) (aI_ (aI_ @AXe @AYI) (aI_ @AYd @AYm))) (aI_ (aI_ (aI_ @AX8 @AXi) (aI_ @A0t @AS5)) (aI_ (aI_ @AUR @A0X) (aI_ @A1d @AXY)))) (aI_ (aI_ (aI_ (aI_ @AWp @ATM) (aI_ @AZy @AYT)) (aI_ (aI_ @A1s @AW8) (aI_ @AXb @AXQ))) (aI_ (aI_ (aI_ @AYi @AWR) (aI_ @AYQ @AUm)) (aI_ (aI_ @A0O @AZA) (aI_ @AXZ @A1h)))))) (aI_ (aI_ (aI_ (aI_ (aI_ (aI_ @AXR @AWh) (aI_ @A1q @ATQ)) (aI_ (aI_ @AXd @AYD) (aI_ @A1u @AUw))) (aI_ (aI_ (aI_ @AZO @AYz) (aI_ @AYw @AR5)) (aI_ (aI_ @AXk @AWT) (aI_ @AUY @o_g)))) (aI_ (aI_ (aI_ (aI_ @AWA @AZT) (aI_ @A1k @AWY)) (aI_ (aI_ @A2k @u_c) (aI_ @u_g @AVu))) (aI_ (aI_ (aI_ @A2p @AKg) (aI_ @AKk @AZ9)) (aI_ (aI_ @AXG @AZ6) (aI_ @AYs @ALM))))) (aI_ (aI_ (aI_ (aI_ (aI_ @AWt @AJ1) (aI_ @AQW @AVY)) (aI_ (aI_ @AQX @ATL) (aI_ @AT2 @ASG))) (aI_ (aI_ (aI_ @AKZ @AUa) (aI_ @ASg @AUD)) (aI_ (aI_ @AYo @AUB) (aI_ @ATA @AXN)))) (aI_ (aI_ (aI_ (aI_ @A2e @A0Z) (aI_ @AWy @APE)) (aI_ (aI_ @ANe @AMv) (aI_ @AP2 @ARQ))) (aI_ (aI_ (aI_ @AP0 @ARr) (aI_ @ALg @AX0)) (aI_ (aI_ @A2l @A0D) (aI_ @A2c @AYv))))))) (aI_ (aI_ (aI_ (aI_ (aI_ (aI_ @APs @ARq) (aI_ @AMr @AP8)) (aI_ (aI_ @ALi @AM4) (aI_ @ARF @ASS))) (aI_ (aI_ (aI_ @ANE @ASv) (aI_ @APM @AQT)) (aI_ (aI_ @AOh @AMu) (aI_ @AMY @AQZ)))) (aI_ (aI_ (aI_ (aI_ @ASh @AOk) (aI_ @ANP @ANA)) (aI_ (aI_ @AK9 @APF) (aI_ @AN4 @AOQ))) (aI_ (aI_ (aI_ @ANQ @AOX) (aI_ @APd @AOr)) (aI_ (aI_ @AQi @ANJ) (aI_ @ATK @AVV))))) (aI_ (aI_ @AUc @AMX) (aI_ @ANd @AM3))))
def Ata:=(aI_ (aI_ (aI_ (aI_ (aI_ (aI_ (aI_ (aI_ @AXa @AYW) (aI_ @ATH @AR3)) (aI_ (aI_ @ARX @AOV) (aI_ @AVa @AVF))) (aI_ (aI_ (aI_ @AWk @AYP) (aI_ @AX6 @APv)) (aI_ (aI_ @AQC @AUn) (aI_ @ASk @AWz)))) (aI_ (aI_ (aI_ (aI_ @APl @AVd) (aI_ @ASa @AXl)) (aI_ (aI_ @ATZ @AXj) (aI_ @AYk @APT))) (aI_ (aI_ (aI_ @AVl @AQv) (aI_ @AVx @ARs)) (aI_ (aI_ @ATV @AXA) (aI_ @ASI @AVk))))) (aI_ (aI_ (aI_ (aI_ (aI_ @ATD @ARb) (aI_ @AQs @AML)) (aI_ (aI_ @AMq @AOy) (aI_ @ARZ @ARp))) (aI_ (aI_ (aI_ @AOt @AOS) (aI_ @AUZ @ASs)) (aI_ (aI_ @AVo @AQl) (aI_ @AQA @AQa)))) (aI_ (aI_ (aI_ (aI_ @AP1 @AVf) (aI_ @AVy @ATR)) (aI_ (aI_ @AT3 @AUK) (aI_ @AVb @AUA))) (aI_ (aI_ (aI_ @AS1 @AUI) (aI_ @ATd @AUE)) (aI_ (aI_ @ANW @ATO) (aI_ @AQ9 @ASB)))))) (aI_ (aI_ (aI_ (aI_ (aI_ (aI_ @ASU @APm) (aI_ @AMZ @AU5)) (aI_ (aI_ @AUd @AXs) (aI_ @AYN @AYj))) (aI_ (aI_ (aI_ @AWI @ASf) (aI_ @ARz @ARj)) (aI_ (aI_ @AQt @AYC) (aI_ @AW6 @AYA)))) (aI_ (aI_ (aI_ (aI_ @ANO @AME) (aI_ @APZ @AQ8)) (aI_ (aI_ @AQn @APu) (aI_ @ASO @ASx))) (aI_ (aI_ (aI_ @AQV @AU1) (aI_ @ATz @ARe)) (aI_ (aI_ @ANL @ASz) (aI_ @AV1 @ARk))))) (aI_ (aI_ (aI_ (aI_ (aI_ @AUS @ATJ) (aI_ @AUC @ART)) (aI_ (aI_ @AQf @AQg) (aI_ @AQ0 @AQG))) (aI_ (aI_ (aI_ @ARS @AOw) (aI_ @ASA @AVZ)) (aI_ (aI_ @AWE @AOJ) (aI_ @AXx @AXy)))) (aI_ (aI_ (aI_ (aI_ @AUj @ATI) (aI_ @AUi @AS4)) (aI_ (aI_ @ARR @AQr) (aI_ @Option.getD_none.{0} @Option.getD_some.{0}))) (aI_ (aI_ (aI_ @APj @AUF) (aI_ @ASC @ARD)) (aI_ (aI_ @AQ3 @ALH) (aI_ @AO4 @ASc))))))) (aI_ (aI_ (aI_ (aI_ (aI_ (aI_ @AS3 @ATN) (aI_ @AP7 @AU2)) (aI_ (aI_ @AR9 @ANo) (aI_ @AUo @AQE))) (aI_ (aI_ (aI_ @AR2 @AQ5) (aI_ @ASe @ARg)) (aI_ (aI_ @ASF @AQN) (aI_ @AU3 @APh)))) (aI_ (aI_ (aI_ (aI_ @AT9 @AWU) (aI_ @AXg @AMz)) (aI_ (aI_ @API @AZW) (aI_ @AZ5 @A2t))) (aI_ (aI_ (aI_ @AQ2 @AVW) (aI_ @AU8 @A2f)) (aI_ (aI_ @A2u @A2b) (aI_ @ARl @ATE))))) (aI_ (aI_ (aI_ @ASj @ARA) (aI_ @AUU @AS2)) (aI_ @ANZ @AMN))))
def Atf:=(aI_ (aI_ (aI_ (aI_ (aI_ (aI_ (aI_ (aI_ @ARi @AQ7) (aI_ @AVn @AV0)) (aI_ (aI_ @AUT @AVO) (aI_ @AQP @ASb))) (aI_ (aI_ (aI_ @ASw @ARo) (aI_ @AT0 @AU6)) (aI_ (aI_ @AUf @APg) (aI_ @APk @ASy)))) (aI_ (aI_ (aI_ (aI_ @AQz @AR8) (aI_ @ARv @AO5)) (aI_ (aI_ @ANB @AOY) (aI_ @AO3 @ARh))) (aI_ (aI_ (aI_ @ARd @ASX) (aI_ @AQk @ATP)) (aI_ (aI_ @AUJ @AUb) (aI_ @AUx @ARy))))) (aI_ (aI_ (aI_ (aI_ (aI_ @ASd @AQm) (aI_ @AST @AUW)) (aI_ (aI_ @AVQ @AVC) (aI_ @APW @AOb))) (aI_ (aI_ (aI_ @AQD @ASV) (aI_ @AP6 @ASq)) (aI_ (aI_ @APr @AQY) (aI_ @AR4 @ANn)))) (aI_ (aI_ (aI_ (aI_ @APO @AQd) (aI_ @ASZ @ASr)) (aI_ (aI_ @ARx @AOA) (aI_ @AOf @AQB))) (aI_ (aI_ (aI_ @AQI @ASE) (aI_ @ANC @APQ)) (aI_ (aI_ @ANi @AKI) (aI_ @AOz @AN1)))))) (aI_ (aI_ (aI_ (aI_ (aI_ (aI_ @AN6 @AOj) (aI_ @AMI @AQy)) (aI_ (aI_ @APG @ALd) (aI_ @AJG @AMQ))) (aI_ (aI_ (aI_ @ARP @AOc) (aI_ @AJy @AID)) (aI_ (aI_ @A2r @A2n) (aI_ @A16 @ASu)))) (aI_ (aI_ (aI_ (aI_ @AP3 @ASD) (aI_ @ALI @ARJ)) (aI_ (aI_ @AQj @AMO) (aI_ @ALf @ANp))) (aI_ (aI_ (aI_ @ANa @AQQ) (aI_ @AMB @ALu)) (aI_ (aI_ @AM2 @AKX) (aI_ @AOg @AMP))))) (aI_ (aI_ (aI_ (aI_ (aI_ @AKJ @AKd) (aI_ @AIC @AHG)) (aI_ (aI_ @AVz @ARt) (aI_ @AOK @AQJ))) (aI_ (aI_ (aI_ @ALM @ARU) (aI_ @AJ1 @AKg)) (aI_ (aI_ @AKk @AR1) (aI_ @AS0 @AT8)))) (aI_ (aI_ (aI_ (aI_ @AT6 @AQp) (aI_ @AVN @AUl)) (aI_ (aI_ @ARC @AP4) (aI_ @ASL @AOe))) (aI_ (aI_ (aI_ @AMV @AUr) (aI_ @ATy @AYx)) (aI_ (aI_ @AVA @AUP) (aI_ @AVq @AUy))))))) (aI_ (aI_ (aI_ @ARw @ANM) (aI_ @AOs @ASm)) (aI_ (aI_ @AZ8 @AX4) @AYG)))
theorem AMS {α β:Type} {f:α→β} {l:List α} {i:Nat}:(l.map f).drop i=(l.drop i).map f:=List.map_drop.symm
theorem AMJ {α β:Type} {f:α→β} {l:List α} {i:Nat}:(l.map f).take i=(l.take i).map f:=List.map_take.symm
theorem AXt {b:UInt8}:IntKind.i64.wrap (b.toNat:Int)=b.toNat:=Avq (by omega) (by have:=b.toNat_lt; omega)
theorem AXJ {n:Nat}:IntKind.u8.wrap (n:Int)=((UInt8.ofNat n).toNat:Int):=by
 rw [IntKind.wrap_u8,UInt8.toNat_ofNat']; omega
theorem AXU {α:Type} {n i:Nat} {a:α} (h:i<n):(List.replicate n a)[i]?=some a:=by simp [h]
section
variable {a b c:Nat}
theorem AS8:(a:Int)*(b:Int)=((a*b:Nat):Int):=As8 rfl
theorem ARn (h:b≤a):(a:Int) - (b:Int)=((a - b:Nat):Int):=by omega
theorem AQ6:(a:Int) / (b:Int)=((a / b:Nat):Int):=As8 rfl
theorem ASo:(a:Int) % (b:Int)=((a % b:Nat):Int):=As8 rfl
variable {t:TypeId} {k2:IntKind}
theorem AYF (h1:b≤63) (h2:a*2 ^ b≤9223372036854775807):Axl t .shl (.int .i64 (a:Int)) (.int k2 (b:Int))=some (.int .i64 ((a*2 ^ b:Nat):Int)):=by
 have e:(a:Int)*2 ^ ((b:Int).toNat)=((a*2 ^ b:Nat):Int):=by rw [Int.toNat_natCast,Int.natCast_mul,Int.natCast_pow]; rfl
 rw [AZY (by omega) (by omega) (by rw [e]; omega) (by rw [e]; omega),e]
theorem AXC (h1:b≤63):Axl t .shr (.int .i64 (a:Int)) (.int k2 (b:Int))=some (.int .i64 ((a / 2 ^ b:Nat):Int)):=by
 have e:(a:Int) / 2 ^ ((b:Int).toNat)=((a / 2 ^ b:Nat):Int):=by rw [Int.toNat_natCast,Int.natCast_ediv,Int.natCast_pow]; rfl
 rw [AZv (by omega) (by omega) (by omega),e]
variable {k:IntKind}
theorem AXm (h:b≠0):Axl t .rem (.int k (a:Int)) (.int k (b:Int))=some (.int k ((a % b:Nat):Int)):=by rw [A0d (by omega) (by omega),Int.natCast_emod]
theorem AWg (h:b≠0) (h2:a≤9223372036854775807):Axl t .quo (.int .i64 (a:Int)) (.int .i64 (b:Int))=some (.int .i64 ((a / b:Nat):Int)):=by rw [A0x (by omega) (by omega) (by omega),Int.natCast_ediv]
end
theorem Ato.toPureV {P:Program} {f:FuncId} {args:List TV} {R:TV→Prop} (h:Ato P f args [] fun x H'=>At3 (frz H' x) R):Auy P f args R :=
 Ato.toPure (h.mono fun x H' hx=>by
  cases hf:frz H' x with
  | none=>rw [hf] at hx; exact hx
  | some y=>rw [hf] at hx; exact hx)
abbrev mv_ (d s:Nat):VO:=⟨some d,.p (.mov (.t s)),none⟩
abbrev po_ (d:Nat) (p:POp):VO:=⟨some d,.p p,none⟩
abbrev so_ (d:Nat) (q:SOp):VO:=⟨some d,.s q,none⟩
abbrev ci_ (n:Nat):Opd := .c (.int .i64 (n:Int))
theorem AxF {P:Program} {f:FuncId} {fn:Func} {vc:Atc} {vr:List VR} (n:Nat) (hf:P.funcs[f]?=some fn) (ht:fn.body.bind (trC P fn.ntmps)=some (er vc)) (hr:trR P fn.results.toList=some vr) (hn:fn.ntmps=n) :
  ∀ ⦃args:List TV⦄ ⦃H:List Ob⦄ ⦃R:TV→List Ob→Prop⦄,args.length≤n→vwp P vc (AHv vr R) (AIN 0 args) H→Ato P f args H R:=fun _ _ _ h1 h2=>AN0 hf ht hr (hn▸h1) h2
theorem As9 {c c':Atc} (h:c=c'):∀ (P:Program) (Q:VEx→Env→List Ob→Prop) (e:Env) (H:List Ob),vwp P c Q e H=vwp P c' Q e H:=fun _ _ _ _=>by rw [h]
theorem Atb {α:Type}:(∀ {l:List α} {i:Nat} {a:α},(l.set i a).length=l.length)∧(∀ {l m:List α},(l++m).length=l.length+m.length)∧(∀ {a:α} {l:List α},(a::l).length=l.length+1)∧([]:List α).length=0:=⟨List.length_set,List.length_append,List.length_cons,List.length_nil⟩
theorem Ato.toFreshV {P:Program} {f:FuncId} {args:List TV} {R:TV→Prop} (h:Ato P f args [] fun x H'=>At3 (frs H' x) R):ABD P f args R :=
 Ato.toFresh (h.mono fun x H' hx=>by
  cases hf:frs H' x with
  | none=>rw [hf] at hx; exact hx
  | some y=>rw [hf] at hx; exact hx)
theorem ARK {α:Type} {l:List α} {n:Nat} (h:l.length≤n):l.take n=l:=List.take_of_length_le h
theorem A1v {α:Type} {c:Prop} [Decidable c] {a b:α} (h:c):(if c then a else b)=a:=if_pos h
theorem A0c {α:Type} {c:Prop} [Decidable c] {a b:α} (h:¬ c):(if c then a else b)=b:=if_neg h
theorem AK2 {α:Type} {l:List α} {n:Nat} (h:n≤l.length):(l.take n).length=n:=by simp [h]
theorem AIK {α:Type} {l:List α} {i:Nat}:(l.drop i).take (l.length - i)=l.drop i:=List.take_of_length_le (by simp)
theorem AQO {a b:Nat}:a+b - a=b:=Nat.add_sub_cancel_left a b
theorem AQw {α:Type} {l m:List α}:(l++m).take l.length=l:=List.take_left
theorem AQu {α:Type} {l m:List α}:(l++m).drop l.length=m:=List.drop_left
theorem ARV {a b:Nat}:a+b - b=a:=Nat.add_sub_cancel a b
def Atd:=(aI_ (aI_ (aI_ (aI_ (aI_ (aI_ (aI_ @AQw @AQu) (aI_ @AQO @AIK)) (aI_ (aI_ @AK2 @List.length_drop.{0}) (aI_ @A1v @A0c))) (aI_ (aI_ (aI_ @ARK @ARV) (aI_ @Nat.zero_le @AXf)) (aI_ (aI_ @List.nil_append.{0} @List.length_nil.{0}) (aI_ @List.length_cons.{0} @List.cons_append.{0})))) (aI_ (aI_ (aI_ (aI_ @List.getElem?_cons_zero.{0} @List.getElem?_cons_succ.{0}) (aI_ @List.set_cons_zero.{0} @List.set_cons_succ.{0})) (aI_ (aI_ @List.map_cons.{0,0} @List.map_nil.{0,0}) (aI_ @ASH @ARW))) (aI_ (aI_ (aI_ @true_and @and_true) (aI_ @List.take_zero.{0} @List.take_succ_cons.{0})) (aI_ (aI_ @List.drop_succ_cons.{0} @List.take_nil.{0}) (aI_ @List.drop_nil.{0} @Nat.zero_add))))) (aI_ (aI_ (aI_ (aI_ (aI_ @A00 @A0V) (aI_ @A1n @A1w)) (aI_ (aI_ @A0p @A1a) (aI_ @A1i @AZF))) (aI_ (aI_ (aI_ @A1o @A02) (aI_ @A2g @AXm)) (aI_ (aI_ @AWg @ATk) (aI_ @APw @ANI)))) (aI_ (aI_ (aI_ (aI_ @APH @APx) (aI_ @AMt @APn)) (aI_ (aI_ @AO6 @APV) (aI_ @ANU @AN7))) (aI_ (aI_ (aI_ @Bool.false_xor @Bool.true_xor) (aI_ @A1g @A0Y)) (aI_ (aI_ @A07 @decide_true) (aI_ @decide_false @Bool.not_true)))))) (aI_ (aI_ (aI_ (aI_ (aI_ (aI_ @Bool.not_false @not_true_eq_false) (aI_ @not_false_eq_true @Bool.false_eq_true)) (aI_ (aI_ @Bool.true_eq_false @Option.bind_some.{0,0}) (aI_ @Option.map_some.{0,0} @Bool.and_self))) (aI_ (aI_ (aI_ @and_self @Nat.sub_zero) (aI_ @Nat.mul_one @List.length_map.{0,0})) (aI_ (aI_ @Int.toNat_natCast @List.getElem?_map.{0,0}) (aI_ @Int.natCast_nonneg @List.length_append.{0})))) (aI_ (aI_ (aI_ (aI_ @List.drop_zero.{0} @AMS) (aI_ @AMJ @AS6)) (aI_ (aI_ @AQF @ARu) (aI_ @AVs @AU0))) (aI_ (aI_ (aI_ @AVm @AUO) (aI_ @List.replicate_zero.{0} @List.take_length.{0})) (aI_ (aI_ @List.length_set.{0} @List.length_replicate.{0}) (aI_ @AXt @Avq))))) (aI_ (aI_ (aI_ (aI_ @AXJ @List.set_set.{0}) (aI_ @List.getElem?_nil.{0} @AXU)) (aI_ (aI_ @AS8 @ARn) (aI_ @AQ6 @ASo))) (aI_ @AYF @AXC))))
end
section
open Go.RowKit
variable [AtW]
theorem AMM {g:Nat} {x:GV} (h:AvS g=some x):(g,x)∈AtW.l:=by
 unfold AvS at h
 obtain ⟨p,hp,rfl⟩:=Option.map_eq_some_iff.1 h
 have h1:=List.mem_of_find?_eq_some hp
 have h2:=List.find?_some hp
 have h3:p.1=g:=by simpa using h2
 obtain ⟨a,b⟩:=p
 simp only at h3; subst h3; exact h1
section
omit [AtW]
theorem AJa {P:Program} {w:World} {name:String} {g:Nat} {cs:Array Value} (hg:P.globalNamed name=some g) (h:w.var? P name=some cs):∃ t fr,w.heap[g]?=some (.cells cs t fr):=by
 unfold World.var? at h
 rw [hg,Option.bind_some] at h
 split at h
 ·rename_i c t fr hh; cases h; exact ⟨t,fr,hh⟩
 ·cases h
def ASi (P:Program) (t:TypeId):Bool:=match P.underlying t with
 | some (.int _)=>true
 | some .string=>true
 | _=>false
def AZh:DataW Unit→Option Value
 | .lit (.int k n)=>some (.int k n)
 | .lit (.string l)=>some (.string ⟨l.toArray⟩)
 | _=>none
variable {P:Program} {w:World} {fuel:Nat} {cs:List Value}
theorem AKT {t:TypeId} {x:DataW Unit×List MemPlace} (ht:ASi P t=true) (h:DataW.trod (fun _=>()) P w 0 (fun _=>true) false fuel t cs=some x):∃ v,AZh x.1=some v∧cs=[v]:=by
 unfold ASi at ht
 split at ht
 ·rename_i k hk
  obtain ⟨n,rfl,rfl,_⟩:=DataW.trod_int hk h
  exact ⟨_,rfl,rfl⟩
 ·rename_i hk
  obtain ⟨s,rfl,rfl,_⟩:=DataW.trod_string hk h
  exact ⟨_,rfl,by simp⟩
 ·cases ht
theorem ALe {t e:TypeId} {n:Nat} {ds:List (DataW Unit)} {p:List MemPlace} {vs:List Value} (ht:P.underlying t=some (.array n e)) (he:ASi P e=true) (hce:P.cellsOf e=1) (hct:P.cellsOf t=n) (hv:ds.map AZh=vs.map some)
  (h:DataW.trod (fun _=>()) P w 0 (fun _=>true) false fuel t cs=some (.agg ds,p)):cs=vs:=by
 cases fuel with
 | zero=>simp [DataW.trod] at h
 | succ fuel =>
  simp only [DataW.trod,ht,hce,hct,Nat.mul_one] at h
  split at h
  ·rename_i hl
   obtain ⟨xs,hm,hx⟩:=Option.map_eq_some_iff.1 h
   have hxs:xs.map (·.1)=ds:=by
    have:=congrArg Prod.fst hx
    simpa using this
   have hxl:xs.length=n:=by simpa using Lib.mapM_length hm
   have hvl:vs.length=n:=by
    have h1:=congrArg List.length hxs
    have h2:=congrArg List.length hv
    simp at h1 h2
    omega
   apply List.ext_getElem?
   intro i
   by_cases hi:i<n
   ·obtain ⟨b,hb,hf⟩:=Lib.mapM_at hm i i (by simp [hi])
    obtain ⟨v,hv1,hv2⟩:=AKT he hf
    have h1:cs[i]?=some v:=by
     have:=congrArg (·[0]?) hv2
     simpa [List.getElem?_take,List.getElem?_drop] using this
    have h2:ds[i]?=some b.1:=by rw [←hxs]; simp [hb]
    have h3:(ds.map AZh)[i]?=some (some v):=by simp [h2,hv1]
    rw [hv] at h3
    simp only [List.getElem?_map,Option.map_eq_some_iff,Option.some.injEq] at h3
    obtain ⟨u,hu,rfl⟩:=h3
    rw [h1,hu]
   ·rw [List.getElem?_eq_none (by omega),List.getElem?_eq_none (by omega)]
  ·cases h
theorem AMa {name:String} {d:DataW Unit}:∀ {laid:List (String×DataW Unit)} {ps:List MemPlace},DataW.LaidVars P w laid ps→(name,d)∈laid →
  ∃ g t cs fuel p,P.globalNamed name=some g∧(P.globals[g]?).map (·.type)=some t∧w.var? P name=some cs∧DataW.trod (fun _=>()) P w 0 (fun _=>true) false fuel t cs.toList=some (d,p)
 | [],ps,_,hm=>by simp at hm
 | (n,d')::r,ps,h,hm=>by
  obtain ⟨g,t,cs,fuel,p,q,h1,h2,h3,h4,h5,_⟩:=h
  rcases List.mem_cons.1 hm with e | hm
  ·cases e; exact ⟨g,t,cs,fuel,p,h1,h2,h3,h4⟩
  ·exact AMa h5 hm
theorem AGM {laid:List (String×DataW Unit)} (h:laidMet P laid w) {name:String} {ds:List (DataW Unit)} (hm:(name,DataW.agg ds)∈laid) {g:Nat} {t e:TypeId} {n:Nat} {vs:List Value} (hg:P.globalNamed name=some g) (hty:(P.globals[g]?).map (·.type)=some t)
  (ht:P.underlying t=some (.array n e)) (he:ASi P e=true) (hce:P.cellsOf e=1) (hct:P.cellsOf t=n) (hv:ds.map AZh=vs.map some):∃ tt fr,w.heap[g]?=some (.cells vs.toArray tt fr):=by
 obtain ⟨ps,h,_⟩:=h
 obtain ⟨g',t',cs,fuel,p,h1,h2,h3,h4⟩:=AMa h hm
 obtain rfl:=Option.some.inj (hg.symm.trans h1)
 obtain rfl:=Option.some.inj (hty.symm.trans h2)
 have:=ALe ht he hce hct hv h4
 have e:cs=vs.toArray:=by rw [←this,Array.toArray_toList]
 rw [e] at h3
 exact AJa hg h3
end
end
section
open Go.RowKit Go.WideShapes Go.ChangeShapes
section
variable {H:Type} {enc:TypeId×Value→H}
theorem AFd {a:Assume} {C:Checked} {os:Os} {f:FuncId} {fn:Func} {s:ChangeSpec} {conds:List PathCond} {apart fresh handsOn again:Bool} {X:World→Array Value→Prop}
  (hX:∀ (w w':World) (args:Array Value),w.heap=w'.heap→X w args→X w' args)
  (own:ownKnob C.prog.godebug=none) (started:os.Started) (noInit:C.prog.inits.idxOf? f=none) (hfn:C.prog.funcs[f]?=some fn)
  (witness:∃ (w:World) (tape:Tape) (i:Input),w.os=os∧(w.forCall tape i).Shaped C.prog∧i.vars=[]∧Input.okWide C.prog (w.forCall tape i) .any w.heap.size f i ∧
   ((s.pre enc C.prog fn conds apart (w.forCall tape i).memory i.args∧X (w.forCall tape i).memory i.args)∧sizedMet enc C.prog fn (OpenSpec.ofChange s) apart (w.forCall tape i).memory i.args)∧a.holds C.prog (lone (Frame.enter C.prog f i.args .normal) [] (w.forCall tape i)))
  (contract:∀ (W:World) (base:Nat) (args:Array Value) (ds gs:List (DataW H)) (before:List MemPlace),(∀ (j:Nat) t v,fn.params[j]?=some t→args[j]?=some v→Value.okWide C.prog W .any base t v) →
   DataW.Whole enc C.prog fn.params.toList s.vars apart W args.toList ds gs before →
   conds.all (PathCond.test C.prog ⟨fn.params.toList,ds,s.plain.varTypes C.prog,gs⟩)=true →
   (DataW.weightsEach C.prog (fn.params.toList++s.plain.varTypes C.prog) (ds++gs)).all (· ≤ reachBytes)=true→X W args →
   W.ShapedOpen C.prog →
   a.holds C.prog (lone (Frame.enter C.prog f args .normal) [] W) →
   Calls C.prog f args W fun e W'=>∃ v,e = .returned v∧s.post enc C.prog fn apart fresh handsOn again W args v W') :
  ReturnsInHanded a C os f .any (fun w args=>(s.pre enc C.prog fn conds apart w args∧X w args)∧sizedMet enc C.prog fn (OpenSpec.ofChange s) apart w args) (s.post enc C.prog fn apart fresh handsOn again):=by
 refine returnsInHanded_of_calls own started noInit witness ?_
 intro w tape i _ hsh _ hok hpre hholds
 obtain ⟨_,_,_,fn',hfn',_,_,_,_,hval⟩:=hok
 have e:fn'=fn:=Option.some.inj (hfn'.symm.trans hfn)
 subst e
 obtain ⟨⟨⟨ds,gs,before,hw,hc⟩,hx⟩,hz⟩:=hpre
 have hw':=DataW.Whole.of_heap (w':=w.forCall tape i) (by rfl) hw
 refine (contract (w.forCall tape i) w.heap.size i.args ds gs before hval hw' hc (hz.weights hw) (hX _ _ _ (by rfl) hx) hsh hholds).mono fun e W' ⟨v,he,hp⟩ => ?_
 subst he
 exact ChangeSpec.post_blind hp
end
theorem AIS {P:Program} {w:World} {g:Nat} {t:TypeId} {zero:Array Value} {k:IntKind} (h:w.ShapedOpen P) (hg:g<P.globals.size)
  (h0:((begin P (fun _ _=>0) default).world.heap[g]?).bind Obj.row?=some (zero,t)) (hz:zero.size=1)
  (hb:P.buildable t=true) (hc:P.cellTypes P.depth t=some [t]) (hu:P.underlying t=some (.int k)):∃ m tt fr,w.heap[g]?=some (.cells #[.int k m] tt fr):=by
 obtain ⟨m,hm⟩:=cell_of_shapedOpen_int h hg h0 hz hb hc hu
 obtain ⟨cs,hh,hs,_⟩:=h.1 g zero t hg h0
 have h1:cs[0]?=some (.int k m):=by simpa [World.cell?,hh] using hm
 have e:cs = #[.int k m]:=by
  apply Array.ext
  ·rw [hs,hz]; rfl
  ·intro i h2 h3
   have hi:i=0:=by simpa using h3
   subst hi
   have:=(Array.getElem?_eq_some_iff.1 h1).2
   simpa using this
 rw [e] at hh
 exact ⟨m,_,_,hh⟩
end
section
open Go.RowKit Go.WideShapes Go.ChangeShapes
variable [AtW]
set_option autoImplicit false
def came (w:World):Ctx:=⟨fun _ _=>none,[],fun b=>b<w.heap.size⟩
def AF1 (P:Program) (t:TypeId) {α:Type} (f:α→TV) (ok:α→Prop):Prop :=
 ∀ {H:Type} (enc:TypeId×Value→H) (w:World) (fuel:Nat) (cs:List Value) (d:DataW H) (ps:List MemPlace),DataW.trod enc P w 0 (fun _=>true) true fuel t cs=some (d,ps)→(d.weights P t).all (· ≤ reachBytes)=true→∃ a,Atg (came w) w (f a) cs∧ok a
theorem AKm {α β:Type} {f:α→Option β}:∀ {l:List α} {xs:List β},l.mapM f=some xs→xs.length=l.length∧∀ (i:Nat) a,l[i]?=some a→∃ x,xs[i]?=some x∧f a=some x
 | [],xs,h=>by simp at h; subst h; simp
 | a::l,xs,h=>by
  rw [List.mapM_cons] at h
  cases hf:f a with
  | none=>rw [hf] at h; cases h
  | some y =>
   rw [hf] at h
   cases hl:l.mapM f with
   | none=>rw [hl] at h; cases h
   | some ys =>
    rw [hl] at h
    have e:xs=y::ys:=by simpa using h.symm
    subst e
    obtain ⟨h1,h2⟩:=AKm hl
    refine ⟨by simp [h1],fun i b hb => ?_⟩
    cases i with
    | zero=>simp at hb; subst hb; exact ⟨y,by simp,hf⟩
    | succ i=>simpa using h2 i b (by simpa using hb)
theorem AFK {β:Type} {f:Nat→Option β} {n:Nat} {xs:List β} (h:(List.range n).mapM f=some xs):xs.length=n∧∀ i,i<n→∃ x,xs[i]?=some x∧f i=some x:=by
 obtain ⟨h1,h2⟩:=AKm h
 exact ⟨by simpa using h1,fun i hi=>h2 i i (by simp [hi])⟩
section
variable {P:Program} {t e:TypeId}
theorem AL7 {H:Type} {enc:TypeId×Value→H} {w:World} {fuel:Nat} {cs:List Value} {x:DataW H×List MemPlace} (h:DataW.trod enc P w 0 (fun _=>true) true fuel t cs=some x):∃ n,fuel=n+1:=by
 cases fuel with
 | zero=>simp [DataW.trod] at h
 | succ n=>exact ⟨n,rfl⟩
theorem AMF {k:IntKind} (ht:P.underlying t=some (.int k)):AF1 P t (fun n => .val (.int k n)) (fun n=>(Lit.int k n).wf=true):=by
 intro H enc w fuel cs d ps h _
 obtain ⟨n,rfl⟩:=AL7 h
 unfold DataW.trod at h; rw [ht] at h
 split at h<;>rename_i h1<;>try (simp at h1; done)
 all_goals try (cases h; done)
 all_goals try (simp only [Option.some.injEq,TypeDesc.int.injEq] at h1)
 all_goals first
  | (subst h1; split at h; (rename_i hc; obtain ⟨rfl,hw⟩:=hc; cases h; exact ⟨_,by rw [Atg]; exact ⟨rfl,rfl⟩,hw⟩); cases h)
  | (simp at h1; done)
  | (simp at h; done)
end
theorem ACU {H:Type} {P:Program} {e:TypeId} {d:DataW H} {n:Nat} (hn:n∈d.weights P e):∀ {ds:List (DataW H)},d∈ds→n∈DataW.weightsAll P e ds
 | d0::ds,h=>by
  simp only [DataW.weightsAll,List.mem_append]
  rcases List.mem_cons.1 h with rfl | h
  ·exact Or.inl hn
  ·exact Or.inr (ACU hn h)
theorem ACg {l m:List Nat} (h:m.all (· ≤ reachBytes)=true) (hs:∀ n∈l,n∈m):l.all (· ≤ reachBytes)=true:=List.all_eq_true.2 fun n hn=>List.all_eq_true.1 h n (hs n hn)
theorem AVp (a:Addr) (i j:Nat):(a.add i).add j=a.add (i+j):=by
 unfold Addr.add
 by_cases h1:i=0<;>by_cases h2:j=0<;>simp [h1,h2,Nat.add_assoc]
theorem AS7 (b off i:Nat):(⟨b,off,none⟩:Addr).add i=⟨b,off+i,none⟩:=by
 unfold Addr.add
 by_cases h1:i=0<;>simp [h1]
theorem AMG {w:World} {a:Addr} {n:Nat} {us:List Value} (h:w.cells? 0 a n=some us):us.length=n∧∀ i,i<n→∃ u,us[i]?=some u∧w.cell? (a.add i)=some u:=by
 unfold World.cells? at h
 rw [if_pos (Nat.zero_le _)] at h
 exact AFK h
theorem AJw {α:Type} {f:α→TV} {ok:α→Prop} {k:Nat} (hw:∀ a,ok a→Atu (f a)=k) {w:World} {b off:Nat}:∀ (n i0:Nat),(∀ i,i<n→∃ us a,Atg (came w) w (f a) us∧ok a∧us.length=k∧AuB w b (off+(i0+i)*k) us) →
  ∃ (l:List α) (us:List Value),l.length=n∧(∀ a∈l,ok a)∧Ath (came w) w (l.map f) us∧us.length=n*k∧AuB w b (off+i0*k) us
 | 0,i0,_=>⟨[],[],rfl,by simp,by rw [List.map_nil,Ath],by simp,fun j u h=>by simp at h⟩
 | n+1,i0,h=>by
  obtain ⟨us,a,h1,h2,h3,h4⟩:=h 0 (by omega)
  obtain ⟨l,vs,k1,k2,k3,k4,k5⟩:=AJw hw n (i0+1) (fun i hi=>by
   obtain ⟨us,a,h1,h2,h3,h4⟩:=h (i+1) (by omega)
   exact ⟨us,a,h1,h2,h3,by rw [show i0+1+i=i0+(i+1) from by omega]; exact h4⟩)
  refine ⟨a::l,us++vs,by simp [k1],fun c hc => ?_,?_,?_,?_⟩
  ·rcases List.mem_cons.1 hc with rfl | hc
   ·exact h2
   ·exact k2 c hc
  ·rw [List.map_cons,Ath]; exact ⟨us,vs,rfl,h1,k3⟩
  ·rw [List.length_append,h3,k4,Nat.succ_mul,Nat.add_comm]
  ·intro j u hj
   by_cases hjk:j<k
   ·rw [List.getElem?_append_left (by omega)] at hj
    have:=h4 j u hj
    rwa [Nat.add_zero] at this
   ·rw [List.getElem?_append_right (by omega),h3] at hj
    have:=k5 (j - k) u hj
    rw [show off+(i0+1)*k+(j - k)=off+i0*k+j from by rw [Nat.succ_mul]; omega] at this
    exact this
section
variable {P:Program} {t e:TypeId} {α:Type} {f:α→TV} {ok:α→Prop} {k B:Nat}
theorem AJX (ht:P.underlying t=some (.slice e)) (hk:P.cellsOf e=k) (hB:P.bytesOf e=B) (hc:AF1 P e f ok) (hw:∀ a,ok a→Atu (f a)=k) (h0:k≠0) :
  AF1 P t (fun l:List α => .sl k (l.map f)) (fun l=>(∀ a∈l,ok a)∧l.length*B≤140737488351232∧l.length≤9223372036854775807):=by
 intro H enc w fuel cs d ps h hwt
 obtain ⟨n,rfl⟩:=AL7 h
 unfold DataW.trod at h; rw [ht] at h
 split at h<;>rename_i h1<;>try (simp at h1; done)
 all_goals first
  | (simp at h; done)
  | skip
 ·cases h
  refine ⟨[],?_,by simp,by simp,by simp⟩
  rw [Atg]; exact ⟨by simp,.inl ⟨rfl,none,0,rfl,by omega⟩⟩
 ·rename_i a len cap
  simp only [Option.some.injEq,TypeDesc.slice.injEq] at h1
  subst h1
  split at h
  ·rename_i hcond
   obtain ⟨-,hlc,hcm⟩:=hcond
   rw [Option.bind_eq_some_iff] at h
   obtain ⟨elems,he,h⟩:=h
   rw [if_pos rfl,Option.map_eq_some_iff] at h
   obtain ⟨rest,hr,h⟩:=h
   simp only [Prod.mk.injEq] at h
   obtain ⟨rfl,rfl⟩:=h
   obtain ⟨e1,e2⟩:=AFK he
   obtain ⟨r1,_⟩:=AFK hr
   unfold maxLen at hcm
   simp only [DataW.weights,ht,List.all_cons,Bool.and_eq_true,decide_eq_true_eq,reachBytes,List.length_map,e1,r1,hB] at hwt
   have hcapB:cap*B≤140737488351232:=by have:=of_decide_eq_true hwt.1; rwa [Nat.add_sub_cancel' hlc] at this
   have hlen:len*B≤140737488351232:=Nat.le_trans (Nat.mul_le_mul_right _ hlc) hcapB
   have hwe:(DataW.weightsAll P e (elems.map (·.1))).all (· ≤ reachBytes)=true:=ACg (m:=DataW.weightsAll P e (elems.map (·.1))++DataW.weightsAll P e (rest.map (·.1))) hwt.2 (fun n hn=>List.mem_append_left _ hn)
   obtain ⟨b,off,spot⟩:=a
   have key:∀ i,i<len→∃ us a,Atg (came w) w (f a) us∧ok a∧us.length=k∧(∀ j u,us[j]?=some u→w.cell? ((⟨b,off,spot⟩:Addr).add (i*k+j))=some u):=by
    intro i hi
    obtain ⟨x,hx,hxe⟩:=e2 i hi
    rw [Option.bind_eq_some_iff] at hxe
    obtain ⟨us,hus,htr⟩:=hxe
    rw [hk] at hus
    obtain ⟨c1,c2⟩:=AMG hus
    obtain ⟨a,ha,hok⟩:=hc enc w n us x.1 x.2 htr (ACg hwe fun m hm=>ACU hm (List.mem_map.2 ⟨x,List.mem_of_getElem? hx,rfl⟩))
    refine ⟨us,a,ha,hok,c1,fun j u hj => ?_⟩
    have hjk:j<k:=by rw [←c1]; exact (List.getElem?_eq_some_iff.1 hj).1
    obtain ⟨u',hu',hcu⟩:=c2 j hjk
    rw [hj] at hu'; cases hu'
    rw [AVp] at hcu
    exact hcu
   by_cases hl0:len=0
   ·subst hl0
    refine ⟨[],?_,by simp,by simp,by simp⟩
    rw [Atg]; exact ⟨by simp,.inl ⟨rfl,_,cap,rfl,hcm⟩⟩
   ·have hsp:spot=none:=by
     obtain ⟨us,a,_,_,c1,c2⟩:=key 0 (by omega)
     have hu:us[0]?=some us[0]:=List.getElem?_eq_getElem (by omega)
     have:=c2 0 _ hu
     simpa [Addr.add] using World.cell?_spot this
    subst hsp
    obtain ⟨l,us,l1,l2,l3,l4,l5⟩:=AJw (f:=f) (ok:=ok) hw (w:=w) (b:=b) (off:=off) len 0 (fun i hi=>by
     obtain ⟨us,a,h1,h2,h3,h4⟩:=key i hi
     refine ⟨us,a,h1,h2,h3,fun j u hj => ?_⟩
     have:=h4 j u hj
     rw [AS7] at this
     rw [Nat.zero_add,Nat.add_assoc]; exact this)
    refine ⟨l,?_,l2,by rw [l1]; exact hlen,by omega⟩
    rw [Atg]
    refine ⟨fun x hx => ?_,.inr ⟨b,off,cap,us,by rw [List.length_map,l1],by rw [List.length_map,l1]; exact hlc,hcm,?_,l3,by simpa using l5⟩⟩
    ·obtain ⟨a,ha,rfl⟩:=List.mem_map.1 hx; exact hw a (l2 a ha)
    ·have hus:0<us.length:=by rw [l4]; exact Nat.mul_pos (by omega) (by omega)
     exact AVi (l5 0 us[0] (List.getElem?_eq_getElem hus))
  ·cases h
end
section
variable {P:Program} {t e:TypeId} {α:Type} {f:α→TV} {ok:α→Prop} {k:Nat}
theorem AIu {β:Type} {g:β→TV} {ok':β→Prop} (h:AF1 P t f ok) (hm:∀ a,ok a→∃ b,f a=g b∧ok' b):AF1 P t g ok':=by
 intro H enc w fuel cs d ps h1 h2
 obtain ⟨a,h3,h4⟩:=h enc w fuel cs d ps h1 h2
 obtain ⟨b,h5,h6⟩:=hm a h4
 exact ⟨b,by rw [←h5]; exact h3,h6⟩
theorem AOO (ht:P.underlying t=some (.int .u8)):AF1 P t by8 (fun _=>True) :=
 AIu (AMF ht) fun n h=>by
  have:=bounds_u8 h
  refine ⟨UInt8.ofNat n.toNat,?_,trivial⟩
  rw [by8,UInt8.toNat_ofNat',Nat.mod_eq_of_lt (by omega)]
  congr 2; omega
theorem AF4 (ht:P.underlying t=some (.slice e)) (he:P.underlying e=some (.int .u8)) (hk:P.cellsOf e=1) (hB:P.bytesOf e=1):AF1 P t slB (fun l=>l.length≤140737488351232) :=
 AIu (AJX ht hk hB (AOO he) (fun _ _=>rfl) (by omega)) fun l h=>⟨l,rfl,by have:=h.2; omega⟩
end
def AEQ (P:Program) (ts:List TypeId) {α:Type} (f:α→List TV) (ok:α→Prop):Prop :=
 ∀ {H:Type} (enc:TypeId×Value→H) (w:World) (vs:List Value) (ds:List (DataW H)) (ps:List MemPlace),DataW.TrodAll enc P w 0 (fun _=>true) true ts vs ds ps→(∀ (j:Nat) t v,ts[j]?=some t→vs[j]?=some v→∃ base,Value.okWide P w .any base t v)→(DataW.weightsEach P ts ds).all (· ≤ reachBytes)=true→∃ a,AtX (came w) w (f a) vs∧ok a
theorem AI9 {P:Program}:AEQ P [] (fun _:Unit=>[]) (fun _=>True):=by
 intro H enc w vs ds ps h _ _
 obtain ⟨rfl,rfl,rfl⟩:=trodAll_nil h
 exact ⟨(),by rw [AtX],trivial⟩
def AOW (P:Program) (t:TypeId) (b:Bool):Prop:=∀ w base v,Value.okWide P w .any base t v→if b then ∃ cs,v = .agg cs else v.cells = #[v]
theorem AGb {P:Program} {t e:TypeId} (ht:P.underlying t=some (.slice e)):AOW P t false:=fun w _ v h=>by obtain ⟨_,_,_,rfl⟩:=okWide_slice ht h; rfl
theorem ANz {c:Ctx} {P:Program} {w:World} {t:TypeId} {v:Value} {x:TV} {b:Bool} (hf:AOW P t b) {base:Nat} (hv:Value.okWide P w .any base t v) (hx:AGj x=b):v=mkV x v.cells.toList:=by
 have h:=hf w base v hv
 cases b with
 | true =>
  simp only [if_true] at h
  obtain ⟨cs,rfl⟩:=h
  rw [ALY hx]; simp [Value.cells]
 | false =>
  simp only [Bool.false_eq_true,if_false] at h
  rw [h]
  exact (AGS hx).symm
theorem ACX {P:Program} {t:TypeId} {ts:List TypeId} {α β:Type} {f:α→TV} {ok:α→Prop} {g:β→List TV} {ok':β→Prop} {b:Bool} (hc:AF1 P t f ok) (hf:AOW P t b) (hm:∀ a,AGj (f a)=b) (hr:AEQ P ts g ok') :
  AEQ P (t::ts) (fun x:α×β=>f x.1::g x.2) (fun x=>ok x.1∧ok' x.2):=by
 intro H enc w vs ds ps h hv hw
 obtain ⟨v,vs',d,ds',p,q,rfl,rfl,rfl,h0,r0⟩:=trodAll_cons h
 simp only [DataW.weightsEach] at hw
 obtain ⟨fuel,hfu⟩:=h0
 obtain ⟨a,ha,hoka⟩:=hc enc w fuel _ d p hfu (ACg hw fun n hn=>List.mem_append_left _ hn)
 obtain ⟨b,hb,hokb⟩:=hr enc w vs' ds' q r0 (fun j t v h1 h2=>hv (j+1) t v (by simpa using h1) (by simpa using h2)) (ACg hw fun n hn=>List.mem_append_right _ hn)
 refine ⟨(a,b),AtX.cons.2 ⟨v,vs',rfl,.inr (.inr ⟨v.cells.toList,ha,ANz (c:=came w) hf (hv 0 t v rfl rfl).choose_spec (hm a)⟩),hb⟩,hoka,hokb⟩
theorem AFb {H:Type} {enc:TypeId×Value→H} {P:Program} (hl:laidOutB P=true) {W W':World} (hb:Below W.heap.size W W'):∀ {ts:List TypeId} {vs:List Value} {ds:List (DataW H)} {ps:List MemPlace},(ts.all fun t=>P.readableRec t && decide (t<P.types.size))=true →
  DataW.TrodAll enc P W 0 (fun _=>true) true ts vs ds ps→DataW.TrodAll enc P W' 0 (fun b=>decide (b<W.heap.size)) true ts vs ds ps
 | [],vs,ds,ps,_,h=>by
  obtain ⟨rfl,rfl,rfl⟩:=trodAll_nil h
  exact trodAll_mk0
 | t::ts,vs,ds,ps,hr,h=>by
  obtain ⟨v,vs',d,ds',p,q,rfl,rfl,rfl,h0,r0⟩:=trodAll_cons h
  simp only [List.all_cons,Bool.and_eq_true,decide_eq_true_eq] at hr
  refine trodAll_cons_mk (Below.trod hl hr.1.1 hr.1.2 h0 hb ?_) (AFb hl hb (by simpa using hr.2) r0)
  obtain ⟨m,hm⟩:=h0
  exact DataW.trod_lt m _ _ _ hm
theorem AAa.below {F F':Nat→Prop} {w w':World} (h:AAa F w F' w'):Below w.heap.size w w':=⟨h.os,h.tape,h.output,h.size,fun k hk=>h.same k hk⟩
theorem AWB {P:Program} {f:FuncId} {ts:List TypeId} {α:Type} {g:α→List TV} {ok:α→Prop} (hc:AEQ P ts g ok) (hlaw:∀ a,ok a→Auy P f (g a) (fun x=>x=tb true)) {H:Type} {enc:TypeId×Value→H} {w:World} {args:Array Value} {ds:List (DataW H)} {ps:List MemPlace}
  (h:DataW.TrodAll enc P w 0 (fun _=>true) true ts args.toList ds ps) (hv:∀ (j:Nat) t v,ts[j]?=some t→args.toList[j]?=some v→∃ base,Value.okWide P w .any base t v) (hw:(DataW.weightsEach P ts ds).all (· ≤ reachBytes)=true) (hg:Av0 (fun b=>b<w.heap.size) w) :
  Calls P f args w fun e w'=>e = .returned (.bool true)∧Below w.heap.size w w':=by
 obtain ⟨a,ha,hok⟩:=hc enc w args.toList ds ps h hv hw
 have:=hlaw a hok (fun _ _=>none) (fun b=>b<w.heap.size) w args.toList ⟨fun b h=>h,hg⟩ ha
 rw [Array.toArray_toList] at this
 refine this.mono ?_
 rintro e w' ⟨v,x,F',rfl,rfl,hx,hst⟩
 rw [Rep.val] at hx
 exact ⟨by rw [hx],hst.below⟩
end
section
def ACd (c:UInt8):List UInt8→Option Nat
 | []=>none
 | b::l=>if b=c then some 0 else (ACd c l).map (· + 1)
theorem AFO {c:UInt8}:∀ {l:List UInt8} {i:Nat},ACd c l=some i→i<l.length∧l[i]?=some c∧¬ c∈l.take i
 | [],i,h=>by cases h
 | b::l,i,h=>by
  rw [ACd] at h
  split at h
  ·rename_i e; cases h; exact ⟨by simp,by simp [e],by simp⟩
  ·rename_i e
   obtain ⟨j,hj,rfl⟩:=Option.map_eq_some_iff.1 h
   obtain ⟨h1,h2,h3⟩:=AFO hj
   exact ⟨by simp; omega,by simpa using h2,by simp [h3,Ne.symm e]⟩
theorem AJk (c:UInt8):∀ l:List UInt8,Lib.indexByte l c=(match ACd c l with | some i=>(i:Int) | none => -1):=by
 intro l
 induction l with
 | nil=>rfl
 | cons b l ih =>
  rw [Lib.indexByte,ACd]
  by_cases e:b=c
  ·simp [e]
  ·rw [if_neg (by simpa using e),if_neg e,ih]
   cases hc:ACd c l with
   | none=>simp
   | some i =>
    have:¬ ((i:Int) == -1)=true:=by simp
    simp only [Option.map_some]
    rw [if_neg this]; rfl
end
end Go.Proofs.YtkoilgokgaigbaaGreatDoor
namespace Go.Proofs.YtkoilgokgaigbaaGreatDoor.Kit
open Go.RowKit
def AH3 (w w':World):Prop:=Below w.heap.size w w'
theorem AH3.trans {a b c:World} (h:AH3 a b) (k:AH3 b c):AH3 a c:=Below.trans h (Below.mono k (Below.size h))
theorem AH3.drewN {a b:World} (h:AH3 a b) (n:Nat):AH3 a (b.drewN n):=Below.trans h ⟨rfl,rfl,rfl,Nat.le_refl _,fun _ _=>rfl⟩
theorem AH3.cell {w w':World} (h:AH3 w w') {p:Addr} {v:Value} (hv:w.cell? p=some v):w'.cell? p=some v:=by
 rw [Below.cell h (World.block_lt_of_cell? w p hv)]; exact hv
def Bs (w:World) (a:Option Addr) (l:List UInt8):Prop :=
 ∀ j,j<l.length→∃ b off,a=some ⟨b,off,none⟩∧w.cell? ⟨b,off+j,none⟩=some (.int .u8 (l.getD j 0).toNat)
theorem Bs.keep {w w':World} {a:Option Addr} {l:List UInt8} (h:Bs w a l) (k:AH3 w w'):Bs w' a l:=fun j hj =>
 let ⟨b,off,e,hc⟩:=h j hj; ⟨b,off,e,k.cell hc⟩
theorem Bs.take {w:World} {a:Option Addr} {l:List UInt8} (h:Bs w a l) (n:Nat):Bs w a (l.take n):=fun j hj=>by
 have hj':j<l.length:=by simp at hj; omega
 have hjn:j<n:=by simp at hj; omega
 obtain ⟨b,off,e,hc⟩:=h j hj'
 exact ⟨b,off,e,by rw [hc]; simp [List.getD,hjn]⟩
theorem Bs.drop {w:World} {b off:Nat} {l:List UInt8} (h:Bs w (some ⟨b,off,none⟩) l) (n:Nat):Bs w (some ⟨b,off+n,none⟩) (l.drop n):=fun j hj=>by
 have hj':n+j<l.length:=by simp at hj; omega
 obtain ⟨b',off',e,hc⟩:=h (n+j) hj'
 simp only [Option.some.injEq,Addr.mk.injEq,and_true] at e
 obtain ⟨rfl,rfl⟩:=e
 refine ⟨b,off+n,rfl,?_⟩
 rw [Nat.add_assoc,hc]
 simp [List.getD]
def bv (l:List UInt8):List Value:=l.map fun x => .int .u8 (x.toNat:Int)
@[simp] theorem AYK (l:List UInt8):(bv l).length=l.length:=by simp [bv]
theorem ATU (l:List UInt8) (j:Nat) (h:j<l.length):(bv l)[j]?=some (.int .u8 ((l.getD j 0).toNat:Int)):=by simp [bv,List.getD,h]
theorem Bs.src {w:World} {a:Option Addr} {l:List UInt8} (h:Bs w a l) (hp:0<(bv l).length):∃ ad,a=some ad∧∀ j v,(bv l)[j]?=some v→w.cell? (ad.add j)=some v:=by
 obtain ⟨b,off,rfl,_⟩:=h 0 (by simpa using hp)
 refine ⟨_,rfl,fun j v hv => ?_⟩
 have hj:j<l.length:=by
  rcases Nat.lt_or_ge j l.length with h1 | h1
  ·exact h1
  ·rw [List.getElem?_eq_none (by simpa using h1)] at hv; cases hv
 obtain ⟨b',off',e,hc⟩:=h j hj
 simp only [Option.some.injEq,Addr.mk.injEq,and_true] at e
 obtain ⟨rfl,rfl⟩:=e
 rw [ATU l j hj] at hv
 rw [show (⟨b,off,none⟩:Addr).add j=⟨b,off+j,none⟩ from by simp [Addr.add],hc]; exact hv
end Go.Proofs.YtkoilgokgaigbaaGreatDoor.Kit
namespace Go.Proofs.YtkoilgokgaigbaaGreatDoor
section
def lin:List UInt8→List UInt8→List (List UInt8)
 | cur,[]=>if cur=[] then [] else [cur]
 | cur,b::r=>if b=10 then (cur++[b])::lin [] r else lin (cur++[b]) r
def Atp (b:List UInt8):List (List UInt8):=lin [] b
theorem AQb (r:List UInt8):∀ cur,(lin cur r).flatten=cur++r:=by
 induction r with
 | nil=>intro cur; by_cases h:cur=[]<;>simp [lin,h]
 | cons b r ih=>intro cur; by_cases h:b=10<;>simp [lin,h,ih]
theorem AvA (b:List UInt8):(Atp b).flatten=b:=by simp [Atp,AQb]
theorem AOC (r:List UInt8):∀ cur,∀ l∈lin cur r,l≠[]:=by
 induction r with
 | nil=>intro cur l hl; by_cases h:cur=[]<;>simp [lin,h] at hl; subst hl; exact h
 | cons b r ih =>
  intro cur l hl
  by_cases h:b=10
  ·simp [lin,h] at hl
   rcases hl with rfl | hl
   ·simp
   ·exact ih _ _ hl
  ·simp [lin,h] at hl; exact ih _ _ hl
theorem ASR (ls:List (List UInt8)) (h:∀ l∈ls,l≠[]):ls.length≤ls.flatten.length:=by
 induction ls with
 | nil=>simp
 | cons l ls ih =>
  have h1:=ih (fun x hx=>h x (by simp [hx]))
  have h2:0<l.length:=List.length_pos_iff.2 (h l (by simp))
  rw [List.flatten_cons,List.length_append,List.length_cons]; omega
theorem AyF (b:List UInt8):(Atp b).length≤b.length:=by
 have:=ASR (Atp b) (AOC b [])
 rwa [AvA] at this
end
section
def AG1:List UInt8→List UInt8×List UInt8
 | []=>([],[])
 | b::r=>if b=10 then ([b],r) else (b::(AG1 r).1,(AG1 r).2)
theorem APD (r:List UInt8):(AG1 r).1++(AG1 r).2=r:=by
 induction r with
 | nil=>rfl
 | cons b r ih=>rw [AG1]; split<;>simp [ih]
theorem ALA:∀ (r:List UInt8),r≠[]→(AG1 r).2.length<r.length
 | [],h=>absurd rfl h
 | b::r,_=>by
  rw [AG1]; split
  ·simp
  ·have:=congrArg List.length (APD r)
   rw [List.length_append] at this
   simp only [List.length_cons]; omega
theorem ANb (r:List UInt8):(∃ k:Nat,Lib.indexByte r 10=k∧k<r.length∧AG1 r=(r.take (k+1),r.drop (k+1)))∨(Lib.indexByte r 10 = -1∧AG1 r=(r,[])):=by
 induction r with
 | nil=>exact .inr ⟨rfl,rfl⟩
 | cons b r ih =>
  rw [AG1,Lib.indexByte]
  by_cases hb:b=10
  ·subst hb
   exact .inl ⟨0,by simp,by simp,by simp⟩
  ·have hbf:(b == 10)=false:=by simpa using hb
   rw [if_neg hb,hbf]
   rcases ih with ⟨k,h1,h2,h3⟩ | ⟨h1,h2⟩
   ·refine .inl ⟨k+1,?_,by simpa using h2,by rw [h3]; rfl⟩
    rw [h1]
    have:((k:Int) == -1)=false:=by rw [beq_eq_false_iff_ne]; omega
    simp [this]
   ·refine .inr ⟨by rw [h1]; simp,by rw [h2]⟩
theorem AU9 (r:List UInt8):∀ cur,(cur≠[]∨r≠[])→lin cur r=(cur++(AG1 r).1)::Atp (AG1 r).2:=by
 induction r with
 | nil =>
  intro cur h
  rcases h with h | h
  ·simp [lin,AG1,h,Atp]
  ·exact absurd rfl h
 | cons b r ih =>
  intro cur h
  rw [lin,AG1]
  by_cases hb:b=10
  ·simp [hb,Atp]
  ·rw [if_neg hb,if_neg hb,ih (cur++[b]) (.inl (by simp))]; simp
theorem AKa (r:List UInt8) (h:r≠[]):Atp r=(AG1 r).1::Atp (AG1 r).2:=by
 have:=AU9 r [] (.inr h); simpa [Atp] using this
end
section
def AtU (b:UInt8):Bool:=decide (48≤b.toNat∧b.toNat≤57)
def Axz (n:Nat) (l:List UInt8):Nat:=l.foldl (fun n b=>n*10+(b.toNat - 48)) n
theorem ACm (n:Nat):Axz n []=n:=by unfold Axz; rw [List.foldl_nil]
theorem ABA (n:Nat) (b:UInt8) (l:List UInt8):Axz n (b::l)=Axz (n*10+(b.toNat - 48)) l:=by unfold Axz; rw [List.foldl_cons]
theorem AIV (l m:List UInt8) (n:Nat):Axz n (l++m)=Axz (Axz n l) m:=by unfold Axz; rw [List.foldl_append]
theorem AGQ (n:Nat) (c:UInt8):Axz n [c]=n*10+(c.toNat - 48):=by rw [ABA,ACm]
def ABp (d:List UInt8):Prop:=d≠[]∧d.length≤9∧(d.length=1∨d[0]?≠some 48)
instance:DecidablePred ABp:=fun d=>by unfold ABp; infer_instance
def AzQ (s:List UInt8):Option (Nat×List UInt8):=if ABp (s.takeWhile AtU) then some (Axz 0 (s.takeWhile AtU),s.dropWhile AtU) else none
theorem AK0:∀ (l:List UInt8) (n k:Nat),n<10 ^ k→l.all AtU=true→Axz n l<10 ^ (k+l.length)
 | [],n,k,h,_=>by rw [ACm]; exact h
 | b::l,n,k,h,ha=>by
  rw [List.all_cons,Bool.and_eq_true] at ha
  have hb:b.toNat - 48≤9:=by
   have:=ha.1
   unfold AtU at this
   simp at this
   omega
  have h10:n*10+(b.toNat - 48)<10 ^ (k+1):=by
   rw [Nat.pow_succ]
   have:n+1≤10 ^ k:=h
   have h2:(n+1)*10≤10 ^ k*10:=Nat.mul_le_mul_right 10 this
   generalize 10 ^ k*10=z at *
   omega
  have:=AK0 l (n*10+(b.toNat - 48)) (k+1) h10 ha.2
  rw [List.length_cons,show k+(l.length+1)=k+1+l.length by omega]
  exact this
theorem AIP {l:List UInt8} (h:l.length≤10) (ha:l.all AtU=true):Axz 0 l<10000000000:=by
 have h1:=AK0 l 0 0 (by decide) ha
 have h2:10 ^ (0+l.length)≤10 ^ 10:=Nat.pow_le_pow_right (by decide) (by omega)
 exact Nat.lt_of_lt_of_le h1 (Nat.le_trans h2 (by decide))
theorem ATq {l:List UInt8} (h:l.length≤9) (ha:l.all AtU=true):Axz 0 l<1000000000:=by
 have h1:=AK0 l 0 0 (by decide) ha
 have h2:10 ^ (0+l.length)≤10 ^ 9:=Nat.pow_le_pow_right (by decide) (by omega)
 exact Nat.lt_of_lt_of_le h1 (Nat.le_trans h2 (by decide))
theorem ATu (s:List UInt8):(s.takeWhile AtU).all AtU=true:=List.all_takeWhile
theorem AOd {s r:List UInt8} {n:Nat} (h:AzQ s=some (n,r)):n<1000000000∧r.length≤s.length:=by
 unfold AzQ at h
 split at h
 ·rename_i hc
  cases h
  refine ⟨ATq hc.2.1 (ATu s),?_⟩
  have:=congrArg List.length (List.takeWhile_append_dropWhile (p:=AtU) (l:=s))
  rw [List.length_append] at this
  omega
 ·cases h
theorem AKN:∀ (l:List UInt8) (n:Nat),n≤Axz n l
 | [],n=>by rw [ACm]; exact Nat.le_refl n
 | b::l,n=>by rw [ABA]; exact Nat.le_trans (by omega) (AKN l _)
theorem AMh {b:UInt8} (h:AtU b=true):UInt8.ofNat (48+(b.toNat - 48))=b:=by
 unfold AtU at h
 simp at h
 rw [show 48+(b.toNat - 48)=b.toNat by omega]
 simp
theorem AXI:∀ (k:Nat) (d:List UInt8),d.length=k→d≠[]→d.all AtU=true→(d.length=1∨d[0]?≠some 48)→Lib.decDigits (Axz 0 d)=d:=by
 intro k
 induction k with
 | zero=>intro d h h0; exact absurd (List.eq_nil_of_length_eq_zero h) h0
 | succ k ih =>
  intro d hk h0 ha hc
  obtain ⟨c,e,rfl⟩:∃ c e,d=e++[c]:=⟨_,_,(List.dropLast_concat_getLast h0).symm⟩
  rw [List.all_append,Bool.and_eq_true,List.all_cons,Bool.and_eq_true] at ha
  rw [AIV,AGQ]
  have hcb:c.toNat - 48<10:=by
   have:=ha.2.1
   unfold AtU at this
   simp at this
   omega
  by_cases he:e=[]
  ·subst he
   rw [ACm,Nat.zero_mul,Nat.zero_add,Lib.decDigits_one hcb,AMh ha.2.1]
   rfl
  ·have hk2:e.length=k:=by simpa using hk
   obtain ⟨b,l,rfl⟩:∃ b l,e=b::l:=List.exists_cons_of_ne_nil he
   have hc2:¬ b=48:=by
    rcases hc with h | h
    ·simp at h
    ·simpa using h
   have hb:=ha.1
   rw [List.all_cons,Bool.and_eq_true] at hb
   have hb1:1≤b.toNat - 48:=by
    have:=hb.1
    unfold AtU at this
    simp at this
    have h48:b.toNat≠48:=fun h=>hc2 (UInt8.toNat_inj.1 h)
    omega
   have hbig:1≤Axz 0 (b::l):=by
    rw [ABA]
    exact Nat.le_trans (by omega) (AKN l _)
   have hi:=ih (b::l) hk2 he ha.1 (.inr (by simpa using hc2))
   generalize Axz 0 (b::l)=z at *
   rw [Lib.decDigits.eq_1,dif_neg (by omega),show (z*10+(c.toNat - 48)) / 10=z by omega,show (z*10+(c.toNat - 48)) % 10=c.toNat - 48 by omega,hi,AMh ha.2.1]
theorem APC {k:Nat} (hk:k<10):AtU (UInt8.ofNat (48+k))=true∧(UInt8.ofNat (48+k)).toNat - 48=k:=by
 have:(UInt8.ofNat (48+k)).toNat=48+k:=by rw [UInt8.toNat_ofNat']; omega
 unfold AtU
 rw [this]
 exact ⟨by simp; omega,by omega⟩
theorem AXw:∀ n:Nat,Lib.decDigits n≠[]∧(Lib.decDigits n).all AtU=true∧Axz 0 (Lib.decDigits n)=n∧((Lib.decDigits n).length=1∨(Lib.decDigits n)[0]?≠some 48):=by
 intro n
 induction n using Nat.strongRecOn with
 | _ n ih =>
  by_cases h:n<10
  ·obtain ⟨h1,h2⟩:=APC h
   rw [Lib.decDigits_one h,AGQ,h2,List.all_cons,h1]
   exact ⟨by simp,rfl,by omega,.inl rfl⟩
  ·obtain ⟨h0,h1,h2,h5⟩:=ih (n / 10) (by omega)
   obtain ⟨h3,h4⟩:=APC (k:=n % 10) (by omega)
   rw [Lib.decDigits.eq_1 n,dif_neg h,List.all_append,AIV,AGQ,h1,h2,h4,List.all_cons,h3]
   refine ⟨by simp,rfl,by omega,.inr ?_⟩
   rw [List.getElem?_append_left (List.length_pos_iff.2 h0)]
   rcases h5 with h5 | h5
   ·by_cases h9:n / 10<10
    ·rw [Lib.decDigits_one h9]
     intro e
     have e2:=congrArg UInt8.toNat (Option.some.inj e)
     rw [UInt8.toNat_ofNat'] at e2
     simp at e2
     omega
    ·rw [Lib.decDigits.eq_1,dif_neg h9,List.length_append,List.length_singleton] at h5
     exact absurd (List.eq_nil_of_length_eq_zero (by omega)) (ih (n / 10 / 10) (by omega)).1
   ·exact h5
theorem APi {d:List UInt8} (ha:d.all AtU=true) (h0:d≠[]) (h9:d.length≤9):ABp d↔Lib.decDigits (Axz 0 d)=d:=by
 constructor
 ·rintro ⟨h,_,h2⟩
  exact AXI _ d rfl h ha h2
 ·intro e
  refine ⟨h0,h9,?_⟩
  have:=(AXw (Axz 0 d)).2.2.2
  rwa [e] at this
theorem AOa:∀ (l:List UInt8) (n:Nat),l.all AtU=true→Axz n l<100000000000→Lib.parseUint10 n l = .ok (Axz n l)
 | [],n,_,_=>by rw [ACm]; rfl
 | b::l,n,ha,hl=>by
  rw [List.all_cons,Bool.and_eq_true] at ha
  have hb:=ha.1
  unfold AtU at hb
  simp at hb
  have:=AKN l (n*10+(b.toNat - 48))
  rw [ABA] at hl
  rw [Lib.parseUint10,if_pos hb,if_neg (by omega),if_neg (by omega),AOa l _ ha.2 hl,ABA]
theorem ASl {d:List UInt8} (ha:d.all AtU=true) (h0:d≠[]) (h9:d.length≤10):Lib.atoiAll d = .ok (Axz 0 d:Int):=by
 have hl:=AIP h9 ha
 obtain ⟨b,l,rfl⟩:=List.exists_cons_of_ne_nil h0
 have hb:=ha
 rw [List.all_cons,Bool.and_eq_true] at hb
 have hb1:=hb.1
 unfold AtU at hb1
 simp at hb1
 have hp:Lib.parseMag (b::l) = .ok (Axz 0 (b::l)):=by
  unfold Lib.parseMag
  rw [if_neg h0,AOa _ _ ha (by omega)]
 unfold Lib.atoiAll
 simp only
 rw [if_neg (by omega),hp]
 simp only
 rw [if_neg (by omega),if_neg (by omega),if_neg (by omega)]
def Axt (c:UInt8):Option Int:=if c=32 then some 0 else if c=45 then some 1 else if c=43 then some 2 else none
def noE:List UInt8:=[92,32,78,111,32,110,101,119,108,105,110,101,32,97,116,32,101,110,100,32,111,102,32,102,105,108,101,10]
abbrev EZ:=Int×List UInt8
def lnE (t r:List UInt8):List UInt8×List UInt8:=if noE.isPrefixOf r then (t,r.drop noE.length) else (t++[10],r)
def lnF (s:List UInt8):Option (EZ×List UInt8):=match ACd 10 s with
 | none=>none
 | some i=>match s.take i with
  | []=>none
  | c::t=>match Axt c with
   | none=>none
   | some k=>if (lnE t (s.drop (i+1))).1=[] then none else some ((k,(lnE t (s.drop (i+1))).1),(lnE t (s.drop (i+1))).2)
theorem ANR (t r:List UInt8):(lnE t r).2.length≤r.length∧(lnE t r).1.length≤t.length+1:=by
 unfold lnE
 split<;>simp
theorem Avu {s r:List UInt8} {e:EZ} (h:lnF s=some (e,r)):r.length<s.length∧e.2≠[]∧e.2.length+r.length≤s.length∧(e.1=0∨e.1=1∨e.1=2):=by
 unfold lnF at h
 split at h
 ·cases h
 rename_i i hi
 obtain ⟨h1,_,_⟩:=AFO hi
 split at h
 ·cases h
 rename_i c t ht
 split at h
 ·cases h
 rename_i k hk
 split at h
 ·cases h
 rename_i hne
 cases h
 have hl:=ANR t (s.drop (i+1))
 have htl:t.length+1=i:=by
  have:=congrArg List.length ht
  rw [List.length_take,List.length_cons] at this
  omega
 have hdl:(s.drop (i+1)).length=s.length - (i+1):=by simp
 refine ⟨by omega,hne,by show (lnE t (s.drop (i+1))).1.length+_≤_; omega,?_⟩
 unfold Axt at hk
 split at hk
 ·cases hk; exact .inl rfl
 split at hk
 ·cases hk; exact .inr (.inl rfl)
 split at hk
 ·cases hk; exact .inr (.inr rfl)
 ·cases hk
def zN (l:List EZ):Nat:=l.countP fun e=>decide (e.1≠2)
def zM (l:List EZ):Nat:=l.countP fun e=>decide (e.1≠1)
theorem AOx (l:List EZ):zN l≤l.length:=List.countP_le_length
theorem APf (l:List EZ):zM l≤l.length:=List.countP_le_length
theorem ANw (e:EZ):zN [e]=if e.1=2 then 0 else 1:=by unfold zN; by_cases h:e.1=2<;>simp [h]
theorem ATt (e:EZ):zM [e]=if e.1=1 then 0 else 1:=by unfold zM; by_cases h:e.1=1<;>simp [h]
theorem AOq (l m:List EZ):zN (l++m)=zN l+zN m:=List.countP_append
theorem ATg (l m:List EZ):zM (l++m)=zM l+zM m:=List.countP_append
def AHE (n m:Nat) (s:List UInt8) (es:List EZ):Option (List EZ×List UInt8) :=
 if zN es<n∨zM es<m then
  match h:lnF s with
  | none=>none
  | some (e,r)=>AHE n m r (es++[e])
 else if zN es=n∧zM es=m∧es.any (fun e=>decide (e.1≠0)) then some (es,s) else none
termination_by s.length
decreasing_by exact (Avu h).1
theorem AHi {n m:Nat} {s:List UInt8} {es:List EZ} (h:¬ (zN es<n∨zM es<m)):AHE n m s es=if zN es=n∧zM es=m∧es.any (fun e=>decide (e.1≠0)) then some (es,s) else none:=by
 rw [AHE,if_neg h]
theorem AI2 {n m:Nat} {s:List UInt8} {es:List EZ} (h:zN es<n∨zM es<m) (hl:lnF s=none):AHE n m s es=none:=by
 rw [AHE,if_pos h]
 split
 ·rfl
 ·rename_i e r h2; rw [hl] at h2; cases h2
theorem AK1 {n m:Nat} {s r:List UInt8} {es:List EZ} {e:EZ} (h:zN es<n∨zM es<m) (hl:lnF s=some (e,r)):AHE n m s es=AHE n m r (es++[e]):=by
 rw [AHE,if_pos h]
 split
 ·rename_i h2; rw [hl] at h2; cases h2
 ·rename_i e' r' h2; rw [hl] at h2; cases h2; rfl
structure HZ where
 at_:Nat
 to_:Nat
 es:List EZ
def Aur (w s:List UInt8):Option (List UInt8):=if w.isPrefixOf s then some (s.drop w.length) else none
def AH5 (s:List UInt8):Option (Nat×Nat×List UInt8):=match AzQ s with
 | none=>none
 | some (a,r)=>match Aur [44] r with
  | none=>none
  | some r=>match AzQ r with
   | none=>none
   | some (n,r)=>if 0<n then (if a=0 then none else some (a - 1,n,r)) else some (a,n,r)
def wAt:List UInt8:=[64,64,32,45]
def wPl:List UInt8:=[32,43]
def wEn:List UInt8:=[32,64,64,10]
def ABi (s:List UInt8):Option ((Nat×Nat)×(Nat×Nat)×List UInt8):=match Aur wAt s with
 | none=>none
 | some r=>match AH5 r with
  | none=>none
  | some (a,n,r)=>match Aur wPl r with
   | none=>none
   | some r=>match AH5 r with
    | none=>none
    | some (b,m,r)=>match Aur wEn r with
     | none=>none
     | some r=>some ((a,n),(b,m),r)
def AxC (s:List UInt8):Option (HZ×List UInt8):=match ABi s with
 | none=>none
 | some ((a,n),(b,m),r)=>match AHE n m r [] with
  | none=>none
  | some (es,r)=>some (⟨a,b,es⟩,r)
theorem AES {w s r:List UInt8} (h:Aur w s=some r):s=w++r:=by
 unfold Aur at h
 split at h
 ·rename_i hp
  cases h
  rw [List.isPrefixOf_iff_prefix] at hp
  obtain ⟨t,rfl⟩:=hp
  simp
 ·cases h
theorem AMc {s r:List UInt8} {a n:Nat} (h:AH5 s=some (a,n,r)):r.length≤s.length∧a<1000000000∧n<1000000000:=by
 unfold AH5 at h
 split at h
 ·cases h
 rename_i a1 r1 h1
 split at h
 ·cases h
 rename_i r2 h2
 split at h
 ·cases h
 rename_i n1 r3 h3
 have l1:=AOd h1
 have l2:=congrArg List.length (AES h2)
 have l3:=AOd h3
 rw [List.length_append] at l2
 split at h
 ·split at h
  ·cases h
  ·cases h; omega
 ·cases h; omega
theorem AKi {s r:List UInt8} {p q:Nat×Nat} (h:ABi s=some (p,q,r)):r.length+10≤s.length∧p.1<1000000000∧p.2<1000000000∧q.1<1000000000∧q.2<1000000000:=by
 unfold ABi at h
 split at h
 ·cases h
 rename_i r1 h1
 split at h
 ·cases h
 rename_i a n r2 h2
 split at h
 ·cases h
 rename_i r3 h3
 split at h
 ·cases h
 rename_i b m r4 h4
 split at h
 ·cases h
 rename_i r5 h5
 cases h
 have l1:=congrArg List.length (AES h1)
 have l2:=AMc h2
 have l3:=congrArg List.length (AES h3)
 have l4:=AMc h4
 have l5:=congrArg List.length (AES h5)
 rw [List.length_append] at l1 l3 l5
 have e1:wAt.length=4:=rfl
 have e2:wPl.length=2:=rfl
 have e3:wEn.length=4:=rfl
 exact ⟨by omega,l2.2.1,l2.2.2,l4.2.1,l4.2.2⟩
theorem AIZ (n m:Nat):∀ (k:Nat) (s:List UInt8) (es:List EZ) (fs:List EZ) (r:List UInt8),s.length≤k→AHE n m s es=some (fs,r) →
  r.length≤s.length∧zN fs=n∧zM fs=m∧∃ gs,fs=es++gs∧gs.length+r.length≤s.length∧(gs.flatMap (·.2)).length+r.length≤s.length∧∀ g∈gs,g.2≠[]∧(g.1=0∨g.1=1∨g.1=2)
 | k,s,es,fs,r,hk,h=>by
  by_cases hs:zN es<n∨zM es<m
  ·cases hl:lnF s with
   | none=>rw [AI2 hs hl] at h; cases h
   | some p =>
    obtain ⟨e,q⟩:=p
    rw [AK1 hs hl] at h
    obtain ⟨h1,h2,h3,h4⟩:=Avu hl
    match k,hk with
    | 0,hk=>exact absurd h1 (by omega)
    | k+1,hk =>
     obtain ⟨i1,i2,i3,gs,rfl,i4,i5,i6⟩:=AIZ n m k q _ fs r (by omega) h
     refine ⟨by omega,i2,i3,e::gs,by simp,by simp; omega,?_,?_⟩
     ·rw [List.flatMap_cons,List.length_append]; omega
     ·intro g hg
      rcases List.mem_cons.1 hg with rfl | hg
      ·exact ⟨h2,h4⟩
      ·exact i6 g hg
  ·rw [AHi hs] at h
   split at h
   ·rename_i hc
    cases h
    exact ⟨Nat.le_refl _,hc.1,hc.2.1,[],by simp,by simp,by simp,by simp⟩
   ·cases h
theorem AEf {s r:List UInt8} {h:HZ} (e:AxC s=some (h,r)):r.length+10≤s.length∧h.at_<1000000000∧h.to_<1000000000∧h.es.length+r.length≤s.length∧(h.es.flatMap (·.2)).length+r.length≤s.length∧∀ g∈h.es,g.2≠[]∧(g.1=0∨g.1=1∨g.1=2):=by
 unfold AxC at e
 split at e
 ·cases e
 rename_i a n b m r1 h1
 split at e
 ·cases e
 rename_i es r2 h2
 cases e
 have l1:=AKi h1
 obtain ⟨l2,_,_,gs,rfl,l3,l4,l5⟩:=AIZ n m _ _ _ _ _ (Nat.le_refl _) h2
 simp only [List.nil_append]
 exact ⟨by omega,l1.2.1,l1.2.2.2.1,by omega,by omega,l5⟩
def ADR (s:List UInt8) (en:Nat) (sh:Int):Option (List HZ) :=
 if s=[] then some [] else
  match h:AxC s with
  | none=>none
  | some (x,r)=>if x.at_<en∨(x.to_:Int)≠x.at_+sh then none else (ADR r (x.at_+zN x.es) (sh+zM x.es - zN x.es)).map (x :: ·)
termination_by s.length
decreasing_by have:=AEf h; omega
theorem AI3 {en:Nat} {sh:Int}:ADR [] en sh=some []:=by rw [ADR,if_pos rfl]
theorem AGO {s:List UInt8} {en:Nat} {sh:Int} (h0:s≠[]) (h:AxC s=none):ADR s en sh=none:=by
 rw [ADR,if_neg h0]
 split
 ·rfl
 ·rename_i x r h2; rw [h] at h2; cases h2
theorem ALj {s r:List UInt8} {x:HZ} {en:Nat} {sh:Int} (h0:s≠[]) (h:AxC s=some (x,r)):ADR s en sh=if x.at_<en∨(x.to_:Int)≠x.at_+sh then none else (ADR r (x.at_+zN x.es) (sh+zM x.es - zN x.es)).map (x :: ·):=by
 rw [ADR,if_neg h0]
 split
 ·rename_i h2; rw [h] at h2; cases h2
 ·rename_i x' r' h2; rw [h] at h2; cases h2; rfl
def apE (x:List (List UInt8)):Nat→List EZ→Option (List (List UInt8)×Nat)
 | at_,[]=>some ([],at_)
 | at_,e::es=>if e.1≠2∧x[at_]?≠some e.2 then none else (apE x (if e.1≠2 then at_+1 else at_) es).map fun p=>(if e.1≠1 then e.2::p.1 else p.1,p.2)
def apH (x:List (List UInt8)):Nat→List HZ→Option (List (List UInt8))
 | at_,[]=>some (x.drop at_)
 | at_,h::hs=>if x.length<h.at_ then none else match apE x h.at_ h.es with
  | none=>none
  | some (y,a)=>(apH x a hs).map fun z=>(x.take h.at_).drop at_++(y++z)
def AKL (y:List (List UInt8)):Prop:=∀ i l,y[i]?=some l→i+1<y.length→l.getLast?=some 10
inductive AZE where
 | no (e:Nat)
 | yes (b:List UInt8)
open Classical in
noncomputable def AuU (a p:List UInt8):AZE:=match ADR p 0 0 with
 | none => .no 90
 | some hs=>match apH (Atp a) 0 hs with
  | none => .no 91
  | some y=>if AKL y then .yes y.flatten else .no 91
end
end Go.Proofs.YtkoilgokgaigbaaGreatDoor
namespace Go.Proofs
open Go.Shelf
def Tryz.lays156_ren:Go.Shelf.Ren:=⟨fun | 156=>17 | 165=>31 | 166=>32 | 169=>26 | 240=>45 | 241=>46 | 276=>58 | 277=>59 | n=>n,fun | 31=>42 | 9=>9 | 3=>3 | 4=>4 | 0=>0 | 20=>20 | 72=>68 | 76=>82 | 70=>66 | 37=>22 | 75=>25 | 127=>102 | 164=>86 | 5=>5 | 80=>71 | n=>n,fun | n=>n⟩
theorem Tryz.lays156:Go.Proofs.Lays.n156 Tryz.prog Tryz.lays156_ren:={
 mixed:=by kernel_rfl
 f156:=Tryz.func17.trans (congrArg some (by kernel_rfl))
 f165:=Tryz.func31.trans (congrArg some (by kernel_rfl))
 f166:=Tryz.func32.trans (congrArg some (by kernel_rfl))
 f169:=Tryz.func26.trans (congrArg some (by kernel_rfl))
 f240:=Tryz.func45.trans (congrArg some (by kernel_rfl))
 f241:=Tryz.func46.trans (congrArg some (by kernel_rfl))
 f276:=Tryz.func58.trans (congrArg some (by kernel_rfl))
 f277:=Tryz.func59.trans (congrArg some (by kernel_rfl))
 t0:=Tryz.underlying0
 a0:=Tryz.isAgg0
 z0:=Tryz.sizeOf0
 v0:=Tryz.zeroValue0
 t3:=Tryz.underlying3
 a3:=Tryz.isAgg3
 z3:=Tryz.sizeOf3
 v3:=Tryz.zeroValue3
 t4:=Tryz.underlying4
 a4:=Tryz.isAgg4
 z4:=Tryz.sizeOf4
 v4:=Tryz.zeroValue4
 t9:=Tryz.underlying9
 a9:=Tryz.isAgg9
 z9:=Tryz.sizeOf9
 v9:=Tryz.zeroValue9
 t20:=Tryz.underlying20
 a20:=Tryz.isAgg20
 z20:=Tryz.sizeOf20
 v20:=Tryz.zeroValue20
 t31:=Tryz.underlying42
 a31:=Tryz.isAgg42
 z31:=Tryz.sizeOf42
 v31:=Tryz.zeroValue42
 t37:=Tryz.underlying22
 a37:=Tryz.isAgg22
 z37:=Tryz.sizeOf22
 v37:=Tryz.zeroValue22
 t70:=Tryz.underlying66
 a70:=Tryz.isAgg66
 z70:=Tryz.sizeOf66
 v70:=Tryz.zeroValue66
 t72:=Tryz.underlying68
 a72:=Tryz.isAgg68
 z72:=Tryz.sizeOf68
 v72:=Tryz.zeroValue68
 t75:=Tryz.underlying25
 a75:=Tryz.isAgg25
 z75:=Tryz.sizeOf25
 v75:=Tryz.zeroValue25
 t76:=Tryz.underlying82
 a76:=Tryz.isAgg82
 z76:=Tryz.sizeOf82
 v76:=Tryz.zeroValue82
 t127:=Tryz.underlying102
 a127:=Tryz.isAgg102
 z127:=Tryz.sizeOf102
 v127:=Tryz.zeroValue102
 t164:=Tryz.underlying86
 a164:=Tryz.isAgg86
 z164:=Tryz.sizeOf86
 v164:=Tryz.zeroValue86 }
theorem Tryz.Builder_Extra_156:Builder.Extra Tryz.prog Tryz.lays156_ren:={
 sizeBuilder:=by kernel_rfl
 liesBuilder:=by kernel_rfl
 t5:=Tryz.underlying5
 a5:=Tryz.isAgg5
 z5:=Tryz.sizeOf5
 v5:=Tryz.zeroValue5
 infoByte:=by kernel_rfl
 cellsByte:=by kernel_rfl
 sizeByte:=by kernel_rfl
 neB5:=by decide }
open Go.RowKit in
theorem Tryz.strings_Join_none (a:Option Addr) (c:Nat) (sep:ByteArray) (w:World) :
  Calls Tryz.prog 17 #[.slice a 0 c,.string sep] w fun e w'=>e = .returned (.string ⟨#[]⟩)∧w'=w:=Any.strings_Join_none Tryz.lays156 Tryz.Builder_Extra_156 a c sep w
open Go.RowKit in
theorem Tryz.strings_Join (bk o c:Nat) (xs:List ByteArray) (sep:ByteArray) (w:World) (hcells:∀ (j:Nat) x,xs[j]?=some x→w.cell? ⟨bk,o+j,none⟩=some (.string x)) (hbk:bk<w.heap.size) (hN:xs.length≤140737488355328) (hcap:xs.length≤c) (hlen:(Lib.join (xs.map (·.data.toList)) sep.data.toList).length≤140737488355328) :
  Calls Tryz.prog 17 #[.slice (some ⟨bk,o,none⟩) xs.length c,.string sep] w fun e w'=>e = .returned (.string ⟨(Lib.join (xs.map (·.data.toList)) sep.data.toList).toArray⟩)∧Below w.heap.size w w':=Any.strings_Join Tryz.lays156 Tryz.Builder_Extra_156 bk o c xs sep w hcells hbk hN hcap hlen
def Tryz.lays161_ren:Go.Shelf.Ren:=⟨fun | 161=>62 | 231=>67 | 227=>68 | 233=>69 | 235=>70 | 228=>78 | 197=>79 | 151=>80 | 260=>95 | 152=>96 | 137=>104 | 119=>105 | 224=>88 | 225=>87 | 217=>86 | 266=>100 | n=>n,fun | 9=>9 | 4=>4 | 3=>3 | 5=>5 | 117=>137 | 116=>136 | 0=>0 | 124=>140 | 105=>150 | 21=>21 | 119=>178 | 46=>161 | 139=>181 | 138=>180 | n=>n,fun | 3=>6 | 4=>7 | n=>n⟩
theorem Tryz.lays161:Go.Proofs.Lays.n161 Tryz.prog Tryz.lays161_ren:={
 mixed:=by kernel_rfl
 f119:=Tryz.func105.trans (congrArg some (by kernel_rfl))
 f137:=Tryz.func104.trans (congrArg some (by kernel_rfl))
 f151:=Tryz.func80.trans (congrArg some (by kernel_rfl))
 f152:=Tryz.func96.trans (congrArg some (by kernel_rfl))
 f161:=Tryz.func62.trans (congrArg some (by kernel_rfl))
 f197:=Tryz.func79.trans (congrArg some (by kernel_rfl))
 f217:=Tryz.func86.trans (congrArg some (by kernel_rfl))
 f224:=Tryz.func88.trans (congrArg some (by kernel_rfl))
 f225:=Tryz.func87.trans (congrArg some (by kernel_rfl))
 f227:=Tryz.func68.trans (congrArg some (by kernel_rfl))
 f228:=Tryz.func78.trans (congrArg some (by kernel_rfl))
 f231:=Tryz.func67.trans (congrArg some (by kernel_rfl))
 f233:=Tryz.func69.trans (congrArg some (by kernel_rfl))
 f235:=Tryz.func70.trans (congrArg some (by kernel_rfl))
 f260:=Tryz.func95.trans (congrArg some (by kernel_rfl))
 f266:=Tryz.func100.trans (congrArg some (by kernel_rfl))
 t0:=Tryz.underlying0
 a0:=Tryz.isAgg0
 z0:=Tryz.sizeOf0
 v0:=Tryz.zeroValue0
 t3:=Tryz.underlying3
 a3:=Tryz.isAgg3
 z3:=Tryz.sizeOf3
 v3:=Tryz.zeroValue3
 t4:=Tryz.underlying4
 a4:=Tryz.isAgg4
 z4:=Tryz.sizeOf4
 v4:=Tryz.zeroValue4
 t5:=Tryz.underlying5
 a5:=Tryz.isAgg5
 z5:=Tryz.sizeOf5
 v5:=Tryz.zeroValue5
 t9:=Tryz.underlying9
 a9:=Tryz.isAgg9
 z9:=Tryz.sizeOf9
 v9:=Tryz.zeroValue9
 t21:=Tryz.underlying21
 a21:=Tryz.isAgg21
 z21:=Tryz.sizeOf21
 v21:=Tryz.zeroValue21
 t46:=Tryz.underlying161
 a46:=Tryz.isAgg161
 z46:=Tryz.sizeOf161
 v46:=Tryz.zeroValue161
 t105:=Tryz.underlying150
 a105:=Tryz.isAgg150
 z105:=Tryz.sizeOf150
 v105:=Tryz.zeroValue150
 t116:=Tryz.underlying136
 a116:=Tryz.isAgg136
 z116:=Tryz.sizeOf136
 t117:=Tryz.underlying137
 a117:=Tryz.isAgg137
 z117:=Tryz.sizeOf137
 v117:=Tryz.zeroValue137
 t119:=Tryz.underlying178
 a119:=Tryz.isAgg178
 z119:=Tryz.sizeOf178
 t124:=Tryz.underlying140
 a124:=Tryz.isAgg140
 z124:=Tryz.sizeOf140
 v124:=Tryz.zeroValue140
 t138:=Tryz.underlying180
 a138:=Tryz.isAgg180
 z138:=Tryz.sizeOf180
 v138:=Tryz.zeroValue180
 t139:=Tryz.underlying181
 a139:=Tryz.isAgg181
 z139:=Tryz.sizeOf181
 v139:=Tryz.zeroValue181
 g3:=by kernel_rfl
 g4:=by kernel_rfl }
def Tryz.lays103_ren:Go.Shelf.Ren:=⟨fun | 103=>53 | 210=>61 | 206=>66 | n=>n,fun | 9=>9 | 4=>4 | 24=>107 | 3=>3 | n=>n,fun | n=>n⟩
theorem Tryz.lays103:Go.Proofs.Lays.n103 Tryz.prog Tryz.lays103_ren:={
 mixed:=by kernel_rfl
 f103:=Tryz.func53.trans (congrArg some (by kernel_rfl))
 f206:=Tryz.func66.trans (congrArg some (by kernel_rfl))
 f210:=Tryz.func61.trans (congrArg some (by kernel_rfl))
 t3:=Tryz.underlying3
 a3:=Tryz.isAgg3
 z3:=Tryz.sizeOf3
 v3:=Tryz.zeroValue3
 t4:=Tryz.underlying4
 a4:=Tryz.isAgg4
 z4:=Tryz.sizeOf4
 v4:=Tryz.zeroValue4
 t9:=Tryz.underlying9
 a9:=Tryz.isAgg9
 z9:=Tryz.sizeOf9
 v9:=Tryz.zeroValue9
 t24:=Tryz.underlying107
 a24:=Tryz.isAgg107
 z24:=Tryz.sizeOf107
 v24:=Tryz.zeroValue107 }
open Go.RowKit in
theorem Tryz.strings_CutPrefix (s p:ByteArray) (w:World) :
  Calls Tryz.prog 53 #[.string s,.string p] w fun e w'=>e = .returned (.tuple #[.string ⟨(Lib.trimPrefix s.data.toList p.data.toList).toArray⟩,.bool (Lib.hasPrefix s.data.toList p.data.toList)])∧w'=w:=Any.strings_CutPrefix Tryz.lays103 s p w
def Tryz.laysM171_ren:Go.Shelf.Ren:=⟨fun | 171=>52 | 243=>60 | 246=>65 | 283=>74 | 284=>75 | 285=>76 | 286=>77 | 129=>91 | 317=>90 | 318=>92 | 319=>93 | 320=>94 | 337=>102 | 338=>103 | n=>n,fun | 3=>3 | 9=>9 | 2=>2 | 4=>4 | 171=>143 | 0=>0 | 53=>144 | 37=>22 | 5=>5 | 173=>147 | 212=>163 | 51=>164 | 20=>20 | 213=>165 | 46=>161 | 232=>188 | 233=>189 | n=>n,fun | 17=>3 | 18=>8 | 19=>9 | n=>n⟩
theorem Tryz.laysM171:Go.Proofs.LaysM.n171 Tryz.prog Tryz.laysM171_ren:={
 mixed:=by kernel_rfl
 f129:=Tryz.func91.trans (congrArg some (by kernel_rfl))
 f171:=Tryz.func52.trans (congrArg some (by kernel_rfl))
 f243:=Tryz.func60.trans (congrArg some (by kernel_rfl))
 f246:=Tryz.func65.trans (congrArg some (by kernel_rfl))
 f283:=Tryz.func74.trans (congrArg some (by kernel_rfl))
 f284:=Tryz.func75.trans (congrArg some (by kernel_rfl))
 f285:=Tryz.func76.trans (congrArg some (by kernel_rfl))
 f286:=Tryz.func77.trans (congrArg some (by kernel_rfl))
 f317:=Tryz.func90.trans (congrArg some (by kernel_rfl))
 f318:=Tryz.func92.trans (congrArg some (by kernel_rfl))
 f319:=Tryz.func93.trans (congrArg some (by kernel_rfl))
 f320:=Tryz.func94.trans (congrArg some (by kernel_rfl))
 f337:=Tryz.func102.trans (congrArg some (by kernel_rfl))
 f338:=Tryz.func103.trans (congrArg some (by kernel_rfl))
 t0:=Tryz.underlying0
 a0:=Tryz.isAgg0
 z0:=Tryz.sizeOf0
 v0:=Tryz.zeroValue0
 t2:=Tryz.underlying2
 a2:=Tryz.isAgg2
 z2:=Tryz.sizeOf2
 v2:=Tryz.zeroValue2
 t3:=Tryz.underlying3
 a3:=Tryz.isAgg3
 z3:=Tryz.sizeOf3
 v3:=Tryz.zeroValue3
 t4:=Tryz.underlying4
 a4:=Tryz.isAgg4
 z4:=Tryz.sizeOf4
 v4:=Tryz.zeroValue4
 t5:=Tryz.underlying5
 a5:=Tryz.isAgg5
 z5:=Tryz.sizeOf5
 v5:=Tryz.zeroValue5
 t9:=Tryz.underlying9
 a9:=Tryz.isAgg9
 z9:=Tryz.sizeOf9
 v9:=Tryz.zeroValue9
 t20:=Tryz.underlying20
 a20:=Tryz.isAgg20
 z20:=Tryz.sizeOf20
 v20:=Tryz.zeroValue20
 t37:=Tryz.underlying22
 a37:=Tryz.isAgg22
 z37:=Tryz.sizeOf22
 v37:=Tryz.zeroValue22
 t46:=Tryz.underlying161
 a46:=Tryz.isAgg161
 z46:=Tryz.sizeOf161
 v46:=Tryz.zeroValue161
 t51:=Tryz.underlying164
 a51:=Tryz.isAgg164
 z51:=Tryz.sizeOf164
 v51:=Tryz.zeroValue164
 t53:=Tryz.underlying144
 a53:=Tryz.isAgg144
 z53:=Tryz.sizeOf144
 v53:=Tryz.zeroValue144
 t171:=Tryz.underlying143
 a171:=Tryz.isAgg143
 z171:=Tryz.sizeOf143
 v171:=Tryz.zeroValue143
 t173:=Tryz.underlying147
 a173:=Tryz.isAgg147
 z173:=Tryz.sizeOf147
 v173:=Tryz.zeroValue147
 t212:=Tryz.underlying163
 a212:=Tryz.isAgg163
 z212:=Tryz.sizeOf163
 v212:=Tryz.zeroValue163
 t213:=Tryz.underlying165
 a213:=Tryz.isAgg165
 z213:=Tryz.sizeOf165
 t232:=Tryz.underlying188
 a232:=Tryz.isAgg188
 z232:=Tryz.sizeOf188
 v232:=Tryz.zeroValue188
 t233:=Tryz.underlying189
 a233:=Tryz.isAgg189
 z233:=Tryz.sizeOf189
 v233:=Tryz.zeroValue189
 g17:=by kernel_rfl
 g18:=by kernel_rfl
 g19:=by kernel_rfl
 i0:=by kernel_rfl
 i2:=by kernel_rfl
 i3:=by kernel_rfl
 i4:=by kernel_rfl
 i5:=by kernel_rfl
 i9:=by kernel_rfl
 i20:=by kernel_rfl
 i37:=by kernel_rfl
 i46:=by kernel_rfl
 i51:=by kernel_rfl
 i53:=by kernel_rfl
 i171:=by kernel_rfl
 i173:=by kernel_rfl
 i212:=by kernel_rfl
 i232:=by kernel_rfl
 i233:=by kernel_rfl
 m17:=by kernel_rfl
 m18:=by kernel_rfl
 m19:=by kernel_rfl }
open Go.RowKit Go.Sort Go.Lib in
theorem Tryz.strconv_Itoa (n:Int) (h0 : -9223372036854775808≤n) (h1:n≤9223372036854775807) (w:World) (htab:Lib.TabIs Tryz.prog w "internal/strconv.uint64pow10" .u64 Lib.pow10Tab) :
  Calls Tryz.prog 52 #[.int .i64 n] w fun e w'=>e = .returned (.string ⟨(Lib.itoa n).toArray⟩)∧∃ k os,w'=grow (w.drewN k) os:=Any.strconv_Itoa Tryz.laysM171 n h0 h1 w htab
def Tryz.laysC172_ren:Go.Shelf.Ren:=⟨fun | 172=>63 | 244=>71 | 245=>72 | 247=>81 | 279=>82 | 280=>83 | 281=>84 | 282=>85 | 287=>97 | 316=>98 | 171=>52 | 205=>99 | 321=>106 | 322=>107 | 243=>60 | 246=>65 | 283=>74 | 284=>75 | 285=>76 | 286=>77 | 129=>91 | 317=>90 | 318=>92 | 319=>93 | 320=>94 | 337=>102 | 338=>103 | n=>n,fun | 9=>9 | 3=>3 | 75=>25 | 76=>82 | 4=>4 | 5=>5 | 167=>153 | 37=>22 | 0=>0 | 85=>154 | 2=>2 | 168=>156 | 53=>144 | 175=>169 | 46=>161 | 210=>173 | 127=>102 | 145=>187 | 143=>185 | 21=>21 | 171=>143 | 173=>147 | 212=>163 | 51=>164 | 20=>20 | 213=>165 | 232=>188 | 233=>189 | 80=>71 | n=>n,fun | 15=>4 | 16=>5 | 17=>3 | 18=>8 | 19=>9 | n=>n⟩
theorem Tryz.laysC172:Go.Proofs.LaysC.n172 Tryz.prog Tryz.laysC172_ren:={
 mixed:=by kernel_rfl
 f129:=Tryz.func91.trans (congrArg some (by kernel_rfl))
 f171:=Tryz.func52.trans (congrArg some (by kernel_rfl))
 f172:=Tryz.func63.trans (congrArg some (by kernel_rfl))
 f205:=Tryz.func99.trans (congrArg some (by kernel_rfl))
 f243:=Tryz.func60.trans (congrArg some (by kernel_rfl))
 f244:=Tryz.func71.trans (congrArg some (by kernel_rfl))
 f245:=Tryz.func72.trans (congrArg some (by kernel_rfl))
 f246:=Tryz.func65.trans (congrArg some (by kernel_rfl))
 f247:=Tryz.func81.trans (congrArg some (by kernel_rfl))
 f279:=Tryz.func82.trans (congrArg some (by kernel_rfl))
 f280:=Tryz.func83.trans (congrArg some (by kernel_rfl))
 f281:=Tryz.func84.trans (congrArg some (by kernel_rfl))
 f282:=Tryz.func85.trans (congrArg some (by kernel_rfl))
 f283:=Tryz.func74.trans (congrArg some (by kernel_rfl))
 f284:=Tryz.func75.trans (congrArg some (by kernel_rfl))
 f285:=Tryz.func76.trans (congrArg some (by kernel_rfl))
 f286:=Tryz.func77.trans (congrArg some (by kernel_rfl))
 f287:=Tryz.func97.trans (congrArg some (by kernel_rfl))
 f316:=Tryz.func98.trans (congrArg some (by kernel_rfl))
 f317:=Tryz.func90.trans (congrArg some (by kernel_rfl))
 f318:=Tryz.func92.trans (congrArg some (by kernel_rfl))
 f319:=Tryz.func93.trans (congrArg some (by kernel_rfl))
 f320:=Tryz.func94.trans (congrArg some (by kernel_rfl))
 f321:=Tryz.func106.trans (congrArg some (by kernel_rfl))
 f322:=Tryz.func107.trans (congrArg some (by kernel_rfl))
 f337:=Tryz.func102.trans (congrArg some (by kernel_rfl))
 f338:=Tryz.func103.trans (congrArg some (by kernel_rfl))
 t0:=Tryz.underlying0
 a0:=Tryz.isAgg0
 z0:=Tryz.sizeOf0
 v0:=Tryz.zeroValue0
 t2:=Tryz.underlying2
 a2:=Tryz.isAgg2
 z2:=Tryz.sizeOf2
 v2:=Tryz.zeroValue2
 t3:=Tryz.underlying3
 a3:=Tryz.isAgg3
 z3:=Tryz.sizeOf3
 v3:=Tryz.zeroValue3
 t4:=Tryz.underlying4
 a4:=Tryz.isAgg4
 z4:=Tryz.sizeOf4
 v4:=Tryz.zeroValue4
 t5:=Tryz.underlying5
 a5:=Tryz.isAgg5
 z5:=Tryz.sizeOf5
 v5:=Tryz.zeroValue5
 t9:=Tryz.underlying9
 a9:=Tryz.isAgg9
 z9:=Tryz.sizeOf9
 v9:=Tryz.zeroValue9
 t20:=Tryz.underlying20
 a20:=Tryz.isAgg20
 z20:=Tryz.sizeOf20
 v20:=Tryz.zeroValue20
 t21:=Tryz.underlying21
 a21:=Tryz.isAgg21
 z21:=Tryz.sizeOf21
 v21:=Tryz.zeroValue21
 t37:=Tryz.underlying22
 a37:=Tryz.isAgg22
 z37:=Tryz.sizeOf22
 v37:=Tryz.zeroValue22
 t46:=Tryz.underlying161
 a46:=Tryz.isAgg161
 z46:=Tryz.sizeOf161
 v46:=Tryz.zeroValue161
 t51:=Tryz.underlying164
 a51:=Tryz.isAgg164
 z51:=Tryz.sizeOf164
 v51:=Tryz.zeroValue164
 t53:=Tryz.underlying144
 a53:=Tryz.isAgg144
 z53:=Tryz.sizeOf144
 v53:=Tryz.zeroValue144
 t75:=Tryz.underlying25
 a75:=Tryz.isAgg25
 z75:=Tryz.sizeOf25
 v75:=Tryz.zeroValue25
 t76:=Tryz.underlying82
 a76:=Tryz.isAgg82
 z76:=Tryz.sizeOf82
 v76:=Tryz.zeroValue82
 t85:=Tryz.underlying154
 a85:=Tryz.isAgg154
 z85:=Tryz.sizeOf154
 v85:=Tryz.zeroValue154
 t127:=Tryz.underlying102
 a127:=Tryz.isAgg102
 z127:=Tryz.sizeOf102
 v127:=Tryz.zeroValue102
 t143:=Tryz.underlying185
 a143:=Tryz.isAgg185
 z143:=Tryz.sizeOf185
 v143:=Tryz.zeroValue185
 t145:=Tryz.underlying187
 a145:=Tryz.isAgg187
 z145:=Tryz.sizeOf187
 v145:=Tryz.zeroValue187
 t167:=Tryz.underlying153
 a167:=Tryz.isAgg153
 z167:=Tryz.sizeOf153
 v167:=Tryz.zeroValue153
 t168:=Tryz.underlying156
 a168:=Tryz.isAgg156
 z168:=Tryz.sizeOf156
 v168:=Tryz.zeroValue156
 t171:=Tryz.underlying143
 a171:=Tryz.isAgg143
 z171:=Tryz.sizeOf143
 v171:=Tryz.zeroValue143
 t173:=Tryz.underlying147
 a173:=Tryz.isAgg147
 z173:=Tryz.sizeOf147
 v173:=Tryz.zeroValue147
 t175:=Tryz.underlying169
 a175:=Tryz.isAgg169
 z175:=Tryz.sizeOf169
 v175:=Tryz.zeroValue169
 t210:=Tryz.underlying173
 a210:=Tryz.isAgg173
 z210:=Tryz.sizeOf173
 v210:=Tryz.zeroValue173
 t212:=Tryz.underlying163
 a212:=Tryz.isAgg163
 z212:=Tryz.sizeOf163
 v212:=Tryz.zeroValue163
 t213:=Tryz.underlying165
 a213:=Tryz.isAgg165
 z213:=Tryz.sizeOf165
 t232:=Tryz.underlying188
 a232:=Tryz.isAgg188
 z232:=Tryz.sizeOf188
 v232:=Tryz.zeroValue188
 t233:=Tryz.underlying189
 a233:=Tryz.isAgg189
 z233:=Tryz.sizeOf189
 v233:=Tryz.zeroValue189
 g15:=by kernel_rfl
 g16:=by kernel_rfl
 g17:=by kernel_rfl
 g18:=by kernel_rfl
 g19:=by kernel_rfl
 t80:=Tryz.underlying71
 a80:=Tryz.isAgg71
 z80:=Tryz.sizeOf71
 v80:=Tryz.zeroValue71
 i0:=by kernel_rfl
 i2:=by kernel_rfl
 i3:=by kernel_rfl
 i4:=by kernel_rfl
 i5:=by kernel_rfl
 i9:=by kernel_rfl
 i20:=by kernel_rfl
 i21:=by kernel_rfl
 i37:=by kernel_rfl
 i46:=by kernel_rfl
 i51:=by kernel_rfl
 i53:=by kernel_rfl
 i75:=by kernel_rfl
 i76:=by kernel_rfl
 i80:=by kernel_rfl
 i85:=by kernel_rfl
 i127:=by kernel_rfl
 i143:=by kernel_rfl
 i145:=by kernel_rfl
 i167:=by kernel_rfl
 i168:=by kernel_rfl
 i171:=by kernel_rfl
 i173:=by kernel_rfl
 i175:=by kernel_rfl
 i210:=by kernel_rfl
 i212:=by kernel_rfl
 i232:=by kernel_rfl
 i233:=by kernel_rfl
 m15:=by kernel_rfl
 m16:=by kernel_rfl
 m17:=by kernel_rfl
 m18:=by kernel_rfl
 m19:=by kernel_rfl
 c0:=by kernel_rfl
 c2:=by kernel_rfl
 c3:=by kernel_rfl
 c4:=by kernel_rfl
 c5:=by kernel_rfl
 c9:=by kernel_rfl
 c20:=by kernel_rfl
 c21:=by kernel_rfl
 c37:=by kernel_rfl
 c46:=by kernel_rfl
 c51:=by kernel_rfl
 c53:=by kernel_rfl
 c75:=by kernel_rfl
 c76:=by kernel_rfl
 c80:=by kernel_rfl
 c85:=by kernel_rfl
 c127:=by kernel_rfl
 c143:=by kernel_rfl
 c145:=by kernel_rfl
 c167:=by kernel_rfl
 c168:=by kernel_rfl
 c171:=by kernel_rfl
 c173:=by kernel_rfl
 c175:=by kernel_rfl
 c210:=by kernel_rfl
 c212:=by kernel_rfl
 c213:=by kernel_rfl
 c232:=by kernel_rfl
 c233:=by kernel_rfl }
open Go.RowKit in
theorem Tryz.strconv_Atoi_ok (s:ByteArray) (hmax:s.size≤9223372036854775806) (v:Int) (h:Lib.atoiAll s.data.toList = .ok v) (w:World) :
  Calls Tryz.prog 63 #[.string s] w fun e w'=>e = .returned (.tuple #[.int .i64 v,.nilIface])∧(w'=w∨∃ t,w'=Lib.bytesWorld w 5 t):=Any.strconv_Atoi_ok Tryz.laysC172 s hmax v h w
open Go.RowKit in
theorem Tryz.strconv_Atoi_syntax (s:ByteArray) (hlim:s.size≤281474976710656) (h:Lib.atoiAll s.data.toList=Lib.NumEnd.syntax) (ev:Value) (w:World) (hv:w.cell? ⟨4,0,none⟩=some ev) (hev:ev = .nilIface∨∃ te pe,ev = .iface te pe) :
  Calls Tryz.prog 63 #[.string s] w fun e w'=>∃ N,e = .returned (.tuple #[.int .i64 (0),.iface 156 (.pointer (some ⟨N,0,none⟩))])∧w.heap.size≤N∧w'.heap[N]?=some (.cells #[.string ⟨#[65,116,111,105]⟩,.string s,ev] 173 (0,0))∧Below w.heap.size w w':=Any.strconv_Atoi_syntax Tryz.laysC172 s hlim h ev w hv hev
open Go.RowKit in
theorem Tryz.strconv_Atoi_range (s:ByteArray) (hlim:s.size≤281474976710656) (h:Lib.atoiAll s.data.toList = .range) (ev:Value) (w:World) (hv:w.cell? ⟨5,0,none⟩=some ev) (hev:ev = .nilIface∨∃ te pe,ev = .iface te pe) :
  Calls Tryz.prog 63 #[.string s] w fun e w'=>∃ N,e = .returned (.tuple #[.int .i64 (Lib.atoiSat s.data.toList),.iface 156 (.pointer (some ⟨N,0,none⟩))])∧w.heap.size≤N∧w'.heap[N]?=some (.cells #[.string ⟨#[65,116,111,105]⟩,.string s,ev] 173 (0,0))∧Below w.heap.size w w':=Any.strconv_Atoi_range Tryz.laysC172 s hlim h ev w hv hev
def Tryz.lays145_ren:Go.Shelf.Ren:=⟨fun | 145=>55 | 220=>64 | 219=>73 | 217=>86 | 225=>87 | 224=>88 | 267=>89 | 266=>100 | 314=>101 | n=>n,fun | 9=>9 | 4=>4 | 59=>127 | 3=>3 | 5=>5 | 46=>161 | 146=>175 | 51=>164 | n=>n,fun | 1=>2 | n=>n⟩
theorem Tryz.lays145:Go.Proofs.Lays.n145 Tryz.prog Tryz.lays145_ren:={
 mixed:=by kernel_rfl
 f145:=Tryz.func55.trans (congrArg some (by kernel_rfl))
 f217:=Tryz.func86.trans (congrArg some (by kernel_rfl))
 f219:=Tryz.func73.trans (congrArg some (by kernel_rfl))
 f220:=Tryz.func64.trans (congrArg some (by kernel_rfl))
 f224:=Tryz.func88.trans (congrArg some (by kernel_rfl))
 f225:=Tryz.func87.trans (congrArg some (by kernel_rfl))
 f266:=Tryz.func100.trans (congrArg some (by kernel_rfl))
 f267:=Tryz.func89.trans (congrArg some (by kernel_rfl))
 f314:=Tryz.func101.trans (congrArg some (by kernel_rfl))
 t3:=Tryz.underlying3
 a3:=Tryz.isAgg3
 z3:=Tryz.sizeOf3
 v3:=Tryz.zeroValue3
 t4:=Tryz.underlying4
 a4:=Tryz.isAgg4
 z4:=Tryz.sizeOf4
 v4:=Tryz.zeroValue4
 t5:=Tryz.underlying5
 a5:=Tryz.isAgg5
 z5:=Tryz.sizeOf5
 v5:=Tryz.zeroValue5
 t9:=Tryz.underlying9
 a9:=Tryz.isAgg9
 z9:=Tryz.sizeOf9
 v9:=Tryz.zeroValue9
 t46:=Tryz.underlying161
 a46:=Tryz.isAgg161
 z46:=Tryz.sizeOf161
 v46:=Tryz.zeroValue161
 t51:=Tryz.underlying164
 a51:=Tryz.isAgg164
 z51:=Tryz.sizeOf164
 v51:=Tryz.zeroValue164
 t59:=Tryz.underlying127
 a59:=Tryz.isAgg127
 z59:=Tryz.sizeOf127
 v59:=Tryz.zeroValue127
 t146:=Tryz.underlying175
 a146:=Tryz.isAgg175
 z146:=Tryz.sizeOf175
 v146:=Tryz.zeroValue175
 g1:=by kernel_rfl }
open Go.RowKit Go.Lib in
theorem Tryz.strings_Cut (s sep:ByteArray) (m:Int) (w:World) (hs:s.size<4294967281) (hm:w.cell? ⟨2,0,none⟩=some (.int .i64 m)) :
  Calls Tryz.prog 55 #[.string s,.string sep] w fun e w'=>e = .returned (.tuple #[.string ⟨(Lib.cut s.data.toList sep.data.toList).1.toArray⟩,.string ⟨(Lib.cut s.data.toList sep.data.toList).2.1.toArray⟩,.bool (Lib.cut s.data.toList sep.data.toList).2.2])∧∃ n,w'=w.drewN n:=Any.strings_Cut Tryz.lays145 s sep m w hs hm
def Tryz.lays100_ren:Go.Shelf.Ren:=⟨fun | 100=>16 | 207=>30 | n=>n,fun | 9=>9 | 4=>4 | 3=>3 | n=>n,fun | n=>n⟩
theorem Tryz.lays100:Go.Proofs.Lays.n100 Tryz.prog Tryz.lays100_ren:={
 mixed:=by kernel_rfl
 f100:=Tryz.func16.trans (congrArg some (by kernel_rfl))
 f207:=Tryz.func30.trans (congrArg some (by kernel_rfl))
 t3:=Tryz.underlying3
 a3:=Tryz.isAgg3
 z3:=Tryz.sizeOf3
 v3:=Tryz.zeroValue3
 t4:=Tryz.underlying4
 a4:=Tryz.isAgg4
 z4:=Tryz.sizeOf4
 v4:=Tryz.zeroValue4
 t9:=Tryz.underlying9
 a9:=Tryz.isAgg9
 z9:=Tryz.sizeOf9
 v9:=Tryz.zeroValue9 }
open Go.RowKit Go.Lib in
theorem Tryz.strings_HasSuffix (s p:ByteArray) (w:World) (hs:s.size≤9223372036854775807) :
  Calls Tryz.prog 16 #[.string s,.string p] w fun e w'=>e = .returned (.bool (Lib.hasSuffix s.data.toList p.data.toList))∧w'=w:=Any.strings_HasSuffix Tryz.lays100 s p w hs
end Go.Proofs
namespace Go.Proofs.YtkoilgokgaigbaaGreatDoor
section
open Go.RowKit
variable [AtW]
theorem Auy.ofBelow {f:FuncId} {args:List Value} {r:Value} (h:∀ (F:Nat→Prop) w,Av0 F w→Calls Tryz.prog f args.toArray w fun e w'=>e = .returned r∧Below w.heap.size w w'):Auy Tryz.prog f (args.map .val) (fun x=>x = .val r):=by
 intro β F w vs hF hv
 have hvs:vs=args:=by
  clear h hF
  induction args generalizing vs with
  | nil=>rw [List.map_nil,AtX.nil] at hv; exact hv
  | cons a args ih =>
   rw [List.map_cons] at hv
   obtain ⟨v,us,rfl,h1,h2⟩:=AtX.cons.1 hv
   have:=Rep.val.1 (Or.inl h1:Rep _ _ _ _)
   rw [this,ih us h2]
 subst hvs
 refine (h F w hF.2).mono ?_
 rintro e w' ⟨rfl,hb⟩
 exact ⟨_,_,F,rfl,rfl,Rep.of_val,⟨hb.os,hb.tape,hb.output,hb.size,hb.block,fun _ h=>h,fun _ _ h=>h,fun b hb'=>Nat.lt_of_lt_of_le (hF.1 b hb') hb.size⟩⟩
theorem AFz {B:Nat} (w:World):Below B w w:=⟨rfl,rfl,rfl,Nat.le_refl _,fun _ _=>rfl⟩
theorem AM6 (w:World) (k:Nat) (os:Array Obj):Below w.heap.size w (Sort.grow (w.drewN k) os):=⟨rfl,rfl,rfl,by simp [Sort.grow,World.drewN],fun i hi=>by simp [Sort.grow,World.drewN,Array.getElem?_append_left hi]⟩
theorem ANj (l:List UInt8):(str l).data.toList=l:=by simp [str]
end
section
open Go.RowKit
class AvU [AtW]:Prop where
 k:∃ m,AvS 2=some (.one (.int .i64 m))
variable [AtW]
theorem Auy.ofBelowT {f:FuncId} {args rs:List Value} (h:∀ (F:Nat→Prop) w,Av0 F w→Calls Tryz.prog f args.toArray w fun e w'=>e = .returned (.tuple rs.toArray)∧Below w.heap.size w w'):Auy Tryz.prog f (args.map .val) (fun x=>x = .tup (rs.map .val)):=by
 intro β F w vs hF hv
 have hvs:vs=args:=by
  clear h hF
  induction args generalizing vs with
  | nil=>rw [List.map_nil,AtX.nil] at hv; exact hv
  | cons a args ih =>
   rw [List.map_cons] at hv
   obtain ⟨v,us,rfl,h1,h2⟩:=AtX.cons.1 hv
   have:=Rep.val.1 (Or.inl h1:Rep _ _ _ _)
   rw [this,ih us h2]
 subst hvs
 refine (h F w hF.2).mono ?_
 rintro e w' ⟨rfl,hb⟩
 have hr:∀ l:List Value,AtX ⟨β,[],F⟩ w' (l.map .val) l:=by
  intro l
  induction l with
  | nil=>rw [List.map_nil,AtX.nil]
  | cons a l ih=>exact AtX.cons.2 ⟨a,l,rfl,.inr (.inl rfl),ih⟩
 exact ⟨_,_,F,rfl,rfl,.inr ⟨_,_,rfl,rfl,hr rs⟩,⟨hb.os,hb.tape,hb.output,hb.size,hb.block,fun _ h=>h,fun _ _ h=>h,fun b hb'=>Nat.lt_of_lt_of_le (hF.1 b hb') hb.size⟩⟩
theorem AM7 {B:Nat} (w:World) (n:Nat):Below B w (w.drewN n):=⟨rfl,rfl,rfl,Nat.le_refl _,fun _ _=>rfl⟩
theorem AXD (l:List UInt8):(str l).size=l.length:=by show l.toArray.size=_; simp
theorem AN5 [AvU] {F:Nat→Prop} {w:World} (hg:Av0 F w):∃ m,w.cell? ⟨2,0,none⟩=some (.int .i64 m):=by
 obtain ⟨m,hm⟩:=AvU.k
 obtain ⟨_,t,fr,hh⟩:=hg _ _ hm
 exact ⟨m,by simp [World.cell?,hh,GV.cells]⟩
theorem AZo [AvU] (s p:List UInt8) (hs:s.length≤1000000):Auy Tryz.prog 55 [ts s,ts p] (fun x=>x = .tup [ts (Lib.cut s p).1,ts (Lib.cut s p).2.1,tb (Lib.cut s p).2.2]):=by
 have h:=Auy.ofBelowT (f:=55) (args:=[.string (str s),.string (str p)]) (rs:=[.string (str (Lib.cut s p).1),.string (str (Lib.cut s p).2.1),.bool (Lib.cut s p).2.2]) (fun F w hg=>by
  obtain ⟨m,hm⟩:=AN5 hg
  have h1:=Tryz.strings_Cut (str s) (str p) m w (by rw [AXD]; omega) hm
  rw [ANj,ANj] at h1
  refine h1.mono ?_
  rintro e w' ⟨rfl,n,rfl⟩
  exact ⟨rfl,AM7 _ _⟩)
 exact h
theorem AH7 (s p:List UInt8):Auy Tryz.prog 53 [ts s,ts p] (fun x=>x = .tup [ts (Lib.trimPrefix s p),tb (Lib.hasPrefix s p)]):=by
 have h:=Auy.ofBelowT (f:=53) (args:=[.string (str s),.string (str p)]) (rs:=[.string (str (Lib.trimPrefix s p)),.bool (Lib.hasPrefix s p)]) (fun F w hg=>by
  have h1:=Tryz.strings_CutPrefix (str s) (str p) w
  rw [ANj,ANj] at h1
  refine h1.mono ?_
  rintro e w' ⟨rfl,rfl⟩
  exact ⟨rfl,AFz _⟩)
 exact h
end
section
open Go.RowKit
variable [AtW]
section
variable [Ati]
theorem AOo {F:Nat→Prop} {w:World} (h:Av0 F w):Lib.TabIs Tryz.prog w "internal/strconv.uint64pow10" .u64 Lib.pow10Tab:=by
 obtain ⟨_,t,fr,h1⟩:=h 3 _ Ati.k
 have h2:Tryz.prog.globalNamed "internal/strconv.uint64pow10" = some 3:=by kernel_rfl
 have h3:Ats.cells.toArray=(Lib.pow10Tab.map fun z=>Value.int .u64 z).toArray:=by kernel_rfl
 unfold Lib.TabIs World.var?
 rw [h2,Option.bind_some,h1,h3]
theorem A0i (n:Int) (h0 : -9223372036854775808≤n) (h1:n≤9223372036854775807):Auy Tryz.prog 52 [i64 n] (fun x=>x=ts (Lib.itoa n)):=by
 have h:=Auy.ofBelow (f:=52) (args:=[.int .i64 n]) (r := .string (str (Lib.itoa n))) (fun F w hg=>by
  refine (Tryz.strconv_Itoa n h0 h1 w (AOo hg)).mono ?_
  rintro e w' ⟨rfl,k,os,rfl⟩
  exact ⟨rfl,AM6 _ _ _⟩)
 exact h
end
end
section
open Go.RowKit
variable [AtW]
class Atv [AtW]:Prop where
 k:∃ t a,AvS 4=some (.one (.iface t (.pointer (some a))))
class Atx [AtW]:Prop where
 k:∃ t a,AvS 5=some (.one (.iface t (.pointer (some a))))
theorem AJQ {F:Nat→Prop} {w:World} (h:Av0 F w) {g:Nat} {v:Value} (e:AvS g=some (.one v)):w.cell? ⟨g,0,none⟩=some v:=by
 have:=h.at e 0 v rfl
 simpa using this
end
section
open Go.RowKit
variable [AtW]
end
section
open Go.RowKit
variable [AtW]
theorem AMw (s p:List UInt8) (hs:s.length≤9223372036854775807):Auy Tryz.prog 16 [ts s,ts p] (fun x=>x=tb (Lib.hasSuffix s p)):=by
 have h:=Auy.ofBelow (f:=16) (args:=[.string (str s),.string (str p)]) (r := .bool (Lib.hasSuffix s p)) (fun F w _=>by
  have h1:=Tryz.strings_HasSuffix (str s) (str p) w (by simpa [str,ByteArray.size] using hs)
  rw [ANj,ANj] at h1
  refine h1.mono ?_
  rintro e w' ⟨rfl,rfl⟩
  exact ⟨rfl,AFz _⟩)
 exact h
end
section
open Go.RowKit
variable [AtW]
def AV6:List UInt8:=[48,49,50,51,52,53,54,55,56,57]
theorem ATx:∀ n:Nat,n<256→AV6.contains (UInt8.ofNat n)=AtU (UInt8.ofNat n):=by decide +kernel
theorem AYY (b:UInt8):AV6.contains b=AtU b:=by
 have:=ATx b.toNat (by have:=b.toNat_lt; omega)
 simpa using this
theorem APL (s:List UInt8):Lib.trimLeftS s AV6=s.dropWhile AtU:=by
 unfold Lib.trimLeftS
 congr 1
 funext b
 exact AYY b
theorem APY (s:List UInt8) (hs:s.length≤1000000):Auy Tryz.prog 62 [ts s,ts AV6] (fun x=>x=ts (s.dropWhile AtU)):=by
 have h:=Auy.ofBelow (f:=62) (args:=[.string (str s),.string (str AV6)]) (r := .string (str (s.dropWhile AtU))) (fun F w _=>by
  have h1:=Any.strings_TrimLeft_laid Tryz.lays161 (by kernel_rfl) (str s) (str AV6) w (by rw [AXD]; decide) (by rw [ANj]; exact ascii_of_all (by decide))
  rw [ANj,ANj,APL] at h1
  exact h1)
 exact h
variable [Atv] [Atx]
def AFH (s:List UInt8):TV:=match Lib.atoiAll s with
 | .ok _ => .val .nilIface
 | _ => .ifc 156 .any
def ADl (s:List UInt8):Int:=match Lib.atoiAll s with
 | .ok v=>v
 | Lib.NumEnd.syntax=>0
 | .range=>Lib.atoiSat s
theorem AWZ (s:List UInt8) (hs:s.length≤1000000):Auy Tryz.prog 63 [ts s] (fun r=>r = .tup [i64 (ADl s),AFH s]):=by
 intro β F w vs hF hv
 obtain ⟨v1,us,rfl,h1,hv⟩:=AtX.cons.1 hv
 rw [AtX.nil] at hv; subst hv
 obtain rfl:=Rep.val.1 (Or.inl h1:Rep _ _ _ _)
 have hsz:(str s).size≤281474976710656:=by simp [str,ByteArray.size]; omega
 have hsd:(str s).data.toList=s:=ANj s
 have fin:∀ (e:Ending) (w':World) (x:Value) (y:TV),e = .returned (.tuple #[.int .i64 (ADl s),x])→ALS ⟨β,[],F⟩ w' y x→y=AFH s→Below w.heap.size w w'→∃ v x F',e = .returned v∧x = .tup [i64 (ADl s),AFH s]∧Rep ⟨β,[],F'⟩ w' x v∧AAa F w F' w':=by
  rintro e w' x y rfl hx rfl hb
  refine ⟨_,_,F,rfl,rfl,.inr ⟨_,[_,_],rfl,rfl,AtX.cons.2 ⟨_,_,rfl,.inr (.inl rfl),AtX.cons.2 ⟨_,_,rfl,hx,AtX.nil.2 rfl⟩⟩⟩,⟨hb.os,hb.tape,hb.output,hb.size,hb.block,fun _ h=>h,fun _ _ h=>h,fun b hb'=>Nat.lt_of_lt_of_le (hF.1 b hb') hb.size⟩⟩
 have err:∀ (w':World) (N:Nat),ALS ⟨β,[],F⟩ w' (.ifc 156 .any) (.iface 156 (.pointer (some ⟨N,0,none⟩))):=fun w' N=>by
  refine .inr (.inr ⟨[.iface 156 (.pointer (some ⟨N,0,none⟩))],?_,rfl⟩)
  rw [Atg]
  refine ⟨_,rfl,[.pointer (some ⟨N,0,none⟩)],?_,rfl⟩
  rw [Atg]
  exact ⟨_,rfl,rfl⟩
 rcases h:Lib.atoiAll s with v | _ | _
 ·skip
  have e:ADl s=v:=by unfold ADl; rw [h]
  have e2:(TV.val .nilIface)=AFH s:=by unfold AFH; rw [h]
  refine (Tryz.strconv_Atoi_ok (str s) (by omega) v (by rw [hsd]; exact h) w).mono ?_
  rintro e' w' ⟨rfl,hw⟩
  refine fin _ _ _ _ (by rw [e]) (.inr (.inl rfl)) e2 ?_
  rcases hw with rfl | ⟨t,rfl⟩
  ·exact Below.refl _ _
  ·exact Lib.bytesWorld_below _ _ _
 ·skip
  have e:ADl s=0:=by unfold ADl; rw [h]
  have e2:(TV.ifc 156 .any)=AFH s:=by unfold AFH; rw [h]
  obtain ⟨t,a,hk⟩:=Atv.k
  refine (Tryz.strconv_Atoi_syntax (str s) hsz (by rw [hsd]; exact h) _ w (AJQ hF.2 hk) (.inr ⟨_,_,rfl⟩)).mono ?_
  rintro e' w' ⟨N,rfl,_,_,hb⟩
  exact fin _ _ _ _ (by rw [e]) (err _ _) e2 hb
 ·skip
  have e:ADl s=Lib.atoiSat s:=by unfold ADl; rw [h]
  have e2:(TV.ifc 156 .any)=AFH s:=by unfold AFH; rw [h]
  obtain ⟨t,a,hk⟩:=Atx.k
  refine (Tryz.strconv_Atoi_range (str s) hsz (by rw [hsd]; exact h) _ w (AJQ hF.2 hk) (.inr ⟨_,_,rfl⟩)).mono ?_
  rintro e' w' ⟨N,rfl,_,_,hb⟩
  exact fin _ _ _ _ (by rw [e,hsd]) (err _ _) e2 hb
end
end Go.Proofs.YtkoilgokgaigbaaGreatDoor
