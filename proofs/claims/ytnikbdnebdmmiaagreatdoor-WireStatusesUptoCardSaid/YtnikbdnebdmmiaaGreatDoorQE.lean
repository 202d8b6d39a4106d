/- What the proof of WireStatusesUptoCard stands on (texts merged; names shortened by a program): part 5. -/
import Derived.Test.YtnikbdnebdmmiaaGreatDoorQD
import Derived.ProofKit
import Derived.Lib.LaidTab
import Derived.LaidHandle
import Derived.Handed
import Derived.ShapedOpen
import Derived.Shelf.Vars
import Derived.OpenShut
import Derived.ShutString
import Derived.ChangeOld
import Derived.Below
import Derived.Carry
import Derived.SizedLaws
import Derived.Lib.ItoaNum
import Derived.Lib.ItoaLen
import Derived.Test.YtnikbdnebdmmiaaGreatDoorProg
import Derived.KernelRfl
import Derived.Shelf.Strings.Builder1
import Derived.Shelf.Strings.Builder2
import Derived.Shelf.Strings.OnBuilder
import Derived.Shelf.Small.Utf8
import Derived.Shelf.Small.Strs
import Derived.Shelf.Strconv.Atoi
import Derived.Shelf.Strconv.Itoa0
import Derived.Shelf.Strconv.Itoa1
import Derived.Shelf.LaysM
import Derived.Shelf.Strconv.Itoa2
import Derived.Shelf.Strconv.Itoa3
import Derived.Shelf.Strconv.AtoiErrFast
import Derived.Shelf.Strconv.ParseIntEmpty
import Derived.Shelf.Strconv.AtoiFail
import Derived.Shelf.Strconv.Clone
import Derived.Shelf.Strconv.SyntaxError
import Derived.Shelf.LaysC
import Derived.Shelf.Strconv.ToError
import Derived.Shelf.Strconv.Lower
import Derived.Shelf.Strconv.ParseUint10
import Derived.Shelf.Strconv.ParseUint10Empty
import Derived.Shelf.Strconv.ParseUint10Any
import Derived.Shelf.Strconv.ParseInt10
import Derived.Shelf.Strconv.AtoiLong
import Derived.Shelf.Strconv.AtoiInnerAll
import Derived.Shelf.Strconv.RangeError
import Derived.Shelf.Strconv.ToErrorRange
import Derived.Shelf.Strconv.AtoiAll
import Derived.Shelf.Strings.Search1
import Derived.Shelf.Strings.Search2
import Derived.Shelf.Strings.Search3
import Derived.Shelf.Strings.Count
import Derived.Shelf.Strings.Shaped
import Derived.Shelf.Strings.Prefix
import Derived.Shelf.Strings.Runes
import Derived.Shelf.Unicode.DecodeSlow
import Derived.Shelf.Bytes.Small
import Derived.WalkKit
import Derived.Lib.Builder
import Derived.Lib.UnsafeStr
import Derived.Laws.Externs
import Derived.Shelf.RegionOpenPlain
import Derived.Shelf.Lay
import Derived.Lib.Bytealg
import Derived.LaidEql
import Derived.Stop.Asserts
import Derived.RowKitTokens
set_option linter.defProp false
set_option linter.unusedSectionVars false
set_option linter.unusedSimpArgs false
set_option linter.unusedVariables false
namespace Go.Proofs.YtnikbdnebdmmiaaGreatDoor
theorem aI_ {a b:Prop} (x:a) (y:b):a∧b:=⟨x,y⟩
section
open Go.RowKit
variable [AP]
set_option autoImplicit false
universe u
class Tg {α:Sort u} (a:α):Type where
instance tg {α:Sort u} (a:α):Tg a:={}
def vif (t:Bool) (A B:Prop) [Tg A] [Tg B]:Prop:=if t=true then A else B
def BF {α:Type} (o:Option α) (K:α→Prop) [Tg K]:Prop:=match o with | some y=>K y | none=>False
def DD (A K:Prop) [Tg K]:Prop:=A∧K
def BB {α:Type} (x:α) (K:α→Prop) [Tg K]:Prop:=K x
def vex (K:TV→Prop) [Tg K]:Prop:=∃ x,K x
def VC (P:Program) (f:FuncId) (xs:List TV) (H:List Ob) (K:TV→List Ob→Prop) [Tg K]:Prop:=Am P f xs H K
def VY (P:Program) (id ver:Nat) (xs:List TV) (H:List Ob) (K:TV→List Ob→Prop) [Tg K]:Prop:=Sl P id ver xs H K
theorem Abg {P:Program} {f:FuncId} {xs:List TV} {H:List Ob} {K:TV→List Ob→Prop} (h:Am P f xs H K):VC P f xs H K:=h
section
variable {A A' B K:Prop} {α:Type}
@[congr] theorem ArS {t t':Bool} (h:t=t'):vif t A B=vif t' A B:=by rw [h]
@[congr] theorem Ary {o o':Option α} {K:α→Prop} (h:o=o'):BF o K=BF o' K:=by rw [h]
@[congr] theorem ArC (h:A=A'):DD A K=DD A' K:=by rw [h]
@[congr] theorem Arx {x x':α} {K:α→Prop} (h:x=x'):BB x K=BB x' K:=by rw [h]
@[congr] theorem ArZ {P:Program} {c:Af} {Q:VEx→Env→List Ob→Prop} {e e':Env} {H H':List Ob} (he:e=e') (hH:H=H'):vwp P c Q e H=vwp P c Q e' H':=by rw [he,hH]
@[congr] theorem Ava {P:Program} {f:FuncId} {xs xs':List TV} {H H':List Ob} {K:TV→List Ob→Prop} (he:xs=xs') (hH:H=H'):VC P f xs H K=VC P f xs' H' K:=by rw [he,hH]
@[congr] theorem Au1 {P:Program} {id ver:Nat} {xs xs':List TV} {H H':List Ob} {K:TV→List Ob→Prop} (he:xs=xs') (hH:H=H'):VY P id ver xs H K=VY P id ver xs' H' K:=by rw [he,hH]
theorem AnM:vif true A B=A:=by simp [vif]
theorem Aks:vif false A B=B:=by simp [vif]
theorem AsF {p:Prop} [Decidable p] (h:p):vif (decide p) A B=A:=by simp [vif,h]
theorem Asy {p:Prop} [Decidable p] (h:¬ p):vif (decide p) A B=B:=by simp [vif,h]
theorem Apz {t:Bool}:vif (!t) A B=vif t B A:=by cases t<;>simp [vif]
theorem Aqs {s t:Bool}:vif (s && t) A B=vif s (vif t A B) B:=by cases s<;>simp [vif]
theorem ArQ {s t:Bool}:vif (s || t) A B=vif s A (vif t A B):=by cases s<;>simp [vif]
theorem Akm {y:α} {K:α→Prop}:BF (some y) K=K y:=rfl
theorem Aml {β:Type} {f:α→β} {o:Option α} {K:β→Prop}:BF (o.map f) K=BF o fun y=>K (f y):=by cases o<;>rfl
theorem Ao3 {cs:List α} {i:Nat} {K:α→Prop} (h:i<cs.length):BF cs[i]? K=K cs[i]:=by rw [List.getElem?_eq_getElem h]; rfl
theorem AiZ (h:A):DD A K=K:=by simp [DD,h]
theorem Atk:DD True K=K:=by simp [DD]
theorem Amg:DD (A∧B) K=DD A (DD B K):=by simp [DD,and_assoc]
theorem Ars {x:α} {K:α→Prop}:BB x K=K x:=rfl
end
def Hq:Option Ob→Nat→Option TV
 | some (.obj v x),ver=>if v=ver then some x else none
 | _,_=>none
theorem An3 {v:Nat} {x:TV}:Hq (some (.obj v x)) v=some x:=by simp [Hq]
section
variable {H l:List Ob} {o:Ob} {n k:Nat}
theorem AsV (h:H.length=n):(H++l)[n]?=l[0]?:=by rw [List.getElem?_append_right (by omega),h,Nat.sub_self]
theorem Art (h:H.length=n):(H++l)[n+k]?=l[k]?:=by rw [List.getElem?_append_right (by omega)]; congr 1; omega
theorem AtT (h:n<H.length):(H++l)[n]?=H[n]?:=List.getElem?_append_left h
theorem Atn (h:n<H.length):(H.set n o)[n]?=some o:=by simp [h]
theorem AjL {m:Nat} (h:m≠n):(H.set m o)[n]?=H[n]?:=by rw [List.getElem?_set_ne h]
theorem Apx (h:H.length=n):(H++l).set n o=H++l.set 0 o:=by rw [List.set_append_right _ _ (by omega),h,Nat.sub_self]
theorem Ano (h:H.length=n):(H++l).set (n+k) o=H++l.set k o:=by rw [List.set_append_right _ _ (by omega)]; congr 2; omega
theorem Aqp (h:n<H.length):(H++l).set n o=H.set n o++l:=List.set_append_left _ _ h
end
section
variable {P:Program} {e:Env} {H:List Ob}
def AiH (c a b:TV) (K:TV→Prop) [Tg K]:Prop:=match c with | .val (.bool t)=>K (if t then a else b) | _=>False
def Avd (t:TypeId) (op:BinOp) (x y:TV) (K:TV→Prop) [Tg K]:Prop:=match x,y with
  | .val u,.val v=>Aow u v=true∧(match Fe t op u v with | some r=>K (.val r) | none=>False)
  | _,_=>False
def Pun (op:UnOp) (x:TV) (K:TV→Prop) [Tg K]:Prop:=match x with
  | .val u=>(match unV op u with | some r=>K (.val r) | none=>False)
  | _=>False
def Anz (k:IntKind) (x:TV) (K:TV→Prop) [Tg K]:Prop:=match x with
  | .val (.int _ n)=>K (.val (.int k (k.wrap n)))
  | _=>False
def Au6 (x:TV) (K:TV→Prop) [Tg K]:Prop:=match x with
  | .val (.string s)=>K (.val (.string s))
  | _=>False
def AuQ (x:Option (List TV)) (K:TV→Prop) [Tg K]:Prop:=match x with
  | some cs=>(∀ y∈cs,AfU y)∧K (.val (.string (str (cs.map Aas))))
  | none=>False
def Af8 (H:List Ob) (ag:Bool) (sz:Nat) (x:TV) (K:TV→Prop) [Tg K]:Prop:=match x with
  | .fp y=>AcO ag sz y∧K y
  | .op id ver p=>(match H[id]? with
   | some (.obj v x)=>v=ver∧(match Oy p x with | some y=>AcO ag sz y∧K y | none=>False)
   | _=>False)
  | _=>False
def ZF (i off:Nat) (x:TV) (K:TV→Prop) [Tg K]:Prop:=match x with
  | .op id ver p=>K (.op id ver (p++[(i,off)]))
  | .fp (.agg cs)=>Cc (cs.take i)=off∧(match cs[i]? with | some y=>K (.fp y) | none=>False)
  | _=>False
def Afk (ag:Bool) (sz i off:Nat) (x:TV) (K:TV→Prop) [Tg K]:Prop:=match x with
  | .agg cs=>Cc (cs.take i)=off∧(match cs[i]? with | some y=>AcO ag sz y∧K y | none=>False)
  | _=>False
def AhK (k:Nat) (x i:TV) (K:TV→Prop) [Tg K]:Prop:=match x,i with
  | .sl k' cs,.val (.int _ j)=>k'=k∧0≤j∧(match cs[j.toNat]? with | some y=>K (.fp y) | none=>False)
  | .os k' id ver p off n cp,.val (.int _ j)=>k'=k∧0≤j∧j<n∧K (.op id ver (p++[(off+j.toNat,(off+j.toNat)*k)]))
  | _,_=>False
def AcT (n k:Nat) (x i:TV) (K:TV→Prop) [Tg K]:Prop:=match x,i with
  | .fp (.arr n' k' cs),.val (.int _ j)=>k'=k∧n'=n∧0≤j∧(match cs[j.toNat]? with | some y=>K (.fp y) | none=>False)
  | .op id ver p,.val (.int _ j)=>0≤j∧j<n∧K (.op id ver (p++[(j.toNat,j.toNat*k)]))
  | _,_=>False
def AsJ (ag:Bool) (n k:Nat) (x i:TV) (K:TV→Prop) [Tg K]:Prop:=match x,i with
  | .arr n' k' cs,.val (.int _ j)=>k'=k∧n'=n∧0≤j∧(match cs[j.toNat]? with | some y=>AcO ag k y∧K y | none=>False)
  | _,_=>False
def AiE (x i:TV) (K:TV→Prop) [Tg K]:Prop:=match x,i with
  | .val (.string s),.val (.int _ j)=>0≤j∧(match (bl s)[j.toNat]? with | some b=>K (by8 b) | none=>False)
  | _,_=>False
def AsC (i:Nat) (x:TV) (K:TV→Prop) [Tg K]:Prop:=match x with
  | .tup xs=>(match xs[i]? with | some y=>K y | none=>False)
  | _=>False
def Amv (x:TV) (K:TV→Prop) [Tg K]:Prop:=match x with
  | .val (.string s)=>K (.val (.int .i64 (bl s).length))
  | _=>False
def AhE (x:TV) (K:TV→Prop) [Tg K]:Prop:=match x with
  | .val (.slice _ n _)=>K (.val (.int .i64 n))
  | .sl _ cs=>K (.val (.int .i64 cs.length))
  | .os _ _ _ _ _ n _=>K (.val (.int .i64 n))
  | _=>False
def AdV (lo hi:Option TV) (len lim:Nat) (K:Nat→Nat→Prop) [Tg K]:Prop :=
 match (match lo with | none=>some 0 | some x=>(match x with | .val (.int _ i)=>some i | _=>none)),(match hi with | none=>some (len:Int) | some x=>(match x with | .val (.int _ i)=>some i | _=>none)) with
 | some l,some h=>(0≤l∧l≤h∧h≤lim)∧K l.toNat h.toNat
 | _,_=>False
def evO (e:Env):Option Opd→Option TV
 | none=>none
 | some x=>some (x.ev e)
theorem Alq:evO e none=none:=Aa rfl
theorem Aof {x:Opd}:evO e (some x)=some (x.ev e):=Aa rfl
theorem Ak8 {lo hi:Option Opd} {len lim:Nat} {K:Nat→Nat→Prop}:bnd e lo hi len lim K=AdV (evO e lo) (evO e hi) len lim K:=by
 cases lo<;>cases hi<;>rfl
def Au3 (x:TV) (lo hi:Option TV) (K:TV→Prop) [Tg K]:Prop:=match x with
  | .val (.string s)=>AdV lo hi (bl s).length (bl s).length fun l h=>K (.val (.string (str (((bl s).drop l).take (h - l)))))
  | _=>False
def ArE (k:Nat) (x:TV) (lo hi:Option TV) (K:TV→Prop) [Tg K]:Prop:=match x with
  | .sl k' cs=>k'=k∧AdV lo hi cs.length cs.length fun l h=>K (.sl k ((cs.drop l).take (h - l)))
  | .os k' id ver p off n cp=>k'=k∧AdV lo hi n cp fun l h=>K (.os k id ver p (off+l) (h - l) (cp - l))
  | .val (.slice ad 0 0)=>AdV lo hi 0 0 fun l h=>K (.val (.slice ad 0 0))
  | _=>False
def Arz (H:List Ob) (n k:Nat) (x:TV) (lo hi:Option TV) (K:TV→Prop) [Tg K]:Prop:=match x with
  | .fp (.arr n' k' cs)=>k'=k∧n'=n∧n≤9223372036854775807∧AdV lo hi n n fun l h=>K (.sl k ((cs.drop l).take (h - l)))
  | .op id ver p=>(match H[id]? with
   | some (.obj v x)=>v=ver∧n≤9223372036854775807∧(match Oy p x with | some (.arr n' k' cs)=>k'=k∧n'=n∧AdV lo hi n n fun l h=>K (.os k id ver p l (h - l) (n - l)) | _=>False)
   | _=>False)
  | _=>False
def Ahi (t:TypeId) (x:TV) (K:TV→Prop) [Tg K]:Prop:=lays x=true∧K (.ifc t x)
def Ata (f:Fn) (first caps:List TV) (K:TV→Prop) [Tg K]:Prop:=(∀ x∈first++caps,CJ x=false)∧K (.fn f first caps)
def AeV (x:TV) (K:TV→Prop) [Tg K]:Prop:=match x with
  | .op id ver p=>K (.op id ver p)
  | .fp y=>K (.fp y)
  | .fn (.func f) a b=>K (.fn (.func f) a b)
  | .ifc t y=>K (.ifc t y)
  | .val (.func (.func f) a b)=>K (.val (.func (.func f) a b))
  | _=>False
def Au2 (x y:TV) (K:TV→Prop) [Tg K]:Prop:=match x,y with
  | .val (.int k a),.val (.int _ b)=>K (.val (.int k (if b<a then b else a)))
  | _,_=>False
def AuW (x y:TV) (K:TV→Prop) [Tg K]:Prop:=match x,y with
  | .val (.int k a),.val (.int _ b)=>K (.val (.int k (if b > a then b else a)))
  | _,_=>False
def AaL (g:GOp) (H:List Ob) (xs:List TV) (K:TV→Prop) [Tg K]:Prop:=match gev g H xs with
  | some y=>K y
  | none=>False
def Aul (neg:Bool) (x y:TV) (K:TV→Prop) [Tg K]:Prop:=match x,y with
  | .val (.bool a),.val (.bool b)=>K (.val (.bool (xor neg (a == b))))
  | _,_=>False
def AsO (neg:Bool) (x y:Option Bool) (K:TV→Prop) [Tg K]:Prop:=match x,y with
  | some true,some b=>K (.val (.bool (xor neg b)))
  | some false,some true=>K (.val (.bool (xor neg false)))
  | _,_=>False
def Afl (H:List Ob) (sz:Nat) (x v:TV) (K:TV→List Ob→Prop) [Tg K]:Prop:=(lays v=true∧AL v=sz)∧(match x with
  | .op id ver p=>(match H[id]? with
   | some (.obj vr y)=>vr=ver∧(match WV p y v with | some y'=>K .any (H.set id (.obj ver y')) | none=>False)
   | _=>False)
  | _=>False)
def Au7 (H:List Ob) (k bytes:Nat) (z l c:TV) (K:TV→List Ob→Prop) [Tg K]:Prop:=match l,c with
  | .val (.int _ l),.val (.int _ c)=>(0≤l∧l≤c∧(bytes:Int)*c≤281474976710656∧c≤9223372036854775807)∧K (.os k H.length 0 [] 0 l.toNat c.toNat) (H++[.obj 0 (.arr c.toNat k (List.replicate c.toNat z))])
  | _,_=>False
def AqF (k bytes:Nat) (et:TypeId) (x:TV) (y:Option (List TV)) (H:List Ob) (K:TV→List Ob→Prop) [Tg K]:Prop:=match y with
  | some ys=>Afe k bytes et x ys H K
  | none=>False
def Ags (k:Nat) (x:TV) (y:Option (List TV)) (H:List Ob) (K:TV→List Ob→Prop) [Tg K]:Prop:=match y with
  | some ys=>V5 k x ys H K
  | none=>False
def AnV (et:TypeId) (x y:TV) (H:List Ob) (K:TV→List Ob→Prop) [Tg K]:Prop:=match y with
  | .val (.string s)=>Afe 1 1 et x ((bl s).map by8) H K
  | _=>False
def Ahf (x y:TV) (H:List Ob) (K:TV→List Ob→Prop) [Tg K]:Prop:=match y with
  | .val (.string s)=>V5 1 x ((bl s).map by8) H K
  | _=>False
def An7 (P:Program) (f:FuncId) (x:Option (Nat×Nat×List UInt8)) (H:List Ob) (K:TV→List Ob→Prop) [Tg K]:Prop:=Axo P f∧(match x with
  | some (j,v,l)=>l.length≤9223372036854775807∧K (.val (.string (str l))) (H.set j (.gone v))
  | none=>False)
def AuV (H:List Ob) (x:TV) (K:TV→List Ob→Prop) [Tg K]:Prop:=match x with
  | .val (.string s)=>(bl s).length≤9223372036854775807∧K (.os 1 H.length 0 [] 0 (bl s).length (bl s).length) (H++[.obj 0 (.arr (bl s).length 1 ((bl s).map by8))])
  | _=>False
def AnE (k bytes:Nat) (z x n:TV) (H:List Ob) (K:TV→List Ob→Prop) [Tg K]:Prop:=match x,n with
  | .val (.slice none 0 0),.val (.int .i64 j)=>(0≤j∧(bytes:Int)*j≤140737488355328∧j≤9223372036854775807)∧K (.os k H.length 0 [] 0 j.toNat j.toNat) (H++[.obj 0 (.arr j.toNat k (List.replicate j.toNat z))])
  | _,_=>False
def Aih (H:List Ob) (K:TV→List Ob→Prop) [Tg K]:Prop:=K (.val (.bool true)) H∧K (.val (.bool false)) H
def Ao0 (neg:Bool) (x:TV) (H:List Ob) (K:TV→List Ob→Prop) [Tg K]:Prop:=match x with
  | .val (.slice a _ _)=>K (.val (.bool (xor neg a.isNone))) H
  | .sl _ cs=>(cs=[]→K (.val (.bool true)) H∧K (.val (.bool false)) H)∧(cs≠[]→K (.val (.bool neg)) H)
  | .os _ _ _ _ _ n _=>(n=0→K (.val (.bool true)) H∧K (.val (.bool false)) H)∧(n≠0→K (.val (.bool neg)) H)
  | _=>False
def AcY (P:Program) (x:TV) (args:List TV) (H:List Ob) (K:TV→List Ob→Prop) [Tg K]:Prop:=match x with
  | .fn (.func f) first caps=>ZZ P f=true∧Am P f (first++args++caps) H K
  | .val (.func (.func f) xs ys)=>(xs.isEmpty && ys.isEmpty)=true∧ZZ P f=true∧Am P f args H K
  | .yl id ver=>Sl P id ver args H K
  | _=>False
def AuD (P:Program) (nm:String) (x:TV) (args:List TV) (H:List Ob) (K:TV→List Ob→Prop) [Tg K]:Prop:=AuS P nm H x fun f r=>Am P f (r::args) H K
def ArB (P:Program) (q:Option (FuncId×Option (Bool×Nat))) (r:TV) (args:List TV) (H:List Ob) (K:TV→List Ob→Prop) [Tg K]:Prop:=match q with
 | some (f,none)=>ZZ P f=true∧Am P f (r::args) H K
 | some (f,some (ag,sz))=>ZZ P f=true∧ldT H ag sz r fun y=>Am P f (y::args) H K
 | none=>False
def Gd (q:Option Bool) (b:Bool) (A B:Prop) [Tg A] [Tg B]:Prop:=match q with
 | some t=>if t=b then A else B
 | none=>B
def evs (e:Env) (xs:List Opd):List TV:=xs.map (·.ev e)
theorem ApS:evs e []=[]:=Aa rfl
theorem AlS {x:Opd} {xs:List Opd}:evs e (x::xs)=x.ev e::evs e xs:=Aa rfl
def VJ (xs:List TV):Prop:=∀ x∈xs,CJ x=false
theorem AiF:VJ []=True:=by simp [VJ]
theorem Aiq {x:TV} {xs:List TV}:VJ (x::xs)=(CJ x=false∧VJ xs):=by simp [VJ]
theorem Q9 {args:List Opd}:(∀ x∈args,CJ (x.ev e)=false)=VJ (evs e args):=by simp [VJ,evs]
section
variable {c c' a a' b b' x x' y y':TV} {K:TV→Prop} {KK:TV→List Ob→Prop} {lo lo' hi hi':Option TV} {ox ox':Option (List TV)} {q q' q2 q2':Option Bool} {xs xs':List TV} {A B:Prop} {H':List Ob}
@[congr] theorem AwE (h1:c=c') (h2:a=a') (h3:b=b'):AiH c a b K=AiH c' a' b' K:=by rw [h1,h2,h3]
@[congr] theorem AxY {t:TypeId} {op:BinOp} (h1:x=x') (h2:y=y'):Avd t op x y K=Avd t op x' y' K:=by rw [h1,h2]
@[congr] theorem Ayr {op:UnOp} (h1:x=x'):Pun op x K=Pun op x' K:=by rw [h1]
@[congr] theorem Awx {k:IntKind} (h1:x=x'):Anz k x K=Anz k x' K:=by rw [h1]
@[congr] theorem AxP (h1:x=x'):Au6 x K=Au6 x' K:=by rw [h1]
@[congr] theorem AxH (h1:ox=ox'):AuQ ox K=AuQ ox' K:=by rw [h1]
@[congr] theorem AwI {ag:Bool} {sz:Nat} (h1:x=x') (h2:H=H'):Af8 H ag sz x K=Af8 H' ag sz x' K:=by rw [h1,h2]
@[congr] theorem Asz {i o:Nat} (h1:x=x'):ZF i o x K=ZF i o x' K:=by rw [h1]
@[congr] theorem Avf {ag:Bool} {sz i o:Nat} (h1:x=x'):Afk ag sz i o x K=Afk ag sz i o x' K:=by rw [h1]
@[congr] theorem Avz {k:Nat} (h1:x=x') (h2:y=y'):AhK k x y K=AhK k x' y' K:=by rw [h1,h2]
@[congr] theorem Avb {n k:Nat} (h1:x=x') (h2:y=y'):AcT n k x y K=AcT n k x' y' K:=by rw [h1,h2]
@[congr] theorem Ax9 {ag:Bool} {n k:Nat} (h1:x=x') (h2:y=y'):AsJ ag n k x y K=AsJ ag n k x' y' K:=by rw [h1,h2]
@[congr] theorem AwH (h1:x=x') (h2:y=y'):AiE x y K=AiE x' y' K:=by rw [h1,h2]
@[congr] theorem AxN {i:Nat} (h1:x=x'):AsC i x K=AsC i x' K:=by rw [h1]
@[congr] theorem Awh (h1:x=x'):Amv x K=Amv x' K:=by rw [h1]
@[congr] theorem Av9 (h1:x=x'):AhE x K=AhE x' K:=by rw [h1]
@[congr] theorem Ax3 {n m:Nat} {K:Nat→Nat→Prop} {n' m':Nat} (h1:lo=lo') (h2:hi=hi') (h3:n=n') (h4:m=m'):AdV lo hi n m K=AdV lo' hi' n' m' K:=by rw [h1,h2,h3,h4]
@[congr] theorem AxT (h1:x=x') (h2:lo=lo') (h3:hi=hi'):Au3 x lo hi K=Au3 x' lo' hi' K:=by rw [h1,h2,h3]
@[congr] theorem Ax0 {k:Nat} (h1:x=x') (h2:lo=lo') (h3:hi=hi'):ArE k x lo hi K=ArE k x' lo' hi' K:=by rw [h1,h2,h3]
@[congr] theorem AxD {n k:Nat} (h0:H=H') (h1:x=x') (h2:lo=lo') (h3:hi=hi'):Arz H n k x lo hi K=Arz H' n k x' lo' hi' K:=by rw [h0,h1,h2,h3]
@[congr] theorem AuT {t:TypeId} (h1:x=x'):Ahi t x K=Ahi t x' K:=by rw [h1]
@[congr] theorem AxZ {f:Fn} {ys ys':List TV} (h1:xs=xs') (h2:ys=ys'):Ata f xs ys K=Ata f xs' ys' K:=by rw [h1,h2]
@[congr] theorem AwN (h1:x=x'):AeV x K=AeV x' K:=by rw [h1]
@[congr] theorem AxE (h1:x=x') (h2:y=y'):Au2 x y K=Au2 x' y' K:=by rw [h1,h2]
@[congr] theorem Ax1 (h1:x=x') (h2:y=y'):AuW x y K=AuW x' y' K:=by rw [h1,h2]
@[congr] theorem AxF {g:GOp} {xs xs':List TV} (h1:H=H') (h2:xs=xs'):AaL g H xs K=AaL g H' xs' K:=by rw [h1,h2]
@[congr] theorem AxU {n:Bool} (h1:x=x') (h2:y=y'):Aul n x y K=Aul n x' y' K:=by rw [h1,h2]
@[congr] theorem AxK {n:Bool} (h1:q=q') (h2:q2=q2'):AsO n q q2 K=AsO n q' q2' K:=by rw [h1,h2]
@[congr] theorem AuR {sz:Nat} (h0:H=H') (h1:x=x') (h2:y=y'):Afl H sz x y KK=Afl H' sz x' y' KK:=by rw [h0,h1,h2]
@[congr] theorem AxW {k n:Nat} {z:TV} (h0:H=H') (h1:x=x') (h2:y=y'):Au7 H k n z x y KK=Au7 H' k n z x' y' KK:=by rw [h0,h1,h2]
@[congr] theorem AxL {k n:Nat} {et:TypeId} (h0:H=H') (h1:x=x') (h2:ox=ox'):AqF k n et x ox H KK=AqF k n et x' ox' H' KK:=by rw [h0,h1,h2]
@[congr] theorem AvW {k:Nat} (h0:H=H') (h1:x=x') (h2:ox=ox'):Ags k x ox H KK=Ags k x' ox' H' KK:=by rw [h0,h1,h2]
@[congr] theorem Awo {et:TypeId} (h0:H=H') (h1:x=x') (h2:y=y'):AnV et x y H KK=AnV et x' y' H' KK:=by rw [h0,h1,h2]
@[congr] theorem Au0 (h0:H=H') (h1:x=x') (h2:y=y'):Ahf x y H KK=Ahf x' y' H' KK:=by rw [h0,h1,h2]
@[congr] theorem Aw8 {P:Program} {f:FuncId} {r r':Option (Nat×Nat×List UInt8)} (h0:H=H') (h1:r=r'):An7 P f r H KK=An7 P f r' H' KK:=by rw [h0,h1]
@[congr] theorem Awr {k n:Nat} {z:TV} (h0:H=H') (h1:x=x') (h2:y=y'):AnE k n z x y H KK=AnE k n z x' y' H' KK:=by rw [h0,h1,h2]
@[congr] theorem Ax2 {n:Bool} (h0:H=H') (h1:x=x'):Ao0 n x H KK=Ao0 n x' H' KK:=by rw [h0,h1]
@[congr] theorem AwQ (h0:H=H'):Aih H KK=Aih H' KK:=by rw [h0]
@[congr] theorem AxB (h0:H=H') (h1:x=x'):AuV H x KK=AuV H' x' KK:=by rw [h0,h1]
@[congr] theorem Au5 (h0:H=H') (h1:x=x') (h2:xs=xs'):AcY P x xs H KK=AcY P x' xs' H' KK:=by rw [h0,h1,h2]
@[congr] theorem Ax4 {P:Program} {nm:String} (h0:H=H') (h1:x=x') (h2:xs=xs'):AuD P nm x xs H KK=AuD P nm x' xs' H' KK:=by rw [h0,h1,h2]
@[congr] theorem Ax8 {P:Program} {g g':Option (FuncId×Option (Bool×Nat))} (h:g=g') (h0:H=H') (h1:x=x') (h2:xs=xs'):ArB P g x xs H KK=ArB P g' x' xs' H' KK:=by rw [h,h0,h1,h2]
@[congr] theorem Bej {b:Bool} (h1:q=q'):Gd q b A B=Gd q' b A B:=by rw [h1]
end
section
variable {K:TV→Prop} {KK:TV→List Ob→Prop} {x y i a b c:Opd} {lo hi:Option Opd}
theorem AvQ:pop (.mov x) e H K=BB (x.ev e) K:=Aa rfl
theorem AsN:pop (.pick c a b) e H K=AiH (c.ev e) (a.ev e) (b.ev e) K:=Aa rfl
theorem Avt {t:TypeId} {op:BinOp}:pop (.bin t op x y) e H K=Avd t op (x.ev e) (y.ev e) K:=Aa rfl
theorem Aye {op:UnOp}:pop (.un op x) e H K=Pun op (x.ev e) K:=Aa rfl
theorem Asj {k:IntKind}:pop (.conv k x) e H K=Anz k (x.ev e) K:=Aa rfl
theorem Axg:pop (.s2s x) e H K=Au6 (x.ev e) K:=Aa rfl
theorem AvE:pop (.b2s x) e H K=AuQ (BX H 1 (x.ev e)) K:=Aa rfl
theorem At7 {ag:Bool} {sz:Nat}:pop (.load ag sz x) e H K=Af8 H ag sz (x.ev e) K:=Aa rfl
theorem Aos {n o:Nat}:pop (.fieldA n o x) e H K=ZF n o (x.ev e) K:=Aa rfl
theorem ApF {ag:Bool} {sz n o:Nat}:pop (.field ag sz n o x) e H K=Afk ag sz n o (x.ev e) K:=Aa rfl
theorem Aux {k:Nat}:pop (.idxA k x i) e H K=AhK k (x.ev e) (i.ev e) K:=Aa rfl
theorem Aqq {n k:Nat}:pop (.idxAA n k x i) e H K=AcT n k (x.ev e) (i.ev e) K:=Aa rfl
theorem Avg {ag:Bool} {n k:Nat}:pop (.idx ag n k x i) e H K=AsJ ag n k (x.ev e) (i.ev e) K:=Aa rfl
theorem Auz:pop (.idxS x i) e H K=AiE (x.ev e) (i.ev e) K:=Aa rfl
theorem Axn {n:Nat}:pop (.ext n x) e H K=AsC n (x.ev e) K:=Aa rfl
theorem AuL:pop (.lenS x) e H K=Amv (x.ev e) K:=Aa rfl
theorem Atg:pop (.lenV x) e H K=AhE (x.ev e) K:=Aa rfl
theorem AwT:pop (.slS x lo hi) e H K=Au3 (x.ev e) (evO e lo) (evO e hi) K:=by
 show (match x.ev e with | .val (.string s)=>bnd e lo hi (bl s).length (bl s).length fun l h=>K (.val (.string (str (((bl s).drop l).take (h - l))))) | _=>False)=_
 simp only [Ak8]; rfl
theorem Avh {k:Nat}:pop (.slV k x lo hi) e H K=ArE k (x.ev e) (evO e lo) (evO e hi) K:=by
 rw [Awm]; simp only [Ak8]; rfl
theorem AvF {n k:Nat}:pop (.slA n k x lo hi) e H K=Arz H n k (x.ev e) (evO e lo) (evO e hi) K:=by
 rw [Awn]; simp only [Ak8]; rfl
theorem ApD {t:TypeId}:pop (.iface t x) e H K=Ahi t (x.ev e) K:=Aa rfl
theorem Avw {f:Fn} {xs ys:List Opd}:pop (.mkf f xs ys) e H K=Ata f (evs e xs) (evs e ys) K:=by
 rw [Axz]; unfold Ata evs; rw [←List.map_append]
 refine congrArg (· ∧ _) (propext ⟨fun h y hy => ?_,fun h y hy=>h _ (List.mem_map.2 ⟨y,hy,rfl⟩)⟩)
 obtain ⟨z,hz,rfl⟩:=List.mem_map.1 hy; exact h z hz
theorem Atl:pop (.nilc x) e H K=AeV (x.ev e) K:=Aa rfl
theorem AwD:pop (.min x y) e H K=Au2 (x.ev e) (y.ev e) K:=Aa rfl
theorem AvU:pop (.max x y) e H K=AuW (x.ev e) (y.ev e) K:=Aa rfl
theorem AwZ {g:GOp} {xs:List Opd}:pop (.gen g xs) e H K=AaL g H (evs e xs) K:=Aa rfl
theorem Av7 {n:Bool}:pop (.eqB x y n) e H K=Aul n (x.ev e) (y.ev e) K:=Aa rfl
theorem Av0 {kd:Nat} {n:Bool}:pop (.eqN kd x y n) e H K=AsO n (EH kd (x.ev e)) (EH kd (y.ev e)) K:=Aa rfl
theorem ApI {zs:List TV} {szs:List Nat} {ps:List (Nat×Opd)}:pop (.build zs szs ps) e H K=DD (EQ e szs ps) (BB (TV.agg (Fz e zs ps)) K):=Aa rfl
theorem AlK {n k:Nat} {zs:List TV} {ps:List (Nat×Opd)}:pop (.buildA n k zs ps) e H K=DD (EQ e (List.replicate n k) ps) (DD (BJ e ps) (BB (TV.arr n k (Fz e zs ps)) K)):=Aa rfl
theorem Axf {k n:Nat} {z:TV} {ps:List (Nat×Opd)}:pop (.bsl k n z ps) e H K=DD (EQ e (List.replicate n k) ps) (DD (BJ e ps∧n≤1000) (BB (TV.sl k (Fz e (List.replicate n z) ps)) K)):=by
 show ((_∧_∧_)∧_)=_
 simp only [DD,BB,and_assoc]
theorem Aqb {z:TV}:sop P (.alloc z) e H KK=BB (H.length) fun n=>BB (H++[.obj 0 z]) fun H'=>KK (.op n 0 []) H':=Aa rfl
theorem AlT {z:TV} {t:TypeId}:sop P (.allocT z t) e H KK=BB (H.length) fun n=>BB (AL z) fun m=>BB (H++[.obj 0 z,.fact n 0 t m]) fun H'=>KK (.op n 0 []) H':=Aa rfl
theorem Atq {t:TypeId}:sop P (.boxT x t) e H KK=BB (x.ev e) fun v=>DD (lays v=true) (BB (H.length) fun n=>BB (AL v) fun m=>BB (H++[.obj 0 v,.fact n 0 t m]) fun H'=>KK (.op n 0 []) H'):=Aa rfl
theorem Auf {f:FuncId}:sop P (.bstr f x) e H KK=An7 P f (Aip H (x.ev e)) H KK:=Aa rfl
def Aoc (x:TV) (H:List Ob) (K:TV→List Ob→Prop) [Tg K]:Prop:=match x with
 | .val (.string s)=>K (.op H.length 0 []) (H++[.sit (bl s) 0])
 | _=>False
@[congr] theorem Awc {x x':TV} {H':List Ob} (h1:x=x') (h2:H=H'):Aoc x H KK=Aoc x' H' KK:=by rw [h1,h2]
theorem Asi:sop P (.rngS x) e H KK=Aoc (x.ev e) H KK:=Aa rfl
theorem AoF {s:ByteArray}:Aoc (.val (.string s)) H KK=BB H.length fun n=>BB (H++[.sit (bl s) 0]) fun H'=>KK (.op n 0 []) H':=Aa rfl
def AkQ:Option Ob→Option (List UInt8×Nat)
 | some (.sit s pos)=>some (s,pos)
 | _=>none
theorem Anc {s:List UInt8} {pos:Nat}:AkQ (some (.sit s pos))=some (s,pos):=Aa rfl
def Ak7 (x:TV) (H:List Ob) (K:TV→List Ob→Prop) [Tg K]:Prop:=match x with
 | .op id 0 []=>(match H[id]? with
  | some (.sit s pos)=>if pos<s.length then K (.tup [.val (.bool true),.val (.int .i64 (pos:Int)),.val (.int .i32 ((Utf8.decode (str s) pos).1:Int))]) (H.set id (.sit s (pos+(Utf8.decode (str s) pos).2))) else K (.tup [.val (.bool false)]) H
  | _=>False)
 | _=>False
@[congr] theorem Avq {x x':TV} {H':List Ob} (h1:x=x') (h2:H=H'):Ak7 x H KK=Ak7 x' H' KK:=by rw [h1,h2]
theorem Auv:sop P (.nxtS x) e H KK=Ak7 (x.ev e) H KK:=Aa rfl
theorem AmH {id:Nat}:Ak7 (.op id 0 []) H KK=BF (AkQ H[id]?) fun p=>vif (decide (p.2<p.1.length))
  (BB (H.set id (.sit p.1 (p.2+(Utf8.decode (str p.1) p.2).2))) fun H'=>KK (.tup [.val (.bool true),.val (.int .i64 (p.2:Int)),.val (.int .i32 ((Utf8.decode (str p.1) p.2).1:Int))]) H') (KK (.tup [.val (.bool false)]) H):=by
 unfold Ak7
 cases h:H[id]? with
 | none=>simp [AkQ,BF,h]
 | some o =>
  cases o with
  | sit s pos=>simp only [h,AkQ,BF,BB]; by_cases hp:pos<s.length<;>simp [vif,hp]
  | _=>simp [AkQ,BF,h]
theorem AvM:sop P (.box x) e H KK=BB (x.ev e) fun v=>DD (lays v=true) (BB (H.length) fun n=>BB (H++[.obj 0 v]) fun H'=>KK (.op n 0 []) H'):=Aa rfl
theorem Anr {k n:Nat} {z:TV} {ps:List (Nat×Opd)}:sop P (.bslice k n z ps) e H KK=DD (EQ e (List.replicate n k) ps) (DD (BJ e ps∧n≤1000) (BB H.length fun m=>BB (H++[.obj 0 (.arr n k (Fz e (List.replicate n z) ps))]) fun H'=>KK (.os k m 0 [] 0 n n) H')):=by
 rw [Alo]; simp only [DD,BB,and_assoc]
def AaO (kk:MK):Option Ob→Option (List (List UInt8×TV))
 | some (.mpo kk' es)=>if kk'=kk then some es else none
 | _=>none
def AbA (kk:MK):Option Ob→Option (List (List UInt8×TV))
 | some (.mpo kk' es)=>if kk'=kk then some es else none
 | some (.mpd kk' zs _)=>if kk'=kk then some (zs.map (·.2)) else none
 | _=>none
theorem AnD {kk:MK} {es:List (List UInt8×TV)}:AbA kk (some (.mpo kk es))=some es:=by simp [AbA]
theorem Ap0 {kk:MK} {zs:List (Nat×List UInt8×TV)} {cl:Nat}:AbA kk (some (.mpd kk zs cl))=some (zs.map (·.2)):=by simp [AbA]
def AfX:Option Ob→Option (List (List UInt8×TV))
 | some (.mpo _ es)=>some es
 | some (.mpd _ zs _)=>some (zs.map (·.2))
 | _=>none
theorem AlL {kk:MK} {es:List (List UInt8×TV)}:AfX (some (.mpo kk es))=some es:=by simp [AfX]
theorem Aq8 {kk:MK} {zs:List (Nat×List UInt8×TV)} {cl:Nat}:AfX (some (.mpd kk zs cl))=some (zs.map (·.2)):=by simp [AfX]
theorem Ari {kk:MK} {es:List (List UInt8×TV)}:stO (some (.mpo kk es))=some (kk,ZT 0 es,es.length):=Aa rfl
theorem Apj {kk:MK} {zs:List (Nat×List UInt8×TV)} {cl:Nat}:stO (some (.mpd kk zs cl))=some (kk,zs,cl):=Aa rfl
def Ajb (x:TV) (H:List Ob) (K:TV→List Ob→Prop) [Tg K]:Prop:=match x with
 | .mp id 0=>(match stO H[id]? with
  | some (_,_,cl)=>K (.op H.length 0 []) (H++[.mit id [] cl])
  | none=>False)
 | _=>False
@[congr] theorem AwU {x x':TV} {H':List Ob} (h1:x=x') (h2:H=H'):Ajb x H KK=Ajb x' H' KK:=by rw [h1,h2]
theorem Auu:sop P (.rngM x) e H KK=Ajb (x.ev e) H KK:=Aa rfl
theorem Alu {id:Nat}:Ajb (.mp id 0) H KK=BF (stO H[id]?) fun p=>BB H.length fun n=>BB (H++[.mit id [] p.2.2]) fun H'=>KK (.op n 0 []) H':=by
 unfold Ajb
 cases h:stO H[id]? with
 | none=>simp [BF,h]
 | some o=>obtain ⟨a,b,c⟩:=o; simp [BF,BB,h]
def Adh:Option Ob→Option (Nat×List Nat×Nat)
 | some (.mit m sn cl)=>some (m,sn,cl)
 | _=>none
theorem AmZ {m cl:Nat} {sn:List Nat}:Adh (some (.mit m sn cl))=some (m,sn,cl):=Aa rfl
def AjY (x:TV) (H:List Ob) (K:TV→List Ob→Prop) [Tg K]:Prop:=match x with
 | .op id 0 []=>(match H[id]? with
  | some (.mit m sn cl)=>(match stO H[m]? with
   | some (kk,zs,cl')=>(cl'=cl∧∀ z∈zs,z.1<cl)∧(∀ z∈zs,z.1∉sn→K (.tup [.val (.bool true),kTV kk z.2.1,z.2.2]) (H.set id (.mit m (sn++[z.1]) cl)))∧((∀ z∈zs,z.1∈sn)→K (.tup [.val (.bool false)]) H)
   | none=>False)
  | _=>False)
 | _=>False
@[congr] theorem Awe {x x':TV} {H':List Ob} (h1:x=x') (h2:H=H'):AjY x H KK=AjY x' H' KK:=by rw [h1,h2]
theorem AsY:sop P (.nxtM x) e H KK=AjY (x.ev e) H KK:=Aa rfl
def Au8 (id m:Nat) (sn:List Nat) (cl:Nat) (kk:MK) (zs:List (Nat×List UInt8×TV)) (cl':Nat) (H:List Ob) (K:TV→List Ob→Prop) [Tg K]:Prop :=
 (cl'=cl∧∀ z∈zs,z.1<cl)∧(∀ z∈zs,z.1∉sn→K (.tup [.val (.bool true),kTV kk z.2.1,z.2.2]) (H.set id (.mit m (sn++[z.1]) cl)))∧((∀ z∈zs,z.1∈sn)→K (.tup [.val (.bool false)]) H)
@[congr] theorem AxI {id m:Nat} {sn sn':List Nat} {cl c2:Nat} {kk:MK} {zs zs':List (Nat×List UInt8×TV)} {cl' c2':Nat} {H':List Ob} (h1:sn=sn') (h2:cl=c2) (h3:zs=zs') (h4:cl'=c2') (h5:H=H'):Au8 id m sn cl kk zs cl' H KK=Au8 id m sn' c2 kk zs' c2' H' KK:=by rw [h1,h2,h3,h4,h5]
theorem AmF {id:Nat}:AjY (.op id 0 []) H KK=BF (Adh H[id]?) fun p=>BF (stO H[p.1]?) fun q=>Au8 id p.1 p.2.1 p.2.2 q.1 q.2.1 q.2.2 H KK:=by
 unfold AjY
 cases h:H[id]? with
 | none=>simp [Adh,BF,h]
 | some o =>
  cases o with
  | mit m sn cl =>
   simp only [h,Adh,BF]
   cases h2:stO H[m]? with
   | none=>simp
   | some q=>obtain ⟨a,b,c⟩:=q; simp only [Au8]
  | _=>simp [Adh,BF,h]
def ArN (p:Nat×List Nat×Nat) (q:MK×List (Nat×List UInt8×TV)×Nat):Option TV:=match p.2.1.getLast? with
 | some s=>if q.2.2=p.2.2 then (match q.2.1.find? (·.1 == s) with
  | some z=>some (.tup [kTV q.1 z.2.1,z.2.2])
  | none=>none) else none
 | none=>none
def Aru (kk:MK) (o:Option Ob):Option (List (Nat×List UInt8×TV)×Nat):=match stO o with
 | some (kk',zs,cl)=>if kk'=kk then some (zs,cl) else none
 | none=>none
theorem AnI {kk:MK} {es:List (List UInt8×TV)}:Aru kk (some (.mpo kk es))=some (ZT 0 es,es.length):=by simp [Aru,stO]
theorem Alp {kk:MK} {zs:List (Nat×List UInt8×TV)} {cl:Nat}:Aru kk (some (.mpd kk zs cl))=some (zs,cl):=by simp [Aru,stO]
def AjN (kk:MK) (m k:TV) (H:List Ob) (K:TV→List Ob→Prop) [Tg K]:Prop:=match m,BR kk k with
 | .mp id 0,some kb=>(match stO H[id]? with
  | some (kk',zs,cl)=>kk'=kk∧K .any (H.set id (.mpd kk (zs.eraseIdx (AbX kb (zs.map (·.2)))) cl))
  | none=>False)
 | _,_=>False
@[congr] theorem AwY {kk:MK} {H':List Ob} {m m' k k':TV} (h1:m=m') (h2:k=k') (h4:H=H'):AjN kk m k H KK=AjN kk m' k' H' KK:=by rw [h1,h2,h4]
theorem AuA {kk:MK} {m k:Opd}:sop P (.delM kk m k) e H KK=AjN kk (m.ev e) (k.ev e) H KK:=Aa rfl
theorem An8 {kk:MK} {id:Nat} {kx:TV}:AjN kk (.mp id 0) kx H KK=BF (Aru kk H[id]?) fun p=>BF (BR kk kx) fun kb=>BB (p.1.eraseIdx (AbX kb (p.1.map (·.2)))) fun zs=>BB (H.set id (.mpd kk zs p.2)) fun H'=>KK .any H':=by
 unfold AjN Aru
 cases h:stO H[id]? with
 | none=>cases BR kk kx<;>simp [h,BF]
 | some q =>
  obtain ⟨kk',zs,cl⟩:=q
  by_cases hk:kk'=kk
  ·subst hk; cases BR kk' kx<;>simp [h,BF,BB]
  ·cases BR kk kx<;>simp [h,BF,hk]
def Avc (H:List Ob) (x:TV) (K:TV→List Ob→Prop) [Tg K]:Prop:=match x with
 | .os k id ver [] off n cp=>n≠0∧obV H[id]?=some ver∧K (.os k id ver [] off n cp) H
 | _=>False
@[congr] theorem AxM {H':List Ob} {x x':TV} (h0:H=H') (h1:x=x'):Avc H x KK=Avc H' x' KK:=by rw [h0,h1]
theorem Axh {x:Opd}:sop P (.cvS x) e H KK=Avc H (x.ev e) KK:=Aa rfl
theorem Aqa {k id ver off n cp:Nat}:Avc H (.os k id ver [] off n cp) KK=DD (n≠0) (DD (obV H[id]?=some ver) (KK (.os k id ver [] off n cp) H)):=Aa rfl
theorem ArG {v:Nat} {y:TV}:obV (some (.obj v y))=some v:=Aa rfl
def Akf (k:Nat) (z x:TV) (H:List Ob) (K:TV→List Ob→Prop) [Tg K]:Prop:=match x with
 | .os k' id ver p off n cp=>V5 k (.os k' id ver p off n cp) (List.replicate n z) H fun _ H'=>K .any H'
 | .val (.slice none 0 0)=>K .any H
 | _=>False
@[congr] theorem Av1 {k:Nat} {z x x':TV} {H':List Ob} (h1:x=x') (h2:H=H'):Akf k z x H KK=Akf k z x' H' KK:=by rw [h1,h2]
theorem Auw {k:Nat} {z:TV}:sop P (.clrS k z x) e H KK=Akf k z (x.ev e) H KK:=Aa rfl
theorem Aku {k:Nat} {z:TV}:Akf k z (.val (.slice none 0 0)) H KK=KK .any H:=Aa rfl
theorem AlE {k id ver off n cp:Nat} {p:List (Nat×Nat)} {z:TV}:Akf k z (.os k id ver p off n cp) H KK=BB (List.replicate n z) fun ys=>Ags k (.os k id ver p off n cp) (some ys) H fun _ H'=>KK .any H':=Aa rfl
theorem AnZ {kk:MK} {es:List (List UInt8×TV)}:AaO kk (some (.mpo kk es))=some es:=by simp [AaO]
theorem AuE {l:List UInt8}:BR .str (.val (.string (str l)))=some l:=by simp [BR,bl,str]
theorem Ar8 {n:Nat} {l:List UInt8}:BR (.arr n) (.arr n 1 (l.map by8))=some l:=by
 unfold BR; simp only [YQ,Yx,and_self,if_true]
theorem Ara {z:TV} {r:Option TV}:AaI z false r=r.getD z:=by simp [AaI]
theorem ApW {z:TV} {r:Option TV}:AaI z true r = .tup [r.getD z,.val (.bool r.isSome)]:=by simp [AaI]
def ArF (x:TV) (A:Prop) [Tg A]:Prop:=match x with
 | .val (.int _ _)=>A
 | _=>False
@[congr] theorem Ax7 {x x':TV} {A:Prop} (h:x=x'):ArF x A=ArF x' A:=by rw [h]
theorem Apq {q:IntKind} {n:Int} {A:Prop}:ArF (.val (.int q n)) A=A:=by simp [ArF]
theorem As1 {kk:MK}:sop P (.mkm kk none) e H KK=BB H.length fun n=>BB (H++[.mpo kk []]) fun H'=>KK (.mp n 0) H':=by simp [sop,BB]
theorem Aso {kk:MK}:sop P (.mkm kk (some x)) e H KK=ArF (x.ev e) (BB H.length fun n=>BB (H++[.mpo kk []]) fun H'=>KK (.mp n 0) H'):=by
 simp only [sop,BB,ArF]
 cases x.ev e with
 | val v=>cases v<;>simp
 | _=>simp
def AjR (kk:MK) (m k v:TV) (H:List Ob) (K:TV→List Ob→Prop) [Tg K]:Prop:=match m,BR kk k with
 | .mp id 0,some kb=>(match H[id]? with
  | some (.mpo kk' es)=>(kk'=kk∧lays v=true)∧K .any (H.set id (.mpo kk (YT kb v es)))
  | _=>False)
 | _,_=>False
@[congr] theorem Awv {kk:MK} {H':List Ob} {m m' k k' v v':TV} (h1:m=m') (h2:k=k') (h3:v=v') (h4:H=H'):AjR kk m k v H KK=AjR kk m' k' v' H' KK:=by rw [h1,h2,h3,h4]
theorem ArJ {kk:MK} {m k:Opd}:sop P (.mupd kk m k x) e H KK=AjR kk (m.ev e) (k.ev e) (x.ev e) H KK:=Aa rfl
def Aj6 (kk:MK) (z m k:TV) (H:List Ob) (K:TV→List Ob→Prop) [Tg K]:Prop:=match m,BR kk k with
 | .mp id 0,some kb=>(match H[id]? with
  | some (.mpo kk' es)=>kk'=kk∧K (.tup [(QH kb es).getD z,.val (.int .i64 (AbX kb es))]) (H.set id (.mpo kk (YT kb ((QH kb es).getD z) es)))
  | _=>False)
 | _,_=>False
@[congr] theorem Awz {kk:MK} {H':List Ob} {z m m' k k':TV} (h1:m=m') (h2:k=k') (h4:H=H'):Aj6 kk z m k H KK=Aj6 kk z m' k' H' KK:=by rw [h1,h2,h4]
theorem Asr {kk:MK} {z:TV} {m k:Opd}:sop P (.ment kk z m k) e H KK=Aj6 kk z (m.ev e) (k.ev e) H KK:=Aa rfl
def Aj9 (m st v:TV) (H:List Ob) (K:TV→List Ob→Prop) [Tg K]:Prop:=match m,st with
 | .mp id 0,.val (.int _ j)=>(match H[id]? with
  | some (.mpo kk es)=>(0≤j∧lays v=true)∧(match es[j.toNat]? with
   | some (k,_)=>K .any (H.set id (.mpo kk (es.set j.toNat (k,v))))
   | none=>False)
  | _=>False)
 | _,_=>False
@[congr] theorem AwC {H':List Ob} {m m' st st' v v':TV} (h1:m=m') (h2:st=st') (h3:v=v') (h4:H=H'):Aj9 m st v H KK=Aj9 m' st' v' H' KK:=by rw [h1,h2,h3,h4]
theorem Atu {m st:Opd}:sop P (.mest m st x) e H KK=Aj9 (m.ev e) (st.ev e) (x.ev e) H KK:=Aa rfl
theorem ApH {sz:Nat}:sop P (.store sz x y) e H KK=Afl H sz (x.ev e) (y.ev e) KK:=Aa rfl
theorem Awb {k n:Nat} {z:TV}:sop P (.mks k n z x y) e H KK=Au7 H k n z (x.ev e) (y.ev e) KK:=Aa rfl
theorem Aw2 {k n:Nat} {et:TypeId}:sop P (.app k n et x y) e H KK=AqF k n et (x.ev e) (BX H k (y.ev e)) H KK:=Aa rfl
theorem Aur {et:TypeId}:sop P (.appS et x y) e H KK=AnV et (x.ev e) (y.ev e) H KK:=Aa rfl
theorem Atd {k:Nat}:sop P (.copy k x y) e H KK=Ags k (x.ev e) (BX H k (y.ev e)) H KK:=Aa rfl
theorem Aqz:sop P (.copyS x y) e H KK=Ahf (x.ev e) (y.ev e) H KK:=Aa rfl
theorem As0 {k n:Nat} {z:TV}:sop P (.appZ k n z x y) e H KK=AnE k n z (x.ev e) (y.ev e) H KK:=Aa rfl
theorem AvO {n:Bool}:sop P (.eqS x n) e H KK=Ao0 n (x.ev e) H KK:=Aa rfl
theorem Avn:sop P (.s2b x) e H KK=AuV H (x.ev e) KK:=Aa rfl
theorem AuI {f:FuncId} {args:List Opd}:sop P (.call f args) e H KK=BB (evs e args) fun xs=>DD (VJ xs) (VC P f xs H KK):=by
 rw [Asv,Q9]; rfl
theorem Aww {nm:String} {args:List Opd}:sop P (.inv x nm args) e H KK=BB (evs e args) fun xs=>DD (VJ xs) (AuD P nm (x.ev e) xs H KK):=by
 show ((∀ y∈args,CJ (y.ev e)=false)∧_)=_
 rw [Q9]; rfl
theorem Aq9 {args:List Opd}:sop P (.callv x args) e H KK=BB (evs e args) fun xs=>DD (VJ xs) (AcY P (x.ev e) xs H KK):=by
 rw [Arm,Q9]; rfl
end
section
variable {K:TV→Prop} {KK:TV→List Ob→Prop} {x y:TV} {cs ys:List TV} {n n' k k':Nat} {id ver off cp:Nat} {p:List (Nat×Nat)} {j:Int} {q:IntKind} {lo hi:Option TV}
theorem AmK {t:Bool}:AiH (.val (.bool t)) x y K=vif t (K x) (K y):=by cases t<;>simp [AiH,vif]
theorem ApV {t:TypeId} {op:BinOp} {u v:Value}:Avd t op (.val u) (.val v) K=DD (Aow u v=true) (BF (Fe t op u v) fun r=>BB (TV.val r) K):=by
 show (_∧_)=_; cases Fe t op u v<;>rfl
theorem Ass {op:UnOp} {u:Value}:Pun op (.val u) K=BF (unV op u) fun r=>BB (TV.val r) K:=by
 unfold Pun; simp only; cases unV op u<;>rfl
theorem Anh {k:IntKind}:Anz k (.val (.int q j)) K=BB (TV.val (.int k (k.wrap j))) K:=Aa rfl
theorem Ao9 {s:ByteArray}:Au6 (.val (.string s)) K=K (.val (.string s)):=Aa rfl
theorem Aqh:AuQ (some cs) K=DD (∀ y∈cs,AfU y) (BB (TV.val (.string (str (cs.map Aas)))) K):=Aa rfl
theorem AmL {ag:Bool} {sz:Nat}:Af8 H ag sz (.fp y) K=DD (AcO ag sz y) (K y):=Aa rfl
theorem AmS {ag:Bool} {sz:Nat}:Af8 H ag sz (.op id ver p) K=BF (Hq H[id]? ver) fun x=>BF (Oy p x) fun y=>DD (AcO ag sz y) (K y):=by
 unfold Af8
 simp only
 cases h:H[id]? with
 | none=>simp [Hq,BF]
 | some o =>
  cases o with
  | gone v=>simp [Hq,BF]
  | ice v m y=>simp [Hq,BF]
  | fact i v t m=>simp [Hq,BF]
  | bld v t l=>simp [Hq,BF]
  | lp st pe fn N en ps ca cb=>simp [Hq,BF]
  | mpo kk es=>simp [Hq,BF]
  | mpd kk zs cl=>simp [Hq,BF]
  | mit m sn cl=>simp [Hq,BF]
  | sit s pos=>simp [Hq,BF]
  | obj v x =>
   by_cases hv:v=ver
   ·subst hv; simp only [Hq,BF,DD,if_true,true_and]; cases Oy p x<;>rfl
   ·simp [Hq,BF,hv]
theorem AhU {i o:Nat}:ZF i o (.op id ver p) K=BB (p++[(i,o)]) fun p=>K (.op id ver p):=Aa rfl
theorem AhF {i o:Nat}:ZF i o (.fp (.agg cs)) K=DD (Cc (cs.take i)=o) (BF cs[i]? fun y=>K (.fp y)):=by
 unfold ZF; simp only; cases cs[i]?<;>rfl
theorem Ajs {ag:Bool} {sz i o:Nat}:Afk ag sz i o (.agg cs) K=DD (Cc (cs.take i)=o) (BF cs[i]? fun y=>DD (AcO ag sz y) (K y)):=by
 unfold Afk; simp only; cases cs[i]?<;>rfl
theorem AnK:AhK k (.sl k cs) (.val (.int q j)) K=DD (0≤j) (BF cs[j.toNat]? fun y=>K (.fp y)):=by
 unfold AhK; simp only [true_and]; cases cs[j.toNat]?<;>rfl
theorem AnB:AhK k (.os k id ver p off n cp) (.val (.int q j)) K=DD (0≤j∧j<n) (BB (off+j.toNat) fun m=>BB (p++[(m,m*k)]) fun p=>K (.op id ver p)):=by
 show (k=k∧_)=_; simp [DD,BB,and_assoc]
theorem AiI:AcT n k (.fp (.arr n k cs)) (.val (.int q j)) K=DD (0≤j) (BF cs[j.toNat]? fun y=>K (.fp y)):=by
 unfold AcT; simp only [true_and]; cases cs[j.toNat]?<;>rfl
theorem AiO:AcT n k (.op id ver p) (.val (.int q j)) K=DD (0≤j∧j<n) (BB j.toNat fun m=>BB (p++[(m,m*k)]) fun p=>K (.op id ver p)):=by
 show (_∧_)=_; simp [DD,BB,and_assoc]
theorem Aq6 {ag:Bool}:AsJ ag n k (.arr n k cs) (.val (.int q j)) K=DD (0≤j) (BF cs[j.toNat]? fun y=>DD (AcO ag k y) (K y)):=by
 unfold AsJ; simp only [true_and]; cases cs[j.toNat]?<;>rfl
theorem AlG {s:ByteArray}:AiE (.val (.string s)) (.val (.int q j)) K=DD (0≤j) (BF (bl s)[j.toNat]? fun b=>K (by8 b)):=by
 unfold AiE; simp only; cases (bl s)[j.toNat]?<;>rfl
theorem Aqg {i:Nat}:AsC i (.tup cs) K=BF cs[i]? K:=by
 unfold AsC; simp only; cases cs[i]?<;>rfl
theorem AlW {s:ByteArray}:Amv (.val (.string s)) K=BB (TV.val (.int .i64 (bl s).length)) K:=Aa rfl
theorem Am6:AhE (.sl k cs) K=BB (TV.val (.int .i64 cs.length)) K:=Aa rfl
theorem Aox:AhE (.os k id ver p off n cp) K=K (.val (.int .i64 n)):=Aa rfl
theorem AjS {ad:Option Addr} {c:Nat}:AhE (.val (.slice ad n c)) K=K (.val (.int .i64 n)):=Aa rfl
section
variable {len lim:Nat} {KN:Nat→Nat→Prop} {l h:Int} {q2:IntKind}
theorem Ap4:AdV none none len lim KN=DD (len≤lim) (KN 0 len):=by
 show ((0≤(0:Int)∧(0:Int)≤(len:Int)∧(len:Int)≤lim)∧KN (Int.toNat 0) (Int.toNat len))=_
 simp [DD]
theorem ApE:AdV (some (.val (.int q l))) none len lim KN=DD (0≤l∧l≤len∧(len:Int)≤lim) (BB l.toNat fun l=>KN l len):=by
 show ((0≤l∧l≤(len:Int)∧(len:Int)≤lim)∧KN l.toNat (Int.toNat len))=_
 simp [DD,BB]
theorem ApK:AdV none (some (.val (.int q h))) len lim KN=DD (0≤h∧h≤lim) (BB h.toNat fun h=>KN 0 h):=by
 show ((0≤(0:Int)∧0≤h∧h≤lim)∧KN (Int.toNat 0) h.toNat)=_
 simp [DD,BB]
theorem AqM:AdV (some (.val (.int q l))) (some (.val (.int q2 h))) len lim KN=DD (0≤l∧l≤h∧h≤lim) (BB l.toNat fun l=>BB h.toNat fun h=>KN l h):=Aa rfl
end
theorem AqE {s:ByteArray}:Au3 (.val (.string s)) lo hi K=AdV lo hi (bl s).length (bl s).length fun l h=>BB (((bl s).drop l).take (h - l)) fun r=>K (.val (.string (str r))):=Aa rfl
theorem AqH:ArE k (.sl k cs) lo hi K=AdV lo hi cs.length cs.length fun l h=>BB ((cs.drop l).take (h - l)) fun r=>K (.sl k r):=by
 exact propext ⟨fun h=>h.2,fun h=>⟨rfl,h⟩⟩
theorem Aqi:ArE k (.os k id ver p off n cp) lo hi K=AdV lo hi n cp fun l h=>BB (off+l) fun o=>BB (h - l) fun m=>BB (cp - l) fun c=>K (.os k id ver p o m c):=by
 exact propext ⟨fun h=>h.2,fun h=>⟨rfl,h⟩⟩
theorem Al2 {ad:Option Addr}:ArE k (.val (.slice ad 0 0)) lo hi K=AdV lo hi 0 0 fun l h=>K (.val (.slice ad 0 0)):=Aa rfl
theorem Aqr:Arz H n k (.fp (.arr n k cs)) lo hi K=DD (n≤9223372036854775807) (AdV lo hi n n fun l h=>BB ((cs.drop l).take (h - l)) fun r=>K (.sl k r)):=by
 exact propext ⟨fun h=>⟨h.2.2.1,h.2.2.2⟩,fun h=>⟨rfl,rfl,h.1,h.2⟩⟩
def Afm:Option TV→Nat→Nat→Option (List TV)
 | some (.arr n' k' cs),n,k=>if n'=n∧k'=k then some cs else none
 | _,_,_=>none
theorem AmM:Afm (some (.arr n k cs)) n k=some cs:=by simp [Afm]
theorem ApG:Arz H n k (.op id ver p) lo hi K=BF (Hq H[id]? ver) fun x=>DD (n≤9223372036854775807) (BF (Afm (Oy p x) n k) fun _=>AdV lo hi n n fun l h=>BB (h - l) fun m=>BB (n - l) fun c=>K (.os k id ver p l m c)):=by
 unfold Arz
 simp only
 cases h:H[id]? with
 | none=>simp [Hq,BF]
 | some o =>
  cases o with
  | gone v=>simp [Hq,BF]
  | ice v m y=>simp [Hq,BF]
  | fact i v t m=>simp [Hq,BF]
  | bld v t l=>simp [Hq,BF]
  | lp st pe fn N en ps ca cb=>simp [Hq,BF]
  | mpo kk es=>simp [Hq,BF]
  | mpd kk zs cl=>simp [Hq,BF]
  | mit m sn cl=>simp [Hq,BF]
  | sit s pos=>simp [Hq,BF]
  | obj v x =>
   by_cases hv:v=ver
   ·simp only [Hq,BF,hv,DD,BB,if_true,true_and]
    congr 1
    cases hg:Oy p x with
    | none=>simp [Afm]
    | some y =>
     cases y with
     | arr n2 k2 ds =>
      by_cases h1:n2=n
      ·by_cases h2:k2=k
       ·simp [Afm,h1,h2]; exact Iff.rfl
       ·simp [Afm,h1,h2]
      ·simp [Afm,h1]
     | _=>simp [Afm]
   ·simp [Hq,BF,hv]
theorem Aji {t:TypeId}:Ahi t x K=DD (lays x=true) (K (.ifc t x)):=Aa rfl
theorem Ap5 {f:Fn}:Ata f cs ys K=DD (VJ (cs++ys)) (K (.fn f cs ys)):=Aa rfl
theorem AmU:AeV (.op id ver p) K=K (.op id ver p):=Aa rfl
theorem Alr:AeV (.fp y) K=K (.fp y):=Aa rfl
theorem An0 {f:FuncId} {a b:List TV}:AeV (.fn (.func f) a b) K=K (.fn (.func f) a b):=Aa rfl
theorem Aj4 {t:TypeId}:AeV (.ifc t y) K=K (.ifc t y):=Aa rfl
theorem Ah2 {f:FuncId} {a b:Array Value}:AeV (.val (.func (.func f) a b)) K=K (.val (.func (.func f) a b)):=Aa rfl
section
variable {a b:Int} {q2:IntKind}
theorem ApP:Au2 (.val (.int q a)) (.val (.int q2 b)) K=vif (decide (b<a)) (K (.val (.int q b))) (K (.val (.int q a))):=by
 show K _=_
 by_cases h:b<a<;>simp [vif,h]
theorem AqK:AuW (.val (.int q a)) (.val (.int q2 b)) K=vif (decide (a<b)) (K (.val (.int q b))) (K (.val (.int q a))):=by
 show K _=_
 by_cases h:a<b<;>simp [vif,h]
theorem AnC {q1 q2 q3:IntKind} {l h m:Int}:AaL (.sl3 k) H [.sl k cs,.val (.int q1 l),.val (.int q2 h),.val (.int q3 m)] K=DD (0≤l∧l≤h∧h≤m∧m≤cs.length) (BB ((cs.drop l.toNat).take (h.toNat - l.toNat)) fun r=>K (.sl k r)):=by
 unfold AaL gev DD BB
 simp only [true_and]
 by_cases hc:0≤l∧l≤h∧h≤m∧m≤cs.length
 ·rw [if_pos hc]; simp [hc]
 ·rw [if_neg hc]; simp only [hc,false_and]
theorem Amn {sh:List EL} {b:Bool} {xs ys:List TV}:AaL (.eqR sh b) H [.agg xs,.agg ys] K=BF (Ad7 sh xs ys) fun r=>BB (TV.val (.bool (xor b r))) K:=by
 have hg:gev (.eqR sh b) H [.agg xs,.agg ys]=(Ad7 sh xs ys).map fun r => .val (.bool (xor b r)):=by unfold gev; rfl
 unfold AaL BF BB
 rw [hg]
 cases Ad7 sh xs ys<;>rfl
theorem AnA:Ad7 [] [] []=some true:=Aa rfl
theorem AtO {l:List EL} {k:IntKind} {a b:Int} {xs ys:List TV}:Ad7 (.i::l) (.val (.int k a)::xs) (.val (.int k b)::ys)=(Ad7 l xs ys).map fun r=>(a == b) && r:=by rw [Ad7,if_pos rfl]
theorem Aua {l:List EL} {a b:ByteArray} {xs ys:List TV}:Ad7 (.s::l) (.val (.string a)::xs) (.val (.string b)::ys)=(Ad7 l xs ys).map fun r=>(a == b) && r:=Aa rfl
theorem Asu {l:List EL} {n:Nat} {a b:List UInt8} {xs ys:List TV}:Ad7 (.b n::l) (.arr n 1 (a.map by8)::xs) (.arr n 1 (b.map by8)::ys)=(Ad7 l xs ys).map fun r=>(a == b) && r:=by
 rw [Ad7]
 simp only [YQ,Yx,and_self,if_true]
theorem Al0 {n:Nat} {b:Bool} {xs ys:List UInt8}:AaL (.eqA n b) H [.arr n 1 (xs.map by8),.arr n 1 (ys.map by8)] K=BB (TV.val (.bool (xor b (xs == ys)))) K:=by
 unfold AaL gev BB
 simp only [YQ,Yx,and_self,if_true]
theorem Ami {q:IntKind} {n:Int}:AaL .r2s H [.val (.int q n)] K=BB (TV.val (.string (Utf8.encode n))) K:=Aa rfl
theorem AmN {t t':TypeId}:AaL (.tas t) H [.ifc t' x] K=DD (t'=t) (K x):=by
 unfold AaL gev DD
 by_cases h:t'=t<;>simp [h]
theorem AiR {a:Option Addr} {l n:Nat}:AaL .capV H [.val (.slice a l n)] K=BB (TV.val (.int .i64 (n:Int))) K:=Aa rfl
theorem AmJ {n:Nat}:AaL (.s2a n k) H [.sl k cs] K=DD (0<n∧n≤cs.length) (BB (cs.take n) fun r=>K (.fp (.arr n k r))):=by
 unfold AaL gev DD BB
 simp only [true_and]
 by_cases hc:0<n∧n≤cs.length
 ·rw [if_pos hc]; simp [hc]
 ·rw [if_neg hc]; simp only [hc,false_and]
theorem Ar3 {s t:Bool}:Aul false (.val (.bool s)) (.val (.bool t)) K=BB (TV.val (.bool (s == t))) K:=by
 show K _=_; simp [BB]
theorem As3 {s t:Bool}:Aul true (.val (.bool s)) (.val (.bool t)) K=BB (TV.val (.bool (!(s == t)))) K:=by
 show K _=_; simp [BB]
theorem Asw {m b:Bool}:AsO m (some true) (some b) K=BB (TV.val (.bool (xor m b))) K:=Aa rfl
theorem AsU {m:Bool}:AsO m (some false) (some true) K=BB (TV.val (.bool (xor m false))) K:=Aa rfl
end
theorem AlV {kk:MK} {m:Nat} {kx v:TV}:AjR kk (.mp m 0) kx v H KK=BF (AaO kk H[m]?) fun es=>BF (BR kk kx) fun kb=>DD (lays v=true) (BB (YT kb v es) fun es'=>BB (H.set m (.mpo kk es')) fun H'=>KK .any H'):=by
 unfold AjR
 cases hh:H[m]? with
 | none=>cases BR kk kx<;>simp [hh,AaO,BF]
 | some o =>
  cases o with
  | mpo kk' es =>
   by_cases hk:kk'=kk
   ·subst hk; cases BR kk' kx<;>simp [hh,AaO,BF,DD,BB]
   ·cases BR kk kx<;>simp [hh,AaO,BF,hk]
  | _=>cases BR kk kx<;>simp [hh,AaO,BF]
theorem Amt {kk:MK} {m:Nat} {kx z:TV}:Aj6 kk z (.mp m 0) kx H KK=BF (AaO kk H[m]?) fun es=>BF (BR kk kx) fun kb=>BB ((QH kb es).getD z) fun y=>BB (AbX kb es) fun p=>BB (YT kb y es) fun es'=>BB (H.set m (.mpo kk es')) fun H'=>KK (.tup [y,.val (.int .i64 (p:Int))]) H':=by
 unfold Aj6
 cases hh:H[m]? with
 | none=>cases BR kk kx<;>simp [hh,AaO,BF]
 | some o =>
  cases o with
  | mpo kk' es =>
   by_cases hk:kk'=kk
   ·subst hk; cases BR kk' kx<;>simp [hh,AaO,BF,BB]
   ·cases BR kk kx<;>simp [hh,AaO,BF,hk]
  | _=>cases BR kk kx<;>simp [hh,AaO,BF]
def AcA:Option Ob→Option (MK×List (List UInt8×TV))
 | some (.mpo kk es)=>some (kk,es)
 | _=>none
theorem Akp {kk:MK} {es:List (List UInt8×TV)}:AcA (some (.mpo kk es))=some (kk,es):=by simp [AcA]
theorem AmX {m j:Nat} {q:IntKind} {v:TV}:Aj9 (.mp m 0) (.val (.int q (j:Int))) v H KK=BF (AcA H[m]?) fun p=>DD (lays v=true) (BF p.2[j]? fun y=>BB (p.2.set j (y.1,v)) fun es'=>BB (H.set m (.mpo p.1 es')) fun H'=>KK .any H'):=by
 unfold Aj9
 cases hh:H[m]? with
 | none=>simp [hh,AcA,BF]
 | some o =>
  cases o with
  | mpo kk' es =>
   simp only [hh,AcA,BF,DD,BB,Int.natCast_nonneg,true_and,Int.toNat_natCast]
   cases es[j]?<;>simp
  | _=>simp [hh,AcA,BF]
theorem Ale {kk:MK} {z kx:TV} {ok:Bool} {m:Nat}:AaL (.look kk z ok) H [.mp m 0,kx] K=BF (AbA kk H[m]?) fun es=>BF (BR kk kx) fun kb=>BB (AaI z ok (QH kb es)) K:=by
 unfold AaL gev AdK
 cases hh:H[m]? with
 | none=>cases hb:BR kk kx<;>simp [hh,hb,AbA,BF]
 | some o =>
  cases o with
  | mpo kk' es =>
   by_cases hk:kk'=kk
   ·subst hk; cases hb:BR kk' kx<;>simp [hh,hb,AbA,BF,BB]
   ·cases hb:BR kk kx<;>simp [hh,hb,AbA,BF,hk]
  | mpd kk' zs cl =>
   by_cases hk:kk'=kk
   ·subst hk; cases hb:BR kk' kx<;>simp [hh,hb,AbA,BF,BB]
   ·cases hb:BR kk kx<;>simp [hh,hb,AbA,BF,hk]
  | _=>cases hb:BR kk kx<;>simp [hh,hb,AbA,BF]
theorem AhD {kk:MK} {z kx:TV} {ok:Bool}:AaL (.look kk z ok) H [.val (.map none),kx] K=BF (BR kk kx) fun kb=>BB (AaI z ok none) K:=by
 unfold AaL gev AdK
 cases hb:BR kk kx<;>simp [hb,BF,BB]
theorem Akt {m:Nat}:AaL .lenM H [.mp m 0] K=BF (AfX H[m]?) fun p=>BB p.length fun n=>BB (TV.val (.int .i64 (n:Int))) K:=by
 unfold AaL gev Alz
 cases hh:H[m]? with
 | none=>simp [hh,AfX,BF]
 | some o=>cases o<;>simp [hh,AfX,BF,BB]
theorem AjK {id:Nat}:AaL .entM H [.op id 0 []] K=BF (Adh H[id]?) fun p=>BF (stO H[p.1]?) fun q=>BF (ArN p q) K:=by
 unfold AaL gev AuX
 cases hh:H[id]? with
 | none=>simp [hh,Adh,BF]
 | some o =>
  cases o with
  | mit m sn cl =>
   simp only [hh,Adh,BF,ArN]
   cases h2:stO H[m]? with
   | none=>simp
   | some q =>
    obtain ⟨kk,zs,cl'⟩:=q
    cases h3:sn.getLast? with
    | none=>simp
    | some s =>
     by_cases hc:cl'=cl
     ·subst hc; cases hf:zs.find? (·.1 == s)<;>simp [hf]
     ·simp [hc]
  | _=>simp [hh,Adh,BF]
theorem AkV {sz:Nat}:Afl H sz (.op id ver p) y KK=DD (lays y=true∧AL y=sz) (BF (Hq H[id]? ver) fun z=>BF (WV p z y) fun z'=>BB (H.set id (.obj ver z')) fun H'=>KK .any H'):=by
 unfold Afl
 simp only [DD]
 congr 1
 cases h:H[id]? with
 | none=>simp [Hq,BF]
 | some o =>
  cases o with
  | gone v=>simp [Hq,BF]
  | ice v m y=>simp [Hq,BF]
  | fact i v t m=>simp [Hq,BF]
  | bld v t l=>simp [Hq,BF]
  | lp st pe fn N en ps ca cb=>simp [Hq,BF]
  | mpo kk es=>simp [Hq,BF]
  | mpd kk zs cl=>simp [Hq,BF]
  | mit m sn cl=>simp [Hq,BF]
  | sit s pos=>simp [Hq,BF]
  | obj v x =>
   by_cases hv:v=ver
   ·subst hv; simp only [Hq,BF,BB,if_true,true_and]; cases WV p x y<;>rfl
   ·simp [Hq,BF,hv]
theorem AqX {z:TV} {l c:Int} {q2:IntKind} {bytes:Nat}:Au7 H k bytes z (.val (.int q l)) (.val (.int q2 c)) KK=DD (0≤l∧l≤c∧(bytes:Int)*c≤281474976710656∧c≤9223372036854775807) (BB l.toNat fun l=>BB c.toNat fun c=>BB H.length fun m=>BB (H++[.obj 0 (.arr c k (List.replicate c z))]) fun H'=>KK (.os k m 0 [] 0 l c) H'):=Aa rfl
theorem Amx {bytes:Nat} {et:TypeId}:AqF k bytes et (.val (.slice none 0 0)) (some ys) H KK=DD (ys.length*bytes≤140737488355328∧ys.length≤9223372036854775807) (BB ys.length fun n=>BB H.length fun m=>BB (H++[.obj 1 (.arr n k ys)]) fun H'=>KK (.os k m 1 [] 0 n n) H'):=Aa rfl
def Af3:Option TV→Nat→Option (List TV)
 | some (.arr _ k' cs),k=>if k'=k then some cs else none
 | _,_=>none
theorem Anw:Af3 (some (.arr n k cs)) k=some cs:=by simp [Af3]
theorem Al4 {v n2:Nat} {et:TypeId}:AnP (some (.obj v (.arr n2 k cs))) v k et off n ys=some (.obj (v+1) (.arr (n+ys.length) k ((cs.drop off).take n++ys))):=by simp [AnP]
theorem AgW {v:Nat} {et:TypeId} {l m:List UInt8}:AnP (some (.bld v et l)) v 1 et 0 n (m.map by8)=some (.bld (v+1) et (l.take n++m)):=by
 simp only [AnP,YQ,Yx,and_self,if_true]
theorem AjP {v:Nat} {et:TypeId} {l:List UInt8} {b:UInt8}:AnP (some (.bld v et l)) v 1 et 0 n [by8 b]=some (.bld (v+1) et (l.take n++[b])):=AgW (m:=[b])
theorem AmB {v n2:Nat}:Arv (some (.obj v (.arr n2 k cs)))=cs.length:=by simp [Arv]
theorem Al7 {v:Nat} {et:TypeId} {l:List UInt8}:Arv (some (.bld v et l))=l.length:=by simp [Arv]
theorem Ao7 {bytes:Nat} {et:TypeId}:AqF k bytes et (.os k id ver [] off n cp) (some ys) H KK=BF (AnP H[id]? ver k et off n ys) fun o=>DD (off+n≤Arv H[id]?∧(n+ys.length)*bytes≤140737488355328∧n+ys.length≤9223372036854775807)
   (BB (n+ys.length) fun m=>BB (H.set id o) fun H'=>KK (.os k id (ver+1) [] 0 m m) H'):=by
 unfold AqF Afe
 simp only [true_and]
 cases h:AnP H[id]? ver k et off n ys with
 | none=>simp [BF]
 | some o=>simp [BF,DD,BB]
theorem AlU {s:ByteArray} {et:TypeId}:AnV et x (.val (.string s)) H KK=BB ((bl s).map by8) fun ys=>AqF 1 1 et x (some ys) H KK:=Aa rfl
def Awj:Option TV→Option Nat
 | some (.arr n _ _)=>some n
 | _=>none
theorem AqP:Awj (some (.arr n k cs))=some n:=Aa rfl
theorem AlQ:Ags k (.os k id ver p off n cp) (some ys) H KK=BF (Hq H[id]? ver) fun z=>BF (Af3 (Oy p z) k) fun cs=>BF (Awj (Oy p z)) fun N=>DD (off+n≤cs.length) (BF (WV p z (.arr N k (cs.take off++(ys.take n++cs.drop (off+min ys.length n))))) fun z' =>
  BB (H.set id (.obj ver z')) fun H'=>BB (TV.val (.int .i64 (min ys.length n:Nat))) fun r=>KK r H'):=by
 unfold Ags V5
 simp only [true_and]
 cases h:H[id]? with
 | none=>simp [Hq,BF]
 | some o =>
  cases o with
  | gone v=>simp [Hq,BF]
  | ice v m y=>simp [Hq,BF]
  | fact i v t m=>simp [Hq,BF]
  | bld v t l=>simp [Hq,BF]
  | lp st pe fn N en ps ca cb=>simp [Hq,BF]
  | mpo kk es=>simp [Hq,BF]
  | mpd kk zs cl=>simp [Hq,BF]
  | mit m sn cl=>simp [Hq,BF]
  | sit s pos=>simp [Hq,BF]
  | obj v x =>
   by_cases hv:v=ver
   ·simp only [Hq,BF,hv,if_true,true_and]
    cases hg:Oy p x with
    | none=>simp [Af3]
    | some y =>
     cases y with
     | arr n2 k2 ds =>
      by_cases h1:k2=k
      ·subst h1; simp only [Af3,Awj,DD,BB,if_true,true_and]; refine congrArg (_ ∧ ·) ?_; cases WV p x (.arr n2 k2 (ds.take off++(ys.take n++ds.drop (off+min ys.length n))))<;>rfl
      ·simp [Af3,h1]
     | _=>simp [Af3]
   ·simp [Hq,BF,hv]
theorem AiN {s:ByteArray}:Ahf x (.val (.string s)) H KK=BB ((bl s).map by8) fun ys=>Ags 1 x (some ys) H KK:=Aa rfl
theorem Am0 {f:FuncId} {j v:Nat} {l:List UInt8}:An7 P f (some (j,v,l)) H KK=DD (Axo P f) (DD (l.length≤9223372036854775807) (BB (H.set j (.gone v)) fun H'=>KK (.val (.string (str l))) H')):=Aa rfl
def Aut (o:Option Ob) (j v n:Nat) (a:TV):Option (Nat×Nat×List UInt8):=match o with
 | some (.bld v3 t l)=>if v3=v∧t=AeU∧n=l.length∧AL a=1 then some (j,v,l) else none
 | _=>none
def Ane (H:List Ob) (j v n:Nat) (a:TV):Option (Nat×Nat×List UInt8):=Aut H[j]? j v n a
def AhO (H:List Ob) (q:Option TV):Option (Nat×Nat×List UInt8):=match q with
 | some (.agg [a,.os 1 j v2 [] 0 n cp])=>Ane H j v2 n a
 | _=>none
theorem Anu {id ver:Nat} {p:List (Nat×Nat)}:Aip H (.op id ver p)=AhO H ((Hq H[id]? ver).bind (Oy p)):=by
 unfold Aip
 simp only []
 cases h:H[id]? with
 | none=>simp [Hq,AhO]
 | some o =>
  cases o with
  | obj v y =>
   by_cases hv:v=ver
   ·simp only [Hq,hv,if_true,Option.bind_some]
    unfold AhO Ane Aut
    rfl
   ·simp [Hq,AhO,hv]
  | _=>simp [Hq,AhO]
theorem AlP {a:TV} {j v n cp:Nat}:AhO H (some (.agg [a,.os 1 j v [] 0 n cp]))=Ane H j v n a:=Aa rfl
theorem Amf {a:TV} {j v n:Nat}:Ane H j v n a=Aut H[j]? j v n a:=Aa rfl
theorem Apr {a:TV} {j v n:Nat} {l:List UInt8} (hn:n=l.length) (ha:AL a=1):Aut (some (.bld v 5 l)) j v n a=some (j,v,l):=by
 simp [Aut,hn,ha,AeU]
theorem Aqj {s:ByteArray}:AuV H (.val (.string s)) KK=DD ((bl s).length≤9223372036854775807) (BB (bl s).length fun n=>BB ((bl s).map by8) fun r=>BB H.length fun m=>BB (H++[.obj 0 (.arr n 1 r)]) fun H'=>KK (.os 1 m 0 [] 0 n n) H'):=Aa rfl
theorem AmD {z:TV} {j:Int} {bytes:Nat}:AnE k bytes z (.val (.slice none 0 0)) (.val (.int .i64 j)) H KK=DD (0≤j∧(bytes:Int)*j≤140737488355328∧j≤9223372036854775807) (BB j.toNat fun n=>BB H.length fun m=>BB (H++[.obj 0 (.arr n k (List.replicate n z))]) fun H'=>KK (.os k m 0 [] 0 n n) H'):=Aa rfl
theorem Aom {n:Bool} {a:Option Addr} {l c:Nat}:Ao0 n (.val (.slice a l c)) H KK=KK (.val (.bool (xor n a.isNone))) H:=Aa rfl
theorem Ap1 {n:Bool}:Ao0 n (.sl k cs) H KK=vif (decide (cs.length=0)) (Aih H KK) (KK (.val (.bool n)) H):=by
 unfold Ao0 vif Aih
 by_cases h:cs=[]
 ·subst h; simp
 ·have h2:¬ cs.length=0:=fun e=>h (List.length_eq_zero_iff.1 e)
  simp [h,h2]
theorem Aq3 {n:Bool} {m off l cp:Nat} {p:List (Nat×Nat)}:Ao0 n (.os k m ver p off l cp) H KK=vif (decide (l=0)) (Aih H KK) (KK (.val (.bool n)) H):=by
 unfold Ao0 vif Aih
 by_cases h:l=0
 ·subst h; simp
 ·simp [h]
theorem Ajd {f:FuncId} {a b:List TV}:AcY P (.fn (.func f) a b) cs H KK=DD (ZZ P f=true) (BB (a++cs++b) fun xs=>VC P f xs H KK):=Aa rfl
theorem AhW {f:FuncId}:AcY P (.val (.func (.func f) #[] #[])) cs H KK=DD (ZZ P f=true) (VC P f cs H KK):=by
 exact propext ⟨fun h=>⟨h.2.1,h.2.2⟩,fun h=>⟨rfl,h.1,h.2⟩⟩
theorem Akb:AcY P (.yl id ver) cs H KK=VY P id ver cs H KK:=Aa rfl
theorem Aqf {nm:String} {t:TypeId}:AuD P nm (.ifc t x) cs H KK=ArB P (Ama P t nm) x cs H KK:=by
 unfold AuD AuS ArB
 show (match Ama P t nm with | some (f,none)=>_ | some (f,some (ag,sz))=>_ | none=>False)=_
 rcases Ama P t nm with _ | ⟨f,_ | ⟨ag,sz⟩⟩<;>rfl
theorem Auk {f:FuncId}:ArB P (some (f,none)) x cs H KK=DD (ZZ P f=true) (BB (x::cs) fun xs=>VC P f xs H KK):=Aa rfl
theorem AuG {f:FuncId} {ag:Bool} {sz:Nat}:ArB P (some (f,some (ag,sz))) x cs H KK=DD (ZZ P f=true) (Af8 H ag sz x fun y=>BB (y::cs) fun xs=>VC P f xs H KK):=Aa rfl
theorem Axj {t:Bool} {A B:Prop}:Gd (some t) true A B=vif t A B:=Aa rfl
theorem Aw0 {t:Bool} {A B:Prop}:Gd (some t) false A B=vif t B A:=by cases t<;>simp [Gd,vif]
theorem Ayt {b:Bool} {A B:Prop}:Gd none b A B=B:=Aa rfl
end
section
variable {Q:VEx→Env→List Ob→Prop} {l:List VO} {kp:List Nat} {a b:Af}
def AlY (x:TV) (A B:Prop) [Tg A] [Tg B]:Prop:=match x with
  | .val (.bool t)=>if t=true then A else B
  | _=>False
@[congr] theorem Av3 {x x':TV} {A B:Prop} (h:x=x'):AlY x A B=AlY x' A B:=by rw [h]
theorem Al5 {t:Bool} {A B:Prop}:AlY (.val (.bool t)) A B=vif t A B:=Aa rfl
theorem Aw1:vwp P (.ops l kp) Q e H=AaJ P l (fun e H=>BB (forget kp e) fun e=>Q .nor e H) e H:=Aa rfl
def Amr (zs:List Nat) (e:Env) (H:List Ob) (K:Env→List Ob→Prop) [Tg K]:Prop:=Arw zs K e H
@[congr] theorem Axi {zs:List Nat} {e e':Env} {H H':List Ob} {K:Env→List Ob→Prop} (h1:e=e') (h2:H=H'):Amr zs e H K=Amr zs e' H' K:=by rw [h1,h2]
theorem Av5 {K:Env→List Ob→Prop}:Amr [] e H K=K e H:=Aa rfl
theorem ArH {l r:List VO} {zs kp:List Nat}:vwp P (.opsZ l zs r kp) Q e H=AaJ P l (fun e H=>Amr zs e H fun e H=>AaJ P r (fun e H=>BB (forget kp e) fun e=>Q .nor e H) e H) e H:=Aa rfl
theorem Atr {n:Nat}:vwp P (.draw n l kp) Q e H=(vq P (l.take n) (fun e=>AaJ P (l.drop n) (fun e H=>BB (forget kp e) fun e=>Q .nor e H) e H) e H):=Aa rfl
def Thn (P:Program) (b:Af) (Q:VEx→Env→List Ob→Prop):VEx→Env→List Ob→Prop:=fun x e H=>match x with | .nor=>vwp P b Q e H | .exit i=>Q (.exit i) e H | .ret=>Q .ret e H | .pan u=>Q (.pan u) e H
theorem Apf:Thn P b Q .nor e H=vwp P b Q e H:=Aa rfl
theorem AnH {i:Nat}:Thn P b Q (.exit i) e H=Q (.exit i) e H:=Aa rfl
theorem ApX:Thn P b Q .ret e H=Q .ret e H:=Aa rfl
theorem Axs:vwp P (.seq a b) Q e H=vwp P a (Thn P b Q) e H:=Aa rfl
def Blk (id:Nat) (Q:VEx→Env→List Ob→Prop):VEx→Env→List Ob→Prop:=fun x e H=>match x with | .nor=>Q .nor e H | .exit i=>if i=id then Q .nor e H else Q (.exit i) e H | .ret=>Q .ret e H | .pan u=>Q (.pan u) e H
theorem Aqe {id:Nat}:Blk id Q .nor e H=Q .nor e H:=Aa rfl
theorem Alh {id:Nat}:Blk id Q (.exit id) e H=Q .nor e H:=by simp [Blk]
theorem Af1 {id i:Nat} (h:i≠id):Blk id Q (.exit i) e H=Q (.exit i) e H:=by simp [Blk,h]
theorem Apk {id:Nat}:Blk id Q .ret e H=Q .ret e H:=Aa rfl
theorem AqJ {id:Nat}:vwp P (.block id a) Q e H=vwp P a (Blk id Q) e H:=Aa rfl
theorem Ar6 {c:Opd}:vwp P (.cond c a b) Q e H=AlY (c.ev e) (vwp P a Q e H) (vwp P b Q e H):=Aa rfl
def Rnd (n0:Nat) (lv:List Nat) (Q:VEx→Env→List Ob→Prop) (I:Nat→Env→List Ob→Prop) (n:Nat):VEx→Env→List Ob→Prop:=fun x e H=>match x with
 | .nor=>∃ m g,m<n∧(n0≤g∧(H.length≤g∨(Z9 g (forget lv e)=true∧Yl g (H.take g)=true)))∧I m (forget lv e) (H.take g)
 | .exit i=>Q (.exit i) e H | .ret=>Q .ret e H | .pan u=>Q (.pan u) e H
section
variable {n0:Nat} {lv:List Nat} {I:Nat→Env→List Ob→Prop} {n:Nat}
theorem Ali {i:Nat}:Rnd n0 lv Q I n (.exit i) e H=Q (.exit i) e H:=Aa rfl
theorem Arl:Rnd n0 lv Q I n .ret e H=Q .ret e H:=Aa rfl
theorem AB (m:Nat) (hm:m<n) (h:n0≤H.length) (hR:I m (forget lv e) H):Rnd n0 lv Q I n .nor e H:=by
 refine ⟨m,H.length,hm,⟨h,.inl (Nat.le_refl _)⟩,?_⟩
 rw [List.take_length]; exact hR
theorem Apb (m g:Nat) (hm:m<n) (h:n0≤g) (he:Z9 g (forget lv e)=true) (hH:Yl g (H.take g)=true) (hR:I m (forget lv e) (H.take g)):Rnd n0 lv Q I n .nor e H :=
 ⟨m,g,hm,⟨h,.inr ⟨he,hH⟩⟩,hR⟩
end
theorem Fp {lv:List Nat} {H0:List Ob} (I:Nat→Env→List Ob→Prop) (n:Nat) (h0:I n (forget lv e) H0)
  (hs:∀ n e H,I n e H→vwp P a (Rnd H0.length lv Q I n) e H):vwp P (.loop lv a) Q e H0:=by
 rw [Auq]
 exact ⟨I,n,h0,hs⟩
theorem Arh {f:Opd} {ps:List Nat} {g:FuncId} {first caps:List TV} (hf:f.ev e = .fn (.func g) first caps) (hg:ZZ P g=true) (ha:Zw a=true) (hb:Zw b=true)
  (h:∀ (N:Nat) (fn:FuncId) (ca cb:Code),Ag1 P N ps ca cb a b→Am P g (first++[.yl H.length 0]++caps) (H++[.lp .ready none fn N e ps ca cb]) (ZQ Q e H.length)):vwp P (.rfunc f ps a b) Q e H:=by
 rw [vwp,hf]; exact ⟨ha,hb,hg,h⟩
theorem o_g {d s:Nat} {o:VOp} {b:Bool} {r:List VO} {K:Env→List Ob→Prop}:AaJ P (⟨some d,o,some (s,b)⟩::r) K e H=Acj e s fun e q=>Gd q b (vop P o e H (fun x H=>AaJ P r K ((d,x)::e) H)) (AaJ P r K ((d,.val undef)::e) H):=by
 rw [As2]; refine congrArg (Acj e s) ?_; funext e q; cases q<;>rfl
def Aja (x:TV) (e:Env) (s:Nat) (Q:Env→Option Bool→Prop) [Tg Q]:Prop:=match x with
 | .val v=>Q e (isB v)
 | .any=>(∀ t,Q ((s,.val (.bool t))::e) (some t))∧∀ v,isB v=none→Q ((s,.val v)::e) none
 | _=>False
@[congr] theorem AwG {x x':TV} {s:Nat} {Q:Env→Option Bool→Prop} (h:x=x'):Aja x e s Q=Aja x' e s Q:=by rw [h]
theorem Asq {s:Nat} {Q:Env→Option Bool→Prop}:Acj e s Q=Aja (get e s) e s Q:=Aa rfl
theorem ApL {b:Bool} {s:Nat} {Q:Env→Option Bool→Prop}:Aja (.val (.bool b)) e s Q=Q e (some b):=Aa rfl
theorem Ap2 {s:Nat} {Q:Env→Option Bool→Prop}:Aja (.val undef) e s Q=Q e none:=Aa rfl
theorem u_c {d:Nat} {f:FuncId} {args:List Opd} {r:List VO} {K:Env→Prop}:vq P (⟨some d,.s (.call f args),none⟩::r) K e H=BB (evs e args) fun xs=>DD (VJ xs) (vex fun x=>VC P f xs H (fun y H'=>y=x∧H'=H)∧vq P r K ((d,x)::e) H):=by
 rw [Ayb,Q9]; rfl
def Gq (x:TV) (b:Bool) (A B:Prop) [Tg A] [Tg B]:Prop:=match x with
 | .val v=>if isB v=some b then A else B
 | _=>False
@[congr] theorem Bei {x x':TV} {b:Bool} {A B:Prop} (h:x=x'):Gq x b A B=Gq x' b A B:=by rw [h]
theorem Ayo {t:Bool} {A B:Prop}:Gq (.val (.bool t)) true A B=vif t A B:=by cases t<;>simp [Gq,vif,isB]
theorem Ayk {b:Bool} {A B:Prop}:Gq (.val undef) b A B=B:=by simp [Gq,isB,undef]
theorem Ayd {t:Bool} {A B:Prop}:Gq (.val (.bool t)) false A B=vif t B A:=by cases t<;>simp [Gq,vif,isB]
theorem u_g {d s:Nat} {o:VOp} {b:Bool} {r:List VO} {K:Env→Prop}:vq P (⟨some d,o,some (s,b)⟩::r) K e H=Gq (get e s) b (Acn P o e H fun x=>vq P r K ((d,x)::e) H) (vq P r K ((d,.val undef)::e) H):=Aa rfl
theorem Ayu {f:FuncId} {args:List Opd} {k:TV→Prop}:Acn P (.s (.call f args)) e H k=BB (evs e args) fun xs=>DD (VJ xs) (vex fun x=>VC P f xs H (fun y H'=>y=x∧H'=H)∧k x):=by
 rw [Apv,Q9]; rfl
def Ate (P:Program) (x:TV) (s k:Nat) (c:Af) (Q:VEx→Env→List Ob→Prop) (e:Env) (H:List Ob):Prop:=match x with
  | .val (.slice none 0 0)=>vwp P c Q ((s,.os k H.length 0 [] 0 0 0)::e) (H++[.obj 0 (.arr 0 k [])])
  | _=>vwp P c Q e H
@[congr] theorem Ax5 {x x':TV} {s k:Nat} (h:x=x'):Ate P x s k a Q e H=Ate P x' s k a Q e H:=by rw [h]
theorem Awa {s k:Nat}:vwp P (.own s k a) Q e H=Ate P (get e s) s k a Q e H:=Aa rfl
theorem Am4 {s k:Nat}:Ate P (.val (.slice none 0 0)) s k a Q e H=vwp P a Q ((s,.os k H.length 0 [] 0 0 0)::e) (H++[.obj 0 (.arr 0 k [])]):=Aa rfl
theorem Ap9 {s k k' id ver off n cp:Nat} {p:List (Nat×Nat)}:Ate P (.os k' id ver p off n cp) s k a Q e H=vwp P a Q e H:=Aa rfl
end
theorem AvA {t:Nat} {K:TV→Prop}:res [.tmp t] e H K=BB (get e t) K:=Aa rfl
theorem Asl {t:Nat} {r:List VR} {K:List TV→Prop}:AfE (.tmp t::r) e H K=BB (get e t) fun x=>AfE r e H fun xs=>K (x::xs):=Aa rfl
def AxJ (K:TV→Prop) (xs:List TV):Prop:=match xs with
 | [x]=>K x
 | xs=>(∀ x∈xs,CJ x=false)∧K (.tup xs)
theorem AmE {x y:TV} {l:List TV} {K:TV→Prop}:AxJ K (x::y::l)=DD (VJ (x::y::l)) (BB (TV.tup (x::y::l)) K):=Aa rfl
theorem Aum {r s:VR} {l:List VR} {K:TV→Prop}:res (r::s::l) e H K=AfE (r::s::l) e H (AxJ K):=Aa rfl
theorem Aug {a sz:Nat} {ag:Bool} {K:TV→Prop}:res [.cell a ag sz] e H K=pop (.load ag sz (.t a)) e H K:=Aa rfl
theorem Av6 {K:TV→Prop}:res [] e H K=K (.tup []):=by rw [AjQ]; simp
end
def VCP (P:Program) (f:FuncId) (xs:List TV) (H:List Ob) (K:TV→List Ob→Prop) (KP:Value→List Ob→Prop) [Tg K] [Tg KP]:Prop:=WH P f xs H K KP
@[congr] theorem Atp {P:Program} {f:FuncId} {xs xs':List TV} {H H':List Ob} {K:TV→List Ob→Prop} {KP:Value→List Ob→Prop} (he:xs=xs') (hH:H=H'):VCP P f xs H K KP=VCP P f xs' H' K KP:=by rw [he,hH]
def ArA (x:TV) (K:Value→Prop) [Tg K]:Prop:=match x with
 | .val (.iface t v)=>K (.iface t v)
 | .ifc t (.val v)=>K (.iface t v)
 | _=>False
@[congr] theorem AxQ {x x':TV} {K:Value→Prop} (h:x=x'):ArA x K=ArA x' K:=by rw [h]
theorem Anl {t:TypeId} {v:Value} {K:Value→Prop}:ArA (.ifc t (.val v)) K=K (.iface t v):=Aa rfl
theorem AqN {t:TypeId} {v:Value} {K:Value→Prop}:ArA (.val (.iface t v)) K=K (.iface t v):=Aa rfl
section
variable {P:Program} {e:Env} {H:List Ob} {r:List VO} {K:Env→List Ob→Prop} {PP:Value→List Ob→Prop} {Q:VEx→Env→List Ob→Prop}
@[congr] theorem ApY {l:List VO} {e':Env} {H':List Ob} (he:e=e') (hH:H=H'):Vl P PP l K e H=Vl P PP l K e' H':=by rw [he,hH]
@[congr] theorem Apu {o:VOp} {e':Env} {H':List Ob} {KK:TV→List Ob→Prop} (he:e=e') (hH:H=H'):pvop P PP o e H KK=pvop P PP o e' H' KK:=by rw [he,hH]
theorem AtH {l:List VO} {kp:List Nat}:vwp P (.pops l kp) Q e H=Vl P (fun u H=>Q (.pan u) (Agv l e) H) l (fun e H=>BB (forget kp e) fun e=>Q .nor e H) e H:=Aa rfl
theorem Aq2 {n:Nat} {l:List VO} {kp:List Nat}:vwp P (.pdraw n l kp) Q e H=(vq P (l.take n) (fun e=>Vl P (fun u H=>Q (.pan u) [] H) (l.drop n) (fun e H=>BB (forget kp e) fun e=>Q .nor e H) e H) e H):=Aa rfl
theorem ArI:Vl P PP [] K e H=K e H:=Aa rfl
theorem Ayp {d:Nat} {o:VOp}:Vl P PP (⟨some d,o,none⟩::r) K e H=pvop P PP o e H (fun x H=>Vl P PP r K ((d,x)::e) H):=Aa rfl
theorem Aw7 {o:VOp}:Vl P PP (⟨none,o,none⟩::r) K e H=pvop P PP o e H (fun x H=>Vl P PP r K e H):=Aa rfl
theorem Ayv {d s:Nat} {o:VOp} {b:Bool}:Vl P PP (⟨some d,o,some (s,b)⟩::r) K e H=Acj e s fun e q=>Gd q b (pvop P PP o e H (fun x H=>Vl P PP r K ((d,x)::e) H)) (Vl P PP r K ((d,.val undef)::e) H):=by
 show O9 (pvop P PP) _ K e H=_
 rw [O9]
 refine congrArg (Acj e s) ?_; funext e q; cases q<;>rfl
theorem AsW {o:POp} {KK:TV→List Ob→Prop}:pvop P PP (.p o) e H KK=pop o e H fun x=>KK x H:=Aa rfl
theorem AkY {f:FuncId} {args:List Opd} {KK:TV→List Ob→Prop}:pvop P PP (.s (.call f args)) e H KK=BB (evs e args) fun xs=>DD (VJ xs) (VCP P f xs H KK PP):=by
 show ((∀ x∈args,CJ (x.ev e)=false)∧_)=_
 rw [Q9]; rfl
theorem AnY {x:Opd} {KK:TV→List Ob→Prop}:pvop P PP (.s (.pan x)) e H KK=ArA (x.ev e) (fun u=>PP u H):=by
 show (match x.ev e with | .val (.iface t v)=>PP (.iface t v) H | .ifc t (.val v)=>PP (.iface t v) H | _=>False)=_
 unfold ArA
 split<;>simp_all
theorem Ahz {z:TV} {KK:TV→List Ob→Prop}:pvop P PP (.s (.alloc z)) e H KK=sop P (.alloc z) e H KK:=Aa rfl
theorem Am9 {x:Opd} {KK:TV→List Ob→Prop}:pvop P PP (.s (.box x)) e H KK=sop P (.box x) e H KK:=Aa rfl
theorem Af9 {k n:Nat} {z:TV} {ps:List (Nat×Opd)} {KK:TV→List Ob→Prop}:pvop P PP (.s (.bslice k n z ps)) e H KK=sop P (.bslice k n z ps) e H KK:=Aa rfl
theorem AhL {sz:Nat} {x v:Opd} {KK:TV→List Ob→Prop}:pvop P PP (.s (.store sz x v)) e H KK=sop P (.store sz x v) e H KK:=Aa rfl
theorem AlN {k bytes:Nat} {z:TV} {l c:Opd} {KK:TV→List Ob→Prop}:pvop P PP (.s (.mks k bytes z l c)) e H KK=sop P (.mks k bytes z l c) e H KK:=Aa rfl
theorem Am7 {k bytes:Nat} {et:TypeId} {x y:Opd} {KK:TV→List Ob→Prop}:pvop P PP (.s (.app k bytes et x y)) e H KK=sop P (.app k bytes et x y) e H KK:=Aa rfl
theorem AkW {et:TypeId} {x y:Opd} {KK:TV→List Ob→Prop}:pvop P PP (.s (.appS et x y)) e H KK=sop P (.appS et x y) e H KK:=Aa rfl
theorem AjD {k n:Nat} {z:TV} {x y:Opd} {KK:TV→List Ob→Prop}:pvop P PP (.s (.appZ k n z x y)) e H KK=sop P (.appZ k n z x y) e H KK:=Aa rfl
theorem Ame {x:Opd} {n:Bool} {KK:TV→List Ob→Prop}:pvop P PP (.s (.eqS x n)) e H KK=sop P (.eqS x n) e H KK:=Aa rfl
theorem Am1 {x:Opd} {KK:TV→List Ob→Prop}:pvop P PP (.s (.s2b x)) e H KK=sop P (.s2b x) e H KK:=Aa rfl
theorem Ai7 {k:Nat} {x y:Opd} {KK:TV→List Ob→Prop}:pvop P PP (.s (.copy k x y)) e H KK=sop P (.copy k x y) e H KK:=Aa rfl
theorem Air {x y:Opd} {KK:TV→List Ob→Prop}:pvop P PP (.s (.copyS x y)) e H KK=sop P (.copyS x y) e H KK:=Aa rfl
theorem Ah3 {x:Opd} {args:List Opd} {KK:TV→List Ob→Prop}:pvop P PP (.s (.callv x args)) e H KK=sop P (.callv x args) e H KK:=Aa rfl
theorem AnS {x:Opd} {nm:String} {args:List Opd} {KK:TV→List Ob→Prop}:pvop P PP (.s (.inv x nm args)) e H KK=sop P (.inv x nm args) e H KK:=Aa rfl
theorem AnG {kk:MK} {h:Option Opd} {KK:TV→List Ob→Prop}:pvop P PP (.s (.mkm kk h)) e H KK=sop P (.mkm kk h) e H KK:=Aa rfl
theorem Aj0 {kk:MK} {m k x:Opd} {KK:TV→List Ob→Prop}:pvop P PP (.s (.mupd kk m k x)) e H KK=sop P (.mupd kk m k x) e H KK:=Aa rfl
theorem Ajo {kk:MK} {z:TV} {m k:Opd} {KK:TV→List Ob→Prop}:pvop P PP (.s (.ment kk z m k)) e H KK=sop P (.ment kk z m k) e H KK:=Aa rfl
theorem AkJ {m st x:Opd} {KK:TV→List Ob→Prop}:pvop P PP (.s (.mest m st x)) e H KK=sop P (.mest m st x) e H KK:=Aa rfl
theorem AfL {z:TV} {t:TypeId} {KK:TV→List Ob→Prop}:pvop P PP (.s (.allocT z t)) e H KK=sop P (.allocT z t) e H KK:=Aa rfl
theorem Ald {x:Opd} {t:TypeId} {KK:TV→List Ob→Prop}:pvop P PP (.s (.boxT x t)) e H KK=sop P (.boxT x t) e H KK:=Aa rfl
theorem Aky {x:Opd} {KK:TV→List Ob→Prop}:pvop P PP (.s (.rngS x)) e H KK=sop P (.rngS x) e H KK:=Aa rfl
theorem AkX {x:Opd} {KK:TV→List Ob→Prop}:pvop P PP (.s (.nxtS x)) e H KK=sop P (.nxtS x) e H KK:=Aa rfl
theorem Ak4 {x:Opd} {KK:TV→List Ob→Prop}:pvop P PP (.s (.rngM x)) e H KK=sop P (.rngM x) e H KK:=Aa rfl
theorem AkE {x:Opd} {KK:TV→List Ob→Prop}:pvop P PP (.s (.nxtM x)) e H KK=sop P (.nxtM x) e H KK:=Aa rfl
theorem Ajj {kk:MK} {m k:Opd} {KK:TV→List Ob→Prop}:pvop P PP (.s (.delM kk m k)) e H KK=sop P (.delM kk m k) e H KK:=Aa rfl
theorem Anj {x:Opd} {KK:TV→List Ob→Prop}:pvop P PP (.s (.cvS x)) e H KK=sop P (.cvS x) e H KK:=Aa rfl
theorem Ak6 {k:Nat} {z:TV} {x:Opd} {KK:TV→List Ob→Prop}:pvop P PP (.s (.clrS k z x)) e H KK=sop P (.clrS k z x) e H KK:=Aa rfl
theorem AiJ {f:FuncId} {x:Opd} {KK:TV→List Ob→Prop}:pvop P PP (.s (.bstr f x)) e H KK=sop P (.bstr f x) e H KK:=Aa rfl
theorem Apt {b:Af} {u:Value}:Thn P b Q (.pan u) e H=Q (.pan u) e H:=Aa rfl
theorem AqL {id:Nat} {u:Value}:Blk id Q (.pan u) e H=Q (.pan u) e H:=Aa rfl
theorem Arc {n0:Nat} {lv:List Nat} {I:Nat→Env→List Ob→Prop} {n:Nat} {u:Value}:Rnd n0 lv Q I n (.pan u) e H=Q (.pan u) e H:=Aa rfl
theorem Ah4 {vr:List VR} {R:TV→List Ob→Prop} {RP:Value→List Ob→Prop}:AkB vr R RP .ret e H=res vr e H fun x=>R x H:=Aa rfl
theorem Aix {vr:List VR} {R:TV→List Ob→Prop} {RP:Value→List Ob→Prop}:AkB vr R RP .nor e H=res vr e H fun x=>R x H:=Aa rfl
theorem Ahw {vr:List VR} {R:TV→List Ob→Prop} {RP:Value→List Ob→Prop} {u:Value}:AkB vr R RP (.pan u) e H=RP u H:=Aa rfl
def AfC (P:Program) (PP:Value→List Ob→Prop) (Ss:SsT) (l:List VO) (K:Env→List Ob→Prop) (e:Env) (H:List Ob):Prop:=O9 (pvopS P PP Ss) l K e H
@[congr] theorem AqY {Ss:SsT} {l:List VO} {e':Env} {H':List Ob} (he:e=e') (hH:H=H'):AfC P PP Ss l K e H=AfC P PP Ss l K e' H':=by rw [he,hH]
@[congr] theorem AoW {Ss:SsT} {o:VOp} {e':Env} {H':List Ob} {KK:TV→List Ob→Prop} (he:e=e') (hH:H=H'):pvopS P PP Ss o e H KK=pvopS P PP Ss o e' H' KK:=by rw [he,hH]
theorem Apn {n:Nat} {l:List VO} {kp:List Nat}:vwp P (.sdraw n l kp) Q e H=(vq P (l.take (nOf n)) (fun e=>AfC P (fun u H=>Q (.pan u) [] H) (ssN n l) (l.drop (nOf n)) (fun e H=>BB (forget kp e) fun e=>Q .nor e H) e H) e H):=Aa rfl
section
variable {Ss:SsT}
theorem AtW:AfC P PP Ss [] K e H=K e H:=Aa rfl
theorem Ayg {d:Nat} {o:VOp}:AfC P PP Ss (⟨some d,o,none⟩::r) K e H=pvopS P PP Ss o e H (fun x H=>AfC P PP Ss r K ((d,x)::e) H):=Aa rfl
theorem AwR {o:VOp}:AfC P PP Ss (⟨none,o,none⟩::r) K e H=pvopS P PP Ss o e H (fun x H=>AfC P PP Ss r K e H):=Aa rfl
theorem At8 {o:POp} {KK:TV→List Ob→Prop}:pvopS P PP Ss (.p o) e H KK=pop o e H fun x=>KK x H:=Aa rfl
theorem Akz {f:FuncId} {args:List Opd} {KK:TV→List Ob→Prop}:pvopS P PP Ss (.s (.call f args)) e H KK=BB (evs e args) fun xs=>DD (VJ xs) (VCP P f xs H (fun x H'=>KK x H'∧V6 Ss.l e H H') PP):=by
 show ((∀ x∈args,CJ (x.ev e)=false)∧_)=_
 rw [Q9]; rfl
theorem AhM {sz:Nat} {x v:Opd} {KK:TV→List Ob→Prop}:pvopS P PP Ss (.s (.store sz x v)) e H KK=sop P (.store sz x v) e H fun x H'=>KK x H'∧V6 Ss.st e H H':=Aa rfl
theorem Ah7 {z:TV} {KK:TV→List Ob→Prop}:pvopS P PP Ss (.s (.alloc z)) e H KK=sop P (.alloc z) e H KK:=Aa rfl
theorem AlH {k bytes:Nat} {z:TV} {l c:Opd} {KK:TV→List Ob→Prop}:pvopS P PP Ss (.s (.mks k bytes z l c)) e H KK=sop P (.mks k bytes z l c) e H KK:=Aa rfl
theorem Aov {k bytes:Nat} {et:TypeId} {x y:Opd} {KK:TV→List Ob→Prop}:pvopS P PP Ss (.s (.app k bytes et x y)) e H KK=vif Ss.ap (sop P (.app k bytes et x y) e H fun x H'=>KK x H'∧V6 Ss.l e H H') (sop P (.app k bytes et x y) e H KK):=by
 show sop P (.app k bytes et x y) e H (fun x H'=>KK x H'∧(Ss.ap=true→V6 Ss.l e H H'))=_
 unfold vif
 split
 ·rename_i h
  congr 1; funext x H'; simp [h]
 ·rename_i h
  congr 1; funext x H'; simp [h]
theorem AiQ {et:TypeId} {x y:Opd} {KK:TV→List Ob→Prop}:pvopS P PP Ss (.s (.appS et x y)) e H KK=sop P (.appS et x y) e H KK:=Aa rfl
theorem As7 {n:Nat}:nOf n=n % 10000:=Aa rfl
theorem Atf {n:Nat} {l:List VO}:(ssN n l).ap=decide (10000≤n):=Aa rfl
theorem AoC {x:Opd} {KK:TV→List Ob→Prop}:pvopS P PP Ss (.s (.s2b x)) e H KK=sop P (.s2b x) e H KK:=Aa rfl
theorem Agy {k n:Nat} {z:TV} {ps:List (Nat×Opd)} {KK:TV→List Ob→Prop}:pvopS P PP Ss (.s (.bslice k n z ps)) e H KK=sop P (.bslice k n z ps) e H KK:=Aa rfl
end
theorem Adw {e:Env} {H H':List Ob}:V6 [] e H H':=V6.nil
theorem Ajv {s:Nat} {Ss:List Nat} {e:Env} {H H':List Ob} {id ver:Nat} {p:List (Nat×Nat)} (h:get e s = .op id ver p) (h1:H'[id]?=H[id]?) (h2:V6 Ss e H H'):V6 (s::Ss) e H H':=fun t ht id' hg=>by
 rcases List.mem_cons.1 ht with rfl | ht
 ·rw [h] at hg; cases hg; exact h1
 ·exact h2 t ht id' hg
theorem Am.callsP {f:FuncId} {args:List TV} {R:TV→List Ob→Prop} {RP:Value→List Ob→Prop} (h:Am P f args H R):VCP P f args H R RP:=h.mayP
end
def Ai:=(aI_ (aI_ (aI_ (aI_ (aI_ (aI_ (aI_ (aI_ @AvQ @AsN) (aI_ @Avt @Aye)) (aI_ (aI_ @Asj @Axg) (aI_ @AvE @At7))) (aI_ (aI_ (aI_ @Aos @ApF) (aI_ @Aux @Aqq)) (aI_ (aI_ @Avg @Auz) (aI_ @Axn @AuL)))) (aI_ (aI_ (aI_ (aI_ @Atg @AwT) (aI_ @Avh @AvF)) (aI_ (aI_ @ApD @Avw) (aI_ @Atl @AwD))) (aI_ (aI_ (aI_ @AvU @Av7) (aI_ @Av0 @AwZ)) (aI_ (aI_ @ApI @AlK) (aI_ @Axf @Aqb))))) (aI_ (aI_ (aI_ (aI_ (aI_ @AlT @AvM) (aI_ @Atq @Auf)) (aI_ (aI_ @Asi @Auv) (aI_ @Auu @AsY))) (aI_ (aI_ (aI_ @AuA @Auw) (aI_ @Axh @Anr)) (aI_ (aI_ @ApH @Awb) (aI_ @Aw2 @Aur)))) (aI_ (aI_ (aI_ (aI_ @Atd @Aqz) (aI_ @Avn @As0)) (aI_ (aI_ @AvO @As1) (aI_ @Aso @ArJ))) (aI_ (aI_ (aI_ @Asr @Atu) (aI_ @AuI @Aq9)) (aI_ (aI_ @Aww @Aw1) (aI_ @ArH @Av5)))))) (aI_ (aI_ (aI_ (aI_ (aI_ (aI_ @Atr @Asb) (aI_ @Axs @AqJ)) (aI_ (aI_ @Ar6 @AuN) (aI_ @Avx @ApO))) (aI_ (aI_ (aI_ @Awa @AuB) (aI_ @As6 @Am2)) (aI_ (aI_ @ArY @Aub) (aI_ @Ape @o_g)))) (aI_ (aI_ (aI_ (aI_ @Asq @Axw) (aI_ @AvS @At9)) (aI_ (aI_ @Ayi @u_c) (aI_ @u_g @Apa))) (aI_ (aI_ (aI_ @Ayu @Aey) (aI_ @AeJ @AvA)) (aI_ (aI_ @Aug @Av6) (aI_ @Aum @AgN))))) (aI_ (aI_ (aI_ (aI_ (aI_ @Asl @Aep) (aI_ @AmE @Apf)) (aI_ (aI_ @AnH @ApX) (aI_ @Aqe @Alh))) (aI_ (aI_ (aI_ @Af1 @Apk) (aI_ @Ali @Arl)) (aI_ (aI_ @AtH @Aq2) (aI_ @Apn @AtW)))) (aI_ (aI_ (aI_ (aI_ @Ayg @AwR) (aI_ @At8 @Akz)) (aI_ (aI_ @AhM @Ah7) (aI_ @AlH @Aov))) (aI_ (aI_ (aI_ @AiQ @AoC) (aI_ @Agy @ArI)) (aI_ (aI_ @Ayp @Aw7) (aI_ @Ayv @AsW))))))) (aI_ (aI_ (aI_ (aI_ (aI_ (aI_ @AkY @AnY) (aI_ @Ahz @Am9)) (aI_ (aI_ @Af9 @AhL) (aI_ @AlN @Am7))) (aI_ (aI_ (aI_ @AkW @Am1) (aI_ @AjD @Ame)) (aI_ (aI_ @Ai7 @Air) (aI_ @Ah3 @AnS)))) (aI_ (aI_ (aI_ (aI_ @AnG @Aj0) (aI_ @Ajo @AkJ)) (aI_ (aI_ @AfL @Ald) (aI_ @Aky @AkX))) (aI_ (aI_ (aI_ @Ak4 @AkE) (aI_ @Ajj @Ak6)) (aI_ (aI_ @Anj @AiJ) (aI_ @Apt @AqL))))) (aI_ (aI_ @Arc @Ah4) (aI_ @Aix @Ahw))))
def Ad:=(aI_ (aI_ (aI_ (aI_ (aI_ (aI_ (aI_ (aI_ @As7 @Atf) (aI_ @AqN @Anl)) (aI_ (aI_ @AnM @Aks) (aI_ @Apz @Aqs))) (aI_ (aI_ (aI_ @ArQ @AsF) (aI_ @Asy @Akm)) (aI_ (aI_ @Aml @Ao3) (aI_ @Amg @Atk)))) (aI_ (aI_ (aI_ (aI_ @AiZ @Ars) (aI_ @An3 @AsV)) (aI_ (aI_ @Art @AtT) (aI_ @Atn @AjL))) (aI_ (aI_ (aI_ @Apx @Ano) (aI_ @Aqp @AmK)) (aI_ (aI_ @ApV @Ass) (aI_ @Anh @Ao9))))) (aI_ (aI_ (aI_ (aI_ (aI_ @Aqh @AmL) (aI_ @AmS @AhU)) (aI_ (aI_ @AhF @Ajs) (aI_ @AnK @AnB))) (aI_ (aI_ (aI_ @AiI @AiO) (aI_ @Aq6 @AlG)) (aI_ (aI_ @Aqg @AlW) (aI_ @Am6 @Aox)))) (aI_ (aI_ (aI_ (aI_ @AjS @Ap4) (aI_ @ApE @ApK)) (aI_ (aI_ @AqM @AqE) (aI_ @AqH @Aqi))) (aI_ (aI_ (aI_ @Al2 @Aqr) (aI_ @AmM @ApG)) (aI_ (aI_ @Aji @Ap5) (aI_ @AmU @Alr)))))) (aI_ (aI_ (aI_ (aI_ (aI_ (aI_ @An0 @Aj4) (aI_ @Ah2 @ApP)) (aI_ (aI_ @AqK @Ar3) (aI_ @As3 @Asw))) (aI_ (aI_ (aI_ @AsU @AnC) (aI_ @Al0 @Amn)) (aI_ (aI_ @AnA @AtO) (aI_ @Aua @Asu)))) (aI_ (aI_ (aI_ (aI_ @Ale @AhD) (aI_ @Akt @Ami)) (aI_ (aI_ @AmJ @AiR) (aI_ @AmN @AmD))) (aI_ (aI_ (aI_ @Aom @Ap1) (aI_ @Aq3 @AnZ)) (aI_ (aI_ @Akp @AnD) (aI_ @Ap0 @AlL))))) (aI_ (aI_ (aI_ (aI_ (aI_ @Aq8 @Ari) (aI_ @Apj @Alu)) (aI_ (aI_ @AmF @AmZ) (aI_ @An8 @AnI))) (aI_ (aI_ (aI_ @Alp @Aku) (aI_ @AlE @Aqa)) (aI_ (aI_ @ArG @AjK) (aI_ @AuE @Ar8)))) (aI_ (aI_ (aI_ (aI_ @Ara @ApW) (aI_ @Apq @AlV)) (aI_ (aI_ @Amt @AmX) (aI_ @Option.getD_none.{0} @Option.getD_some.{0}))) (aI_ (aI_ (aI_ @AkV @AqX) (aI_ @Amx @Anw)) (aI_ (aI_ @Al4 @AgW) (aI_ @AjP @AmB))))))) (aI_ (aI_ (aI_ (aI_ (aI_ (aI_ @Al7 @Ao7) (aI_ @AlU @AqP)) (aI_ (aI_ @AlQ @AiN) (aI_ @Aqj @Am0))) (aI_ (aI_ (aI_ @AoF @AmH) (aI_ @Anc @Anu)) (aI_ (aI_ @AlP @Amf) (aI_ @Apr @Ajd)))) (aI_ (aI_ (aI_ (aI_ @Aqf @Auk) (aI_ @AuG @AhW)) (aI_ (aI_ @Akb @Axj) (aI_ @Aw0 @Ayt))) (aI_ (aI_ (aI_ @Al5 @ApL) (aI_ @Ap2 @Ayo)) (aI_ (aI_ @Ayd @Ayk) (aI_ @Am4 @Ap9))))) (aI_ (aI_ (aI_ @Alq @Aof) (aI_ @ApS @AlS)) (aI_ @AiF @Aiq))))
def Ag:=(aI_ (aI_ (aI_ (aI_ (aI_ (aI_ (aI_ (aI_ @AlJ @Aoo) (aI_ @Ark @Apy)) (aI_ (aI_ @AqV @Apo) (aI_ @Am8 @Amb))) (aI_ (aI_ (aI_ @Aly @AoE) (aI_ @AqC @Aqm)) (aI_ (aI_ @Aqk @Ajt) (aI_ @Aj5 @Am3)))) (aI_ (aI_ (aI_ (aI_ @Anm @Aot) (aI_ @Aod @Ak9)) (aI_ (aI_ @Aj8 @Ak3) (aI_ @AjB @Amz))) (aI_ (aI_ (aI_ @AlF @Aoz) (aI_ @AlX @Aql)) (aI_ (aI_ @Apw @ApN) (aI_ @AqI @AmR))))) (aI_ (aI_ (aI_ (aI_ (aI_ @AnL @AmI) (aI_ @Ann @Arn)) (aI_ (aI_ @Arj @Aqc) (aI_ @AkD @AkI))) (aI_ (aI_ (aI_ @An9 @Ant) (aI_ @AlD @AmW)) (aI_ (aI_ @Akx @Amy) (aI_ @Ank @Akr)))) (aI_ (aI_ (aI_ (aI_ @Ajg @Aoy) (aI_ @AnX @Amo)) (aI_ (aI_ @Aoq @Ai1) (aI_ @Alf @Aoe))) (aI_ (aI_ (aI_ @Amh @Amd) (aI_ @AkH @Ajl)) (aI_ (aI_ @AhV @AfN) (aI_ @AkA @AjX)))))) (aI_ (aI_ (aI_ (aI_ (aI_ (aI_ @AiM @AjH) (aI_ @Aiw @AnJ)) (aI_ (aI_ @Ako @Agt) (aI_ @AeL @AhP))) (aI_ (aI_ (aI_ @Anq @Akd) (aI_ @AeB @AdY)) (aI_ (aI_ @Aym @Ayc) (aI_ @Ayx @An6)))) (aI_ (aI_ (aI_ (aI_ @Al6 @Alv) (aI_ @Ahp @Ams)) (aI_ (aI_ @AmV @Ah9) (aI_ @AfT @AjG))) (aI_ (aI_ (aI_ @AhT @Aoa) (aI_ @Aim @Agd)) (aI_ (aI_ @Aic @Agq) (aI_ @Akl @AhB))))) (aI_ (aI_ (aI_ (aI_ (aI_ @Agh @Afz) (aI_ @Adf @Acd)) (aI_ (aI_ @Arp @AnU) (aI_ @AjQ @AlI))) (aI_ (aI_ (aI_ @AgN @Amw) (aI_ @Aep @Aey)) (aI_ (aI_ @AeJ @AmC) (aI_ @Alm @AqU)))) (aI_ (aI_ (aI_ (aI_ @AqG @Aon) (aI_ @AqO @Api)) (aI_ (aI_ @Aog @Ang) (aI_ @Als @Ai9))) (aI_ (aI_ (aI_ @Ait @Aph) (aI_ @Ap8 @AuF)) (aI_ (aI_ @Aq0 @AqT) (aI_ @Aq5 @Apd))))))) (aI_ (aI_ (aI_ @Alk @Akg) (aI_ @Aje @Aob)) (aI_ (aI_ @AwF @AtL) @As8)))
theorem Ahx {α β:Type} {f:α→β} {l:List α} {i:Nat}:(l.map f).drop i=(l.drop i).map f:=List.map_drop.symm
theorem AhA {α β:Type} {f:α→β} {l:List α} {i:Nat}:(l.map f).take i=(l.take i).map f:=List.map_take.symm
theorem AsQ {b:UInt8}:IntKind.i64.wrap (b.toNat:Int)=b.toNat:=FK (by omega) (by have:=b.toNat_lt; omega)
theorem AsT {n:Nat}:IntKind.u8.wrap (n:Int)=((UInt8.ofNat n).toNat:Int):=by
 rw [IntKind.wrap_u8,UInt8.toNat_ofNat']; omega
theorem Ar4 {α:Type} {n i:Nat} {a:α} (h:i<n):(List.replicate n a)[i]?=some a:=by simp [h]
section
variable {a b c:Nat}
theorem AnN:(a:Int)*(b:Int)=((a*b:Nat):Int):=Aa rfl
theorem AlZ (h:b≤a):(a:Int) - (b:Int)=((a - b:Nat):Int):=by omega
theorem AlR:(a:Int) / (b:Int)=((a / b:Nat):Int):=Aa rfl
theorem Al8:(a:Int) % (b:Int)=((a % b:Nat):Int):=Aa rfl
variable {t:TypeId} {k2:IntKind}
theorem Ar1 (h1:b≤63) (h2:a*2 ^ b≤9223372036854775807):Fe t .shl (.int .i64 (a:Int)) (.int k2 (b:Int))=some (.int .i64 ((a*2 ^ b:Nat):Int)):=by
 have e:(a:Int)*2 ^ ((b:Int).toNat)=((a*2 ^ b:Nat):Int):=by rw [Int.toNat_natCast,Int.natCast_mul,Int.natCast_pow]; rfl
 rw [AwJ (by omega) (by omega) (by rw [e]; omega) (by rw [e]; omega),e]
theorem ArX (h1:b≤63):Fe t .shr (.int .i64 (a:Int)) (.int k2 (b:Int))=some (.int .i64 ((a / 2 ^ b:Nat):Int)):=by
 have e:(a:Int) / 2 ^ ((b:Int).toNat)=((a / 2 ^ b:Nat):Int):=by rw [Int.toNat_natCast,Int.natCast_ediv,Int.natCast_pow]; rfl
 rw [AvP (by omega) (by omega) (by omega),e]
variable {k:IntKind}
theorem AuM (h:b≠0):Fe t .rem (.int k (a:Int)) (.int k (b:Int))=some (.int k ((a % b:Nat):Int)):=by rw [Axp (by omega) (by omega),Int.natCast_emod]
theorem Aus (h:b≠0) (h2:a≤9223372036854775807):Fe t .quo (.int .i64 (a:Int)) (.int .i64 (b:Int))=some (.int .i64 ((a / b:Nat):Int)):=by rw [Aw5 (by omega) (by omega) (by omega),Int.natCast_ediv]
end
theorem Am.toPureV {P:Program} {f:FuncId} {args:List TV} {R:TV→Prop} (h:Am P f args [] fun x H'=>BF (frz H' x) R):BC P f args R :=
 Am.toPure (h.mono fun x H' hx=>by
  cases hf:frz H' x with
  | none=>rw [hf] at hx; exact hx
  | some y=>rw [hf] at hx; exact hx)
abbrev mv_ (d s:Nat):VO:=⟨some d,.p (.mov (.t s)),none⟩
abbrev po_ (d:Nat) (p:POp):VO:=⟨some d,.p p,none⟩
abbrev so_ (d:Nat) (q:SOp):VO:=⟨some d,.s q,none⟩
abbrev ci_ (n:Nat):Opd := .c (.int .i64 (n:Int))
theorem Dj {P:Program} {f:FuncId} {fn:Func} {vc:Af} {vr:List VR} (n:Nat) (hf:P.funcs[f]?=some fn) (ht:fn.body.bind (trC P fn.ntmps)=some (er vc)) (hr:trR P fn.results.toList=some vr) (hn:fn.ntmps=n) :
  ∀ ⦃args:List TV⦄ ⦃H:List Ob⦄ ⦃R:TV→List Ob→Prop⦄,args.length≤n→vwp P vc (AiP vr R) (Ac3 0 args) H→Am P f args H R:=fun _ _ _ h1 h2=>AiX hf ht hr (hn▸h1) h2
theorem Ac {c c':Af} (h:c=c'):∀ (P:Program) (Q:VEx→Env→List Ob→Prop) (e:Env) (H:List Ob),vwp P c Q e H=vwp P c' Q e H:=fun _ _ _ _=>by rw [h]
theorem Ae {α:Type}:(∀ {l:List α} {i:Nat} {a:α},(l.set i a).length=l.length)∧(∀ {l m:List α},(l++m).length=l.length+m.length)∧(∀ {a:α} {l:List α},(a::l).length=l.length+1)∧([]:List α).length=0:=⟨List.length_set,List.length_append,List.length_cons,List.length_nil⟩
theorem Am.toFreshV {P:Program} {f:FuncId} {args:List TV} {R:TV→Prop} (h:Am P f args [] fun x H'=>BF (frs H' x) R):Ou P f args R :=
 Am.toFresh (h.mono fun x H' hx=>by
  cases hf:frs H' x with
  | none=>rw [hf] at hx; exact hx
  | some y=>rw [hf] at hx; exact hx)
theorem Amm {α:Type} {l:List α} {n:Nat} (h:l.length≤n):l.take n=l:=List.take_of_length_le h
theorem Awq {α:Type} {c:Prop} [Decidable c] {a b:α} (h:c):(if c then a else b)=a:=if_pos h
theorem AvR {α:Type} {c:Prop} [Decidable c] {a b:α} (h:¬ c):(if c then a else b)=b:=if_neg h
theorem AgH {α:Type} {l:List α} {n:Nat} (h:n≤l.length):(l.take n).length=n:=by simp [h]
theorem AdS {α:Type} {l:List α} {i:Nat}:(l.drop i).take (l.length - i)=l.drop i:=List.take_of_length_le (by simp)
theorem Al1 {a b:Nat}:a+b - a=b:=Nat.add_sub_cancel_left a b
theorem Am5 {α:Type} {l m:List α}:(l++m).take l.length=l:=List.take_left
theorem Anx {α:Type} {l m:List α}:(l++m).drop l.length=m:=List.drop_left
theorem Aln {a b:Nat}:a+b - b=a:=Nat.add_sub_cancel a b
def Ah:=(aI_ (aI_ (aI_ (aI_ (aI_ (aI_ (aI_ @Am5 @Anx) (aI_ @Al1 @AdS)) (aI_ (aI_ @AgH @List.length_drop.{0}) (aI_ @Awq @AvR))) (aI_ (aI_ (aI_ @Amm @Aln) (aI_ @Nat.zero_le @AsM)) (aI_ (aI_ @List.nil_append.{0} @List.length_nil.{0}) (aI_ @List.length_cons.{0} @List.cons_append.{0})))) (aI_ (aI_ (aI_ (aI_ @List.getElem?_cons_zero.{0} @List.getElem?_cons_succ.{0}) (aI_ @List.set_cons_zero.{0} @List.set_cons_succ.{0})) (aI_ (aI_ @List.map_cons.{0,0} @List.map_nil.{0,0}) (aI_ @An1 @Anb))) (aI_ (aI_ (aI_ @true_and @and_true) (aI_ @List.take_zero.{0} @List.take_succ_cons.{0})) (aI_ (aI_ @List.drop_succ_cons.{0} @List.take_nil.{0}) (aI_ @List.drop_nil.{0} @Nat.zero_add))))) (aI_ (aI_ (aI_ (aI_ (aI_ @AvI @AvC) (aI_ @AvY @AwW)) (aI_ (aI_ @AwB @Axd) (aI_ @Axr @Avl))) (aI_ (aI_ (aI_ @AvJ @AwV) (aI_ @Ayj @AuM)) (aI_ (aI_ @Aus @AoV) (aI_ @AjA @AiK)))) (aI_ (aI_ (aI_ (aI_ @Ajc @AkF) (aI_ @AhH @Akv)) (aI_ (aI_ @Akh @Ajw) (aI_ @Ak2 @Akw))) (aI_ (aI_ (aI_ @Bool.false_xor @Bool.true_xor) (aI_ @Avp @AvG)) (aI_ (aI_ @AxA @decide_true) (aI_ @decide_false @Bool.not_true)))))) (aI_ (aI_ (aI_ (aI_ (aI_ (aI_ @Bool.not_false @not_true_eq_false) (aI_ @not_false_eq_true @Bool.false_eq_true)) (aI_ (aI_ @Bool.true_eq_false @Option.bind_some.{0,0}) (aI_ @Option.map_some.{0,0} @Bool.and_self))) (aI_ (aI_ (aI_ @and_self @Nat.sub_zero) (aI_ @Nat.mul_one @List.length_map.{0,0})) (aI_ (aI_ @Int.toNat_natCast @List.getElem?_map.{0,0}) (aI_ @Int.natCast_nonneg @List.length_append.{0})))) (aI_ (aI_ (aI_ (aI_ @List.drop_zero.{0} @Ahx) (aI_ @AhA @Anf)) (aI_ (aI_ @AmA @Amc) (aI_ @ApC @Ao6))) (aI_ (aI_ (aI_ @ApU @Ap7) (aI_ @List.replicate_zero.{0} @List.take_length.{0})) (aI_ (aI_ @List.length_set.{0} @List.length_replicate.{0}) (aI_ @AsQ @FK))))) (aI_ (aI_ (aI_ (aI_ @AsT @List.set_set.{0}) (aI_ @List.getElem?_nil.{0} @Ar4)) (aI_ (aI_ @AnN @AlZ) (aI_ @AlR @Al8))) (aI_ @Ar1 @ArX))))
end
section
open Go.RowKit
variable [AP]
theorem Aig {g:Nat} {x:GV} (h:IM g=some x):(g,x)∈AP.l:=by
 unfold IM at h
 obtain ⟨p,hp,rfl⟩:=Option.map_eq_some_iff.1 h
 have h1:=List.mem_of_find?_eq_some hp
 have h2:=List.find?_some hp
 have h3:p.1=g:=by simpa using h2
 obtain ⟨a,b⟩:=p
 simp only at h3; subst h3; exact h1
section
omit [AP]
theorem Adj {P:Program} {w:World} {name:String} {g:Nat} {cs:Array Value} (hg:P.globalNamed name=some g) (h:w.var? P name=some cs):∃ t fr,w.heap[g]?=some (.cells cs t fr):=by
 unfold World.var? at h
 rw [hg,Option.bind_some] at h
 split at h
 ·rename_i c t fr hh; cases h; exact ⟨t,fr,hh⟩
 ·cases h
def AlA (P:Program) (t:TypeId):Bool:=match P.underlying t with
 | some (.int _)=>true
 | some .string=>true
 | _=>false
def Ave:DataW Unit→Option Value
 | .lit (.int k n)=>some (.int k n)
 | .lit (.string l)=>some (.string ⟨l.toArray⟩)
 | _=>none
variable {P:Program} {w:World} {fuel:Nat} {cs:List Value}
theorem AfK {t:TypeId} {x:DataW Unit×List MemPlace} (ht:AlA P t=true) (h:DataW.trod (fun _=>()) P w 0 (fun _=>true) false fuel t cs=some x):∃ v,Ave x.1=some v∧cs=[v]:=by
 unfold AlA at ht
 split at ht
 ·rename_i k hk
  obtain ⟨n,rfl,rfl,_⟩:=DataW.trod_int hk h
  exact ⟨_,rfl,rfl⟩
 ·rename_i hk
  obtain ⟨s,rfl,rfl,_⟩:=DataW.trod_string hk h
  exact ⟨_,rfl,by simp⟩
 ·cases ht
theorem AgF {t e:TypeId} {n:Nat} {ds:List (DataW Unit)} {p:List MemPlace} {vs:List Value} (ht:P.underlying t=some (.array n e)) (he:AlA P e=true) (hce:P.cellsOf e=1) (hct:P.cellsOf t=n) (hv:ds.map Ave=vs.map some)
  (h:DataW.trod (fun _=>()) P w 0 (fun _=>true) false fuel t cs=some (.agg ds,p)):cs=vs:=by
 cases fuel with
 | zero=>simp [DataW.trod] at h
 | succ fuel =>
  simp only [DataW.trod,ht,hce,hct,Nat.mul_one] at h
  split at h
  ·rename_i hl
   obtain ⟨xs,hm,hx⟩:=Option.map_eq_some_iff.1 h
   have hxs:xs.map (·.1)=ds:=by
    have:=congrArg Prod.fst hx
    simpa using this
   have hxl:xs.length=n:=by simpa using Lib.mapM_length hm
   have hvl:vs.length=n:=by
    have h1:=congrArg List.length hxs
    have h2:=congrArg List.length hv
    simp at h1 h2
    omega
   apply List.ext_getElem?
   intro i
   by_cases hi:i<n
   ·obtain ⟨b,hb,hf⟩:=Lib.mapM_at hm i i (by simp [hi])
    obtain ⟨v,hv1,hv2⟩:=AfK he hf
    have h1:cs[i]?=some v:=by
     have:=congrArg (·[0]?) hv2
     simpa [List.getElem?_take,List.getElem?_drop] using this
    have h2:ds[i]?=some b.1:=by rw [←hxs]; simp [hb]
    have h3:(ds.map Ave)[i]?=some (some v):=by simp [h2,hv1]
    rw [hv] at h3
    simp only [List.getElem?_map,Option.map_eq_some_iff,Option.some.injEq] at h3
    obtain ⟨u,hu,rfl⟩:=h3
    rw [h1,hu]
   ·rw [List.getElem?_eq_none (by omega),List.getElem?_eq_none (by omega)]
  ·cases h
theorem AgX {name:String} {d:DataW Unit}:∀ {laid:List (String×DataW Unit)} {ps:List MemPlace},DataW.LaidVars P w laid ps→(name,d)∈laid →
  ∃ g t cs fuel p,P.globalNamed name=some g∧(P.globals[g]?).map (·.type)=some t∧w.var? P name=some cs∧DataW.trod (fun _=>()) P w 0 (fun _=>true) false fuel t cs.toList=some (d,p)
 | [],ps,_,hm=>by simp at hm
 | (n,d')::r,ps,h,hm=>by
  obtain ⟨g,t,cs,fuel,p,q,h1,h2,h3,h4,h5,_⟩:=h
  rcases List.mem_cons.1 hm with e | hm
  ·cases e; exact ⟨g,t,cs,fuel,p,h1,h2,h3,h4⟩
  ·exact AgX h5 hm
theorem AdU {laid:List (String×DataW Unit)} (h:laidMet P laid w) {name:String} {ds:List (DataW Unit)} (hm:(name,DataW.agg ds)∈laid) {g:Nat} {t e:TypeId} {n:Nat} {vs:List Value} (hg:P.globalNamed name=some g) (hty:(P.globals[g]?).map (·.type)=some t)
  (ht:P.underlying t=some (.array n e)) (he:AlA P e=true) (hce:P.cellsOf e=1) (hct:P.cellsOf t=n) (hv:ds.map Ave=vs.map some):∃ tt fr,w.heap[g]?=some (.cells vs.toArray tt fr):=by
 obtain ⟨ps,h,_⟩:=h
 obtain ⟨g',t',cs,fuel,p,h1,h2,h3,h4⟩:=AgX h hm
 obtain rfl:=Option.some.inj (hg.symm.trans h1)
 obtain rfl:=Option.some.inj (hty.symm.trans h2)
 have:=AgF ht he hce hct hv h4
 have e:cs=vs.toArray:=by rw [←this,Array.toArray_toList]
 rw [e] at h3
 exact Adj hg h3
end
end
section
open Go.RowKit Go.WideShapes Go.ChangeShapes
section
variable {H:Type} {enc:TypeId×Value→H}
end
theorem AdF {P:Program} {w:World} {g:Nat} {t:TypeId} {zero:Array Value} {k:IntKind} (h:w.ShapedOpen P) (hg:g<P.globals.size)
  (h0:((begin P (fun _ _=>0) default).world.heap[g]?).bind Obj.row?=some (zero,t)) (hz:zero.size=1)
  (hb:P.buildable t=true) (hc:P.cellTypes P.depth t=some [t]) (hu:P.underlying t=some (.int k)):∃ m tt fr,w.heap[g]?=some (.cells #[.int k m] tt fr):=by
 obtain ⟨m,hm⟩:=cell_of_shapedOpen_int h hg h0 hz hb hc hu
 obtain ⟨cs,hh,hs,_⟩:=h.1 g zero t hg h0
 have h1:cs[0]?=some (.int k m):=by simpa [World.cell?,hh] using hm
 have e:cs = #[.int k m]:=by
  apply Array.ext
  ·rw [hs,hz]; rfl
  ·intro i h2 h3
   have hi:i=0:=by simpa using h3
   subst hi
   have:=(Array.getElem?_eq_some_iff.1 h1).2
   simpa using this
 rw [e] at hh
 exact ⟨m,_,_,hh⟩
end
section
open Go.RowKit Go.WideShapes Go.ChangeShapes
variable [AP]
set_option autoImplicit false
def came (w:World):Ctx:=⟨fun _ _=>none,[],fun b=>b<w.heap.size⟩
mutual
def AfG {H:Type}:DataW H→List Nat
 | .lit (.string b)=>[b.length]
 | .slice el _=>X5 el
 | .agg ps=>X5 ps
 | _=>[]
def X5 {H:Type}:List (DataW H)→List Nat
 | []=>[]
 | d::r=>AfG d++X5 r
end
theorem AeY {H:Type} {d:DataW H} {n:Nat} (hn:n∈AfG d):∀ {ds:List (DataW H)},d∈ds→n∈X5 ds
 | d0::ds,h=>by
  rw [X5,List.mem_append]
  rcases List.mem_cons.1 h with rfl | h
  ·exact Or.inl hn
  ·exact Or.inr (AeY hn h)
theorem Abw {R:Nat} {l m:List Nat} (h:m.all (· ≤ R)=true) (hs:∀ n∈l,n∈m):l.all (· ≤ R)=true:=List.all_eq_true.2 fun n hn=>List.all_eq_true.1 h n (hs n hn)
variable {R:Nat}
def N8 (R:Nat) (P:Program) (t:TypeId) {α:Type} (f:α→TV) (ok:α→Prop):Prop :=
 ∀ {H:Type} (enc:TypeId×Value→H) (w:World) (fuel:Nat) (cs:List Value) (d:DataW H) (ps:List MemPlace),DataW.trod enc P w 0 (fun _=>true) true fuel t cs=some (d,ps)→(d.weights P t).all (· ≤ reachBytes)=true→(AfG d).all (· ≤ R)=true→∃ a,Aj (came w) w (f a) cs∧ok a
theorem Aez {α β:Type} {f:α→Option β}:∀ {l:List α} {xs:List β},l.mapM f=some xs→xs.length=l.length∧∀ (i:Nat) a,l[i]?=some a→∃ x,xs[i]?=some x∧f a=some x
 | [],xs,h=>by simp at h; subst h; simp
 | a::l,xs,h=>by
  rw [List.mapM_cons] at h
  cases hf:f a with
  | none=>rw [hf] at h; cases h
  | some y =>
   rw [hf] at h
   cases hl:l.mapM f with
   | none=>rw [hl] at h; cases h
   | some ys =>
    rw [hl] at h
    have e:xs=y::ys:=by simpa using h.symm
    subst e
    obtain ⟨h1,h2⟩:=Aez hl
    refine ⟨by simp [h1],fun i b hb => ?_⟩
    cases i with
    | zero=>simp at hb; subst hb; exact ⟨y,by simp,hf⟩
    | succ i=>simpa using h2 i b (by simpa using hb)
theorem Y0 {β:Type} {f:Nat→Option β} {n:Nat} {xs:List β} (h:(List.range n).mapM f=some xs):xs.length=n∧∀ i,i<n→∃ x,xs[i]?=some x∧f i=some x:=by
 obtain ⟨h1,h2⟩:=Aez h
 exact ⟨by simpa using h1,fun i hi=>h2 i i (by simp [hi])⟩
section
variable {P:Program} {t e:TypeId}
theorem AaW {H:Type} {enc:TypeId×Value→H} {w:World} {fuel:Nat} {cs:List Value} {x:DataW H×List MemPlace} (h:DataW.trod enc P w 0 (fun _=>true) true fuel t cs=some x):∃ n,fuel=n+1:=by
 cases fuel with
 | zero=>simp [DataW.trod] at h
 | succ n=>exact ⟨n,rfl⟩
theorem AcF {k:IntKind} (ht:P.underlying t=some (.int k)):N8 R P t (fun n => .val (.int k n)) (fun n=>(Lit.int k n).wf=true):=by
 intro H enc w fuel cs d ps h _ _
 obtain ⟨n,rfl⟩:=AaW h
 unfold DataW.trod at h; rw [ht] at h
 split at h<;>rename_i h1<;>try (simp at h1; done)
 all_goals try (cases h; done)
 all_goals try (simp only [Option.some.injEq,TypeDesc.int.injEq] at h1)
 all_goals first
  | (subst h1; split at h; (rename_i hc; obtain ⟨rfl,hw⟩:=hc; cases h; exact ⟨_,by rw [Aj]; exact ⟨rfl,rfl⟩,hw⟩); cases h)
  | (simp at h1; done)
  | (simp at h; done)
theorem Ada (ht:P.underlying t=some .string):N8 R P t (fun l => .val (.string (str l))) (fun l=>l.length≤R):=by
 intro H enc w fuel cs d ps h _ hw
 obtain ⟨n,rfl⟩:=AaW h
 unfold DataW.trod at h; rw [ht] at h
 split at h<;>rename_i h1<;>try (simp at h1; done)
 all_goals first
  | (simp at h1; done)
  | (simp at h; done)
  | (simp only [Option.ite_none_right_eq_some,Option.some.injEq,Prod.mk.injEq] at h; obtain ⟨hm,rfl,rfl⟩:=h; refine ⟨bl _,by rw [Aj,Ar9]; exact ⟨rfl,rfl⟩,?_⟩; simp only [AfG,List.all_cons,List.all_nil,Bool.and_true] at hw; exact of_decide_eq_true hw)
end
theorem V4 {H:Type} {P:Program} {e:TypeId} {d:DataW H} {n:Nat} (hn:n∈d.weights P e):∀ {ds:List (DataW H)},d∈ds→n∈DataW.weightsAll P e ds
 | d0::ds,h=>by
  simp only [DataW.weightsAll,List.mem_append]
  rcases List.mem_cons.1 h with rfl | h
  ·exact Or.inl hn
  ·exact Or.inr (V4 hn h)
theorem MQ {l m:List Nat} (h:m.all (· ≤ reachBytes)=true) (hs:∀ n∈l,n∈m):l.all (· ≤ reachBytes)=true:=List.all_eq_true.2 fun n hn=>List.all_eq_true.1 h n (hs n hn)
theorem ApA (a:Addr) (i j:Nat):(a.add i).add j=a.add (i+j):=by
 unfold Addr.add
 by_cases h1:i=0<;>by_cases h2:j=0<;>simp [h1,h2,Nat.add_assoc]
theorem AmO (b off i:Nat):(⟨b,off,none⟩:Addr).add i=⟨b,off+i,none⟩:=by
 unfold Addr.add
 by_cases h1:i=0<;>simp [h1]
theorem AhX {w:World} {a:Addr} {n:Nat} {us:List Value} (h:w.cells? 0 a n=some us):us.length=n∧∀ i,i<n→∃ u,us[i]?=some u∧w.cell? (a.add i)=some u:=by
 unfold World.cells? at h
 rw [if_pos (Nat.zero_le _)] at h
 exact Y0 h
theorem Afo {α:Type} {f:α→TV} {ok:α→Prop} {k:Nat} (hw:∀ a,ok a→AL (f a)=k) {w:World} {b off:Nat}:∀ (n i0:Nat),(∀ i,i<n→∃ us a,Aj (came w) w (f a) us∧ok a∧us.length=k∧Dc w b (off+(i0+i)*k) us) →
  ∃ (l:List α) (us:List Value),l.length=n∧(∀ a∈l,ok a)∧Ak (came w) w (l.map f) us∧us.length=n*k∧Dc w b (off+i0*k) us
 | 0,i0,_=>⟨[],[],rfl,by simp,by rw [List.map_nil,Ak],by simp,fun j u h=>by simp at h⟩
 | n+1,i0,h=>by
  obtain ⟨us,a,h1,h2,h3,h4⟩:=h 0 (by omega)
  obtain ⟨l,vs,k1,k2,k3,k4,k5⟩:=Afo hw n (i0+1) (fun i hi=>by
   obtain ⟨us,a,h1,h2,h3,h4⟩:=h (i+1) (by omega)
   exact ⟨us,a,h1,h2,h3,by rw [show i0+1+i=i0+(i+1) from by omega]; exact h4⟩)
  refine ⟨a::l,us++vs,by simp [k1],fun c hc => ?_,?_,?_,?_⟩
  ·rcases List.mem_cons.1 hc with rfl | hc
   ·exact h2
   ·exact k2 c hc
  ·rw [List.map_cons,Ak]; exact ⟨us,vs,rfl,h1,k3⟩
  ·rw [List.length_append,h3,k4,Nat.succ_mul,Nat.add_comm]
  ·intro j u hj
   by_cases hjk:j<k
   ·rw [List.getElem?_append_left (by omega)] at hj
    have:=h4 j u hj
    rwa [Nat.add_zero] at this
   ·rw [List.getElem?_append_right (by omega),h3] at hj
    have:=k5 (j - k) u hj
    rw [show off+(i0+1)*k+(j - k)=off+i0*k+j from by rw [Nat.succ_mul]; omega] at this
    exact this
section
variable {P:Program} {t e:TypeId} {α:Type} {f:α→TV} {ok:α→Prop} {k B:Nat}
theorem Aac (ht:P.underlying t=some (.slice e)) (hk:P.cellsOf e=k) (hB:P.bytesOf e=B) (hc:N8 R P e f ok) (hw:∀ a,ok a→AL (f a)=k) (h0:k≠0) :
  N8 R P t (fun l:List α => .sl k (l.map f)) (fun l=>(∀ a∈l,ok a)∧l.length*B≤140737488351232∧l.length≤9223372036854775807):=by
 intro H enc w fuel cs d ps h hwt hst
 obtain ⟨n,rfl⟩:=AaW h
 unfold DataW.trod at h; rw [ht] at h
 split at h<;>rename_i h1<;>try (simp at h1; done)
 all_goals first
  | (simp at h; done)
  | skip
 ·cases h
  refine ⟨[],?_,by simp,by simp,by simp⟩
  rw [Aj]; exact ⟨by simp,.inl ⟨rfl,none,0,rfl,by omega⟩⟩
 ·rename_i a len cap
  simp only [Option.some.injEq,TypeDesc.slice.injEq] at h1
  subst h1
  split at h
  ·rename_i hcond
   obtain ⟨-,hlc,hcm⟩:=hcond
   rw [Option.bind_eq_some_iff] at h
   obtain ⟨elems,he,h⟩:=h
   rw [if_pos rfl,Option.map_eq_some_iff] at h
   obtain ⟨rest,hr,h⟩:=h
   simp only [Prod.mk.injEq] at h
   obtain ⟨rfl,rfl⟩:=h
   obtain ⟨e1,e2⟩:=Y0 he
   obtain ⟨r1,_⟩:=Y0 hr
   unfold maxLen at hcm
   simp only [DataW.weights,ht,List.all_cons,Bool.and_eq_true,decide_eq_true_eq,reachBytes,List.length_map,e1,r1,hB] at hwt
   have hcapB:cap*B≤140737488351232:=by have:=of_decide_eq_true hwt.1; rwa [Nat.add_sub_cancel' hlc] at this
   have hlen:len*B≤140737488351232:=Nat.le_trans (Nat.mul_le_mul_right _ hlc) hcapB
   have hwe:(DataW.weightsAll P e (elems.map (·.1))).all (· ≤ reachBytes)=true:=MQ (m:=DataW.weightsAll P e (elems.map (·.1))++DataW.weightsAll P e (rest.map (·.1))) hwt.2 (fun n hn=>List.mem_append_left _ hn)
   obtain ⟨b,off,spot⟩:=a
   have key:∀ i,i<len→∃ us a,Aj (came w) w (f a) us∧ok a∧us.length=k∧(∀ j u,us[j]?=some u→w.cell? ((⟨b,off,spot⟩:Addr).add (i*k+j))=some u):=by
    intro i hi
    obtain ⟨x,hx,hxe⟩:=e2 i hi
    rw [Option.bind_eq_some_iff] at hxe
    obtain ⟨us,hus,htr⟩:=hxe
    rw [hk] at hus
    obtain ⟨c1,c2⟩:=AhX hus
    obtain ⟨a,ha,hok⟩:=hc enc w n us x.1 x.2 htr (MQ hwe fun m hm=>V4 hm (List.mem_map.2 ⟨x,List.mem_of_getElem? hx,rfl⟩)) (Abw hst fun m hm=>by rw [AfG]; exact AeY hm (List.mem_map.2 ⟨x,List.mem_of_getElem? hx,rfl⟩))
    refine ⟨us,a,ha,hok,c1,fun j u hj => ?_⟩
    have hjk:j<k:=by rw [←c1]; exact (List.getElem?_eq_some_iff.1 hj).1
    obtain ⟨u',hu',hcu⟩:=c2 j hjk
    rw [hj] at hu'; cases hu'
    rw [ApA] at hcu
    exact hcu
   by_cases hl0:len=0
   ·subst hl0
    refine ⟨[],?_,by simp,by simp,by simp⟩
    rw [Aj]; exact ⟨by simp,.inl ⟨rfl,_,cap,rfl,hcm⟩⟩
   ·have hsp:spot=none:=by
     obtain ⟨us,a,_,_,c1,c2⟩:=key 0 (by omega)
     have hu:us[0]?=some us[0]:=List.getElem?_eq_getElem (by omega)
     have:=c2 0 _ hu
     simpa [Addr.add] using World.cell?_spot this
    subst hsp
    obtain ⟨l,us,l1,l2,l3,l4,l5⟩:=Afo (f:=f) (ok:=ok) hw (w:=w) (b:=b) (off:=off) len 0 (fun i hi=>by
     obtain ⟨us,a,h1,h2,h3,h4⟩:=key i hi
     refine ⟨us,a,h1,h2,h3,fun j u hj => ?_⟩
     have:=h4 j u hj
     rw [AmO] at this
     rw [Nat.zero_add,Nat.add_assoc]; exact this)
    refine ⟨l,?_,l2,by rw [l1]; exact hlen,by omega⟩
    rw [Aj]
    refine ⟨fun x hx => ?_,.inr ⟨b,off,cap,us,by rw [List.length_map,l1],by rw [List.length_map,l1]; exact hlc,hcm,?_,l3,by simpa using l5⟩⟩
    ·obtain ⟨a,ha,rfl⟩:=List.mem_map.1 hx; exact hw a (l2 a ha)
    ·have hus:0<us.length:=by rw [l4]; exact Nat.mul_pos (by omega) (by omega)
     exact Aqo (l5 0 us[0] (List.getElem?_eq_getElem hus))
  ·cases h
end
section
variable {P:Program} {t e:TypeId} {α:Type} {f:α→TV} {ok:α→Prop} {k:Nat}
theorem PL {β:Type} {g:β→TV} {ok':β→Prop} (h:N8 R P t f ok) (hm:∀ a,ok a→∃ b,f a=g b∧ok' b):N8 R P t g ok':=by
 intro H enc w fuel cs d ps h1 h2 h2'
 obtain ⟨a,h3,h4⟩:=h enc w fuel cs d ps h1 h2 h2'
 obtain ⟨b,h5,h6⟩:=hm a h4
 exact ⟨b,by rw [←h5]; exact h3,h6⟩
theorem Ak1 (ht:P.underlying t=some (.int .u8)):N8 R P t by8 (fun _=>True) :=
 PL (AcF ht) fun n h=>by
  have:=bounds_u8 h
  refine ⟨UInt8.ofNat n.toNat,?_,trivial⟩
  rw [by8,UInt8.toNat_ofNat',Nat.mod_eq_of_lt (by omega)]
  congr 2; omega
theorem Ah5 (ht:P.underlying t=some (.int .i64)):N8 R P t i64 (fun n => -9223372036854775808≤n∧n≤9223372036854775807) :=
 PL (AcF ht) fun n h=>⟨n,rfl,by have:=bounds_i64 h; omega⟩
theorem Afa (ht:P.underlying t=some (.slice e)) (he:P.underlying e=some (.int .u8)) (hk:P.cellsOf e=1) (hB:P.bytesOf e=1):N8 R P t slB (fun l=>l.length≤140737488351232) :=
 PL (Aac ht hk hB (Ak1 he) (fun _ _=>rfl) (by omega)) fun l h=>⟨l,rfl,by have:=h.2; omega⟩
end
def Ad6 (R:Nat) (P:Program) (off:Nat) (fs:List Field) {α:Type} (f:α→List TV) (ok:α→Prop):Prop :=
 ∀ {H:Type} (enc:TypeId×Value→H) (w:World) (fuel:Nat) (cs:List Value) (xs:List (DataW H×List MemPlace)),(fs.mapM fun fd=>DataW.trod enc P w 0 (fun _=>true) true fuel fd.type ((cs.drop fd.offset).take (P.cellsOf fd.type)))=some xs→(DataW.weightsEach P (fs.map (·.type)) (xs.map (·.1))).all (· ≤ reachBytes)=true→(X5 (xs.map (·.1))).all (· ≤ R)=true →
  cs.length=off+(fs.map fun fd=>P.cellsOf fd.type).sum→∃ a,Ak (came w) w (f a) (cs.drop off)∧ok a
theorem Af0 {P:Program} {off:Nat}:Ad6 R P off [] (fun _:Unit=>[]) (fun _=>True):=by
 intro H enc w fuel cs xs _ _ _ hl
 refine ⟨(),?_,trivial⟩
 rw [Ak]; exact List.drop_eq_nil_of_le (by simp at hl; omega)
theorem Aaf {P:Program} {off n:Nat} {fd:Field} {fs:List Field} {α β:Type} {f:α→TV} {ok:α→Prop} {g:β→List TV} {ok':β→Prop} (h0:fd.offset=off) (hn:P.cellsOf fd.type=n) (hc:N8 R P fd.type f ok) (hr:Ad6 R P (off+n) fs g ok') :
  Ad6 R P off (fd::fs) (fun x:α×β=>f x.1::g x.2) (fun x=>ok x.1∧ok' x.2):=by
 intro H enc w fuel cs xs hx hw hs hl
 rw [List.mapM_cons] at hx
 cases h1:DataW.trod enc P w 0 (fun _=>true) true fuel fd.type ((cs.drop fd.offset).take (P.cellsOf fd.type)) with
 | none=>rw [h1] at hx; cases hx
 | some y =>
  rw [h1] at hx
  cases h2:(fs.mapM fun fd=>DataW.trod enc P w 0 (fun _=>true) true fuel fd.type ((cs.drop fd.offset).take (P.cellsOf fd.type))) with
  | none=>rw [h2] at hx; cases hx
  | some ys =>
   rw [h2] at hx
   have e:xs=y::ys:=by simpa using hx.symm
   subst e
   simp only [List.map_cons,DataW.weightsEach] at hw
   simp only [List.map_cons,X5] at hs
   obtain ⟨a,ha,hoka⟩:=hc enc w fuel _ y.1 y.2 h1 (MQ hw fun n hn=>List.mem_append_left _ hn) (Abw hs fun n hn=>List.mem_append_left _ hn)
   obtain ⟨b,hb,hokb⟩:=hr enc w fuel cs ys h2 (MQ hw fun n hn=>List.mem_append_right _ hn) (Abw hs fun n hn=>List.mem_append_right _ hn) (by simp [hn] at hl ⊢; omega)
   refine ⟨(a,b),?_,hoka,hokb⟩
   rw [Ak]
   refine ⟨(cs.drop off).take n,cs.drop (off+n),?_,by rw [←h0,←hn]; exact ha,hb⟩
   rw [←List.drop_drop,List.take_append_drop]
theorem Adv {P:Program} {t:TypeId} {fs:Array Field} {α:Type} {f:α→List TV} {ok:α→Prop} (ht:P.underlying t=some (.struct fs)) (hn:P.cellsOf t=(fs.toList.map fun fd=>P.cellsOf fd.type).sum) (hc:Ad6 R P 0 fs.toList f ok) :
  N8 R P t (fun a => .agg (f a)) ok:=by
 intro H enc w fuel cs d ps h hwt hst
 obtain ⟨m,rfl⟩:=AaW h
 unfold DataW.trod at h; rw [ht] at h
 split at h<;>rename_i h1<;>try (simp at h1; done)
 all_goals first
  | (simp at h; done)
  | exact ((‹∀ (fs_1:Array Field),some (TypeDesc.struct fs)=some (TypeDesc.struct fs_1)→False› : ∀ (fs_1:Array Field),some (TypeDesc.struct fs)=some (TypeDesc.struct fs_1)→False) fs rfl).elim
  | skip
 cases h1
 split at h
 ·rename_i hlen
  rw [Option.map_eq_some_iff] at h
  obtain ⟨xs,hx,h⟩:=h
  simp only [Prod.mk.injEq] at h
  obtain ⟨rfl,rfl⟩:=h
  simp only [DataW.weights,ht] at hwt
  obtain ⟨a,ha,hok⟩:=hc enc w m _ xs hx hwt (by rw [AfG] at hst; exact hst) (by rw [hlen,hn,Nat.zero_add])
  exact ⟨a,by rw [Aj]; rw [List.drop_zero] at ha; exact ha,hok⟩
 ·cases h
def Yd (R:Nat) (P:Program) (ts:List TypeId) {α:Type} (f:α→List TV) (ok:α→Prop):Prop :=
 ∀ {H:Type} (enc:TypeId×Value→H) (w:World) (vs:List Value) (ds:List (DataW H)) (ps:List MemPlace),DataW.TrodAll enc P w 0 (fun _=>true) true ts vs ds ps→(∀ (j:Nat) t v,ts[j]?=some t→vs[j]?=some v→∃ base,Value.okWide P w .any base t v)→(DataW.weightsEach P ts ds).all (· ≤ reachBytes)=true→(X5 ds).all (· ≤ R)=true→∃ a,BA (came w) w (f a) vs∧ok a
theorem Ad3 {P:Program}:Yd R P [] (fun _:Unit=>[]) (fun _=>True):=by
 intro H enc w vs ds ps h _ _ _
 obtain ⟨rfl,rfl,rfl⟩:=trodAll_nil h
 exact ⟨(),by rw [BA],trivial⟩
def AkP (P:Program) (t:TypeId) (b:Bool):Prop:=∀ w base v,Value.okWide P w .any base t v→if b then ∃ cs,v = .agg cs else v.cells = #[v]
theorem Aaa {P:Program} {t e:TypeId} (ht:P.underlying t=some (.slice e)):AkP P t false:=fun w _ v h=>by obtain ⟨_,_,_,rfl⟩:=okWide_slice ht h; rfl
theorem Alb {c:Ctx} {P:Program} {w:World} {t:TypeId} {v:Value} {x:TV} {b:Bool} (hf:AkP P t b) {base:Nat} (hv:Value.okWide P w .any base t v) (hx:WE x=b):v=mkV x v.cells.toList:=by
 have h:=hf w base v hv
 cases b with
 | true =>
  simp only [if_true] at h
  obtain ⟨cs,rfl⟩:=h
  rw [Ahq hx]; simp [Value.cells]
 | false =>
  simp only [Bool.false_eq_true,if_false] at h
  rw [h]
  exact (AaY hx).symm
theorem Wj {P:Program} {t:TypeId} {ts:List TypeId} {α β:Type} {f:α→TV} {ok:α→Prop} {g:β→List TV} {ok':β→Prop} {b:Bool} (hc:N8 R P t f ok) (hf:AkP P t b) (hm:∀ a,WE (f a)=b) (hr:Yd R P ts g ok') :
  Yd R P (t::ts) (fun x:α×β=>f x.1::g x.2) (fun x=>ok x.1∧ok' x.2):=by
 intro H enc w vs ds ps h hv hw hs
 obtain ⟨v,vs',d,ds',p,q,rfl,rfl,rfl,h0,r0⟩:=trodAll_cons h
 simp only [DataW.weightsEach] at hw
 simp only [X5] at hs
 obtain ⟨fuel,hfu⟩:=h0
 obtain ⟨a,ha,hoka⟩:=hc enc w fuel _ d p hfu (MQ hw fun n hn=>List.mem_append_left _ hn) (Abw hs fun n hn=>List.mem_append_left _ hn)
 obtain ⟨b,hb,hokb⟩:=hr enc w vs' ds' q r0 (fun j t v h1 h2=>hv (j+1) t v (by simpa using h1) (by simpa using h2)) (MQ hw fun n hn=>List.mem_append_right _ hn) (Abw hs fun n hn=>List.mem_append_right _ hn)
 refine ⟨(a,b),BA.cons.2 ⟨v,vs',rfl,.inr (.inr ⟨v.cells.toList,ha,Alb (c:=came w) hf (hv 0 t v rfl rfl).choose_spec (hm a)⟩),hb⟩,hoka,hokb⟩
theorem Yz {H:Type} {enc:TypeId×Value→H} {P:Program} (hl:laidOutB P=true) {W W':World} (hb:Below W.heap.size W W'):∀ {ts:List TypeId} {vs:List Value} {ds:List (DataW H)} {ps:List MemPlace},(ts.all fun t=>P.readableRec t && decide (t<P.types.size))=true →
  DataW.TrodAll enc P W 0 (fun _=>true) true ts vs ds ps→DataW.TrodAll enc P W' 0 (fun b=>decide (b<W.heap.size)) true ts vs ds ps
 | [],vs,ds,ps,_,h=>by
  obtain ⟨rfl,rfl,rfl⟩:=trodAll_nil h
  exact trodAll_mk0
 | t::ts,vs,ds,ps,hr,h=>by
  obtain ⟨v,vs',d,ds',p,q,rfl,rfl,rfl,h0,r0⟩:=trodAll_cons h
  simp only [List.all_cons,Bool.and_eq_true,decide_eq_true_eq] at hr
  refine trodAll_cons_mk (Below.trod hl hr.1.1 hr.1.2 h0 hb ?_) (Yz hl hb (by simpa using hr.2) r0)
  obtain ⟨m,hm⟩:=h0
  exact DataW.trod_lt m _ _ _ hm
theorem QL.below {F F':Nat→Prop} {w w':World} (h:QL F w F' w'):Below w.heap.size w w':=⟨h.os,h.tape,h.output,h.size,fun k hk=>h.same k hk⟩
theorem At1 {P:Program} {f:FuncId} {ts:List TypeId} {α:Type} {g:α→List TV} {ok:α→Prop} (hc:Yd R P ts g ok) (hlaw:∀ a,ok a→BC P f (g a) (fun x=>x=tb true)) {H:Type} {enc:TypeId×Value→H} {w:World} {args:Array Value} {ds:List (DataW H)} {ps:List MemPlace}
  (h:DataW.TrodAll enc P w 0 (fun _=>true) true ts args.toList ds ps) (hv:∀ (j:Nat) t v,ts[j]?=some t→args.toList[j]?=some v→∃ base,Value.okWide P w .any base t v) (hw:(DataW.weightsEach P ts ds).all (· ≤ reachBytes)=true) (hs:(X5 ds).all (· ≤ R)=true) (hg:Jp (fun b=>b<w.heap.size) w) :
  Calls P f args w fun e w'=>e = .returned (.bool true)∧Below w.heap.size w w':=by
 obtain ⟨a,ha,hok⟩:=hc enc w args.toList ds ps h hv hw hs
 have:=hlaw a hok (fun _ _=>none) (fun b=>b<w.heap.size) w args.toList ⟨fun b h=>h,hg⟩ ha
 rw [Array.toArray_toList] at this
 refine this.mono ?_
 rintro e w' ⟨v,x,F',rfl,rfl,hx,hst⟩
 rw [Rep.val] at hx
 exact ⟨by rw [hx],hst.below⟩
end
section
open Go.RowKit
variable [AP]
set_option autoImplicit false
end
section
open Go.RowKit
variable [AP]
section
variable {t:TypeId} {a b:Nat} {k2:IntKind}
end
end
section
open Go.RowKit
variable [AP]
section
variable {t:TypeId} {a b:Nat} {k2:IntKind}
theorem ZC {n:Nat} (h:n<18446744073709551616):IntKind.u64.wrap (n:Int)=n:=by rw [IntKind.wrap_u64]; omega
theorem AgV (h1:a*b<18446744073709551616):Fe t .mul (.int .u64 (a:Int)) (.int .u64 (b:Int))=some (.int .u64 ((a*b:Nat):Int)):=by
 rw [show Fe t .mul (.int .u64 (a:Int)) (.int .u64 (b:Int))=some (.int .u64 (IntKind.u64.wrap ((a:Int)*(b:Int)))) from rfl,show (a:Int)*(b:Int)=((a*b:Nat):Int) from rfl,ZC h1]
theorem AnR (h1:b≤a) (h2:a<18446744073709551616):Fe t .sub (.int .u64 (a:Int)) (.int .u64 (b:Int))=some (.int .u64 ((a - b:Nat):Int)):=by
 rw [show Fe t .sub (.int .u64 (a:Int)) (.int .u64 (b:Int))=some (.int .u64 (IntKind.u64.wrap ((a:Int) - (b:Int)))) from rfl,show (a:Int) - (b:Int)=((a - b:Nat):Int) from by omega,ZC (by omega)]
theorem AnO (h2:b≤63) (h4:a*2 ^ b<18446744073709551616):Fe t .shl (.int .u64 (a:Int)) (.int k2 (b:Int))=some (.int .u64 ((a*2 ^ b:Nat):Int)):=by
 have e:binOp .shl t (.int .u64 (a:Int)) (.int k2 (b:Int))=pure (.int .u64 ((a*2 ^ b:Nat):Int)):=by
  show Op.shift .shl .u64 a k2 b=_
  unfold Op.shift
  rw [if_neg (by omega)]
  have hm:min ((b:Int)).toNat IntKind.u64.bits=b:=by
   have:IntKind.u64.bits=64:=rfl
   omega
  simp only [hm]
  have e2:(a:Int)*2 ^ b=((a*2 ^ b:Nat):Int):=by rw [Int.natCast_mul,Int.natCast_pow]; rfl
  rw [e2,ZC h4]
 unfold Fe; rw [e]; rfl
end
end
section
open Go.RowKit
variable [AP]
set_option autoImplicit false
section
variable {t:TypeId} {a b:Nat} {k2:IntKind}
theorem Avr {n:Nat} (h:n<256):IntKind.u8.wrap (n:Int)=n:=by rw [IntKind.wrap_u8]; omega
theorem bv8 {n:Nat}:(BitVec.ofInt 8 (n:Int)).toNat=n % 256:=by
 rw [BitVec.toNat_ofInt]; omega
theorem Ao2:Fe t .add (.int .u8 (a:Int)) (.int .u8 (b:Int))=some (.int .u8 (((a+b) % 256:Nat):Int)):=by
 rw [show Fe t .add (.int .u8 (a:Int)) (.int .u8 (b:Int))=some (.int .u8 (IntKind.u8.wrap ((a:Int)+b))) from rfl,IntKind.wrap_u8]
 congr 2
theorem Ajq (h:b≤a) (h2:a<256):Fe t .sub (.int .u8 (a:Int)) (.int .u8 (b:Int))=some (.int .u8 ((a - b:Nat):Int)):=by
 rw [show Fe t .sub (.int .u8 (a:Int)) (.int .u8 (b:Int))=some (.int .u8 (IntKind.u8.wrap ((a:Int) - b))) from rfl,IntKind.wrap_u8]
 congr 2; omega
theorem AwX (h1:a<256) (h2:b<256):Fe t .or (.int .u8 (a:Int)) (.int .u8 (b:Int))=some (.int .u8 ((a ||| b:Nat):Int)):=by
 rw [show Fe t .or (.int .u8 (a:Int)) (.int .u8 (b:Int))=some (.int .u8 (IntKind.u8.wrap ((BitVec.ofInt 8 a ||| BitVec.ofInt 8 b).toNat:Int))) from rfl,BitVec.toNat_or,bv8,bv8,Nat.mod_eq_of_lt (by omega),Nat.mod_eq_of_lt (by omega)]
 have:=Nat.or_lt_two_pow (n:=8) (x:=a) (y:=b) (by omega) (by omega)
 rw [Avr (by omega)]
end
theorem AU {l:List UInt8}:bl (str l)=l:=by simp [bl,str]
theorem Aqx {l m:List UInt8}:str l++str m=str (l++m):=by
 apply ByteArray.ext
 simp [str]
theorem AdG {t:TypeId} {l m:List UInt8} (h:l.length+m.length≤9223372036854775807):Fe t .add (.string (str l)) (.string (str m))=some (.string (str (l++m))):=by
 have e1:(str l).size=l.length:=by show l.toArray.size=_; simp
 have e2:(str m).size=m.length:=by show m.toArray.size=_; simp
 rw [←Aqx,Fe,binOp_string_add,Op.stringOp]
 simp only [e1,e2]
 rw [if_neg (by show ¬ ((l.length+m.length:Nat):Int) > 9223372036854775807; omega)]
 rfl
end
section
variable [AP]
set_option maxRecDepth 100000
def JH:Af := .seq (.ops [mv_ 65 0,po_ 66 (.lenS (.t 65)),po_ 67 (.bin 3 .geq (.t 66) (ci_ 3)),mv_ 68 67,⟨some 69,.p (.mov (.t 0)),some ⟨68,true⟩⟩,⟨some 70,.p (.idxS (.t 69) (ci_ 1)),some ⟨68,true⟩⟩,⟨some 71,.s (.call 135 [.t 70]),some ⟨68,true⟩⟩,⟨some 72,.p (.bin 5 .eql (.t 71) (.c (.int .u8 ((120:Nat):Int)))),some ⟨68,true⟩⟩,po_ 73 (.pick (.t 68) (.t 72) (.c (.bool false))),mv_ 64 73] [0,2,8,9,64])
 (.cond (.t 64)
 (.seq (.ops [po_ 1 (.mov (ci_ 16))] [0,1,2,8,9])
  (.ops [mv_ 74 0,po_ 75 (.slS (.t 74) (some (ci_ 2)) none),mv_ 0 75] [0,1,2,8,9]))
 (.seq (.ops [po_ 1 (.mov (ci_ 8))] [0,1,2,8,9])
  (.ops [mv_ 38 0,po_ 39 (.slS (.t 38) (some (ci_ 1)) none),mv_ 0 39] [0,1,2,8,9])))
def Jw:Af := .cond (.t 52)
 (.seq (.ops [po_ 1 (.mov (ci_ 8))] [0,1,2,8,9])
  (.ops [mv_ 62 0,po_ 63 (.slS (.t 62) (some (ci_ 2)) none),mv_ 0 63] [0,1,2,8,9]))
 JH
def JA:Af := .seq (.ops [mv_ 53 0,po_ 54 (.lenS (.t 53)),po_ 55 (.bin 3 .geq (.t 54) (ci_ 3)),mv_ 56 55,⟨some 57,.p (.mov (.t 0)),some ⟨56,true⟩⟩,⟨some 58,.p (.idxS (.t 57) (ci_ 1)),some ⟨56,true⟩⟩,⟨some 59,.s (.call 135 [.t 58]),some ⟨56,true⟩⟩,⟨some 60,.p (.bin 5 .eql (.t 59) (.c (.int .u8 ((111:Nat):Int)))),some ⟨56,true⟩⟩,po_ 61 (.pick (.t 56) (.t 60) (.c (.bool false))),mv_ 52 61] [0,2,8,9,52])
 Jw
def Ju:Af := .cond (.t 40)
 (.seq (.ops [po_ 1 (.mov (ci_ 2))] [0,1,2,8,9])
  (.ops [mv_ 50 0,po_ 51 (.slS (.t 50) (some (ci_ 2)) none),mv_ 0 51] [0,1,2,8,9]))
 JA
def JI:Af := .block 1 (.seq (.ops [mv_ 41 0,po_ 42 (.lenS (.t 41)),po_ 43 (.bin 3 .geq (.t 42) (ci_ 3)),mv_ 44 43,⟨some 45,.p (.mov (.t 0)),some ⟨44,true⟩⟩,⟨some 46,.p (.idxS (.t 45) (ci_ 1)),some ⟨44,true⟩⟩,⟨some 47,.s (.call 135 [.t 46]),some ⟨44,true⟩⟩,⟨some 48,.p (.bin 5 .eql (.t 47) (.c (.int .u8 ((98:Nat):Int)))),some ⟨44,true⟩⟩,po_ 49 (.pick (.t 44) (.t 48) (.c (.bool false))),mv_ 40 49] [0,2,8,9,40])
 Ju)
def JP:Af := .cond (.t 37)
 JI
 (.skip)
def Jy:Af := .seq (.ops [mv_ 35 0,po_ 36 (.idxS (.t 35) (ci_ 0)),po_ 37 (.bin 5 .eql (.t 36) (.c (.int .u8 ((48:Nat):Int))))] [0,1,2,8,9,37])
 JP
def JD:Af := .seq (.ops [po_ 1 (.mov (ci_ 10))] [0,1,2,8,9])
 Jy
def JB:Af := .cond (.t 32)
 JD
 (.seq (.ops [po_ 24 (.iface 207 (ci_ 3)),po_ 6 (.mov (.c (.int .u64 ((0:Nat):Int)))),mv_ 7 24] [6,7])
  (.ret))
def II:Af := .seq (.ops [mv_ 33 1,po_ 34 (.bin 3 .eql (.t 33) (ci_ 0)),mv_ 32 34] [0,2,8,9,32])
 JB
def Eb:Af := .cond (.t 25)
 (.skip)
 II
def Ee:Af := .seq (.ops [mv_ 78 2,po_ 79 (.bin 3 .lss (.t 78) (ci_ 0)),mv_ 80 79,⟨some 81,.p (.mov (.t 2)),some ⟨80,false⟩⟩,⟨some 82,.p (.bin 3 .gtr (.t 81) (ci_ 64)),some ⟨80,false⟩⟩,po_ 83 (.pick (.t 80) (.c (.bool true)) (.t 82))] [0,1,2,8,9,83])
 (.cond (.t 83)
 (.seq (.ops [po_ 84 (.iface 207 (ci_ 4)),po_ 6 (.mov (.c (.int .u64 ((0:Nat):Int)))),mv_ 7 84] [6,7])
  (.ret))
 (.skip))
def Eg:Af := .seq (.ops [po_ 93 (.bin 3 .eql (.t 85) (ci_ 16)),mv_ 92 93] [0,1,2,8,9,92])
 (.cond (.t 92)
 (.ops [po_ 10 (.mov (.c (.int .u64 ((1152921504606846976:Nat):Int))))] [0,1,2,8,9,10])
 (.ops [mv_ 86 1,po_ 87 (.conv .u64 (.t 86)),po_ 88 (.bin 190 .quo (.c (.int .u64 ((18446744073709551615:Nat):Int))) (.t 87)),po_ 89 (.bin 190 .add (.t 88) (.c (.int .u64 ((1:Nat):Int)))),mv_ 10 89] [0,1,2,8,9,10]))
def Ea:Af := .seq (.ops [mv_ 122 15,so_ 123 (.call 135 [.t 122]),po_ 124 (.bin 5 .leq (.c (.int .u8 ((97:Nat):Int))) (.t 123)),mv_ 125 124,⟨some 126,.p (.mov (.t 15)),some ⟨125,true⟩⟩,⟨some 127,.s (.call 135 [.t 126]),some ⟨125,true⟩⟩,⟨some 128,.p (.bin 5 .leq (.t 127) (.c (.int .u8 ((122:Nat):Int)))),some ⟨125,true⟩⟩,po_ 129 (.pick (.t 125) (.t 128) (.c (.bool false))),mv_ 121 129] [1,8,9,10,11,12,13,15,99,100,101,121])
 (.cond (.t 121)
 (.ops [mv_ 130 15,so_ 131 (.call 135 [.t 130]),po_ 132 (.bin 5 .sub (.t 131) (.c (.int .u8 ((97:Nat):Int)))),po_ 133 (.bin 5 .add (.t 132) (.c (.int .u8 ((10:Nat):Int)))),mv_ 16 133] [1,8,9,10,11,12,13,16,99,100,101])
 (.seq (.ops [po_ 105 (.iface 207 (ci_ 2)),po_ 6 (.mov (.c (.int .u64 ((0:Nat):Int)))),mv_ 7 105] [6,7])
  (.ret)))
def Et:Af := .cond (.t 112)
 (.ops [mv_ 119 15,po_ 120 (.bin 5 .sub (.t 119) (.c (.int .u8 ((48:Nat):Int)))),mv_ 16 120] [1,8,9,10,11,12,13,16,99,100,101])
 Ea
def DY:Af := .seq (.ops [mv_ 113 15,po_ 114 (.bin 5 .leq (.c (.int .u8 ((48:Nat):Int))) (.t 113)),mv_ 115 114,⟨some 116,.p (.mov (.t 15)),some ⟨115,true⟩⟩,⟨some 117,.p (.bin 5 .leq (.t 116) (.c (.int .u8 ((57:Nat):Int)))),some ⟨115,true⟩⟩,po_ 118 (.pick (.t 115) (.t 117) (.c (.bool false))),mv_ 112 118] [1,8,9,10,11,12,13,15,99,100,101,112])
 Et
def DN:Af := .cond (.t 106)
 (.seq (.ops [po_ 12 (.mov (.c (.bool true)))] [1,8,9,10,11,12,13,99,100,101])
  (.exit 4))
 DY
def DX:Af := .seq (.seq (.ops [mv_ 152 17,mv_ 153 13,po_ 154 (.bin 190 .lss (.t 152) (.t 153)),mv_ 155 154,⟨some 156,.p (.mov (.t 17)),some ⟨155,false⟩⟩,⟨some 157,.p (.mov (.t 11)),some ⟨155,false⟩⟩,⟨some 158,.p (.bin 190 .gtr (.t 156) (.t 157)),some ⟨155,false⟩⟩,po_ 159 (.pick (.t 155) (.c (.bool true)) (.t 158))] [1,8,9,10,11,12,17,99,100,101,159])
 (.cond (.t 159)
 (.seq (.ops [mv_ 160 11,po_ 161 (.iface 207 (ci_ 1)),mv_ 6 160,mv_ 7 161] [6,7])
  (.ret))
 (.skip)))
 (.ops [mv_ 162 17,mv_ 13 162] [1,8,9,10,11,12,13,99,100,101])
def D9:Af := .seq (.ops [mv_ 148 13,mv_ 149 16,po_ 150 (.conv .u64 (.t 149)),po_ 151 (.bin 190 .add (.t 148) (.t 150)),mv_ 17 151] [1,8,9,10,11,12,13,17,99,100,101])
 DX
def D5:Af := .seq (.ops [mv_ 144 13,mv_ 145 1,po_ 146 (.conv .u64 (.t 145)),po_ 147 (.bin 190 .mul (.t 144) (.t 146)),mv_ 13 147] [1,8,9,10,11,12,13,16,99,100,101])
 D9
def Ey:Af := .seq (.seq (.ops [mv_ 139 13,mv_ 140 10,po_ 141 (.bin 190 .geq (.t 139) (.t 140))] [1,8,9,10,11,12,13,16,99,100,101,141])
 (.cond (.t 141)
 (.seq (.ops [mv_ 142 11,po_ 143 (.iface 207 (ci_ 1)),mv_ 6 142,mv_ 7 143] [6,7])
  (.ret))
 (.skip)))
 D5
def Ci:Af := .seq (.seq (.ops [mv_ 134 16,mv_ 135 1,po_ 136 (.conv .u8 (.t 135)),po_ 137 (.bin 5 .geq (.t 134) (.t 136))] [1,8,9,10,11,12,13,16,99,100,101,137])
 (.cond (.t 137)
 (.seq (.ops [po_ 138 (.iface 207 (ci_ 2)),po_ 6 (.mov (.c (.int .u64 ((0:Nat):Int)))),mv_ 7 138] [6,7])
  (.ret))
 (.skip)))
 Ey
def Ec:Af := .seq (.block 5 (.seq (.ops [mv_ 107 15,po_ 108 (.bin 5 .eql (.t 107) (.c (.int .u8 ((95:Nat):Int)))),mv_ 109 108,⟨some 110,.p (.mov (.t 8)),some ⟨109,true⟩⟩,po_ 111 (.pick (.t 109) (.t 110) (.c (.bool false))),mv_ 106 111] [1,8,9,10,11,12,13,15,99,100,101,106])
 DN))
 Ci
def Ed:Af := .seq (.ops [po_ 16 (.mov (.c (.int .u8 ((0:Nat):Int))))] [1,8,9,10,11,12,13,15,99,100,101])
 Ec
def Eh:Af := .seq (.block 4 (.seq (.ops [po_ 103 (.idxA 1 (.t 99) (.t 101)),po_ 104 (.load false 1 (.t 103)),mv_ 15 104] [1,8,9,10,11,12,13,15,99,100,101])
 Ed))
 (.ops [po_ 163 (.bin 3 .add (.t 101) (ci_ 1)),mv_ 101 163] [1,8,9,10,11,12,13,99,100,101])
def Em:Af := .seq (.cond (.t 102)
 (.skip)
 (.exit 3))
 Eh
def DZ:Af := .seq (.ops [po_ 102 (.bin 3 .lss (.t 101) (.t 100))] [1,8,9,10,11,12,13,99,100,101,102])
 Em
def Eu:Af := .block 3 (.loop [1,8,9,10,11,12,13,99,100,101] DZ)
def DK:Af := .seq (.seq (.ops [mv_ 164 12,mv_ 165 164,⟨some 166,.p (.mov (.t 9)),some ⟨165,true⟩⟩,⟨some 167,.s (.call 136 [.t 166]),some ⟨165,true⟩⟩,⟨some 168,.p (.un .not (.t 167)),some ⟨165,true⟩⟩,po_ 169 (.pick (.t 165) (.t 168) (.c (.bool false)))] [13,169])
 (.cond (.t 169)
 (.seq (.ops [po_ 170 (.iface 207 (ci_ 2)),po_ 6 (.mov (.c (.int .u64 ((0:Nat):Int)))),mv_ 7 170] [6,7])
  (.ret))
 (.skip)))
 (.seq (.ops [mv_ 171 13,mv_ 6 171,po_ 7 (.mov (.c .nilIface))] [6,7])
 (.ret))
def Ef:Af := .seq (.seq (.ops [mv_ 98 0,so_ 99 (.s2b (.t 98)),po_ 100 (.lenV (.t 99)),po_ 101 (.mov (ci_ 0))] [1,8,9,10,11,12,13,99,100,101])
 Eu)
 DK
def Es:Af := .seq (.ops [po_ 13 (.mov (.c (.int .u64 ((0:Nat):Int))))] [0,1,8,9,10,11,12,13])
 Ef
def DU:Af := .seq (.ops [po_ 12 (.mov (.c (.bool false)))] [0,1,8,9,10,11,12])
 Es
def DW:Af := .seq (.ops [mv_ 94 2,po_ 95 (.conv .u64 (.t 94)),po_ 96 (.bin 190 .shl (.c (.int .u64 ((1:Nat):Int))) (.t 95)),po_ 97 (.bin 190 .sub (.t 96) (.c (.int .u64 ((1:Nat):Int)))),mv_ 11 97] [0,1,8,9,10,11])
 DU
def Ej:Af := .seq (.seq (.ops [mv_ 85 1] [0,1,2,8,9,85])
 (.block 2 (.seq (.ops [po_ 91 (.bin 3 .eql (.t 85) (ci_ 10)),mv_ 90 91] [0,1,2,8,9,85,90])
 (.cond (.t 90)
 (.ops [po_ 10 (.mov (.c (.int .u64 ((1844674407370955162:Nat):Int))))] [0,1,2,8,9,10])
 Eg))))
 DW
def DL:Af := .seq (.ops [po_ 10 (.mov (.c (.int .u64 ((0:Nat):Int))))] [0,1,2,8,9])
 Ej
def Ep:Af := .seq (.seq (.ops [mv_ 76 2,po_ 77 (.bin 3 .eql (.t 76) (ci_ 0))] [0,1,2,8,9,77])
 (.cond (.t 77)
 (.ops [po_ 2 (.mov (ci_ 64))] [0,1,2,8,9])
 Ee))
 DL
def En:Af := .seq (.block 0 (.seq (.ops [mv_ 26 1,po_ 27 (.bin 3 .leq (ci_ 2) (.t 26)),mv_ 28 27,⟨some 29,.p (.mov (.t 1)),some ⟨28,true⟩⟩,⟨some 30,.p (.bin 3 .leq (.t 29) (ci_ 36)),some ⟨28,true⟩⟩,po_ 31 (.pick (.t 28) (.t 30) (.c (.bool false))),mv_ 25 31] [0,1,2,8,9,25])
 Eb))
 Ep
def D6:Af := .seq (.ops [mv_ 23 0,mv_ 9 23] [0,1,2,8,9])
 En
def Ew:Af := .seq (.ops [mv_ 21 1,po_ 22 (.bin 3 .eql (.t 21) (ci_ 0)),mv_ 8 22] [0,1,2,8])
 D6
def D7:Af := .seq (.seq (.ops [mv_ 18 0,po_ 19 (.bin 9 .eql (.t 18) (.c (.string (str []))))] [0,1,2,19])
 (.cond (.t 19)
 (.seq (.ops [po_ 20 (.iface 207 (ci_ 2)),po_ 6 (.mov (.c (.int .u64 ((0:Nat):Int)))),mv_ 7 20] [6,7])
  (.ret))
 (.skip)))
 Ew
def EZ:Af := .seq (.ops [po_ 6 (.mov (.c (.int .u64 ((0:Nat):Int)))),po_ 7 (.mov (.c .nilIface))] [0,1,2])
 D7
def E9:List VR:=[.tmp 6,.tmp 7]
theorem MN:Tryz.f119.body.bind (trC Tryz.prog Tryz.f119.ntmps)=some (er EZ):=by kernel_rfl
theorem MJ:trR Tryz.prog Tryz.f119.results.toList=some E9:=by kernel_rfl
def G9:=Ac Eb.eq_1
def GL:=Ac Ee.eq_1
def G5:=Ac Eg.eq_1
def BQ:=Ac Ea.eq_1
def Bq:=Ac Et.eq_1
def Bv:=Ac DY.eq_1
def Bo:=Ac DN.eq_1
def Dp:=Ac DX.eq_1
def Dk:=Ac D9.eq_1
def Dq:=Ac D5.eq_1
def Dl:=Ac Ey.eq_1
def BO:=Ac Ci.eq_1
def Bi:=Ac Ec.eq_1
def Bj:=Ac Ed.eq_1
def Bg:=Ac Eh.eq_1
def AZ:=Ac Em.eq_1
def AY:=Ac DZ.eq_1
def GZ:=Ac Eu.eq_1
def GM:=Ac DK.eq_1
def GR:=Ac Ef.eq_1
def GH:=Ac Es.eq_1
def G7:=Ac DU.eq_1
def GG:=Ac DW.eq_1
def GX:=Ac Ej.eq_1
def Gz:=Ac DL.eq_1
def GY:=Ac Ep.eq_1
def Ha:=Ac En.eq_1
def G6:=Ac D6.eq_1
def GN:=Ac Ew.eq_1
def Dn:=Ac D7.eq_1
def EI:=Ac EZ.eq_1
theorem Ap {K:TV→Prop} {e:Env} {H:List Ob}:res E9 e H K=res [.tmp 6,.tmp 7] e H K:=Aa rfl
def LH:=Dj 172 Tryz.func119 MN MJ rfl
def Gv:Af := .seq (.ops [po_ 2 (.mov (.c (.int .u8 ((0:Nat):Int))))] [0])
 (.seq (.ops [mv_ 3 0,po_ 4 (.bin 5 .or (.t 3) (.c (.int .u8 ((32:Nat):Int)))),mv_ 2 4] [2])
 (.ret))
def Gs:List VR:=[.tmp 2]
theorem PH:Tryz.f135.body.bind (trC Tryz.prog Tryz.f135.ntmps)=some (er Gv):=by kernel_rfl
theorem QF:trR Tryz.prog Tryz.f135.results.toList=some Gs:=by kernel_rfl
def NW:=Ac Gv.eq_1
theorem NP {K:TV→Prop} {e:Env} {H:List Ob}:res Gs e H K=res [.tmp 2] e H K:=Aa rfl
def Qu:=(aI_ @NW @NP)
def O0:=Dj 5 Tryz.func135 PH QF rfl
def Ja:Af := .seq (.ops [mv_ 19 8,mv_ 20 0,mv_ 21 1,mv_ 22 2,mv_ 23 9,so_ 24 (.call 108 [.c (.string (str [80,97,114,115,101,85,105,110,116])),.t 20,.t 21,.t 22,.t 23]),mv_ 6 19,mv_ 7 24] [6,7])
 (.ret)
def Jm:Af := .seq (.seq (.ops [mv_ 17 9,po_ 18 (.eqN 1 (.t 17) (.c .nilIface) true)] [0,1,2,8,9,18])
 (.cond (.t 18)
 Ja
 (.skip)))
 (.seq (.ops [mv_ 25 8,mv_ 6 25,po_ 7 (.mov (.c .nilIface))] [6,7])
 (.ret))
def I7:Af := .seq (.ops [mv_ 11 0,mv_ 12 1,mv_ 13 2,so_ 14 (.call 119 [.t 11,.t 12,.t 13]),mv_ 10 14,po_ 15 (.ext 0 (.t 10)),po_ 16 (.ext 1 (.t 10)),mv_ 8 15,mv_ 9 16] [0,1,2,8,9])
 Jm
def Nk:Af := .seq (.ops [po_ 6 (.mov (.c (.int .u64 ((0:Nat):Int)))),po_ 7 (.mov (.c .nilIface))] [0,1,2])
 I7
def MX:List VR:=[.tmp 6,.tmp 7]
theorem Xl:Tryz.f103.body.bind (trC Tryz.prog Tryz.f103.ntmps)=some (er Nk):=by kernel_rfl
theorem Xn:trR Tryz.prog Tryz.f103.results.toList=some MX:=by kernel_rfl
def P6:=Ac Ja.eq_1
def PQ:=Ac Jm.eq_1
def PV:=Ac I7.eq_1
def TW:=Ac Nk.eq_1
theorem UF {K:TV→Prop} {e:Env} {H:List Ob}:res MX e H K=res [.tmp 6,.tmp 7] e H K:=Aa rfl
def EK:=(aI_ (aI_ (aI_ @P6 @PQ) (aI_ @PV @TW)) @UF)
def VD:=Dj 26 Tryz.func103 Xl Xn rfl
def Pz:Af := .seq (.seq (.ops [mv_ 6 0,po_ 7 (.bin 3 .gtr (.t 6) (ci_ 0))] [0,3,7])
 (.cond (.t 7)
 (.skip)
 (.exit 0)))
 (.block 1 (.seq (.ops [mv_ 8 0,po_ 9 (.bin 3 .rem (.t 8) (ci_ 10)),po_ 10 (.bin 3 .add (ci_ 48) (.t 9)),po_ 11 (.conv .u8 (.t 10)),⟨some 12,.s (.bslice 1 1 (.val (.int .u8 ((0:Nat):Int))) [⟨0,.t 11⟩]),none⟩,po_ 13 (.b2s (.t 12)),mv_ 14 3,po_ 15 (.bin 9 .add (.t 13) (.t 14)),mv_ 3 15] [0,3])
 (.ops [mv_ 16 0,po_ 17 (.bin 3 .quo (.t 16) (ci_ 10)),mv_ 0 17] [0,3])))
def Qz:Af := .seq (.ops [mv_ 18 3,mv_ 2 18] [2])
 (.ret)
def PO:Af := .seq (.block 0 (.loop [0,3] Pz))
 Qz
def PI:Af := .seq (.ops [po_ 3 (.mov (.c (.string (str []))))] [0,3])
 PO
def PY:Af := .seq (.seq (.ops [mv_ 4 0,po_ 5 (.bin 3 .eql (.t 4) (ci_ 0))] [0,5])
 (.cond (.t 5)
 (.seq (.ops [po_ 2 (.mov (.c (.string (str [48]))))] [2])
  (.ret))
 (.skip)))
 PI
def Wn:Af := .seq (.ops [po_ 2 (.mov (.c (.string (str []))))] [0])
 PY
def V9:List VR:=[.tmp 2]
theorem Ach:Tryz.f51.body.bind (trC Tryz.prog Tryz.f51.ntmps)=some (er Wn):=by kernel_rfl
theorem Acr:trR Tryz.prog Tryz.f51.results.toList=some V9:=by kernel_rfl
def Xe:=Ac Pz.eq_1
def Xc:=Ac Qz.eq_1
def Xf:=Ac PO.eq_1
def WI:=Ac PI.eq_1
def WF:=Ac PY.eq_1
def Aat:=Ac Wn.eq_1
theorem AaQ {K:TV→Prop} {e:Env} {H:List Ob}:res V9 e H K=res [.tmp 2] e H K:=Aa rfl
def JX:=(aI_ (aI_ (aI_ @Xe @Xc) (aI_ @Xf @WI)) (aI_ (aI_ @WF @Aat) @AaQ))
def AbH:=Dj 19 Tryz.func51 Ach Acr rfl
end
section
open Go.RowKit
variable [AP]
end
end Go.Proofs.YtnikbdnebdmmiaaGreatDoor
namespace Go.Proofs
open Go.Shelf
def Tryz.lays156_ren:Go.Shelf.Ren:=⟨fun | 156=>55 | 165=>87 | 166=>88 | 169=>57 | 240=>89 | 241=>109 | 276=>110 | 277=>131 | n=>n,fun | 31=>111 | 9=>9 | 3=>3 | 4=>4 | 0=>0 | 20=>20 | 72=>116 | 76=>164 | 70=>114 | 37=>23 | 75=>25 | 127=>168 | 164=>121 | 5=>5 | 80=>119 | n=>n,fun | n=>n⟩
theorem Tryz.lays156:Go.Proofs.Lays.n156 Tryz.prog Tryz.lays156_ren:={
 mixed:=by kernel_rfl
 f156:=Tryz.func55.trans (congrArg some (by kernel_rfl))
 f165:=Tryz.func87.trans (congrArg some (by kernel_rfl))
 f166:=Tryz.func88.trans (congrArg some (by kernel_rfl))
 f169:=Tryz.func57.trans (congrArg some (by kernel_rfl))
 f240:=Tryz.func89.trans (congrArg some (by kernel_rfl))
 f241:=Tryz.func109.trans (congrArg some (by kernel_rfl))
 f276:=Tryz.func110.trans (congrArg some (by kernel_rfl))
 f277:=Tryz.func131.trans (congrArg some (by kernel_rfl))
 t0:=Tryz.underlying0
 a0:=Tryz.isAgg0
 z0:=Tryz.sizeOf0
 v0:=Tryz.zeroValue0
 t3:=Tryz.underlying3
 a3:=Tryz.isAgg3
 z3:=Tryz.sizeOf3
 v3:=Tryz.zeroValue3
 t4:=Tryz.underlying4
 a4:=Tryz.isAgg4
 z4:=Tryz.sizeOf4
 v4:=Tryz.zeroValue4
 t9:=Tryz.underlying9
 a9:=Tryz.isAgg9
 z9:=Tryz.sizeOf9
 v9:=Tryz.zeroValue9
 t20:=Tryz.underlying20
 a20:=Tryz.isAgg20
 z20:=Tryz.sizeOf20
 v20:=Tryz.zeroValue20
 t31:=Tryz.underlying111
 a31:=Tryz.isAgg111
 z31:=Tryz.sizeOf111
 v31:=Tryz.zeroValue111
 t37:=Tryz.underlying23
 a37:=Tryz.isAgg23
 z37:=Tryz.sizeOf23
 v37:=Tryz.zeroValue23
 t70:=Tryz.underlying114
 a70:=Tryz.isAgg114
 z70:=Tryz.sizeOf114
 v70:=Tryz.zeroValue114
 t72:=Tryz.underlying116
 a72:=Tryz.isAgg116
 z72:=Tryz.sizeOf116
 v72:=Tryz.zeroValue116
 t75:=Tryz.underlying25
 a75:=Tryz.isAgg25
 z75:=Tryz.sizeOf25
 v75:=Tryz.zeroValue25
 t76:=Tryz.underlying164
 a76:=Tryz.isAgg164
 z76:=Tryz.sizeOf164
 v76:=Tryz.zeroValue164
 t127:=Tryz.underlying168
 a127:=Tryz.isAgg168
 z127:=Tryz.sizeOf168
 v127:=Tryz.zeroValue168
 t164:=Tryz.underlying121
 a164:=Tryz.isAgg121
 z164:=Tryz.sizeOf121
 v164:=Tryz.zeroValue121 }
theorem Tryz.Builder_Extra_156:Builder.Extra Tryz.prog Tryz.lays156_ren:={
 sizeBuilder:=by kernel_rfl
 liesBuilder:=by kernel_rfl
 t5:=Tryz.underlying5
 a5:=Tryz.isAgg5
 z5:=Tryz.sizeOf5
 v5:=Tryz.zeroValue5
 infoByte:=by kernel_rfl
 cellsByte:=by kernel_rfl
 sizeByte:=by kernel_rfl
 neB5:=by decide }
open Go.RowKit in
theorem Tryz.strings_Join (bk o c:Nat) (xs:List ByteArray) (sep:ByteArray) (w:World) (hcells:∀ (j:Nat) x,xs[j]?=some x→w.cell? ⟨bk,o+j,none⟩=some (.string x)) (hbk:bk<w.heap.size) (hN:xs.length≤140737488355328) (hcap:xs.length≤c) (hlen:(Lib.join (xs.map (·.data.toList)) sep.data.toList).length≤140737488355328) :
  Calls Tryz.prog 55 #[.slice (some ⟨bk,o,none⟩) xs.length c,.string sep] w fun e w'=>e = .returned (.string ⟨(Lib.join (xs.map (·.data.toList)) sep.data.toList).toArray⟩)∧Below w.heap.size w w':=Any.strings_Join Tryz.lays156 Tryz.Builder_Extra_156 bk o c xs sep w hcells hbk hN hcap hlen
def Tryz.laysM171_ren:Go.Shelf.Ren:=⟨fun | 171=>50 | 243=>83 | 246=>106 | 283=>122 | 284=>123 | 285=>124 | 286=>125 | 129=>140 | 317=>139 | 318=>141 | 319=>142 | 320=>143 | 337=>147 | 338=>148 | n=>n,fun | 3=>3 | 9=>9 | 2=>2 | 4=>4 | 171=>202 | 0=>0 | 53=>190 | 37=>23 | 5=>5 | 173=>205 | 212=>216 | 51=>217 | 20=>20 | 213=>218 | 46=>118 | 232=>235 | 233=>236 | n=>n,fun | 17=>2 | 18=>7 | 19=>8 | n=>n⟩
theorem Tryz.laysM171:Go.Proofs.LaysM.n171 Tryz.prog Tryz.laysM171_ren:={
 mixed:=by kernel_rfl
 f129:=Tryz.func140.trans (congrArg some (by kernel_rfl))
 f171:=Tryz.func50.trans (congrArg some (by kernel_rfl))
 f243:=Tryz.func83.trans (congrArg some (by kernel_rfl))
 f246:=Tryz.func106.trans (congrArg some (by kernel_rfl))
 f283:=Tryz.func122.trans (congrArg some (by kernel_rfl))
 f284:=Tryz.func123.trans (congrArg some (by kernel_rfl))
 f285:=Tryz.func124.trans (congrArg some (by kernel_rfl))
 f286:=Tryz.func125.trans (congrArg some (by kernel_rfl))
 f317:=Tryz.func139.trans (congrArg some (by kernel_rfl))
 f318:=Tryz.func141.trans (congrArg some (by kernel_rfl))
 f319:=Tryz.func142.trans (congrArg some (by kernel_rfl))
 f320:=Tryz.func143.trans (congrArg some (by kernel_rfl))
 f337:=Tryz.func147.trans (congrArg some (by kernel_rfl))
 f338:=Tryz.func148.trans (congrArg some (by kernel_rfl))
 t0:=Tryz.underlying0
 a0:=Tryz.isAgg0
 z0:=Tryz.sizeOf0
 v0:=Tryz.zeroValue0
 t2:=Tryz.underlying2
 a2:=Tryz.isAgg2
 z2:=Tryz.sizeOf2
 v2:=Tryz.zeroValue2
 t3:=Tryz.underlying3
 a3:=Tryz.isAgg3
 z3:=Tryz.sizeOf3
 v3:=Tryz.zeroValue3
 t4:=Tryz.underlying4
 a4:=Tryz.isAgg4
 z4:=Tryz.sizeOf4
 v4:=Tryz.zeroValue4
 t5:=Tryz.underlying5
 a5:=Tryz.isAgg5
 z5:=Tryz.sizeOf5
 v5:=Tryz.zeroValue5
 t9:=Tryz.underlying9
 a9:=Tryz.isAgg9
 z9:=Tryz.sizeOf9
 v9:=Tryz.zeroValue9
 t20:=Tryz.underlying20
 a20:=Tryz.isAgg20
 z20:=Tryz.sizeOf20
 v20:=Tryz.zeroValue20
 t37:=Tryz.underlying23
 a37:=Tryz.isAgg23
 z37:=Tryz.sizeOf23
 v37:=Tryz.zeroValue23
 t46:=Tryz.underlying118
 a46:=Tryz.isAgg118
 z46:=Tryz.sizeOf118
 v46:=Tryz.zeroValue118
 t51:=Tryz.underlying217
 a51:=Tryz.isAgg217
 z51:=Tryz.sizeOf217
 v51:=Tryz.zeroValue217
 t53:=Tryz.underlying190
 a53:=Tryz.isAgg190
 z53:=Tryz.sizeOf190
 v53:=Tryz.zeroValue190
 t171:=Tryz.underlying202
 a171:=Tryz.isAgg202
 z171:=Tryz.sizeOf202
 v171:=Tryz.zeroValue202
 t173:=Tryz.underlying205
 a173:=Tryz.isAgg205
 z173:=Tryz.sizeOf205
 v173:=Tryz.zeroValue205
 t212:=Tryz.underlying216
 a212:=Tryz.isAgg216
 z212:=Tryz.sizeOf216
 v212:=Tryz.zeroValue216
 t213:=Tryz.underlying218
 a213:=Tryz.isAgg218
 z213:=Tryz.sizeOf218
 t232:=Tryz.underlying235
 a232:=Tryz.isAgg235
 z232:=Tryz.sizeOf235
 v232:=Tryz.zeroValue235
 t233:=Tryz.underlying236
 a233:=Tryz.isAgg236
 z233:=Tryz.sizeOf236
 v233:=Tryz.zeroValue236
 g17:=by kernel_rfl
 g18:=by kernel_rfl
 g19:=by kernel_rfl
 i0:=by kernel_rfl
 i2:=by kernel_rfl
 i3:=by kernel_rfl
 i4:=by kernel_rfl
 i5:=by kernel_rfl
 i9:=by kernel_rfl
 i20:=by kernel_rfl
 i37:=by kernel_rfl
 i46:=by kernel_rfl
 i51:=by kernel_rfl
 i53:=by kernel_rfl
 i171:=by kernel_rfl
 i173:=by kernel_rfl
 i212:=by kernel_rfl
 i232:=by kernel_rfl
 i233:=by kernel_rfl
 m17:=by kernel_rfl
 m18:=by kernel_rfl
 m19:=by kernel_rfl }
open Go.RowKit Go.Sort Go.Lib in
theorem Tryz.strconv_Itoa (n:Int) (h0 : -9223372036854775808≤n) (h1:n≤9223372036854775807) (w:World) (htab:Lib.TabIs Tryz.prog w "internal/strconv.uint64pow10" .u64 Lib.pow10Tab) :
  Calls Tryz.prog 50 #[.int .i64 n] w fun e w'=>e = .returned (.string ⟨(Lib.itoa n).toArray⟩)∧∃ k os,w'=grow (w.drewN k) os:=Any.strconv_Itoa Tryz.laysM171 n h0 h1 w htab
def Tryz.laysC245_ren:Go.Shelf.Ren:=⟨fun | 245=>108 | 279=>127 | 280=>128 | 281=>129 | 282=>130 | 316=>144 | 171=>50 | 205=>145 | 243=>83 | 246=>106 | 283=>122 | 284=>123 | 285=>124 | 286=>125 | 129=>140 | 317=>139 | 318=>141 | 319=>142 | 320=>143 | 337=>147 | 338=>148 | n=>n,fun | 9=>9 | 3=>3 | 75=>25 | 167=>207 | 4=>4 | 168=>210 | 210=>223 | 37=>23 | 0=>0 | 127=>168 | 145=>234 | 143=>232 | 2=>2 | 171=>202 | 53=>190 | 5=>5 | 173=>205 | 212=>216 | 51=>217 | 20=>20 | 213=>218 | 46=>118 | 232=>235 | 233=>236 | 80=>119 | n=>n,fun | 15=>3 | 16=>4 | 17=>2 | 18=>7 | 19=>8 | n=>n⟩
theorem Tryz.laysC245:Go.Proofs.LaysC.n245 Tryz.prog Tryz.laysC245_ren:={
 mixed:=by kernel_rfl
 f129:=Tryz.func140.trans (congrArg some (by kernel_rfl))
 f171:=Tryz.func50.trans (congrArg some (by kernel_rfl))
 f205:=Tryz.func145.trans (congrArg some (by kernel_rfl))
 f243:=Tryz.func83.trans (congrArg some (by kernel_rfl))
 f245:=Tryz.func108.trans (congrArg some (by kernel_rfl))
 f246:=Tryz.func106.trans (congrArg some (by kernel_rfl))
 f279:=Tryz.func127.trans (congrArg some (by kernel_rfl))
 f280:=Tryz.func128.trans (congrArg some (by kernel_rfl))
 f281:=Tryz.func129.trans (congrArg some (by kernel_rfl))
 f282:=Tryz.func130.trans (congrArg some (by kernel_rfl))
 f283:=Tryz.func122.trans (congrArg some (by kernel_rfl))
 f284:=Tryz.func123.trans (congrArg some (by kernel_rfl))
 f285:=Tryz.func124.trans (congrArg some (by kernel_rfl))
 f286:=Tryz.func125.trans (congrArg some (by kernel_rfl))
 f316:=Tryz.func144.trans (congrArg some (by kernel_rfl))
 f317:=Tryz.func139.trans (congrArg some (by kernel_rfl))
 f318:=Tryz.func141.trans (congrArg some (by kernel_rfl))
 f319:=Tryz.func142.trans (congrArg some (by kernel_rfl))
 f320:=Tryz.func143.trans (congrArg some (by kernel_rfl))
 f337:=Tryz.func147.trans (congrArg some (by kernel_rfl))
 f338:=Tryz.func148.trans (congrArg some (by kernel_rfl))
 t0:=Tryz.underlying0
 a0:=Tryz.isAgg0
 z0:=Tryz.sizeOf0
 v0:=Tryz.zeroValue0
 t2:=Tryz.underlying2
 a2:=Tryz.isAgg2
 z2:=Tryz.sizeOf2
 v2:=Tryz.zeroValue2
 t3:=Tryz.underlying3
 a3:=Tryz.isAgg3
 z3:=Tryz.sizeOf3
 v3:=Tryz.zeroValue3
 t4:=Tryz.underlying4
 a4:=Tryz.isAgg4
 z4:=Tryz.sizeOf4
 v4:=Tryz.zeroValue4
 t5:=Tryz.underlying5
 a5:=Tryz.isAgg5
 z5:=Tryz.sizeOf5
 v5:=Tryz.zeroValue5
 t9:=Tryz.underlying9
 a9:=Tryz.isAgg9
 z9:=Tryz.sizeOf9
 v9:=Tryz.zeroValue9
 t20:=Tryz.underlying20
 a20:=Tryz.isAgg20
 z20:=Tryz.sizeOf20
 v20:=Tryz.zeroValue20
 t37:=Tryz.underlying23
 a37:=Tryz.isAgg23
 z37:=Tryz.sizeOf23
 v37:=Tryz.zeroValue23
 t46:=Tryz.underlying118
 a46:=Tryz.isAgg118
 z46:=Tryz.sizeOf118
 v46:=Tryz.zeroValue118
 t51:=Tryz.underlying217
 a51:=Tryz.isAgg217
 z51:=Tryz.sizeOf217
 v51:=Tryz.zeroValue217
 t53:=Tryz.underlying190
 a53:=Tryz.isAgg190
 z53:=Tryz.sizeOf190
 v53:=Tryz.zeroValue190
 t75:=Tryz.underlying25
 a75:=Tryz.isAgg25
 z75:=Tryz.sizeOf25
 v75:=Tryz.zeroValue25
 t127:=Tryz.underlying168
 a127:=Tryz.isAgg168
 z127:=Tryz.sizeOf168
 v127:=Tryz.zeroValue168
 t143:=Tryz.underlying232
 a143:=Tryz.isAgg232
 z143:=Tryz.sizeOf232
 v143:=Tryz.zeroValue232
 t145:=Tryz.underlying234
 a145:=Tryz.isAgg234
 z145:=Tryz.sizeOf234
 v145:=Tryz.zeroValue234
 t167:=Tryz.underlying207
 a167:=Tryz.isAgg207
 z167:=Tryz.sizeOf207
 v167:=Tryz.zeroValue207
 t168:=Tryz.underlying210
 a168:=Tryz.isAgg210
 z168:=Tryz.sizeOf210
 v168:=Tryz.zeroValue210
 t171:=Tryz.underlying202
 a171:=Tryz.isAgg202
 z171:=Tryz.sizeOf202
 v171:=Tryz.zeroValue202
 t173:=Tryz.underlying205
 a173:=Tryz.isAgg205
 z173:=Tryz.sizeOf205
 v173:=Tryz.zeroValue205
 t210:=Tryz.underlying223
 a210:=Tryz.isAgg223
 z210:=Tryz.sizeOf223
 v210:=Tryz.zeroValue223
 t212:=Tryz.underlying216
 a212:=Tryz.isAgg216
 z212:=Tryz.sizeOf216
 v212:=Tryz.zeroValue216
 t213:=Tryz.underlying218
 a213:=Tryz.isAgg218
 z213:=Tryz.sizeOf218
 t232:=Tryz.underlying235
 a232:=Tryz.isAgg235
 z232:=Tryz.sizeOf235
 v232:=Tryz.zeroValue235
 t233:=Tryz.underlying236
 a233:=Tryz.isAgg236
 z233:=Tryz.sizeOf236
 v233:=Tryz.zeroValue236
 g15:=by kernel_rfl
 g16:=by kernel_rfl
 g17:=by kernel_rfl
 g18:=by kernel_rfl
 g19:=by kernel_rfl
 t80:=Tryz.underlying119
 a80:=Tryz.isAgg119
 z80:=Tryz.sizeOf119
 v80:=Tryz.zeroValue119
 i0:=by kernel_rfl
 i2:=by kernel_rfl
 i3:=by kernel_rfl
 i4:=by kernel_rfl
 i5:=by kernel_rfl
 i9:=by kernel_rfl
 i20:=by kernel_rfl
 i37:=by kernel_rfl
 i46:=by kernel_rfl
 i51:=by kernel_rfl
 i53:=by kernel_rfl
 i75:=by kernel_rfl
 i80:=by kernel_rfl
 i127:=by kernel_rfl
 i143:=by kernel_rfl
 i145:=by kernel_rfl
 i167:=by kernel_rfl
 i168:=by kernel_rfl
 i171:=by kernel_rfl
 i173:=by kernel_rfl
 i210:=by kernel_rfl
 i212:=by kernel_rfl
 i232:=by kernel_rfl
 i233:=by kernel_rfl
 m15:=by kernel_rfl
 m16:=by kernel_rfl
 m17:=by kernel_rfl
 m18:=by kernel_rfl
 m19:=by kernel_rfl
 c0:=by kernel_rfl
 c2:=by kernel_rfl
 c3:=by kernel_rfl
 c4:=by kernel_rfl
 c5:=by kernel_rfl
 c9:=by kernel_rfl
 c20:=by kernel_rfl
 c37:=by kernel_rfl
 c46:=by kernel_rfl
 c51:=by kernel_rfl
 c53:=by kernel_rfl
 c75:=by kernel_rfl
 c80:=by kernel_rfl
 c127:=by kernel_rfl
 c143:=by kernel_rfl
 c145:=by kernel_rfl
 c167:=by kernel_rfl
 c168:=by kernel_rfl
 c171:=by kernel_rfl
 c173:=by kernel_rfl
 c210:=by kernel_rfl
 c212:=by kernel_rfl
 c213:=by kernel_rfl
 c232:=by kernel_rfl
 c233:=by kernel_rfl }
open Go.RowKit in
theorem Tryz.strconv_toError_syntax (fn s:ByteArray) (base bits:Int) (ev:Value) (w:World) (hlim:s.size≤281474976710656) (hv:w.cell? ⟨3,0,none⟩=some ev) (hev:ev = .nilIface∨∃ te pe,ev = .iface te pe) :
  Calls Tryz.prog 108 #[.string fn,.string s,.int .i64 base,.int .i64 bits,.iface 207 (.int .i64 2)] w fun e w'=>∃ N,e = .returned (.iface 210 (.pointer (some ⟨N,0,none⟩)))∧w.heap.size≤N∧w'.heap[N]?=some (.cells #[.string fn,.string s,ev] 223 (0,0))∧Below w.heap.size w w':=Any.strconv_toError_syntax Tryz.laysC245 fn s base bits ev w hlim hv hev
open Go.RowKit in
theorem Tryz.strconv_toError_range (fn s:ByteArray) (base bits:Int) (ev:Value) (w:World) (hlim:s.size≤281474976710656) (hv:w.cell? ⟨4,0,none⟩=some ev) (hev:ev = .nilIface∨∃ te pe,ev = .iface te pe) :
  Calls Tryz.prog 108 #[.string fn,.string s,.int .i64 base,.int .i64 bits,.iface 207 (.int .i64 1)] w fun e w'=>∃ N,e = .returned (.iface 210 (.pointer (some ⟨N,0,none⟩)))∧w.heap.size≤N∧w'.heap[N]?=some (.cells #[.string fn,.string s,ev] 223 (0,0))∧Below w.heap.size w w':=Any.strconv_toError_range Tryz.laysC245 fn s base bits ev w hlim hv hev
def Tryz.laysC172_ren:Go.Shelf.Ren:=⟨fun | 172=>84 | 244=>107 | 245=>108 | 247=>126 | 279=>127 | 280=>128 | 281=>129 | 282=>130 | 287=>119 | 316=>144 | 171=>50 | 205=>145 | 321=>135 | 322=>136 | 243=>83 | 246=>106 | 283=>122 | 284=>123 | 285=>124 | 286=>125 | 129=>140 | 317=>139 | 318=>141 | 319=>142 | 320=>143 | 337=>147 | 338=>148 | n=>n,fun | 9=>9 | 3=>3 | 75=>25 | 76=>164 | 4=>4 | 5=>5 | 167=>207 | 37=>23 | 0=>0 | 85=>208 | 2=>2 | 168=>210 | 53=>190 | 175=>191 | 46=>118 | 210=>223 | 127=>168 | 145=>234 | 143=>232 | 21=>21 | 171=>202 | 173=>205 | 212=>216 | 51=>217 | 20=>20 | 213=>218 | 232=>235 | 233=>236 | 80=>119 | n=>n,fun | 15=>3 | 16=>4 | 17=>2 | 18=>7 | 19=>8 | n=>n⟩
theorem Tryz.laysC172:Go.Proofs.LaysC.n172 Tryz.prog Tryz.laysC172_ren:={
 mixed:=by kernel_rfl
 f129:=Tryz.func140.trans (congrArg some (by kernel_rfl))
 f171:=Tryz.func50.trans (congrArg some (by kernel_rfl))
 f172:=Tryz.func84.trans (congrArg some (by kernel_rfl))
 f205:=Tryz.func145.trans (congrArg some (by kernel_rfl))
 f243:=Tryz.func83.trans (congrArg some (by kernel_rfl))
 f244:=Tryz.func107.trans (congrArg some (by kernel_rfl))
 f245:=Tryz.func108.trans (congrArg some (by kernel_rfl))
 f246:=Tryz.func106.trans (congrArg some (by kernel_rfl))
 f247:=Tryz.func126.trans (congrArg some (by kernel_rfl))
 f279:=Tryz.func127.trans (congrArg some (by kernel_rfl))
 f280:=Tryz.func128.trans (congrArg some (by kernel_rfl))
 f281:=Tryz.func129.trans (congrArg some (by kernel_rfl))
 f282:=Tryz.func130.trans (congrArg some (by kernel_rfl))
 f283:=Tryz.func122.trans (congrArg some (by kernel_rfl))
 f284:=Tryz.func123.trans (congrArg some (by kernel_rfl))
 f285:=Tryz.func124.trans (congrArg some (by kernel_rfl))
 f286:=Tryz.func125.trans (congrArg some (by kernel_rfl))
 f287:=Tryz.func119.trans (congrArg some (by kernel_rfl))
 f316:=Tryz.func144.trans (congrArg some (by kernel_rfl))
 f317:=Tryz.func139.trans (congrArg some (by kernel_rfl))
 f318:=Tryz.func141.trans (congrArg some (by kernel_rfl))
 f319:=Tryz.func142.trans (congrArg some (by kernel_rfl))
 f320:=Tryz.func143.trans (congrArg some (by kernel_rfl))
 f321:=Tryz.func135.trans (congrArg some (by kernel_rfl))
 f322:=Tryz.func136.trans (congrArg some (by kernel_rfl))
 f337:=Tryz.func147.trans (congrArg some (by kernel_rfl))
 f338:=Tryz.func148.trans (congrArg some (by kernel_rfl))
 t0:=Tryz.underlying0
 a0:=Tryz.isAgg0
 z0:=Tryz.sizeOf0
 v0:=Tryz.zeroValue0
 t2:=Tryz.underlying2
 a2:=Tryz.isAgg2
 z2:=Tryz.sizeOf2
 v2:=Tryz.zeroValue2
 t3:=Tryz.underlying3
 a3:=Tryz.isAgg3
 z3:=Tryz.sizeOf3
 v3:=Tryz.zeroValue3
 t4:=Tryz.underlying4
 a4:=Tryz.isAgg4
 z4:=Tryz.sizeOf4
 v4:=Tryz.zeroValue4
 t5:=Tryz.underlying5
 a5:=Tryz.isAgg5
 z5:=Tryz.sizeOf5
 v5:=Tryz.zeroValue5
 t9:=Tryz.underlying9
 a9:=Tryz.isAgg9
 z9:=Tryz.sizeOf9
 v9:=Tryz.zeroValue9
 t20:=Tryz.underlying20
 a20:=Tryz.isAgg20
 z20:=Tryz.sizeOf20
 v20:=Tryz.zeroValue20
 t21:=Tryz.underlying21
 a21:=Tryz.isAgg21
 z21:=Tryz.sizeOf21
 v21:=Tryz.zeroValue21
 t37:=Tryz.underlying23
 a37:=Tryz.isAgg23
 z37:=Tryz.sizeOf23
 v37:=Tryz.zeroValue23
 t46:=Tryz.underlying118
 a46:=Tryz.isAgg118
 z46:=Tryz.sizeOf118
 v46:=Tryz.zeroValue118
 t51:=Tryz.underlying217
 a51:=Tryz.isAgg217
 z51:=Tryz.sizeOf217
 v51:=Tryz.zeroValue217
 t53:=Tryz.underlying190
 a53:=Tryz.isAgg190
 z53:=Tryz.sizeOf190
 v53:=Tryz.zeroValue190
 t75:=Tryz.underlying25
 a75:=Tryz.isAgg25
 z75:=Tryz.sizeOf25
 v75:=Tryz.zeroValue25
 t76:=Tryz.underlying164
 a76:=Tryz.isAgg164
 z76:=Tryz.sizeOf164
 v76:=Tryz.zeroValue164
 t85:=Tryz.underlying208
 a85:=Tryz.isAgg208
 z85:=Tryz.sizeOf208
 v85:=Tryz.zeroValue208
 t127:=Tryz.underlying168
 a127:=Tryz.isAgg168
 z127:=Tryz.sizeOf168
 v127:=Tryz.zeroValue168
 t143:=Tryz.underlying232
 a143:=Tryz.isAgg232
 z143:=Tryz.sizeOf232
 v143:=Tryz.zeroValue232
 t145:=Tryz.underlying234
 a145:=Tryz.isAgg234
 z145:=Tryz.sizeOf234
 v145:=Tryz.zeroValue234
 t167:=Tryz.underlying207
 a167:=Tryz.isAgg207
 z167:=Tryz.sizeOf207
 v167:=Tryz.zeroValue207
 t168:=Tryz.underlying210
 a168:=Tryz.isAgg210
 z168:=Tryz.sizeOf210
 v168:=Tryz.zeroValue210
 t171:=Tryz.underlying202
 a171:=Tryz.isAgg202
 z171:=Tryz.sizeOf202
 v171:=Tryz.zeroValue202
 t173:=Tryz.underlying205
 a173:=Tryz.isAgg205
 z173:=Tryz.sizeOf205
 v173:=Tryz.zeroValue205
 t175:=Tryz.underlying191
 a175:=Tryz.isAgg191
 z175:=Tryz.sizeOf191
 v175:=Tryz.zeroValue191
 t210:=Tryz.underlying223
 a210:=Tryz.isAgg223
 z210:=Tryz.sizeOf223
 v210:=Tryz.zeroValue223
 t212:=Tryz.underlying216
 a212:=Tryz.isAgg216
 z212:=Tryz.sizeOf216
 v212:=Tryz.zeroValue216
 t213:=Tryz.underlying218
 a213:=Tryz.isAgg218
 z213:=Tryz.sizeOf218
 t232:=Tryz.underlying235
 a232:=Tryz.isAgg235
 z232:=Tryz.sizeOf235
 v232:=Tryz.zeroValue235
 t233:=Tryz.underlying236
 a233:=Tryz.isAgg236
 z233:=Tryz.sizeOf236
 v233:=Tryz.zeroValue236
 g15:=by kernel_rfl
 g16:=by kernel_rfl
 g17:=by kernel_rfl
 g18:=by kernel_rfl
 g19:=by kernel_rfl
 t80:=Tryz.underlying119
 a80:=Tryz.isAgg119
 z80:=Tryz.sizeOf119
 v80:=Tryz.zeroValue119
 i0:=by kernel_rfl
 i2:=by kernel_rfl
 i3:=by kernel_rfl
 i4:=by kernel_rfl
 i5:=by kernel_rfl
 i9:=by kernel_rfl
 i20:=by kernel_rfl
 i21:=by kernel_rfl
 i37:=by kernel_rfl
 i46:=by kernel_rfl
 i51:=by kernel_rfl
 i53:=by kernel_rfl
 i75:=by kernel_rfl
 i76:=by kernel_rfl
 i80:=by kernel_rfl
 i85:=by kernel_rfl
 i127:=by kernel_rfl
 i143:=by kernel_rfl
 i145:=by kernel_rfl
 i167:=by kernel_rfl
 i168:=by kernel_rfl
 i171:=by kernel_rfl
 i173:=by kernel_rfl
 i175:=by kernel_rfl
 i210:=by kernel_rfl
 i212:=by kernel_rfl
 i232:=by kernel_rfl
 i233:=by kernel_rfl
 m15:=by kernel_rfl
 m16:=by kernel_rfl
 m17:=by kernel_rfl
 m18:=by kernel_rfl
 m19:=by kernel_rfl
 c0:=by kernel_rfl
 c2:=by kernel_rfl
 c3:=by kernel_rfl
 c4:=by kernel_rfl
 c5:=by kernel_rfl
 c9:=by kernel_rfl
 c20:=by kernel_rfl
 c21:=by kernel_rfl
 c37:=by kernel_rfl
 c46:=by kernel_rfl
 c51:=by kernel_rfl
 c53:=by kernel_rfl
 c75:=by kernel_rfl
 c76:=by kernel_rfl
 c80:=by kernel_rfl
 c85:=by kernel_rfl
 c127:=by kernel_rfl
 c143:=by kernel_rfl
 c145:=by kernel_rfl
 c167:=by kernel_rfl
 c168:=by kernel_rfl
 c171:=by kernel_rfl
 c173:=by kernel_rfl
 c175:=by kernel_rfl
 c210:=by kernel_rfl
 c212:=by kernel_rfl
 c213:=by kernel_rfl
 c232:=by kernel_rfl
 c233:=by kernel_rfl }
open Go.RowKit in
theorem Tryz.strconv_Atoi_ok (s:ByteArray) (hmax:s.size≤9223372036854775806) (v:Int) (h:Lib.atoiAll s.data.toList = .ok v) (w:World) :
  Calls Tryz.prog 84 #[.string s] w fun e w'=>e = .returned (.tuple #[.int .i64 v,.nilIface])∧(w'=w∨∃ t,w'=Lib.bytesWorld w 5 t):=Any.strconv_Atoi_ok Tryz.laysC172 s hmax v h w
open Go.RowKit in
theorem Tryz.strconv_Atoi_syntax (s:ByteArray) (hlim:s.size≤281474976710656) (h:Lib.atoiAll s.data.toList = .«syntax») (ev:Value) (w:World) (hv:w.cell? ⟨3,0,none⟩=some ev) (hev:ev = .nilIface∨∃ te pe,ev = .iface te pe) :
  Calls Tryz.prog 84 #[.string s] w fun e w'=>∃ N,e = .returned (.tuple #[.int .i64 (0),.iface 210 (.pointer (some ⟨N,0,none⟩))])∧w.heap.size≤N∧w'.heap[N]?=some (.cells #[.string ⟨#[65,116,111,105]⟩,.string s,ev] 223 (0,0))∧Below w.heap.size w w':=Any.strconv_Atoi_syntax Tryz.laysC172 s hlim h ev w hv hev
open Go.RowKit in
theorem Tryz.strconv_Atoi_range (s:ByteArray) (hlim:s.size≤281474976710656) (h:Lib.atoiAll s.data.toList = .range) (ev:Value) (w:World) (hv:w.cell? ⟨4,0,none⟩=some ev) (hev:ev = .nilIface∨∃ te pe,ev = .iface te pe) :
  Calls Tryz.prog 84 #[.string s] w fun e w'=>∃ N,e = .returned (.tuple #[.int .i64 (Lib.atoiSat s.data.toList),.iface 210 (.pointer (some ⟨N,0,none⟩))])∧w.heap.size≤N∧w'.heap[N]?=some (.cells #[.string ⟨#[65,116,111,105]⟩,.string s,ev] 223 (0,0))∧Below w.heap.size w w':=Any.strconv_Atoi_range Tryz.laysC172 s hlim h ev w hv hev
def Tryz.lays143_ren:Go.Shelf.Ren:=⟨fun | 143=>99 | 219=>112 | 217=>111 | 225=>116 | 224=>115 | 267=>133 | 266=>132 | 314=>146 | n=>n,fun | 9=>9 | 3=>3 | 4=>4 | 5=>5 | 46=>118 | 146=>225 | 51=>217 | n=>n,fun | 1=>1 | n=>n⟩
theorem Tryz.lays143:Go.Proofs.Lays.n143 Tryz.prog Tryz.lays143_ren:={
 mixed:=by kernel_rfl
 f143:=Tryz.func99.trans (congrArg some (by kernel_rfl))
 f217:=Tryz.func111.trans (congrArg some (by kernel_rfl))
 f219:=Tryz.func112.trans (congrArg some (by kernel_rfl))
 f224:=Tryz.func115.trans (congrArg some (by kernel_rfl))
 f225:=Tryz.func116.trans (congrArg some (by kernel_rfl))
 f266:=Tryz.func132.trans (congrArg some (by kernel_rfl))
 f267:=Tryz.func133.trans (congrArg some (by kernel_rfl))
 f314:=Tryz.func146.trans (congrArg some (by kernel_rfl))
 t3:=Tryz.underlying3
 a3:=Tryz.isAgg3
 z3:=Tryz.sizeOf3
 v3:=Tryz.zeroValue3
 t4:=Tryz.underlying4
 a4:=Tryz.isAgg4
 z4:=Tryz.sizeOf4
 v4:=Tryz.zeroValue4
 t5:=Tryz.underlying5
 a5:=Tryz.isAgg5
 z5:=Tryz.sizeOf5
 v5:=Tryz.zeroValue5
 t9:=Tryz.underlying9
 a9:=Tryz.isAgg9
 z9:=Tryz.sizeOf9
 v9:=Tryz.zeroValue9
 t46:=Tryz.underlying118
 a46:=Tryz.isAgg118
 z46:=Tryz.sizeOf118
 v46:=Tryz.zeroValue118
 t51:=Tryz.underlying217
 a51:=Tryz.isAgg217
 z51:=Tryz.sizeOf217
 v51:=Tryz.zeroValue217
 t146:=Tryz.underlying225
 a146:=Tryz.isAgg225
 z146:=Tryz.sizeOf225
 v146:=Tryz.zeroValue225
 g1:=by kernel_rfl }
open Go.RowKit Go.Lib in
theorem Tryz.strings_Index_one (s:ByteArray) (c:UInt8) (w:World) :
  Calls Tryz.prog 99 #[.string s,.string ⟨#[c]⟩] w fun e w'=>e = .returned (.int .i64 (Lib.indexByte s.data.toList c))∧w'=w:=Any.strings_Index_one Tryz.lays143 s c w
def Tryz.lays144_ren:Go.Shelf.Ren:=⟨fun | 144=>72 | 143=>99 | 219=>112 | 217=>111 | 225=>116 | 224=>115 | 267=>133 | 266=>132 | 314=>146 | n=>n,fun | 9=>9 | 4=>4 | 3=>3 | 5=>5 | 46=>118 | 146=>225 | 51=>217 | n=>n,fun | 1=>1 | n=>n⟩
theorem Tryz.lays144:Go.Proofs.Lays.n144 Tryz.prog Tryz.lays144_ren:={
 mixed:=by kernel_rfl
 f143:=Tryz.func99.trans (congrArg some (by kernel_rfl))
 f144:=Tryz.func72.trans (congrArg some (by kernel_rfl))
 f217:=Tryz.func111.trans (congrArg some (by kernel_rfl))
 f219:=Tryz.func112.trans (congrArg some (by kernel_rfl))
 f224:=Tryz.func115.trans (congrArg some (by kernel_rfl))
 f225:=Tryz.func116.trans (congrArg some (by kernel_rfl))
 f266:=Tryz.func132.trans (congrArg some (by kernel_rfl))
 f267:=Tryz.func133.trans (congrArg some (by kernel_rfl))
 f314:=Tryz.func146.trans (congrArg some (by kernel_rfl))
 t3:=Tryz.underlying3
 a3:=Tryz.isAgg3
 z3:=Tryz.sizeOf3
 v3:=Tryz.zeroValue3
 t4:=Tryz.underlying4
 a4:=Tryz.isAgg4
 z4:=Tryz.sizeOf4
 v4:=Tryz.zeroValue4
 t5:=Tryz.underlying5
 a5:=Tryz.isAgg5
 z5:=Tryz.sizeOf5
 v5:=Tryz.zeroValue5
 t9:=Tryz.underlying9
 a9:=Tryz.isAgg9
 z9:=Tryz.sizeOf9
 v9:=Tryz.zeroValue9
 t46:=Tryz.underlying118
 a46:=Tryz.isAgg118
 z46:=Tryz.sizeOf118
 v46:=Tryz.zeroValue118
 t51:=Tryz.underlying217
 a51:=Tryz.isAgg217
 z51:=Tryz.sizeOf217
 v51:=Tryz.zeroValue217
 t146:=Tryz.underlying225
 a146:=Tryz.isAgg225
 z146:=Tryz.sizeOf225
 v146:=Tryz.zeroValue225
 g1:=by kernel_rfl }
open Go.RowKit Go.Lib in
theorem Tryz.strings_Contains (s sub:ByteArray) (m:Int) (w:World) (hs:s.size<4294967281) (hm:w.cell? ⟨1,0,none⟩=some (.int .i64 m)) :
  Calls Tryz.prog 72 #[.string s,.string sub] w fun e w'=>e = .returned (.bool (Lib.contains s.data.toList sub.data.toList))∧w'=w:=Any.strings_Contains Tryz.lays144 s sub m w hs hm
def Tryz.lays138_ren:Go.Shelf.Ren:=⟨fun | 138=>121 | 195=>137 | 218=>138 | 143=>99 | 219=>112 | 217=>111 | 225=>116 | 224=>115 | 267=>133 | 266=>132 | 314=>146 | n=>n,fun | 9=>9 | 3=>3 | 4=>4 | 5=>5 | 0=>0 | 46=>118 | 146=>225 | 51=>217 | n=>n,fun | 1=>1 | n=>n⟩
theorem Tryz.lays138:Go.Proofs.Lays.n138 Tryz.prog Tryz.lays138_ren:={
 mixed:=by kernel_rfl
 f138:=Tryz.func121.trans (congrArg some (by kernel_rfl))
 f143:=Tryz.func99.trans (congrArg some (by kernel_rfl))
 f195:=Tryz.func137.trans (congrArg some (by kernel_rfl))
 f217:=Tryz.func111.trans (congrArg some (by kernel_rfl))
 f218:=Tryz.func138.trans (congrArg some (by kernel_rfl))
 f219:=Tryz.func112.trans (congrArg some (by kernel_rfl))
 f224:=Tryz.func115.trans (congrArg some (by kernel_rfl))
 f225:=Tryz.func116.trans (congrArg some (by kernel_rfl))
 f266:=Tryz.func132.trans (congrArg some (by kernel_rfl))
 f267:=Tryz.func133.trans (congrArg some (by kernel_rfl))
 f314:=Tryz.func146.trans (congrArg some (by kernel_rfl))
 t0:=Tryz.underlying0
 a0:=Tryz.isAgg0
 z0:=Tryz.sizeOf0
 v0:=Tryz.zeroValue0
 t3:=Tryz.underlying3
 a3:=Tryz.isAgg3
 z3:=Tryz.sizeOf3
 v3:=Tryz.zeroValue3
 t4:=Tryz.underlying4
 a4:=Tryz.isAgg4
 z4:=Tryz.sizeOf4
 v4:=Tryz.zeroValue4
 t5:=Tryz.underlying5
 a5:=Tryz.isAgg5
 z5:=Tryz.sizeOf5
 v5:=Tryz.zeroValue5
 t9:=Tryz.underlying9
 a9:=Tryz.isAgg9
 z9:=Tryz.sizeOf9
 v9:=Tryz.zeroValue9
 t46:=Tryz.underlying118
 a46:=Tryz.isAgg118
 z46:=Tryz.sizeOf118
 v46:=Tryz.zeroValue118
 t51:=Tryz.underlying217
 a51:=Tryz.isAgg217
 z51:=Tryz.sizeOf217
 v51:=Tryz.zeroValue217
 t146:=Tryz.underlying225
 a146:=Tryz.isAgg225
 z146:=Tryz.sizeOf225
 v146:=Tryz.zeroValue225
 g1:=by kernel_rfl }
open Go.RowKit Go.Lib in
theorem Tryz.strings_Count_one (s:ByteArray) (c:UInt8) (w:World) :
  Calls Tryz.prog 121 #[.string s,.string ⟨#[c]⟩] w fun e w'=>e = .returned (.int .i64 (Lib.countByte s.data.toList c))∧w'=w:=Any.strings_Count_one Tryz.lays138 s c w
def Tryz.lays99_ren:Go.Shelf.Ren:=⟨fun | 99=>70 | 206=>97 | n=>n,fun | 9=>9 | 4=>4 | 3=>3 | n=>n,fun | n=>n⟩
theorem Tryz.lays99:Go.Proofs.Lays.n99 Tryz.prog Tryz.lays99_ren:={
 mixed:=by kernel_rfl
 f99:=Tryz.func70.trans (congrArg some (by kernel_rfl))
 f206:=Tryz.func97.trans (congrArg some (by kernel_rfl))
 t3:=Tryz.underlying3
 a3:=Tryz.isAgg3
 z3:=Tryz.sizeOf3
 v3:=Tryz.zeroValue3
 t4:=Tryz.underlying4
 a4:=Tryz.isAgg4
 z4:=Tryz.sizeOf4
 v4:=Tryz.zeroValue4
 t9:=Tryz.underlying9
 a9:=Tryz.isAgg9
 z9:=Tryz.sizeOf9
 v9:=Tryz.zeroValue9 }
open Go.RowKit Go.Lib in
theorem Tryz.strings_HasPrefix (s p:ByteArray) (w:World) :
  Calls Tryz.prog 70 #[.string s,.string p] w fun e w'=>e = .returned (.bool (Lib.hasPrefix s.data.toList p.data.toList))∧w'=w:=Any.strings_HasPrefix Tryz.lays99 s p w
def Tryz.lays100_ren:Go.Shelf.Ren:=⟨fun | 100=>71 | 207=>98 | n=>n,fun | 9=>9 | 4=>4 | 3=>3 | n=>n,fun | n=>n⟩
theorem Tryz.lays100:Go.Proofs.Lays.n100 Tryz.prog Tryz.lays100_ren:={
 mixed:=by kernel_rfl
 f100:=Tryz.func71.trans (congrArg some (by kernel_rfl))
 f207:=Tryz.func98.trans (congrArg some (by kernel_rfl))
 t3:=Tryz.underlying3
 a3:=Tryz.isAgg3
 z3:=Tryz.sizeOf3
 v3:=Tryz.zeroValue3
 t4:=Tryz.underlying4
 a4:=Tryz.isAgg4
 z4:=Tryz.sizeOf4
 v4:=Tryz.zeroValue4
 t9:=Tryz.underlying9
 a9:=Tryz.isAgg9
 z9:=Tryz.sizeOf9
 v9:=Tryz.zeroValue9 }
open Go.RowKit Go.Lib in
theorem Tryz.strings_HasSuffix (s p:ByteArray) (w:World) (hs:s.size≤9223372036854775807) :
  Calls Tryz.prog 71 #[.string s,.string p] w fun e w'=>e = .returned (.bool (Lib.hasSuffix s.data.toList p.data.toList))∧w'=w:=Any.strings_HasSuffix Tryz.lays100 s p w hs
def Tryz.lays102_ren:Go.Shelf.Ren:=⟨fun | 102=>79 | 209=>105 | 207=>98 | n=>n,fun | 9=>9 | 4=>4 | 3=>3 | n=>n,fun | n=>n⟩
theorem Tryz.lays102:Go.Proofs.Lays.n102 Tryz.prog Tryz.lays102_ren:={
 mixed:=by kernel_rfl
 f102:=Tryz.func79.trans (congrArg some (by kernel_rfl))
 f207:=Tryz.func98.trans (congrArg some (by kernel_rfl))
 f209:=Tryz.func105.trans (congrArg some (by kernel_rfl))
 t3:=Tryz.underlying3
 a3:=Tryz.isAgg3
 z3:=Tryz.sizeOf3
 v3:=Tryz.zeroValue3
 t4:=Tryz.underlying4
 a4:=Tryz.isAgg4
 z4:=Tryz.sizeOf4
 v4:=Tryz.zeroValue4
 t9:=Tryz.underlying9
 a9:=Tryz.isAgg9
 z9:=Tryz.sizeOf9
 v9:=Tryz.zeroValue9 }
open Go.RowKit Go.Lib in
theorem Tryz.strings_TrimSuffix (s p:ByteArray) (w:World) (hs:s.size≤9223372036854775807) :
  Calls Tryz.prog 79 #[.string s,.string p] w fun e w'=>e = .returned (.string ⟨(Lib.trimSuffix s.data.toList p.data.toList).toArray⟩)∧w'=w:=Any.strings_TrimSuffix Tryz.lays102 s p w hs
def Tryz.lays151_ren:Go.Shelf.Ren:=⟨fun | 151=>75 | 152=>101 | 137=>95 | 119=>114 | 224=>115 | 225=>116 | 217=>111 | 266=>132 | n=>n,fun | 9=>9 | 21=>21 | 4=>4 | 3=>3 | 5=>5 | 0=>0 | 46=>118 | n=>n,fun | n=>n⟩
theorem Tryz.lays151:Go.Proofs.Lays.n151 Tryz.prog Tryz.lays151_ren:={
 mixed:=by kernel_rfl
 f119:=Tryz.func114.trans (congrArg some (by kernel_rfl))
 f137:=Tryz.func95.trans (congrArg some (by kernel_rfl))
 f151:=Tryz.func75.trans (congrArg some (by kernel_rfl))
 f152:=Tryz.func101.trans (congrArg some (by kernel_rfl))
 f217:=Tryz.func111.trans (congrArg some (by kernel_rfl))
 f224:=Tryz.func115.trans (congrArg some (by kernel_rfl))
 f225:=Tryz.func116.trans (congrArg some (by kernel_rfl))
 f266:=Tryz.func132.trans (congrArg some (by kernel_rfl))
 t0:=Tryz.underlying0
 a0:=Tryz.isAgg0
 z0:=Tryz.sizeOf0
 v0:=Tryz.zeroValue0
 t3:=Tryz.underlying3
 a3:=Tryz.isAgg3
 z3:=Tryz.sizeOf3
 v3:=Tryz.zeroValue3
 t4:=Tryz.underlying4
 a4:=Tryz.isAgg4
 z4:=Tryz.sizeOf4
 v4:=Tryz.zeroValue4
 t5:=Tryz.underlying5
 a5:=Tryz.isAgg5
 z5:=Tryz.sizeOf5
 v5:=Tryz.zeroValue5
 t9:=Tryz.underlying9
 a9:=Tryz.isAgg9
 z9:=Tryz.sizeOf9
 v9:=Tryz.zeroValue9
 t21:=Tryz.underlying21
 a21:=Tryz.isAgg21
 z21:=Tryz.sizeOf21
 v21:=Tryz.zeroValue21
 t46:=Tryz.underlying118
 a46:=Tryz.isAgg118
 z46:=Tryz.sizeOf118
 v46:=Tryz.zeroValue118 }
open Go.RowKit Go.Lib in
theorem Tryz.strings_ContainsRune_ascii (s:ByteArray) (r:Int) (w:World) (h0:0≤r) (h1:r<128) :
  Calls Tryz.prog 75 #[.string s,.int .i32 r] w fun e w'=>e = .returned (.bool (decide (0≤Lib.indexByte s.data.toList r.toNat.toUInt8)))∧w'=w:=Any.strings_ContainsRune_ascii Tryz.lays151 s r w h0 h1
end Go.Proofs
namespace Go.Proofs.YtnikbdnebdmmiaaGreatDoor
section
open Go.RowKit
variable [AP]
theorem AcV (b:UInt8):BC Tryz.prog 135 [by8 b] (fun r=>r = .val (.int .u8 ((b.toNat ||| 32:Nat):Int))):=by
 refine Am.toPureV (O0 (by simp) ?_)
 have hb:=b.toNat_lt
 simp -dsimp (disch:=first | assumption | omega | (simp only [Ae];try omega)) only [↓Ai,Ad,Ag,Ah,eq_self,↓reduceIte,reduceCtorEq,↓Qu,AwX]
class Au [AP]:Prop where
 k:∃ t a,IM 3=some (.one (.iface t (.pointer (some a))))
class Az [AP]:Prop where
 k:∃ t a,IM 4=some (.one (.iface t (.pointer (some a))))
theorem Yr {F:Nat→Prop} {w:World} (h:Jp F w) {g:Nat} {v:Value} (e:IM g=some (.one v)):w.cell? ⟨g,0,none⟩=some v:=by
 have:=h.at e 0 v rfl
 simpa using this
variable [Au] [Az]
theorem Ath (fn s:List UInt8) (base bits:Int) (hs:s.length≤1000000) (c:Nat) (hc:c=1∨c=2):BC Tryz.prog 108 [ts fn,ts s,i64 base,i64 bits,.ifc 207 (i64 (c:Int))] (fun r=>r = .ifc 210 .any):=by
 intro β F w vs hF hv
 obtain ⟨v1,us,rfl,h1,hv⟩:=BA.cons.1 hv
 obtain ⟨v2,us,rfl,h2,hv⟩:=BA.cons.1 hv
 obtain ⟨v3,us,rfl,h3,hv⟩:=BA.cons.1 hv
 obtain ⟨v4,us,rfl,h4,hv⟩:=BA.cons.1 hv
 obtain ⟨v5,us,rfl,h5,hv⟩:=BA.cons.1 hv
 rw [BA.nil] at hv; subst hv
 obtain rfl:=Rep.val.1 (Or.inl h1:Rep _ _ _ _)
 obtain rfl:=Rep.val.1 (Or.inl h2:Rep _ _ _ _)
 obtain rfl:=Rep.val.1 (Or.inl h3:Rep _ _ _ _)
 obtain rfl:=Rep.val.1 (Or.inl h4:Rep _ _ _ _)
 have e5:v5 = .iface 207 (.int .i64 (c:Int)):=by
  rcases h5 with h5 | h5 | ⟨us,h5,rfl⟩
  ·cases h5
  ·cases h5
  ·rw [Aj] at h5
   obtain ⟨u,rfl,vs,h6,rfl⟩:=h5
   rw [Aj] at h6
   rw [h6.1]; rfl
 subst e5
 have hsz:(str s).size≤281474976710656:=by simp [str,ByteArray.size]; omega
 have fin:∀ e w',(∃ N,e=Ending.returned (.iface 210 (.pointer (some ⟨N,0,none⟩)))∧Below w.heap.size w w')→∃ v x F',e = .returned v∧x = .ifc 210 .any∧Rep ⟨β,[],F'⟩ w' x v∧QL F w F' w':=by
  rintro e w' ⟨N,rfl,hb⟩
  refine ⟨_,_,F,rfl,rfl,Rep.of_cells (us:=[.iface 210 (.pointer (some ⟨N,0,none⟩))]) ?_,⟨hb.os,hb.tape,hb.output,hb.size,hb.block,fun _ h=>h,fun _ _ h=>h,fun b hb'=>Nat.lt_of_lt_of_le (hF.1 b hb') hb.size⟩⟩
  rw [Aj]
  refine ⟨_,rfl,[.pointer (some ⟨N,0,none⟩)],?_,rfl⟩
  rw [Aj]
  exact ⟨_,rfl,rfl⟩
 rcases hc with rfl | rfl
 ·obtain ⟨t,a,hk⟩:=Az.k
  refine (Tryz.strconv_toError_range (str fn) (str s) base bits _ w hsz (Yr hF.2 hk) (.inr ⟨_,_,rfl⟩)).mono ?_
  rintro e w' ⟨N,rfl,_,_,hb⟩
  exact fin _ _ ⟨N,rfl,hb⟩
 ·obtain ⟨t,a,hk⟩:=Au.k
  refine (Tryz.strconv_toError_syntax (str fn) (str s) base bits _ w hsz (Yr hF.2 hk) (.inr ⟨_,_,rfl⟩)).mono ?_
  rintro e w' ⟨N,rfl,_,_,hb⟩
  exact fin _ _ ⟨N,rfl,hb⟩
end
section
open Go.RowKit
variable [AP]
def xv (b:UInt8):Nat:=if 48≤b.toNat∧b.toNat≤57 then b.toNat - 48 else if 97≤b.toNat ||| 32∧b.toNat ||| 32≤102 then (b.toNat ||| 32) - 97+10 else 16
def AeZ:Nat→List UInt8→Nat
 | n,[]=>n
 | n,b::l=>AeZ (n*16+xv b) l
theorem Aef:∀ (l m:List UInt8) (n:Nat),AeZ n (l++m)=AeZ (AeZ n l) m
 | [],_,_=>rfl
 | b::l,m,n=>Aef l m _
theorem Aka:∀ (l:List UInt8) (n:Nat),n≤AeZ n l
 | [],n=>Nat.le_refl _
 | b::l,n=>Nat.le_trans (by omega) (Aka l _)
def isX (b:UInt8):Bool:=decide (xv b<16)
def pX (s:List UInt8):Option Nat:=if s≠[]∧s.all isX∧AeZ 0 s<65536 then some (AeZ 0 s) else none
def AfQ (s:List UInt8) (r:TV):Prop:=(∀ n,pX s=some n→r = .tup [.val (.int .u64 (n:Int)),.val .nilIface])∧(pX s=none→∃ m c:Nat,m≤65535∧(c=1∨c=2)∧r = .tup [.val (.int .u64 (m:Int)),.ifc 207 (i64 (c:Int))])
theorem AfQ.no {s:List UInt8} (h:pX s=none) {m c:Nat} (hc:c=1∨c=2) (hm:m≤65535):AfQ s (.tup [.val (.int .u64 (m:Int)),.ifc 207 (i64 (c:Int))]) :=
 ⟨fun n hn=>(by rw [h] at hn; cases hn),fun _=>⟨m,c,hm,hc,rfl⟩⟩
theorem AfQ.yes {s:List UInt8} {n:Nat} (h:pX s=some n):AfQ s (.tup [.val (.int .u64 (n:Int)),.val .nilIface]) :=
 ⟨fun m hm=>(by rw [h] at hm; cases hm; rfl),fun hn=>(by rw [h] at hn; cases hn)⟩
theorem AcC {s:List UInt8} {i:Nat} {b:UInt8} (h:s[i]?=some b) (hb:16≤xv b):pX s=none:=by
 unfold pX
 rw [if_neg]
 rintro ⟨_,h2,_⟩
 have:=List.all_eq_true.1 h2 b (List.mem_of_getElem? h)
 unfold isX at this
 simp at this; omega
theorem Asd {s:List UInt8} {i:Nat} (h:65536≤AeZ 0 (s.take i)):pX s=none:=by
 unfold pX
 rw [if_neg]
 rintro ⟨_,_,h3⟩
 have:AeZ 0 s=AeZ (AeZ 0 (s.take i)) (s.drop i):=by rw [←Aef,List.take_append_drop]
 have h4:=Aka (s.drop i) (AeZ 0 (s.take i))
 omega
abbrev Aqt (n:Nat):TV := .val (.int .u64 (n:Int))
abbrev pxE (s:List UInt8) (n i:Nat):Env:=[(1,i64 ((16:Nat):Int)),(8,tb false),(9,ts s),(10,Aqt 1152921504606846976),(11,Aqt 65535),(12,tb false),(13,Aqt n),(99,.os 1 0 0 [] 0 s.length s.length),(100,i64 (s.length:Int)),(101,i64 (i:Int))]
theorem AkO {s:List UInt8} {i n d:Nat} {H:List Ob} {Q:VEx→Env→List Ob→Prop} (hn:n<65536) (hd:d<256)
  (hE:∀ m c:Nat,m≤65535→(c=1∨c=2)→(16≤d∨65536≤n*16+d)→Q .ret [(6,Aqt m),(7,.ifc 207 (i64 (c:Int)))] H)
  (hN:d<16→n*16+d<65536→Q .nor (pxE s (n*16+d) i) H) :
  vwp Tryz.prog Ci Q [(1,i64 ((16:Nat):Int)),(8,tb false),(9,ts s),(10,Aqt 1152921504606846976),(11,Aqt 65535),(12,tb false),(13,Aqt n),(16,.val (.int .u8 (d:Int))),(99,.os 1 0 0 [] 0 s.length s.length),(100,i64 (s.length:Int)),(101,i64 (i:Int))] H:=by
 have hw8:IntKind.u8.wrap ((16:Nat):Int)=((16:Nat):Int):=by decide
 have hw8':IntKind.u64.wrap ((16:Nat):Int)=((16:Nat):Int):=by decide
 by_cases h16:16≤d
 ·simp -dsimp (disch:=first | assumption | omega | (simp only [Ae];try omega)) only [↓Ai,Ad,Ag,Ah,eq_self,Nat.reduceEqDiff,↓reduceIte,↓BO,hw8]
  exact hE 0 2 (by omega) (.inr rfl) (.inl h16)
 have hwd:IntKind.u64.wrap ((d:Nat):Int)=((d:Nat):Int):=ZC (by omega)
 have hn8:n*16<18446744073709551616:=by omega
 have hadd:∀ t,Fe t .add (.int .u64 ((n*16:Nat):Int)) (.int .u64 ((d:Nat):Int))=some (.int .u64 ((n*16+d:Nat):Int)):=fun t=>by
  rw [show Fe t .add (.int .u64 ((n*16:Nat):Int)) (.int .u64 ((d:Nat):Int))=some (.int .u64 (IntKind.u64.wrap (((n*16:Nat):Int)+((d:Nat):Int)))) from rfl,IntKind.wrap_u64]
  congr 2
  omega
 by_cases hbig:65536≤n*16+d
 ·simp -dsimp (disch:=first | assumption | omega | (simp only [Ae];try omega)) only [↓Ai,Ad,Ag,Ah,eq_self,Nat.reduceEqDiff,↓reduceIte,↓BO,hw8,↓Dl,↓Dq,↓Dk,↓Dp,hw8',AgV,hwd,hadd]
  exact hE 65535 1 (by omega) (.inl rfl) (.inr hbig)
 ·simp -dsimp (disch:=first | assumption | omega | (simp only [Ae];try omega)) only [↓Ai,Ad,Ag,Ah,eq_self,Nat.reduceEqDiff,↓reduceIte,↓BO,hw8,↓Dl,↓Dq,↓Dk,↓Dp,hw8',AgV,hwd,hadd]
  exact hN (by omega) (by omega)
theorem AsR (s:List UInt8) (hs:s.length≤1000000):BC Tryz.prog 119 [ts s,i64 ((16:Nat):Int),i64 ((16:Nat):Int)] (AfQ s):=by
 refine Am.toPureV (LH (by simp) ?_)
 by_cases h0:s=[]
 ·subst h0
  have hn:pX []=none:=by unfold pX; simp
  simp -dsimp (disch:=first | assumption | omega | (simp only [Ae];try omega)) only [↓Ai,Ad,Ag,Ah,eq_self,Nat.reduceEqDiff,↓reduceIte,Nat.reduceAdd,reduceCtorEq,↓EI,↓Dn,↓Ap]
  exact AfQ.no hn (.inr rfl) (by omega)
 have hw1:IntKind.u64.wrap ((16:Nat):Int)=((16:Nat):Int):=ZC (by omega)
 simp -dsimp (disch:=first | assumption | omega | (simp only [Ae];try omega)) only [↓Ai,Ad,Ag,Ah,eq_self,Nat.reduceLT,Nat.reduceEqDiff,↓reduceIte,Nat.reduceAdd,reduceCtorEq,Nat.reduceLeDiff,↓EI,↓Dn,h0,↓GN,↓G6,↓Ha,↓G9,↓GY,↓GL]
 simp -dsimp (disch:=first | assumption | omega | (simp only [Ae];try omega)) only [↓Ai,Ad,Ag,Ah,eq_self,Nat.reduceEqDiff,Nat.reduceSub,Nat.reduceMul,Nat.reducePow,↓reduceIte,reduceCtorEq,↓Gz,↓GX,↓G5,↓GG,↓G7,↓GH,↓GR,↓GZ,hw1,AnO,AnR,AU]
 refine Fp (fun q e H=>∃ (i n:Nat),q=s.length - i∧i≤s.length∧(s.take i).all isX=true∧n=AeZ 0 (s.take i)∧n<65536∧H=[.obj 0 (.arr s.length 1 (s.map by8))]∧e=pxE s n i) s.length ?_ ?_
 ·refine ⟨0,0,?_,Nat.zero_le _,?_,?_,?_,?_,?_⟩
  ·simp
  ·rw [List.take_zero]; rfl
  ·rw [List.take_zero]; rfl
  ·omega
  ·simp
  ·simp [forget,get]
 rintro q e H ⟨i,n,rfl,hi,hall,hn,hnl,rfl,rfl⟩
 by_cases c:i<s.length
 case neg =>
  have hi2:i=s.length:=by omega
  subst hi2
  rw [List.take_length] at hn hall
  have hyes:pX s=some n:=by unfold pX; rw [if_pos ⟨h0,hall,by rw [←hn]; exact hnl⟩,hn]
  simp -dsimp (disch:=first | assumption | omega | (simp only [Ae];try omega)) only [↓Ai,Ad,Ag,Ah,eq_self,Nat.reduceEqDiff,↓reduceIte,↓AY,↓AZ,↓GM,↓Ap]
  exact AfQ.yes hyes
 have hg:s[i]?=some s[i]:=List.getElem?_eq_getElem c
 have hsucc:=List.take_succ_eq_append_getElem c
 generalize s[i]=b at *
 have hb:=b.toNat_lt
 have hnum:AeZ 0 (s.take (i+1))=n*16+xv b:=by rw [hsucc,Aef,←hn]; rfl
 have hno:∀ d,(d<16→xv b=d)→(16≤d→16≤xv b)→16≤d∨65536≤n*16+d→pX s=none:=fun d h1 h2 h3=>by
  rcases Nat.lt_or_ge d 16 with h | h
  ·rcases h3 with h3 | h3
   ·omega
   ·exact Asd (s:=s) (i:=i+1) (by rw [hnum,h1 h]; exact h3)
  ·exact AcC hg (h2 h)
 have hnext:∀ d,xv b=d→d<16→n*16+d<65536→(s.take (i+1)).all isX=true∧n*16+d=AeZ 0 (s.take (i+1)):=fun d h1 h2 h3=>by
  refine ⟨?_,by rw [hnum,h1]⟩
  rw [hsucc,List.all_append,hall]
  simp [isX,h1,h2]
 by_cases hd:48≤b.toNat∧b.toNat≤57
 ·have hx:xv b=b.toNat - 48:=by unfold xv; rw [if_pos hd]
  have h95:¬ b.toNat=95:=by omega
  obtain ⟨hd1,hd2⟩:=hd
  simp -dsimp (disch:=first | assumption | omega | (simp only [Ae];try omega)) only [↓Ai,Ad,Ag,Ah,eq_self,Nat.reduceEqDiff,↓reduceIte,↓AY,↓AZ,↓Bg,hg,↓Bj,↓Bi,h95,↓Bo,↓Bv,↓Bq,Ajq]
  refine AkO hnl (by omega) (fun m c' h1 h2 h3 => ?_) (fun h1 h2 => ?_)
  ·simp -dsimp (disch:=first | assumption | omega | (simp only [Ae];try omega)) only [↓Ai,Ad,Ag,Ah,eq_self,Nat.reduceEqDiff,↓reduceIte,↓Ap]
   exact AfQ.no (hno _ (fun _=>hx) (fun h=>by omega) h3) h2 h1
  ·obtain ⟨g1,g2⟩:=hnext _ hx h1 h2
   simp -dsimp (disch:=first | assumption | omega | (simp only [Ae];try omega)) only [↓Ai,Ad,Ag,Ah,eq_self,Nat.reduceEqDiff,↓reduceIte]
   exact AB (s.length - (i+1)) (by omega) (by simp) ⟨i+1,n*16+(b.toNat - 48),rfl,by omega,g1,g2,h2,rfl,by simp [forget,get]⟩
 by_cases h95:b.toNat=95
 ·have hor:(b.toNat ||| 32)=127:=by rw [h95]; rfl
  have hb16:16≤xv b:=by unfold xv; rw [if_neg hd,if_neg (by rw [hor]; omega)]; omega
  simp -dsimp (disch:=first | assumption | omega | (simp only [Ae];try omega)) only [↓Ai,Ad,Ag,Ah,eq_self,Nat.reduceEqDiff,↓reduceIte,Nat.reduceLeDiff,↓AY,↓AZ,↓Bg,hg,↓Bj,↓Bi,h95,↓Bo,↓Bv,↓Bq,↓BQ]
  refine (AcV b).calls rfl fun r hr => ?_
  subst hr
  rw [hor]
  simp -dsimp (disch:=first | assumption | omega | (simp only [Ae];try omega)) only [↓Ai,Ad,Ag,Ah,eq_self,Nat.reduceEqDiff,↓reduceIte,Nat.reduceLeDiff]
  refine (AcV b).calls rfl fun r hr => ?_
  subst hr
  rw [hor]
  simp -dsimp (disch:=first | assumption | omega | (simp only [Ae];try omega)) only [↓Ai,Ad,Ag,Ah,eq_self,Nat.reduceEqDiff,↓reduceIte,Nat.reduceLeDiff,↓Ap]
  exact AfQ.no (AcC hg hb16) (.inr rfl) (by omega)
 have rest:∀ x,x=b.toNat ||| 32→97≤x→x≤122→(x - 97+10<16→xv b=x - 97+10)∧(16≤x - 97+10→16≤xv b):=fun x hx h1 h2=>by
  subst hx
  constructor
  ·intro h; unfold xv; rw [if_neg hd,if_pos ⟨h1,by omega⟩]
  ·intro h; unfold xv; rw [if_neg hd,if_neg (by omega)]; omega
 have lows:¬ 97≤b.toNat ||| 32∨¬ b.toNat ||| 32≤122→16≤xv b:=fun h=>by
  unfold xv; rw [if_neg hd,if_neg (by omega)]; omega
 by_cases c48:48≤b.toNat
 ·have c57:¬ b.toNat≤57:=by omega
  simp -dsimp (disch:=first | assumption | omega | (simp only [Ae];try omega)) only [↓Ai,Ad,Ag,Ah,eq_self,Nat.reduceEqDiff,↓reduceIte,↓AY,↓AZ,↓Bg,hg,↓Bj,↓Bi,h95,↓Bo,↓Bv,↓Bq,↓BQ]
  refine (AcV b).calls rfl fun r hr => ?_
  subst hr
  have hlw:=AcV b
  generalize hxx:b.toNat ||| 32=x at *
  by_cases c97:97≤x
  ·simp -dsimp (disch:=first | assumption | omega | (simp only [Ae];try omega)) only [↓Ai,Ad,Ag,Ah,eq_self,Nat.reduceEqDiff,↓reduceIte]
   refine hlw.calls rfl fun r hr => ?_
   subst hr
   by_cases c122:x≤122
   ·obtain ⟨r1,r2⟩:=rest x rfl c97 c122
    have hmod:(x - 97+10) % 256=x - 97+10:=Nat.mod_eq_of_lt (by omega)
    simp -dsimp (disch:=first | assumption | omega | (simp only [Ae];try omega)) only [↓Ai,Ad,Ag,Ah,eq_self,Nat.reduceEqDiff,↓reduceIte]
    refine hlw.calls rfl fun r hr => ?_
    subst hr
    simp -dsimp (disch:=first | assumption | omega | (simp only [Ae];try omega)) only [↓Ai,Ad,Ag,Ah,eq_self,Nat.reduceEqDiff,↓reduceIte,Ajq,Ao2,hmod]
    refine AkO hnl (by omega) (fun m c' h1 h2 h3 => ?_) (fun h1 h2 => ?_)
    ·simp -dsimp (disch:=first | assumption | omega | (simp only [Ae];try omega)) only [↓Ai,Ad,Ag,Ah,eq_self,Nat.reduceEqDiff,↓reduceIte,↓Ap]
     exact AfQ.no (hno _ r1 r2 h3) h2 h1
    ·obtain ⟨g1,g2⟩:=hnext _ (r1 h1) h1 h2
     simp -dsimp (disch:=first | assumption | omega | (simp only [Ae];try omega)) only [↓Ai,Ad,Ag,Ah,eq_self,Nat.reduceEqDiff,↓reduceIte]
     exact AB (s.length - (i+1)) (by omega) (by simp) ⟨i+1,_,rfl,by omega,g1,g2,h2,rfl,by simp [forget,get]⟩
   ·simp -dsimp (disch:=first | assumption | omega | (simp only [Ae];try omega)) only [↓Ai,Ad,Ag,Ah,eq_self,Nat.reduceEqDiff,↓reduceIte,↓Ap]
    exact AfQ.no (AcC hg (lows (.inr c122))) (.inr rfl) (by omega)
  ·simp -dsimp (disch:=first | assumption | omega | (simp only [Ae];try omega)) only [↓Ai,Ad,Ag,Ah,eq_self,Nat.reduceEqDiff,↓reduceIte,↓Ap]
   exact AfQ.no (AcC hg (lows (.inl c97))) (.inr rfl) (by omega)
 ·simp -dsimp (disch:=first | assumption | omega | (simp only [Ae];try omega)) only [↓Ai,Ad,Ag,Ah,eq_self,Nat.reduceEqDiff,↓reduceIte,↓AY,↓AZ,↓Bg,hg,↓Bj,↓Bi,h95,↓Bo,↓Bv,↓Bq,↓BQ]
  refine (AcV b).calls rfl fun r hr => ?_
  subst hr
  have hlw:=AcV b
  generalize hxx:b.toNat ||| 32=x at *
  by_cases c97:97≤x
  ·simp -dsimp (disch:=first | assumption | omega | (simp only [Ae];try omega)) only [↓Ai,Ad,Ag,Ah,eq_self,Nat.reduceEqDiff,↓reduceIte]
   refine hlw.calls rfl fun r hr => ?_
   subst hr
   by_cases c122:x≤122
   ·obtain ⟨r1,r2⟩:=rest x rfl c97 c122
    have hmod:(x - 97+10) % 256=x - 97+10:=Nat.mod_eq_of_lt (by omega)
    simp -dsimp (disch:=first | assumption | omega | (simp only [Ae];try omega)) only [↓Ai,Ad,Ag,Ah,eq_self,Nat.reduceEqDiff,↓reduceIte]
    refine hlw.calls rfl fun r hr => ?_
    subst hr
    simp -dsimp (disch:=first | assumption | omega | (simp only [Ae];try omega)) only [↓Ai,Ad,Ag,Ah,eq_self,Nat.reduceEqDiff,↓reduceIte,Ajq,Ao2,hmod]
    refine AkO hnl (by omega) (fun m c' h1 h2 h3 => ?_) (fun h1 h2 => ?_)
    ·simp -dsimp (disch:=first | assumption | omega | (simp only [Ae];try omega)) only [↓Ai,Ad,Ag,Ah,eq_self,Nat.reduceEqDiff,↓reduceIte,↓Ap]
     exact AfQ.no (hno _ r1 r2 h3) h2 h1
    ·obtain ⟨g1,g2⟩:=hnext _ (r1 h1) h1 h2
     simp -dsimp (disch:=first | assumption | omega | (simp only [Ae];try omega)) only [↓Ai,Ad,Ag,Ah,eq_self,Nat.reduceEqDiff,↓reduceIte]
     exact AB (s.length - (i+1)) (by omega) (by simp) ⟨i+1,_,rfl,by omega,g1,g2,h2,rfl,by simp [forget,get]⟩
   ·simp -dsimp (disch:=first | assumption | omega | (simp only [Ae];try omega)) only [↓Ai,Ad,Ag,Ah,eq_self,Nat.reduceEqDiff,↓reduceIte,↓Ap]
    exact AfQ.no (AcC hg (lows (.inr c122))) (.inr rfl) (by omega)
  ·simp -dsimp (disch:=first | assumption | omega | (simp only [Ae];try omega)) only [↓Ai,Ad,Ag,Ah,eq_self,Nat.reduceEqDiff,↓reduceIte,↓Ap]
   exact AfQ.no (AcC hg (lows (.inl c97))) (.inr rfl) (by omega)
variable [Au] [Az]
theorem AfW (s:List UInt8) (hs:s.length≤1000000):BC Tryz.prog 103 [ts s,i64 ((16:Nat):Int),i64 ((16:Nat):Int)] (fun r=>(∀ n,pX s=some n→r = .tup [.val (.int .u64 (n:Int)),.val .nilIface])∧(pX s=none→∃ m:Nat,m≤65535∧r = .tup [.val (.int .u64 (m:Int)),.ifc 210 .any])):=by
 refine Am.toPureV (VD (by simp) ?_)
 simp -dsimp (disch:=first | assumption | omega | (simp only [Ae];try omega)) only [↓Ai,Ad,Ag,Ah,eq_self,Nat.reduceEqDiff,↓reduceIte,Nat.reduceAdd,reduceCtorEq,↓EK]
 refine (AsR s hs).calls rfl fun r hr => ?_
 cases hp:pX s with
 | some n =>
  rw [hr.1 n hp]
  simp -dsimp (disch:=first | assumption | omega | (simp only [Ae];try omega)) only [↓Ai,Ad,Ag,Ah,eq_self,Nat.reduceEqDiff,↓reduceIte,reduceCtorEq,↓EK]
  exact ⟨fun m hm=>(by cases hm; rfl),fun h=>(by cases h)⟩
 | none =>
  obtain ⟨m,c,hm,hc,rfl⟩:=hr.2 hp
  simp -dsimp (disch:=first | assumption | omega | (simp only [Ae];try omega)) only [↓Ai,Ad,Ag,Ah,eq_self,Nat.reduceEqDiff,↓reduceIte,reduceCtorEq,↓EK]
  refine (Ath _ s _ _ hs c hc).calls rfl fun r hr => ?_
  subst hr
  simp -dsimp (disch:=first | assumption | omega | (simp only [Ae];try omega)) only [↓Ai,Ad,Ag,Ah,eq_self,forall_const,Nat.reduceEqDiff,↓reduceIte,reduceCtorEq,↓EK]
  exact ⟨fun n h=>h.elim,m,hm,rfl⟩
end
section
variable [AP]
set_option maxRecDepth 100000
end
section
open Go.RowKit
variable [AP]
end
section
open Go.RowKit
variable [AP]
def Aqu (id ver:Nat) (p:List (Nat×Nat)) (a:TV):Prop:=a = .val (.pointer none)∨a = .op id ver p
def AiS (T:TypeId) (m o:Nat):Prop:=o<m∧liesAt Tryz.prog Tryz.prog.depth T (m / Tryz.prog.cellsOf T) o 116 1=true
end
section
open Go.RowKit
variable [AP]
set_option maxRecDepth 100000 in
theorem cellsByte:Tryz.prog.cellsOf 5=1:=by kernel_rfl
end
section
open Go.RowKit
variable [AP]
structure Bld (H:List Ob) (id ver:Nat) (p:List (Nat×Nat)) (j v:Nat) (x:TV) (l:List UInt8):Prop where
 ob:H[id]?=some (.obj ver x)
 fields:∃ a,Aqu id ver p a∧Oy p x=some (.agg [a,.os 1 j v [] 0 l.length l.length])
 row:H[j]?=some (.bld v 5 l)
 ne:id≠j
 fact:∃ (q:Nat) (T:TypeId) (m:Nat),H[q]?=some (Ob.fact id ver T m)∧AiS T m (Fb p)
end
section
variable [AP]
set_option maxRecDepth 100000
end
section
open Go.RowKit
variable [AP]
end
section
open Go.RowKit
variable [AP]
end
section
open Go.RowKit
variable [AP]
def dig (n:Nat):UInt8:=UInt8.ofNat (if n<10 then 48+n else 87+n)
def AoU:List UInt8:=[48,49,50,51,52,53,54,55,56,57,97,98,99,100,101,102]
theorem KC:∀ n,n<16→AoU[n]?=some (dig n):=by decide
theorem Axq (n:Nat):n &&& 15=n % 16:=Nat.and_two_pow_sub_one_eq_mod n 4
theorem Ai6:AoU=[48,49,50,51,52,53,54,55,56,57,97,98,99,100,101,102]:=rfl
end
section
open Go.RowKit
variable [AP]
section
omit [AP]
def YU (n:Nat):List UInt8:=[dig (n / 4096 % 16),dig (n / 256 % 16),dig (n / 16 % 16),dig (n % 16)]
def Rj:List UInt8:=[48,48,48,48]
def BG (l:List UInt8):List UInt8:=if l.length=0 then Rj else YU (l.length+4)++l
theorem Aap:∀ n,n<16→xv (dig n)=n:=by decide
theorem Ahs (n:Nat):(YU n).length=4:=rfl
theorem Ad2 {n:Nat} (h:n<65536):AeZ 0 (YU n)=n:=by
 unfold YU
 simp only [AeZ]
 rw [Aap _ (by omega),Aap _ (by omega),Aap _ (by omega),Aap _ (by omega)]
 omega
theorem Akk {n:Nat} (h:n<65536):pX (YU n)=some n:=by
 unfold pX
 have ha:(YU n).all isX=true:=by
  unfold YU isX
  simp [Aap _ (show n / 4096 % 16<16 by omega),Aap _ (show n / 256 % 16<16 by omega),Aap _ (show n / 16 % 16<16 by omega),Aap _ (show n % 16<16 by omega)]
  omega
 rw [Ad2 h,if_pos ⟨by simp [YU],ha,h⟩]
theorem AdQ {n m:Nat} (hn:n<65536) (hm:m<65536) (e:YU n=YU m):n=m:=by
 rw [←Ad2 hn,e,Ad2 hm]
def Aay (l:List UInt8):Nat:=if l.length=0 then 0 else l.length+4
theorem Ad4 (l:List UInt8):BG l=YU (Aay l)++l:=by
 unfold BG Aay
 split
 ·rename_i h
  rw [List.eq_nil_of_length_eq_zero h]; rfl
 ·rfl
theorem Ip (l:List UInt8):(BG l).length=4+l.length:=by rw [Ad4,List.length_append]; rfl
theorem CW {x s b:List UInt8} (h:BG x++s=b):b.take 4=YU (Aay x)∧b.drop 4=x++s∧b.length=4+x.length+s.length:=by
 subst h
 rw [Ad4,List.append_assoc]
 exact ⟨List.take_left' rfl,List.drop_left' rfl,by simp [Ahs]; omega⟩
theorem AdX {x:List UInt8} (h:x.length≤1000):Aay x<65536:=by unfold Aay; split<;>omega
theorem YH {x y r s:List UInt8} (hx:x.length≤1000) (hy:y.length≤1000) (h:BG x++r=BG y++s):x=y∧r=s:=by
 obtain ⟨a1,a2,a3⟩:=CW h
 obtain ⟨b1,b2,b3⟩:=CW (rfl:BG y++s=BG y++s)
 rw [a1] at b1
 have e:=AdQ (AdX hx) (AdX hy) b1
 have hl:x.length=y.length:=by unfold Aay at e; split at e<;>split at e<;>omega
 rw [a2] at b2
 exact List.append_inj b2 hl
theorem Aq4 {b:List UInt8} {n:Nat} (h4:4≤b.length) (hn:4<n) (hn2:n≤1004) (hl:n≤b.length) (ht:b.take 4=YU n):BG ((b.take n).drop 4)++b.drop n=b:=by
 have hln:((b.take n).drop 4).length=n - 4:=by simp; omega
 unfold BG
 rw [if_neg (by omega),hln,show n - 4+4=n by omega,←ht,List.append_assoc]
 have e1:(b.take n).take 4=b.take 4:=by rw [List.take_take,Nat.min_eq_left (by omega)]
 rw [←List.append_assoc,←e1,List.take_append_drop,List.take_append_drop]
theorem AeA {b:List UInt8} (ht:b.take 4=Rj):BG []++b.drop 4=b:=by
 have:BG []=Rj:=rfl
 rw [this,←ht,List.take_append_drop]
def AV (ls:List (List UInt8)) (b:List UInt8):Prop:=(∀ x∈ls,x.length≤1000)∧ls.flatMap BG=b
theorem UW:∀ {ls ms:List (List UInt8)} {b:List UInt8},AV ls b→AV ms b→ls=ms
 | [],[],_,_,_=>rfl
 | [],y::ms,b,h,k=>by
  have:=congrArg List.length (h.2.trans k.2.symm)
  rw [List.flatMap_cons,List.length_append,Ip] at this
  simp only [List.flatMap_nil,List.length_nil] at this
  omega
 | x::ls,[],b,h,k=>by
  have:=congrArg List.length (h.2.trans k.2.symm)
  rw [List.flatMap_cons,List.length_append,Ip] at this
  simp only [List.flatMap_nil,List.length_nil] at this
  omega
 | x::ls,y::ms,b,h,k=>by
  have e:=h.2.trans k.2.symm
  rw [List.flatMap_cons,List.flatMap_cons] at e
  obtain ⟨rfl,e2⟩:=YH (h.1 x (by simp)) (k.1 y (by simp)) e
  rw [UW (b:=ls.flatMap BG) ⟨fun z hz=>h.1 z (by simp [hz]),rfl⟩ ⟨fun z hz=>k.1 z (by simp [hz]),e2.symm⟩]
structure LI (b:List UInt8) (ls:List (List UInt8)) (rest:List UInt8):Prop where
 ok:∀ x∈ls,x.length≤1000
 eq:ls.flatMap BG++rest=b
theorem LI.step {b rest r x:List UInt8} {ls:List (List UInt8)} (h:LI b ls rest) (hx:x.length≤1000) (e:BG x++r=rest):LI b (ls++[x]) r:=by
 refine ⟨fun y hy => ?_,?_⟩
 ·rcases List.mem_append.1 hy with hy | hy
  ·exact h.ok y hy
  ·rw [List.mem_singleton] at hy; subst hy; exact hx
 ·rw [List.flatMap_append,List.append_assoc,←h.eq,←e]; simp
theorem LI.pre:∀ {ls ms:List (List UInt8)} {b rest:List UInt8},LI b ls rest→AV ms b→∃ l',ms=ls++l'∧AV l' rest
 | [],ms,b,rest,h,k=>⟨ms,rfl,k.1,by rw [k.2,←h.eq]; rfl⟩
 | x::ls,[],b,rest,h,k=>by
  have:=congrArg List.length (h.eq.trans k.2.symm)
  rw [List.flatMap_cons,List.length_append,List.length_append,Ip] at this
  simp only [List.flatMap_nil,List.length_nil] at this
  omega
 | x::ls,y::ms,b,rest,h,k=>by
  have e:=h.eq.trans k.2.symm
  rw [List.flatMap_cons,List.flatMap_cons,List.append_assoc] at e
  obtain ⟨rfl,e2⟩:=YH (h.ok x (by simp)) (k.1 y (by simp)) e
  obtain ⟨l',rfl,h2⟩:=LI.pre (ls:=ls) (ms:=ms) (b:=ms.flatMap BG) (rest:=rest) ⟨fun z hz=>h.ok z (by simp [hz]),e2⟩ ⟨fun z hz=>k.1 z (by simp [hz]),rfl⟩
  exact ⟨l',rfl,h2⟩
theorem LI.no {b rest:List UInt8} {ls:List (List UInt8)} (h:LI b ls rest) (hne:rest≠[]) (hno:∀ x s,x.length≤1000→BG x++s≠rest):∀ ms,¬ AV ms b:=fun ms k=>by
 obtain ⟨l',rfl,h2⟩:=h.pre k
 cases l' with
 | nil=>exact hne h2.2.symm
 | cons x l''=>exact hno x _ (h2.1 x (by simp)) (by rw [←h2.2]; rfl)
end
end
section
open Go.RowKit Go.Extern.Stop Go.Stop Go.Extern
variable [AP]
theorem Agw (t:Addr) (w:World):(ReflectliteValue.unpack (.iface 78 (.pointer (some t)))).run Tryz.prog w
  = .ok (.agg #[.pointer (some ⟨9,78,none⟩),.pointer (some ⟨w.heap.size,0,none⟩),.int .u64 150]) (w.alloc (.cells #[.pointer (some t)] 78)):=by kernel_rfl
theorem Anv (a:Addr) (w:World):(ReflectliteValue.methodAny (ReflectliteValue.valueError "reflectlite.Value.Type" 0) (fun t _ _ _=>ReflectliteType.toType t) #[.agg #[.pointer (some ⟨9,78,none⟩),.pointer (some a),.int .u64 150]]).run Tryz.prog w
  = .ok (.iface 170 (.agg #[.pointer (some ⟨9,78,none⟩)])) w:=by kernel_rfl
theorem Afn (h:Value) (w:World):(Go.method 364 170 (.agg #[h]) "Kind").run Tryz.prog w = .ok (163,h) w:=by kernel_rfl
theorem AnQ (w:World):((ReflectliteType.abiMethod fun t=>(fun a:Nat=>Value.int IntKind.u8 (a:Int)) <$> Rtype.kind t) #[.pointer (some ⟨9,78,none⟩)]).run Tryz.prog w = .ok (.int .u8 22) w:=by kernel_rfl
theorem Aoj (w:World):((ReflectliteType.abiMethod fun t=>(fun a:Nat=>Value.int IntKind.u8 (a:Int)) <$> Rtype.kind t) #[.pointer (some ⟨9,33,none⟩)]).run Tryz.prog w = .ok (.int .u8 2) w:=by kernel_rfl
theorem rlm (z:Sem Value) (f:TypeId→Addr→Nat→Nat→Sem Value) (v:Value) :
  ReflectliteValue.method z f #[v]=(do match ← ReflectliteValue.parts v with | none=>z | some (t,a,fl)=>f t a fl (fl % 32)):=rfl
theorem AeG (a:Addr) (w:World):(ReflectliteValue.parts (.agg #[.pointer (some ⟨9,78,none⟩),.pointer (some a),.int .u64 150])).run Tryz.prog w = .ok (some (78,a,150)) w:=by kernel_rfl
theorem AkT (a p:Addr) (W:World) (ha:W.cell? a=some (.pointer (some p))) :
  (ReflectliteValue.method (ReflectliteValue.valueError "reflectlite.Value.IsNil" 0) ReflectliteValue.isNil #[.agg #[.pointer (some ⟨9,78,none⟩),.pointer (some a),.int .u64 150]]).run Tryz.prog W = .ok (.bool false) W:=by
 rw [rlm]
 simp only [Sem.run_bind,AeG,Result.andThen]
 simp [ReflectliteValue.isNil,loadVar,isAgg,underlying,Tryz.underlying78,ha,Result.andThen]
theorem Afh (h:Value) (w:World):(Go.method 364 170 (.agg #[h]) "Elem").run Tryz.prog w = .ok (174,.agg #[h]) w:=by kernel_rfl
theorem Xq (h:Value) (w:World):(Go.method 364 170 (.agg #[h]) "Implements").run Tryz.prog w = .ok (175,.agg #[h]) w:=by kernel_rfl
theorem Vr (h:Value) (w:World):(Go.method 364 170 (.agg #[h]) "AssignableTo").run Tryz.prog w = .ok (172,.agg #[h]) w:=by kernel_rfl
theorem AoD (w:World):(ReflectliteType.method ReflectliteType.elem #[.agg #[.pointer (some ⟨9,78,none⟩)]]).run Tryz.prog w = .ok (.iface 170 (.agg #[.pointer (some ⟨9,33,none⟩)])) w:=by kernel_rfl
theorem Acw (w:World):(ReflectliteType.relation "Implements" ReflectliteType.implements_ #[.agg #[.pointer (some ⟨9,33,none⟩)],.iface 170 (.agg #[.pointer (some ⟨9,25,none⟩)])]).run Tryz.prog w = .ok (.bool true) w:=by kernel_rfl
theorem AhI (v:Value) (w:World):(ReflectliteType.typeOf #[.iface 33 v]).run Tryz.prog w = .ok (.iface 170 (.agg #[.pointer (some ⟨9,33,none⟩)])) w:=by kernel_rfl
theorem Ab4 (w:World):(ReflectliteType.relation "AssignableTo" ReflectliteType.assignableTo #[.agg #[.pointer (some ⟨9,33,none⟩)],.iface 170 (.agg #[.pointer (some ⟨9,33,none⟩)])]).run Tryz.prog w = .ok (.bool true) w:=by kernel_rfl
theorem AfY (e:Int) (w:World):(ReflectliteValue.unpack (.iface 33 (.int .i64 e))).run Tryz.prog w
  = .ok (.agg #[.pointer (some ⟨9,33,none⟩),.pointer (some ⟨w.heap.size,0,none⟩),.int .u64 130]) (w.alloc (.cells #[.int .i64 e] 33)):=by kernel_rfl
theorem AhN (w:World):(Rtype.elem? 78).run Tryz.prog w = .ok (some 33) w:=by kernel_rfl
theorem AtF (p:Addr) (w:World):(ReflectliteValue.mk 33 p ReflectliteValue.flagAddr).run Tryz.prog w = .ok (.agg #[.pointer (some ⟨9,33,none⟩),.pointer (some p),.int .u64 386]) w:=by kernel_rfl
theorem AkL (a p:Addr) (W:World) (ha:W.cell? a=some (.pointer (some p))) :
  (ReflectliteValue.method (ReflectliteValue.valueError "reflectlite.Value.Elem" 0) ReflectliteValue.elem #[.agg #[.pointer (some ⟨9,78,none⟩),.pointer (some a),.int .u64 150]]).run Tryz.prog W
   = .ok (.agg #[.pointer (some ⟨9,33,none⟩),.pointer (some p),.int .u64 386]) W:=by
 rw [rlm]
 simp only [Sem.run_bind,AeG,Result.andThen]
 simp [ReflectliteValue.elem,loadVar,isAgg,underlying,Tryz.underlying78,ha,Result.andThen,AhN,AtF]
theorem rls (v x:Value):ReflectliteValue.set #[v,x]=(do
  let (some (dst,a,fl),some (src,b,_)):=(←ReflectliteValue.parts v,←ReflectliteValue.parts x)
   | unsupported (.noEntry "extern/(internal/reflectlite.Value).Set.zeroValue")
  if fl / ReflectliteValue.flagAddr % 2 == 0 then unsupported (.noEntry "extern/(internal/reflectlite.Value).Set.unaddressable")
  let val ← loadVar src b
  if ← Rtype.directlyAssignable dst src then storeVar dst a val
  else if ← Rtype.implements dst src then
   if (←Rtype.kind src) == 20 then
    match val with
    | .nilIface=>unsupported (.noEntry "extern/reflectlite: a nil value of one interface type handed on as a value of another")
    | _=>storeVar dst a val
   else storeVar dst a (.iface src val)
  else panicString ("reflectlite.Set: value of type " ++ (←Rtype.spelt src) ++ " is not assignable to type " ++ (←Rtype.spelt dst))
  pure (.tuple #[])):=rfl
theorem AhQ (a:Addr) (w:World):(ReflectliteValue.parts (.agg #[.pointer (some ⟨9,33,none⟩),.pointer (some a),.int .u64 386])).run Tryz.prog w = .ok (some (33,a,386)) w:=by kernel_rfl
theorem AjM (a:Addr) (w:World):(ReflectliteValue.parts (.agg #[.pointer (some ⟨9,33,none⟩),.pointer (some a),.int .u64 130])).run Tryz.prog w = .ok (some (33,a,130)) w:=by kernel_rfl
theorem AhC (w:World):(Rtype.directlyAssignable 33 33).run Tryz.prog w = .ok true w:=by kernel_rfl
theorem ApZ (ta b:Addr) (e:Int) (old:Value) (W:World) (hb:W.cell? b=some (.int .i64 e)) (ht:W.cell? ta=some old) (hf:W.frozen? ta=false) :
  (ReflectliteValue.set #[.agg #[.pointer (some ⟨9,33,none⟩),.pointer (some ta),.int .u64 386],.agg #[.pointer (some ⟨9,33,none⟩),.pointer (some b),.int .u64 130]]).run Tryz.prog W
   = .ok (.tuple #[]) (W.setCell ta (.int .i64 e)):=by
 rw [rls]
 simp only [Sem.run_bind,AhQ,AjM,Result.andThen]
 simp [ReflectliteValue.flagAddr,loadVar,isAgg,underlying,Tryz.underlying33,hb,Result.andThen,AhC,storeVar,Value.cells,storeCells,Addr.add]
 rw [run_store Tryz.prog W ta _ _ (by rfl)]
 simp [ht,hf]
set_option maxHeartbeats 4000000 in
theorem As4 (e:Int) (t:Addr) (old:Value) (w:World) (hg:w.cell? ⟨0,0,none⟩=some (.iface 170 (.agg #[.pointer (some ⟨9,25,none⟩)]))) (ht0:w.cell? t=some old) (hf0:w.frozen? t=false) :
  Calls Tryz.prog 36 #[.iface 33 (.int .i64 e),.iface 78 (.pointer (some t))] w fun ev w'=>ev = .returned (.bool true)∧w'=((((w.alloc (.cells #[.pointer (some t)] 78)).alloc (.cells #[.pointer (some ⟨9,78,none⟩),.pointer (some ⟨w.heap.size,0,none⟩),.int .u64 150] 124)).alloc (.cells #[.pointer (some ⟨9,78,none⟩),.pointer (some ⟨w.heap.size,0,none⟩),.int .u64 150] 124)).alloc (.cells #[.int .i64 e] 33)).setCell t (.int .i64 e):=by
 have h6:=@run_callFunc_extern Tryz.prog 60 _ (fun args=>ReflectliteValue.unpack (args.getD 0 (.tuple #[]))) Tryz.func60 (by kernel_rfl) (by kernel_rfl) (by kernel_rfl) (by kernel_rfl)
 have h7:=@run_callFunc_extern Tryz.prog 61 _ (ReflectliteValue.methodAny (ReflectliteValue.valueError "reflectlite.Value.Type" 0) (fun t _ _ _=>ReflectliteType.toType t)) Tryz.func61 (by kernel_rfl) (by kernel_rfl) (by kernel_rfl) (by kernel_rfl)
 have h8:=@run_callFunc_extern Tryz.prog 62 _ (ReflectliteValue.method (ReflectliteValue.valueError "reflectlite.Value.IsNil" 0) ReflectliteValue.isNil) Tryz.func62 (by kernel_rfl) (by kernel_rfl) (by kernel_rfl) (by kernel_rfl)
 have h27:=@run_callFunc_extern Tryz.prog 163 _ (ReflectliteType.abiMethod fun t=>do pure (.int .u8 (←Rtype.kind t))) Tryz.func163 (by kernel_rfl) (by kernel_rfl) (by kernel_rfl) (by kernel_rfl)
 have h37:=@run_callFunc_extern Tryz.prog 174 _ (ReflectliteType.method ReflectliteType.elem) Tryz.func174 (by kernel_rfl) (by kernel_rfl) (by kernel_rfl) (by kernel_rfl)
 have h38:=@run_callFunc_extern Tryz.prog 175 _ (ReflectliteType.relation "Implements" ReflectliteType.implements_) Tryz.func175 (by kernel_rfl) (by kernel_rfl) (by kernel_rfl) (by kernel_rfl)
 have h10:=@run_callFunc_extern Tryz.prog 91 _ ReflectliteType.typeOf Tryz.func91 (by kernel_rfl) (by kernel_rfl) (by kernel_rfl) (by kernel_rfl)
 have h35:=@run_callFunc_extern Tryz.prog 172 _ (ReflectliteType.relation "AssignableTo" ReflectliteType.assignableTo) Tryz.func172 (by kernel_rfl) (by kernel_rfl) (by kernel_rfl) (by kernel_rfl)
 have h11:=@run_callFunc_extern Tryz.prog 92 _ (ReflectliteValue.method (ReflectliteValue.valueError "reflectlite.Value.Elem" 0) ReflectliteValue.elem) Tryz.func92 (by kernel_rfl) (by kernel_rfl) (by kernel_rfl) (by kernel_rfl)
 have h12:=@run_callFunc_extern Tryz.prog 93 _ ReflectliteValue.set Tryz.func93 (by kernel_rfl) (by kernel_rfl) (by kernel_rfl) (by kernel_rfl)
 have tO:=AhI
 have mA:=Vr
 have a25:=Ab4
 have v25:=AfY
 have f6:=Agw
 have f7:=Anv
 have mK:=Afn
 have mE:=Afh
 have mI:=Xq
 have k27:=AnQ
 have k25:=Aoj
 have e27:=AoD
 have i25:=Acw
 have n8:=AkT ⟨w.heap.size,0,none⟩ t ((w.alloc (.cells #[.pointer (some t)] 78)).alloc (.cells #[.pointer (some ⟨9,78,none⟩),.pointer (some ⟨w.heap.size,0,none⟩),.int .u64 150] 124)) (by simp)
 have hlt:0<w.heap.size:=by
  rcases Nat.lt_or_ge 0 w.heap.size with h | h
  ·exact h
  ·simp [World.cell?,Array.getElem?_eq_none h] at hg
 have hg2:((w.alloc (.cells #[.pointer (some t)] 78)).alloc (.cells #[.pointer (some ⟨9,78,none⟩),.pointer (some ⟨w.heap.size,0,none⟩),.int .u64 150] 124)).cell? ⟨0,0,none⟩=some (.iface 170 (.agg #[.pointer (some ⟨9,25,none⟩)])):=by
  rw [World.cell?_alloc_lt _ _ ⟨0,0,none⟩ (Nat.lt_of_lt_of_le hlt (by simp)),World.cell?_alloc_lt _ _ ⟨0,0,none⟩ hlt]; exact hg
 have htl:t.block<w.heap.size:=by
  rcases Nat.lt_or_ge t.block w.heap.size with h | h
  ·exact h
  ·simp [World.cell?,Array.getElem?_eq_none h] at ht0
 have el:=AkL ⟨w.heap.size,0,none⟩ t (((w.alloc (.cells #[.pointer (some t)] 78)).alloc (.cells #[.pointer (some ⟨9,78,none⟩),.pointer (some ⟨w.heap.size,0,none⟩),.int .u64 150] 124)).alloc (.cells #[.pointer (some ⟨9,78,none⟩),.pointer (some ⟨w.heap.size,0,none⟩),.int .u64 150] 124)) (by rw [World.cell?_alloc_lt _ _ ⟨w.heap.size,0,none⟩ (by simp; omega)]; simp)
 have st:=ApZ t ⟨w.heap.size+1+1+1,0,none⟩ e old ((((w.alloc (.cells #[.pointer (some t)] 78)).alloc (.cells #[.pointer (some ⟨9,78,none⟩),.pointer (some ⟨w.heap.size,0,none⟩),.int .u64 150] 124)).alloc (.cells #[.pointer (some ⟨9,78,none⟩),.pointer (some ⟨w.heap.size,0,none⟩),.int .u64 150] 124)).alloc (.cells #[.int .i64 e] 33))
  (by rw [World.cell?_alloc_at _ _ _ _ (by simp)]; rfl)
  (by rw [World.cell?_alloc_lt _ _ t (by simp; omega),World.cell?_alloc_lt _ _ t (by simp; omega),World.cell?_alloc_lt _ _ t (by simp; omega),World.cell?_alloc_lt _ _ t htl]; exact ht0)
  (by rw [World.frozen?_alloc_old _ _ t (by simp; omega),World.frozen?_alloc_old _ _ t (by simp; omega),World.frozen?_alloc_old _ _ t (by simp; omega),World.frozen?_alloc_old _ _ t (Nat.ne_of_lt htl)]; exact hf0)
 go_enter Tryz.func36,Tryz.ntmps36
 go_wp2
 refine wp_loop_rounds 1 ?_
 rw [rounds_succ]
 go_wp2
 go_ret
 exact ⟨rfl,rfl⟩
end
end Go.Proofs.YtnikbdnebdmmiaaGreatDoor
