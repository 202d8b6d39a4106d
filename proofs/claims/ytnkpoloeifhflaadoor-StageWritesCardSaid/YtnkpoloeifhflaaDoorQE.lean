/- What the proof of StageWritesCard stands on (texts merged; names shortened by a program): part 5. -/
import Derived.Test.YtnkpoloeifhflaaDoorQD
import Derived.ProofKit
import Derived.Lib.LaidTab
import Derived.LaidHandle
import Derived.OpenShut
import Derived.ShutString
import Derived.ChangeOld
import Derived.Below
import Derived.Carry
import Derived.SizedLaws
import Derived.Test.YtnkpoloeifhflaaDoorProg
import Derived.KernelRfl
import Derived.Lib.Bytealg
import Derived.Sort.Walk0
set_option linter.defProp false
set_option linter.unusedSectionVars false
set_option linter.unusedSimpArgs false
set_option linter.unusedVariables false
namespace Go.Proofs.YtnkpoloeifhflaaDoor
theorem aI_ {a b:Prop} (x:a) (y:b):a∧b:=⟨x,y⟩
section
open Go.RowKit
variable [AtQ]
set_option autoImplicit false
universe u
class Tg {α:Sort u} (a:α):Type where
instance tg {α:Sort u} (a:α):Tg a:={}
def vif (t:Bool) (A B:Prop) [Tg A] [Tg B]:Prop:=if t=true then A else B
def Auf {α:Type} (o:Option α) (K:α→Prop) [Tg K]:Prop:=match o with | some y=>K y | none=>False
def AwE (A K:Prop) [Tg K]:Prop:=A∧K
def AtW {α:Type} (x:α) (K:α→Prop) [Tg K]:Prop:=K x
def vex (K:TV→Prop) [Tg K]:Prop:=∃ x,K x
def VC (P:Program) (f:FuncId) (xs:List TV) (H:List Ob) (K:TV→List Ob→Prop) [Tg K]:Prop:=Atj P f xs H K
def VY (P:Program) (id ver:Nat) (xs:List TV) (H:List Ob) (K:TV→List Ob→Prop) [Tg K]:Prop:=AFu P id ver xs H K
theorem AwK {P:Program} {f:FuncId} {xs:List TV} {H:List Ob} {K:TV→List Ob→Prop} (h:Atj P f xs H K):VC P f xs H K:=h
section
variable {A A' B K:Prop} {α:Type}
@[congr] theorem A8E {t t':Bool} (h:t=t'):vif t A B=vif t' A B:=by rw [h]
@[congr] theorem A7M {o o':Option α} {K:α→Prop} (h:o=o'):Auf o K=Auf o' K:=by rw [h]
@[congr] theorem A7T (h:A=A'):AwE A K=AwE A' K:=by rw [h]
@[congr] theorem A7P {x x':α} {K:α→Prop} (h:x=x'):AtW x K=AtW x' K:=by rw [h]
@[congr] theorem Bat {P:Program} {c:Atc} {Q:VEx→Env→List Ob→Prop} {e e':Env} {H H':List Ob} (he:e=e') (hH:H=H'):vwp P c Q e H=vwp P c Q e' H':=by rw [he,hH]
@[congr] theorem BaU {P:Program} {f:FuncId} {xs xs':List TV} {H H':List Ob} {K:TV→List Ob→Prop} (he:xs=xs') (hH:H=H'):VC P f xs H K=VC P f xs' H' K:=by rw [he,hH]
@[congr] theorem Ba4 {P:Program} {id ver:Nat} {xs xs':List TV} {H H':List Ob} {K:TV→List Ob→Prop} (he:xs=xs') (hH:H=H'):VY P id ver xs H K=VY P id ver xs' H' K:=by rw [he,hH]
theorem A0w:vif true A B=A:=by simp [vif]
theorem AXv:vif false A B=B:=by simp [vif]
theorem A89 {p:Prop} [Decidable p] (h:p):vif (decide p) A B=A:=by simp [vif,h]
theorem A9k {p:Prop} [Decidable p] (h:¬ p):vif (decide p) A B=B:=by simp [vif,h]
theorem A6i {t:Bool}:vif (!t) A B=vif t B A:=by cases t<;>simp [vif]
theorem A5Z {s t:Bool}:vif (s && t) A B=vif s (vif t A B) B:=by cases s<;>simp [vif]
theorem A8m {s t:Bool}:vif (s || t) A B=vif s A (vif t A B):=by cases s<;>simp [vif]
theorem AWJ {y:α} {K:α→Prop}:Auf (some y) K=K y:=rfl
theorem A11 {β:Type} {f:α→β} {o:Option α} {K:β→Prop}:Auf (o.map f) K=Auf o fun y=>K (f y):=by cases o<;>rfl
theorem A6m {cs:List α} {i:Nat} {K:α→Prop} (h:i<cs.length):Auf cs[i]? K=K cs[i]:=by rw [List.getElem?_eq_getElem h]; rfl
theorem AXZ (h:A):AwE A K=K:=by simp [AwE,h]
theorem A8o:AwE True K=K:=by simp [AwE]
theorem A0N:AwE (A∧B) K=AwE A (AwE B K):=by simp [AwE,and_assoc]
theorem A7f {x:α} {K:α→Prop}:AtW x K=K x:=rfl
end
def Azn:Option Ob→Nat→Option TV
 | some (.obj v x),ver=>if v=ver then some x else none
 | _,_=>none
theorem A12 {v:Nat} {x:TV}:Azn (some (.obj v x)) v=some x:=by simp [Azn]
section
variable {H l:List Ob} {o:Ob} {n k:Nat}
theorem A4Y (h:H.length=n):(H++l)[n]?=l[0]?:=by rw [List.getElem?_append_right (by omega),h,Nat.sub_self]
theorem A6E (h:H.length=n):(H++l)[n+k]?=l[k]?:=by rw [List.getElem?_append_right (by omega)]; congr 1; omega
theorem A9J (h:n<H.length):(H++l)[n]?=H[n]?:=List.getElem?_append_left h
theorem Bax (h:n<H.length):(H.set n o)[n]?=some o:=by simp [h]
theorem AXj {m:Nat} (h:m≠n):(H.set m o)[n]?=H[n]?:=by rw [List.getElem?_set_ne h]
theorem A6r (h:H.length=n):(H++l).set n o=H++l.set 0 o:=by rw [List.set_append_right _ _ (by omega),h,Nat.sub_self]
theorem A1D (h:H.length=n):(H++l).set (n+k) o=H++l.set k o:=by rw [List.set_append_right _ _ (by omega)]; congr 2; omega
theorem A6M (h:n<H.length):(H++l).set n o=H.set n o++l:=List.set_append_left _ _ h
end
section
variable {P:Program} {e:Env} {H:List Ob}
def AZb (c a b:TV) (K:TV→Prop) [Tg K]:Prop:=match c with | .val (.bool t)=>K (if t then a else b) | _=>False
def BaR (t:TypeId) (op:BinOp) (x y:TV) (K:TV→Prop) [Tg K]:Prop:=match x,y with
  | .val u,.val v=>A4Q u v=true∧(match AyH t op u v with | some r=>K (.val r) | none=>False)
  | _,_=>False
def Pun (op:UnOp) (x:TV) (K:TV→Prop) [Tg K]:Prop:=match x with
  | .val u=>(match unV op u with | some r=>K (.val r) | none=>False)
  | _=>False
def A4A (k:IntKind) (x:TV) (K:TV→Prop) [Tg K]:Prop:=match x with
  | .val (.int _ n)=>K (.val (.int k (k.wrap n)))
  | _=>False
def Ba0 (x:TV) (K:TV→Prop) [Tg K]:Prop:=match x with
  | .val (.string s)=>K (.val (.string s))
  | _=>False
def BaS (x:Option (List TV)) (K:TV→Prop) [Tg K]:Prop:=match x with
  | some cs=>(∀ y∈cs,AWy y)∧K (.val (.string (str (cs.map ANd))))
  | none=>False
def AT5 (H:List Ob) (ag:Bool) (sz:Nat) (x:TV) (K:TV→Prop) [Tg K]:Prop:=match x with
  | .fp y=>AQx ag sz y∧K y
  | .op id ver p=>(match H[id]? with
   | some (.obj v x)=>v=ver∧(match ABl p x with | some y=>AQx ag sz y∧K y | none=>False)
   | _=>False)
  | _=>False
def AMf (i off:Nat) (x:TV) (K:TV→Prop) [Tg K]:Prop:=match x with
  | .op id ver p=>K (.op id ver (p++[(i,off)]))
  | .fp (.agg cs)=>Aut (cs.take i)=off∧(match cs[i]? with | some y=>K (.fp y) | none=>False)
  | _=>False
def ATp (ag:Bool) (sz i off:Nat) (x:TV) (K:TV→Prop) [Tg K]:Prop:=match x with
  | .agg cs=>Aut (cs.take i)=off∧(match cs[i]? with | some y=>AQx ag sz y∧K y | none=>False)
  | _=>False
def AV7 (k:Nat) (x i:TV) (K:TV→Prop) [Tg K]:Prop:=match x,i with
  | .sl k' cs,.val (.int _ j)=>k'=k∧0≤j∧(match cs[j.toNat]? with | some y=>K (.fp y) | none=>False)
  | .os k' id ver p off n cp,.val (.int _ j)=>k'=k∧0≤j∧j<n∧K (.op id ver (p++[(off+j.toNat,(off+j.toNat)*k)]))
  | _,_=>False
def AP8 (n k:Nat) (x i:TV) (K:TV→Prop) [Tg K]:Prop:=match x,i with
  | .fp (.arr n' k' cs),.val (.int _ j)=>k'=k∧n'=n∧0≤j∧(match cs[j.toNat]? with | some y=>K (.fp y) | none=>False)
  | .op id ver p,.val (.int _ j)=>0≤j∧j<n∧K (.op id ver (p++[(j.toNat,j.toNat*k)]))
  | _,_=>False
def A97 (ag:Bool) (n k:Nat) (x i:TV) (K:TV→Prop) [Tg K]:Prop:=match x,i with
  | .arr n' k' cs,.val (.int _ j)=>k'=k∧n'=n∧0≤j∧(match cs[j.toNat]? with | some y=>AQx ag k y∧K y | none=>False)
  | _,_=>False
def AXf (x i:TV) (K:TV→Prop) [Tg K]:Prop:=match x,i with
  | .val (.string s),.val (.int _ j)=>0≤j∧(match (bl s)[j.toNat]? with | some b=>K (by8 b) | none=>False)
  | _,_=>False
def Bas (i:Nat) (x:TV) (K:TV→Prop) [Tg K]:Prop:=match x with
  | .tup xs=>(match xs[i]? with | some y=>K y | none=>False)
  | _=>False
def A2m (x:TV) (K:TV→Prop) [Tg K]:Prop:=match x with
  | .val (.string s)=>K (.val (.int .i64 (bl s).length))
  | _=>False
def AWh (x:TV) (K:TV→Prop) [Tg K]:Prop:=match x with
  | .val (.slice _ n _)=>K (.val (.int .i64 n))
  | .sl _ cs=>K (.val (.int .i64 cs.length))
  | .os _ _ _ _ _ n _=>K (.val (.int .i64 n))
  | _=>False
def ARn (lo hi:Option TV) (len lim:Nat) (K:Nat→Nat→Prop) [Tg K]:Prop :=
 match (match lo with | none=>some 0 | some x=>(match x with | .val (.int _ i)=>some i | _=>none)),(match hi with | none=>some (len:Int) | some x=>(match x with | .val (.int _ i)=>some i | _=>none)) with
 | some l,some h=>(0≤l∧l≤h∧h≤lim)∧K l.toNat h.toNat
 | _,_=>False
def evO (e:Env):Option Opd→Option TV
 | none=>none
 | some x=>some (x.ev e)
theorem AZC:evO e none=none:=As9 rfl
theorem AZ9 {x:Opd}:evO e (some x)=some (x.ev e):=As9 rfl
theorem AYg {lo hi:Option Opd} {len lim:Nat} {K:Nat→Nat→Prop}:bnd e lo hi len lim K=ARn (evO e lo) (evO e hi) len lim K:=by
 cases lo<;>cases hi<;>rfl
def Ba1 (x:TV) (lo hi:Option TV) (K:TV→Prop) [Tg K]:Prop:=match x with
  | .val (.string s)=>ARn lo hi (bl s).length (bl s).length fun l h=>K (.val (.string (str (((bl s).drop l).take (h - l)))))
  | _=>False
def A7R (k:Nat) (x:TV) (lo hi:Option TV) (K:TV→Prop) [Tg K]:Prop:=match x with
  | .sl k' cs=>k'=k∧ARn lo hi cs.length cs.length fun l h=>K (.sl k ((cs.drop l).take (h - l)))
  | .os k' id ver p off n cp=>k'=k∧ARn lo hi n cp fun l h=>K (.os k id ver p (off+l) (h - l) (cp - l))
  | .val (.slice ad 0 0)=>ARn lo hi 0 0 fun l h=>K (.val (.slice ad 0 0))
  | _=>False
def A7K (H:List Ob) (n k:Nat) (x:TV) (lo hi:Option TV) (K:TV→Prop) [Tg K]:Prop:=match x with
  | .fp (.arr n' k' cs)=>k'=k∧n'=n∧n≤9223372036854775807∧ARn lo hi n n fun l h=>K (.sl k ((cs.drop l).take (h - l)))
  | .op id ver p=>(match H[id]? with
   | some (.obj v x)=>v=ver∧n≤9223372036854775807∧(match ABl p x with | some (.arr n' k' cs)=>k'=k∧n'=n∧ARn lo hi n n fun l h=>K (.os k id ver p l (h - l) (n - l)) | _=>False)
   | _=>False)
  | _=>False
def AVn (t:TypeId) (x:TV) (K:TV→Prop) [Tg K]:Prop:=lays x=true∧K (.ifc t x)
def A8j (f:Fn) (first caps:List TV) (K:TV→Prop) [Tg K]:Prop:=(∀ x∈first++caps,AuM x=false)∧K (.fn f first caps)
def AR1 (x:TV) (K:TV→Prop) [Tg K]:Prop:=match x with
  | .op id ver p=>K (.op id ver p)
  | .fp y=>K (.fp y)
  | .fn (.func f) a b=>K (.fn (.func f) a b)
  | .ifc t y=>K (.ifc t y)
  | .val (.func (.func f) a b)=>K (.val (.func (.func f) a b))
  | _=>False
def Bba (x y:TV) (K:TV→Prop) [Tg K]:Prop:=match x,y with
  | .val (.int k a),.val (.int _ b)=>K (.val (.int k (if b<a then b else a)))
  | _,_=>False
def Ba9 (x y:TV) (K:TV→Prop) [Tg K]:Prop:=match x,y with
  | .val (.int k a),.val (.int _ b)=>K (.val (.int k (if b > a then b else a)))
  | _,_=>False
def AOJ (g:GOp) (H:List Ob) (xs:List TV) (K:TV→Prop) [Tg K]:Prop:=match gev g H xs with
  | some y=>K y
  | none=>False
def A8A (neg:Bool) (x y:TV) (K:TV→Prop) [Tg K]:Prop:=match x,y with
  | .val (.bool a),.val (.bool b)=>K (.val (.bool (xor neg (a == b))))
  | _,_=>False
def A9F (neg:Bool) (x y:Option Bool) (K:TV→Prop) [Tg K]:Prop:=match x,y with
  | some true,some b=>K (.val (.bool (xor neg b)))
  | some false,some true=>K (.val (.bool (xor neg false)))
  | _,_=>False
def AR6 (H:List Ob) (sz:Nat) (x v:TV) (K:TV→List Ob→Prop) [Tg K]:Prop:=(lays v=true∧Atq v=sz)∧(match x with
  | .op id ver p=>(match H[id]? with
   | some (.obj vr y)=>vr=ver∧(match AI8 p y v with | some y'=>K .any (H.set id (.obj ver y')) | none=>False)
   | _=>False)
  | _=>False)
def BaV (H:List Ob) (k bytes:Nat) (z l c:TV) (K:TV→List Ob→Prop) [Tg K]:Prop:=match l,c with
  | .val (.int _ l),.val (.int _ c)=>(0≤l∧l≤c∧(bytes:Int)*c≤281474976710656∧c≤9223372036854775807)∧K (.os k H.length 0 [] 0 l.toNat c.toNat) (H++[.obj 0 (.arr c.toNat k (List.replicate c.toNat z))])
  | _,_=>False
def A4w (k bytes:Nat) (et:TypeId) (x:TV) (y:Option (List TV)) (H:List Ob) (K:TV→List Ob→Prop) [Tg K]:Prop:=match y with
  | some ys=>APT k bytes et x ys H K
  | none=>False
def AUd (k:Nat) (x:TV) (y:Option (List TV)) (H:List Ob) (K:TV→List Ob→Prop) [Tg K]:Prop:=match y with
  | some ys=>AIA k x ys H K
  | none=>False
def AZ7 (et:TypeId) (x y:TV) (H:List Ob) (K:TV→List Ob→Prop) [Tg K]:Prop:=match y with
  | .val (.string s)=>APT 1 1 et x ((bl s).map by8) H K
  | _=>False
def AUQ (x y:TV) (H:List Ob) (K:TV→List Ob→Prop) [Tg K]:Prop:=match y with
  | .val (.string s)=>AIA 1 x ((bl s).map by8) H K
  | _=>False
def A0b (P:Program) (f:FuncId) (x:Option (Nat×Nat×List UInt8)) (H:List Ob) (K:TV→List Ob→Prop) [Tg K]:Prop:=Bcm P f∧(match x with
  | some (j,v,l)=>l.length≤9223372036854775807∧K (.val (.string (str l))) (H.set j (.gone v))
  | none=>False)
def BaT (H:List Ob) (x:TV) (K:TV→List Ob→Prop) [Tg K]:Prop:=match x with
  | .val (.string s)=>(bl s).length≤9223372036854775807∧K (.os 1 H.length 0 [] 0 (bl s).length (bl s).length) (H++[.obj 0 (.arr (bl s).length 1 ((bl s).map by8))])
  | _=>False
def AV6 (k bytes:Nat) (et:TypeId) (z x n:TV) (H:List Ob) (K:TV→List Ob→Prop) [Tg K]:Prop:=match x,n with
  | .val (.slice none 0 0),.val (.int .i64 j)=>(0≤j∧(bytes:Int)*j≤140737488355328∧j≤9223372036854775807)∧K (.os k H.length 0 [] 0 j.toNat j.toNat) (H++[.obj 0 (.arr j.toNat k (List.replicate j.toNat z))])
  | .os k' id ver p off m cp,.val (.int .i64 j)=>(0≤j∧(bytes:Int)*j≤140737488355328∧j≤9223372036854775807)∧APT k bytes et (.os k' id ver p off m cp) (List.replicate j.toNat z) H K
  | _,_=>False
def AUb (H:List Ob) (K:TV→List Ob→Prop) [Tg K]:Prop:=K (.val (.bool true)) H∧K (.val (.bool false)) H
def A47 (neg:Bool) (x:TV) (H:List Ob) (K:TV→List Ob→Prop) [Tg K]:Prop:=match x with
  | .val (.slice a _ _)=>K (.val (.bool (xor neg a.isNone))) H
  | .sl _ cs=>(cs=[]→K (.val (.bool true)) H∧K (.val (.bool false)) H)∧(cs≠[]→K (.val (.bool neg)) H)
  | .os _ _ _ _ _ n _=>(n=0→K (.val (.bool true)) H∧K (.val (.bool false)) H)∧(n≠0→K (.val (.bool neg)) H)
  | _=>False
def AQt (P:Program) (x:TV) (args:List TV) (H:List Ob) (K:TV→List Ob→Prop) [Tg K]:Prop:=match x with
  | .fn (.func f) first caps=>AMt P f=true∧Atj P f (first++args++caps) H K
  | .val (.func (.func f) xs ys)=>(xs.isEmpty && ys.isEmpty)=true∧AMt P f=true∧Atj P f args H K
  | .yl id ver=>AFu P id ver args H K
  | _=>False
def BaE (P:Program) (nm:String) (x:TV) (args:List TV) (H:List Ob) (K:TV→List Ob→Prop) [Tg K]:Prop:=Ba7 P nm H x fun f r=>Atj P f (r::args) H K
def A7Q (P:Program) (q:Option (FuncId×Option (Bool×Nat))) (r:TV) (args:List TV) (H:List Ob) (K:TV→List Ob→Prop) [Tg K]:Prop:=match q with
 | some (f,none)=>AMt P f=true∧Atj P f (r::args) H K
 | some (f,some (ag,sz))=>AMt P f=true∧ldT H ag sz r fun y=>Atj P f (y::args) H K
 | none=>False
def Gd (q:Option Bool) (b:Bool) (A B:Prop) [Tg A] [Tg B]:Prop:=match q with
 | some t=>if t=b then A else B
 | none=>B
def evs (e:Env) (xs:List Opd):List TV:=xs.map (·.ev e)
theorem A6k:evs e []=[]:=As9 rfl
theorem A2i {x:Opd} {xs:List Opd}:evs e (x::xs)=x.ev e::evs e xs:=As9 rfl
def AIo (xs:List TV):Prop:=∀ x∈xs,AuM x=false
theorem AWK:AIo []=True:=by simp [AIo]
theorem AVC {x:TV} {xs:List TV}:AIo (x::xs)=(AuM x=false∧AIo xs):=by simp [AIo]
theorem AEs {args:List Opd}:(∀ x∈args,AuM (x.ev e)=false)=AIo (evs e args):=by simp [AIo,evs]
section
variable {c c' a a' b b' x x' y y':TV} {K:TV→Prop} {KK:TV→List Ob→Prop} {lo lo' hi hi':Option TV} {ox ox':Option (List TV)} {q q' q2 q2':Option Bool} {xs xs':List TV} {A B:Prop} {H':List Ob}
@[congr] theorem Bca (h1:c=c') (h2:a=a') (h3:b=b'):AZb c a b K=AZb c' a' b' K:=by rw [h1,h2,h3]
@[congr] theorem Beb {t:TypeId} {op:BinOp} (h1:x=x') (h2:y=y'):BaR t op x y K=BaR t op x' y' K:=by rw [h1,h2]
@[congr] theorem Bej {op:UnOp} (h1:x=x'):Pun op x K=Pun op x' K:=by rw [h1]
@[congr] theorem BcL {k:IntKind} (h1:x=x'):A4A k x K=A4A k x' K:=by rw [h1]
@[congr] theorem Bea (h1:x=x'):Ba0 x K=Ba0 x' K:=by rw [h1]
@[congr] theorem BdR (h1:ox=ox'):BaS ox K=BaS ox' K:=by rw [h1]
@[congr] theorem Bcc {ag:Bool} {sz:Nat} (h1:x=x') (h2:H=H'):AT5 H ag sz x K=AT5 H' ag sz x' K:=by rw [h1,h2]
@[congr] theorem BaD {i o:Nat} (h1:x=x'):AMf i o x K=AMf i o x' K:=by rw [h1]
@[congr] theorem BaP {ag:Bool} {sz i o:Nat} (h1:x=x'):ATp ag sz i o x K=ATp ag sz i o x' K:=by rw [h1]
@[congr] theorem Bdi {k:Nat} (h1:x=x') (h2:y=y'):AV7 k x y K=AV7 k x' y' K:=by rw [h1,h2]
@[congr] theorem BaY {n k:Nat} (h1:x=x') (h2:y=y'):AP8 n k x y K=AP8 n k x' y' K:=by rw [h1,h2]
@[congr] theorem Bd8 {ag:Bool} {n k:Nat} (h1:x=x') (h2:y=y'):A97 ag n k x y K=A97 ag n k x' y' K:=by rw [h1,h2]
@[congr] theorem BbZ (h1:x=x') (h2:y=y'):AXf x y K=AXf x' y' K:=by rw [h1,h2]
@[congr] theorem BdF {i:Nat} (h1:x=x'):Bas i x K=Bas i x' K:=by rw [h1]
@[congr] theorem Bcn (h1:x=x'):A2m x K=A2m x' K:=by rw [h1]
@[congr] theorem Bbp (h1:x=x'):AWh x K=AWh x' K:=by rw [h1]
@[congr] theorem Bd5 {n m:Nat} {K:Nat→Nat→Prop} {n' m':Nat} (h1:lo=lo') (h2:hi=hi') (h3:n=n') (h4:m=m'):ARn lo hi n m K=ARn lo' hi' n' m' K:=by rw [h1,h2,h3,h4]
@[congr] theorem Bee (h1:x=x') (h2:lo=lo') (h3:hi=hi'):Ba1 x lo hi K=Ba1 x' lo' hi' K:=by rw [h1,h2,h3]
@[congr] theorem BdD {k:Nat} (h1:x=x') (h2:lo=lo') (h3:hi=hi'):A7R k x lo hi K=A7R k x' lo' hi' K:=by rw [h1,h2,h3]
@[congr] theorem BdQ {n k:Nat} (h0:H=H') (h1:x=x') (h2:lo=lo') (h3:hi=hi'):A7K H n k x lo hi K=A7K H' n k x' lo' hi' K:=by rw [h0,h1,h2,h3]
@[congr] theorem Ba6 {t:TypeId} (h1:x=x'):AVn t x K=AVn t x' K:=by rw [h1]
@[congr] theorem Bd0 {f:Fn} {ys ys':List TV} (h1:xs=xs') (h2:ys=ys'):A8j f xs ys K=A8j f xs' ys' K:=by rw [h1,h2]
@[congr] theorem BbC (h1:x=x'):AR1 x K=AR1 x' K:=by rw [h1]
@[congr] theorem Bed (h1:x=x') (h2:y=y'):Bba x y K=Bba x' y' K:=by rw [h1,h2]
@[congr] theorem BdM (h1:x=x') (h2:y=y'):Ba9 x y K=Ba9 x' y' K:=by rw [h1,h2]
@[congr] theorem BdP {g:GOp} {xs xs':List TV} (h1:H=H') (h2:xs=xs'):AOJ g H xs K=AOJ g H' xs' K:=by rw [h1,h2]
@[congr] theorem Beh {n:Bool} (h1:x=x') (h2:y=y'):A8A n x y K=A8A n x' y' K:=by rw [h1,h2]
@[congr] theorem BdU {n:Bool} (h1:q=q') (h2:q2=q2'):A9F n q q2 K=A9F n q' q2' K:=by rw [h1,h2]
@[congr] theorem BaW {sz:Nat} (h0:H=H') (h1:x=x') (h2:y=y'):AR6 H sz x y KK=AR6 H' sz x' y' KK:=by rw [h0,h1,h2]
@[congr] theorem BdH {k n:Nat} {z:TV} (h0:H=H') (h1:x=x') (h2:y=y'):BaV H k n z x y KK=BaV H' k n z x' y' KK:=by rw [h0,h1,h2]
@[congr] theorem BdZ {k n:Nat} {et:TypeId} (h0:H=H') (h1:x=x') (h2:ox=ox'):A4w k n et x ox H KK=A4w k n et x' ox' H' KK:=by rw [h0,h1,h2]
@[congr] theorem Bbr {k:Nat} (h0:H=H') (h1:x=x') (h2:ox=ox'):AUd k x ox H KK=AUd k x' ox' H' KK:=by rw [h0,h1,h2]
@[congr] theorem Bdu {et:TypeId} (h0:H=H') (h1:x=x') (h2:y=y'):AZ7 et x y H KK=AZ7 et x' y' H' KK:=by rw [h0,h1,h2]
@[congr] theorem Ba2 (h0:H=H') (h1:x=x') (h2:y=y'):AUQ x y H KK=AUQ x' y' H' KK:=by rw [h0,h1,h2]
@[congr] theorem Bc1 {P:Program} {f:FuncId} {r r':Option (Nat×Nat×List UInt8)} (h0:H=H') (h1:r=r'):A0b P f r H KK=A0b P f r' H' KK:=by rw [h0,h1]
@[congr] theorem Bcz {k n:Nat} {et:TypeId} {z:TV} (h0:H=H') (h1:x=x') (h2:y=y'):AV6 k n et z x y H KK=AV6 k n et z x' y' H' KK:=by rw [h0,h1,h2]
@[congr] theorem BdL {n:Bool} (h0:H=H') (h1:x=x'):A47 n x H KK=A47 n x' H' KK:=by rw [h0,h1]
@[congr] theorem BcY (h0:H=H'):AUb H KK=AUb H' KK:=by rw [h0]
@[congr] theorem BdI (h0:H=H') (h1:x=x'):BaT H x KK=BaT H' x' KK:=by rw [h0,h1]
@[congr] theorem BaQ (h0:H=H') (h1:x=x') (h2:xs=xs'):AQt P x xs H KK=AQt P x' xs' H' KK:=by rw [h0,h1,h2]
@[congr] theorem BdV {P:Program} {nm:String} (h0:H=H') (h1:x=x') (h2:xs=xs'):BaE P nm x xs H KK=BaE P nm x' xs' H' KK:=by rw [h0,h1,h2]
@[congr] theorem Bec {P:Program} {g g':Option (FuncId×Option (Bool×Nat))} (h:g=g') (h0:H=H') (h1:x=x') (h2:xs=xs'):A7Q P g x xs H KK=A7Q P g' x' xs' H' KK:=by rw [h,h0,h1,h2]
@[congr] theorem BeK {b:Bool} (h1:q=q'):Gd q b A B=Gd q' b A B:=by rw [h1]
end
section
variable {K:TV→Prop} {KK:TV→List Ob→Prop} {x y i a b c:Opd} {lo hi:Option Opd}
theorem BcQ:pop (.mov x) e H K=AtW (x.ev e) K:=As9 rfl
theorem Ban:pop (.pick c a b) e H K=AZb (c.ev e) (a.ev e) (b.ev e) K:=As9 rfl
theorem Bde {t:TypeId} {op:BinOp}:pop (.bin t op x y) e H K=BaR t op (x.ev e) (y.ev e) K:=As9 rfl
theorem Bey {op:UnOp}:pop (.un op x) e H K=Pun op (x.ev e) K:=As9 rfl
theorem A9h {k:IntKind}:pop (.conv k x) e H K=A4A k (x.ev e) K:=As9 rfl
theorem Bb8:pop (.s2s x) e H K=Ba0 (x.ev e) K:=As9 rfl
theorem BcJ:pop (.b2s x) e H K=BaS (AuB H 1 (x.ev e)) K:=As9 rfl
theorem A9A {ag:Bool} {sz:Nat}:pop (.load ag sz x) e H K=AT5 H ag sz (x.ev e) K:=As9 rfl
theorem A1Y {n o:Nat}:pop (.fieldA n o x) e H K=AMf n o (x.ev e) K:=As9 rfl
theorem A7D {ag:Bool} {sz n o:Nat}:pop (.field ag sz n o x) e H K=ATp ag sz n o (x.ev e) K:=As9 rfl
theorem A8y {k:Nat}:pop (.idxA k x i) e H K=AV7 k (x.ev e) (i.ev e) K:=As9 rfl
theorem A5E {n k:Nat}:pop (.idxAA n k x i) e H K=AP8 n k (x.ev e) (i.ev e) K:=As9 rfl
theorem BbH {ag:Bool} {n k:Nat}:pop (.idx ag n k x i) e H K=A97 ag n k (x.ev e) (i.ev e) K:=As9 rfl
theorem Baf:pop (.idxS x i) e H K=AXf (x.ev e) (i.ev e) K:=As9 rfl
theorem BcP {n:Nat}:pop (.ext n x) e H K=Bas n (x.ev e) K:=As9 rfl
theorem A8u:pop (.lenS x) e H K=A2m (x.ev e) K:=As9 rfl
theorem A8I:pop (.lenV x) e H K=AWh (x.ev e) K:=As9 rfl
theorem BcI:pop (.slS x lo hi) e H K=Ba1 (x.ev e) (evO e lo) (evO e hi) K:=by
 show (match x.ev e with | .val (.string s)=>bnd e lo hi (bl s).length (bl s).length fun l h=>K (.val (.string (str (((bl s).drop l).take (h - l))))) | _=>False)=_
 simp only [AYg]; rfl
theorem Bdj {k:Nat}:pop (.slV k x lo hi) e H K=A7R k (x.ev e) (evO e lo) (evO e hi) K:=by
 rw [Bcq]; simp only [AYg]; rfl
theorem Bbl {n k:Nat}:pop (.slA n k x lo hi) e H K=A7K H n k (x.ev e) (evO e lo) (evO e hi) K:=by
 rw [BcD]; simp only [AYg]; rfl
theorem A5u {t:TypeId}:pop (.iface t x) e H K=AVn t (x.ev e) K:=As9 rfl
theorem Bbg {f:Fn} {xs ys:List Opd}:pop (.mkf f xs ys) e H K=A8j f (evs e xs) (evs e ys) K:=by
 rw [Bc0]; unfold A8j evs; rw [←List.map_append]
 refine congrArg (· ∧ _) (propext ⟨fun h y hy => ?_,fun h y hy=>h _ (List.mem_map.2 ⟨y,hy,rfl⟩)⟩)
 obtain ⟨z,hz,rfl⟩:=List.mem_map.1 hy; exact h z hz
theorem Bav:pop (.nilc x) e H K=AR1 (x.ev e) K:=As9 rfl
theorem BcA:pop (.min x y) e H K=Bba (x.ev e) (y.ev e) K:=As9 rfl
theorem Bc9:pop (.max x y) e H K=Ba9 (x.ev e) (y.ev e) K:=As9 rfl
theorem Bdr {g:GOp} {xs:List Opd}:pop (.gen g xs) e H K=AOJ g H (evs e xs) K:=As9 rfl
theorem Bbz {n:Bool}:pop (.eqB x y n) e H K=A8A n (x.ev e) (y.ev e) K:=As9 rfl
theorem BcC {kd:Nat} {n:Bool}:pop (.eqN kd x y n) e H K=A9F n (Aw1 kd (x.ev e)) (Aw1 kd (y.ev e)) K:=As9 rfl
theorem A6j {zs:List TV} {szs:List Nat} {ps:List (Nat×Opd)}:pop (.build zs szs ps) e H K=AwE (Aw8 e szs ps) (AtW (TV.agg (AxX e zs ps)) K):=As9 rfl
theorem A1a {n k:Nat} {zs:List TV} {ps:List (Nat×Opd)}:pop (.buildA n k zs ps) e H K=AwE (Aw8 e (List.replicate n k) ps) (AwE (Aum e ps) (AtW (TV.arr n k (AxX e zs ps)) K)):=As9 rfl
theorem Bdt {k n:Nat} {z:TV} {ps:List (Nat×Opd)}:pop (.bsl k n z ps) e H K=AwE (Aw8 e (List.replicate n k) ps) (AwE (Aum e ps∧n≤1000) (AtW (TV.sl k (AxX e (List.replicate n z) ps)) K)):=by
 show ((_∧_∧_)∧_)=_
 simp only [AwE,AtW,and_assoc]
theorem A7q {z:TV}:sop P (.alloc z) e H KK=AtW (H.length) fun n=>AtW (H++[.obj 0 z]) fun H'=>KK (.op n 0 []) H':=As9 rfl
theorem A0A {z:TV} {t:TypeId}:sop P (.allocT z t) e H KK=AtW (H.length) fun n=>AtW (Atq z) fun m=>AtW (H++[.obj 0 z,.fact n 0 t m]) fun H'=>KK (.op n 0 []) H':=As9 rfl
theorem A9U {t:TypeId}:sop P (.boxT x t) e H KK=AtW (x.ev e) fun v=>AwE (lays v=true) (AtW (H.length) fun n=>AtW (Atq v) fun m=>AtW (H++[.obj 0 v,.fact n 0 t m]) fun H'=>KK (.op n 0 []) H'):=As9 rfl
theorem A9Y {f:FuncId}:sop P (.bstr f x) e H KK=A0b P f (AWl H (x.ev e)) H KK:=As9 rfl
def A1p (x:TV) (H:List Ob) (K:TV→List Ob→Prop) [Tg K]:Prop:=match x with
 | .val (.string s)=>K (.op H.length 0 []) (H++[.sit (bl s) 0])
 | _=>False
@[congr] theorem Bck {x x':TV} {H':List Ob} (h1:x=x') (h2:H=H'):A1p x H KK=A1p x' H' KK:=by rw [h1,h2]
theorem A9W:sop P (.rngS x) e H KK=A1p (x.ev e) H KK:=As9 rfl
theorem AZL {s:ByteArray}:A1p (.val (.string s)) H KK=AtW H.length fun n=>AtW (H++[.sit (bl s) 0]) fun H'=>KK (.op n 0 []) H':=As9 rfl
def AYv:Option Ob→Option (List UInt8×Nat)
 | some (.sit s pos)=>some (s,pos)
 | _=>none
theorem A0s {s:List UInt8} {pos:Nat}:AYv (some (.sit s pos))=some (s,pos):=As9 rfl
def AYi (x:TV) (H:List Ob) (K:TV→List Ob→Prop) [Tg K]:Prop:=match x with
 | .op id 0 []=>(match H[id]? with
  | some (.sit s pos)=>if pos<s.length then K (.tup [.val (.bool true),.val (.int .i64 (pos:Int)),.val (.int .i32 ((Utf8.decode (str s) pos).1:Int))]) (H.set id (.sit s (pos+(Utf8.decode (str s) pos).2))) else K (.tup [.val (.bool false)]) H
  | _=>False)
 | _=>False
@[congr] theorem Bbv {x x':TV} {H':List Ob} (h1:x=x') (h2:H=H'):AYi x H KK=AYi x' H' KK:=by rw [h1,h2]
theorem A9s:sop P (.nxtS x) e H KK=AYi (x.ev e) H KK:=As9 rfl
theorem A1l {id:Nat}:AYi (.op id 0 []) H KK=Auf (AYv H[id]?) fun p=>vif (decide (p.2<p.1.length))
  (AtW (H.set id (.sit p.1 (p.2+(Utf8.decode (str p.1) p.2).2))) fun H'=>KK (.tup [.val (.bool true),.val (.int .i64 (p.2:Int)),.val (.int .i32 ((Utf8.decode (str p.1) p.2).1:Int))]) H') (KK (.tup [.val (.bool false)]) H):=by
 unfold AYi
 cases h:H[id]? with
 | none=>simp [AYv,Auf,h]
 | some o =>
  cases o with
  | sit s pos=>simp only [h,AYv,Auf,AtW]; by_cases hp:pos<s.length<;>simp [vif,hp]
  | _=>simp [AYv,Auf,h]
theorem Bbf:sop P (.box x) e H KK=AtW (x.ev e) fun v=>AwE (lays v=true) (AtW (H.length) fun n=>AtW (H++[.obj 0 v]) fun H'=>KK (.op n 0 []) H'):=As9 rfl
theorem AZQ {k n:Nat} {z:TV} {ps:List (Nat×Opd)}:sop P (.bslice k n z ps) e H KK=AwE (Aw8 e (List.replicate n k) ps) (AwE (Aum e ps∧n≤1000) (AtW H.length fun m=>AtW (H++[.obj 0 (.arr n k (AxX e (List.replicate n z) ps))]) fun H'=>KK (.os k m 0 [] 0 n n) H')):=by
 rw [AZK]; simp only [AwE,AtW,and_assoc]
def AN6 (kk:MK):Option Ob→Option (List (List UInt8×TV))
 | some (.mpo kk' es)=>if kk'=kk then some es else none
 | _=>none
def AOS (kk:MK):Option Ob→Option (List (List UInt8×TV))
 | some (.mpo kk' es)=>if kk'=kk then some es else none
 | some (.mpd kk' zs _)=>if kk'=kk then some (zs.map (·.2)) else none
 | _=>none
theorem A0S {kk:MK} {es:List (List UInt8×TV)}:AOS kk (some (.mpo kk es))=some es:=by simp [AOS]
theorem A6F {kk:MK} {zs:List (Nat×List UInt8×TV)} {cl:Nat}:AOS kk (some (.mpd kk zs cl))=some (zs.map (·.2)):=by simp [AOS]
def ATP:Option Ob→Option (List (List UInt8×TV))
 | some (.mpo _ es)=>some es
 | some (.mpd _ zs _)=>some (zs.map (·.2))
 | _=>none
theorem A0n {kk:MK} {es:List (List UInt8×TV)}:ATP (some (.mpo kk es))=some es:=by simp [ATP]
theorem A6d {kk:MK} {zs:List (Nat×List UInt8×TV)} {cl:Nat}:ATP (some (.mpd kk zs cl))=some (zs.map (·.2)):=by simp [ATP]
theorem A5W {kk:MK} {es:List (List UInt8×TV)}:stO (some (.mpo kk es))=some (kk,Az2 0 es,es.length):=As9 rfl
theorem A5a {kk:MK} {zs:List (Nat×List UInt8×TV)} {cl:Nat}:stO (some (.mpd kk zs cl))=some (kk,zs,cl):=As9 rfl
def AZf (x:TV) (H:List Ob) (K:TV→List Ob→Prop) [Tg K]:Prop:=match x with
 | .mp id 0=>(match stO H[id]? with
  | some (_,_,cl)=>K (.op H.length 0 []) (H++[.mit id [] cl])
  | none=>False)
 | _=>False
@[congr] theorem Bc6 {x x':TV} {H':List Ob} (h1:x=x') (h2:H=H'):AZf x H KK=AZf x' H' KK:=by rw [h1,h2]
theorem Bao:sop P (.rngM x) e H KK=AZf (x.ev e) H KK:=As9 rfl
theorem A0Z {id:Nat}:AZf (.mp id 0) H KK=Auf (stO H[id]?) fun p=>AtW H.length fun n=>AtW (H++[.mit id [] p.2.2]) fun H'=>KK (.op n 0 []) H':=by
 unfold AZf
 cases h:stO H[id]? with
 | none=>simp [Auf,h]
 | some o=>obtain ⟨a,b,c⟩:=o; simp [Auf,AtW,h]
def AQ0:Option Ob→Option (Nat×List Nat×Nat)
 | some (.mit m sn cl)=>some (m,sn,cl)
 | _=>none
theorem A0a {m cl:Nat} {sn:List Nat}:AQ0 (some (.mit m sn cl))=some (m,sn,cl):=As9 rfl
def AYG (x:TV) (H:List Ob) (K:TV→List Ob→Prop) [Tg K]:Prop:=match x with
 | .op id 0 []=>(match H[id]? with
  | some (.mit m sn cl)=>(match stO H[m]? with
   | some (kk,zs,cl')=>(cl'=cl∧∀ z∈zs,z.1<cl)∧(∀ z∈zs,z.1∉sn→K (.tup [.val (.bool true),kTV kk z.2.1,z.2.2]) (H.set id (.mit m (sn++[z.1]) cl)))∧((∀ z∈zs,z.1∈sn)→K (.tup [.val (.bool false)]) H)
   | none=>False)
  | _=>False)
 | _=>False
@[congr] theorem Bby {x x':TV} {H':List Ob} (h1:x=x') (h2:H=H'):AYG x H KK=AYG x' H' KK:=by rw [h1,h2]
theorem A9C:sop P (.nxtM x) e H KK=AYG (x.ev e) H KK:=As9 rfl
def A9u (id m:Nat) (sn:List Nat) (cl:Nat) (kk:MK) (zs:List (Nat×List UInt8×TV)) (cl':Nat) (H:List Ob) (K:TV→List Ob→Prop) [Tg K]:Prop :=
 (cl'=cl∧∀ z∈zs,z.1<cl)∧(∀ z∈zs,z.1∉sn→K (.tup [.val (.bool true),kTV kk z.2.1,z.2.2]) (H.set id (.mit m (sn++[z.1]) cl)))∧((∀ z∈zs,z.1∈sn)→K (.tup [.val (.bool false)]) H)
@[congr] theorem Bd9 {id m:Nat} {sn sn':List Nat} {cl c2:Nat} {kk:MK} {zs zs':List (Nat×List UInt8×TV)} {cl' c2':Nat} {H':List Ob} (h1:sn=sn') (h2:cl=c2) (h3:zs=zs') (h4:cl'=c2') (h5:H=H'):A9u id m sn cl kk zs cl' H KK=A9u id m sn' c2 kk zs' c2' H' KK:=by rw [h1,h2,h3,h4,h5]
theorem A0P {id:Nat}:AYG (.op id 0 []) H KK=Auf (AQ0 H[id]?) fun p=>Auf (stO H[p.1]?) fun q=>A9u id p.1 p.2.1 p.2.2 q.1 q.2.1 q.2.2 H KK:=by
 unfold AYG
 cases h:H[id]? with
 | none=>simp [AQ0,Auf,h]
 | some o =>
  cases o with
  | mit m sn cl =>
   simp only [h,AQ0,Auf]
   cases h2:stO H[m]? with
   | none=>simp
   | some q=>obtain ⟨a,b,c⟩:=q; simp only [A9u]
  | _=>simp [AQ0,Auf,h]
theorem AVw {id m:Nat} {sn:List Nat} {cl:Nat} {kk:MK} {zs:List (Nat×List UInt8×TV)} {cl':Nat} (h0:cl'=cl) (h1:∀ z∈zs,z.1<cl) (h2:∀ z∈zs,z.1∉sn→KK (.tup [.val (.bool true),kTV kk z.2.1,z.2.2]) (H.set id (.mit m (sn++[z.1]) cl))) (h3:(∀ z∈zs,z.1∈sn)→KK (.tup [.val (.bool false)]) H):A9u id m sn cl kk zs cl' H KK:=⟨⟨h0,h1⟩,h2,h3⟩
theorem AS2:∀ {es:List (List UInt8×TV)} {i:Nat},∀ z∈Az2 i es,i≤z.1∧z.1<i+es.length
 | [],i,z,h=>by simp [Az2] at h
 | e::es,i,z,h=>by
  rw [Az2] at h
  rcases List.mem_cons.1 h with rfl | h
  ·simp
  ·have:=AS2 z h; rw [List.length_cons]; omega
theorem AMb:∀ {es:List (List UInt8×TV)} {i j:Nat},(Az2 i es)[j]?=es[j]?.map fun e=>(i+j,e)
 | [],i,j=>by simp [Az2]
 | e::es,i,0=>by simp [Az2]
 | e::es,i,j+1=>by rw [Az2,List.getElem?_cons_succ,List.getElem?_cons_succ,AMb]; congr 2; funext x; congr 1; omega
def AXJ (p:Nat×List Nat×Nat) (q:MK×List (Nat×List UInt8×TV)×Nat):Option TV:=match p.2.1.getLast? with
 | some s=>if q.2.2=p.2.2 then (match q.2.1.find? (·.1 == s) with
  | some z=>some (.tup [kTV q.1 z.2.1,z.2.2])
  | none=>none) else none
 | none=>none
theorem AV0 {zs:List (Nat×List UInt8×TV)} (h:(zs.map (·.1)).Nodup) {z:Nat×List UInt8×TV} (hz:z∈zs):zs.find? (·.1 == z.1)=some z:=by
 induction zs with
 | nil=>cases hz
 | cons y zs ih =>
  rw [List.map_cons,List.nodup_cons] at h
  rcases List.mem_cons.1 hz with rfl | hz
  ·simp
  ·have hne:y.1≠z.1:=fun e=>h.1 (by rw [e]; exact List.mem_map.2 ⟨z,hz,rfl⟩)
   rw [List.find?_cons_of_neg (by simpa using hne)]
   exact ih h.2 hz
theorem AWb {m cl:Nat} {sn:List Nat} {kk:MK} {zs:List (Nat×List UInt8×TV)} (h:(zs.map (·.1)).Nodup) {z:Nat×List UInt8×TV} (hz:z∈zs):AXJ (m,sn++[z.1],cl) (kk,zs,cl)=some (.tup [kTV kk z.2.1,z.2.2]):=by
 simp only [AXJ,List.getLast?_append,List.getLast?_singleton,Option.or_some,Option.some_or,AV0 h hz,if_true]
def A7J (kk:MK) (o:Option Ob):Option (List (Nat×List UInt8×TV)×Nat):=match stO o with
 | some (kk',zs,cl)=>if kk'=kk then some (zs,cl) else none
 | none=>none
theorem A1Z {kk:MK} {es:List (List UInt8×TV)}:A7J kk (some (.mpo kk es))=some (Az2 0 es,es.length):=by simp [A7J,stO]
theorem A0o {kk:MK} {zs:List (Nat×List UInt8×TV)} {cl:Nat}:A7J kk (some (.mpd kk zs cl))=some (zs,cl):=by simp [A7J,stO]
def AYU (kk:MK) (m k:TV) (H:List Ob) (K:TV→List Ob→Prop) [Tg K]:Prop:=match m,Auv kk k with
 | .mp id 0,some kb=>(match stO H[id]? with
  | some (kk',zs,cl)=>kk'=kk∧K .any (H.set id (.mpd kk (zs.eraseIdx (APp kb (zs.map (·.2)))) cl))
  | none=>False)
 | _,_=>False
@[congr] theorem Bcr {kk:MK} {H':List Ob} {m m' k k':TV} (h1:m=m') (h2:k=k') (h4:H=H'):AYU kk m k H KK=AYU kk m' k' H' KK:=by rw [h1,h2,h4]
theorem Bau {kk:MK} {m k:Opd}:sop P (.delM kk m k) e H KK=AYU kk (m.ev e) (k.ev e) H KK:=As9 rfl
theorem AZE {kk:MK} {id:Nat} {kx:TV}:AYU kk (.mp id 0) kx H KK=Auf (A7J kk H[id]?) fun p=>Auf (Auv kk kx) fun kb=>AtW (p.1.eraseIdx (APp kb (p.1.map (·.2)))) fun zs=>AtW (H.set id (.mpd kk zs p.2)) fun H'=>KK .any H':=by
 unfold AYU A7J
 cases h:stO H[id]? with
 | none=>cases Auv kk kx<;>simp [h,Auf]
 | some q =>
  obtain ⟨kk',zs,cl⟩:=q
  by_cases hk:kk'=kk
  ·subst hk; cases Auv kk' kx<;>simp [h,Auf,AtW]
  ·cases Auv kk kx<;>simp [h,Auf,hk]
def Bbb (H:List Ob) (x:TV) (K:TV→List Ob→Prop) [Tg K]:Prop:=match x with
 | .os k id ver [] off n cp=>n≠0∧obV H[id]?=some ver∧K (.os k id ver [] off n cp) H
 | _=>False
@[congr] theorem BdK {H':List Ob} {x x':TV} (h0:H=H') (h1:x=x'):Bbb H x KK=Bbb H' x' KK:=by rw [h0,h1]
theorem BcF {x:Opd}:sop P (.cvS x) e H KK=Bbb H (x.ev e) KK:=As9 rfl
theorem A7m {k id ver off n cp:Nat}:Bbb H (.os k id ver [] off n cp) KK=AwE (n≠0) (AwE (obV H[id]?=some ver) (KK (.os k id ver [] off n cp) H)):=As9 rfl
theorem A8t {v:Nat} {y:TV}:obV (some (.obj v y))=some v:=As9 rfl
def AWR (k:Nat) (z x:TV) (H:List Ob) (K:TV→List Ob→Prop) [Tg K]:Prop:=match x with
 | .os k' id ver p off n cp=>AIA k (.os k' id ver p off n cp) (List.replicate n z) H fun _ H'=>K .any H'
 | .val (.slice none 0 0)=>K .any H
 | _=>False
@[congr] theorem Bc2 {k:Nat} {z x x':TV} {H':List Ob} (h1:x=x') (h2:H=H'):AWR k z x H KK=AWR k z x' H' KK:=by rw [h1,h2]
theorem A9m {k:Nat} {z:TV}:sop P (.clrS k z x) e H KK=AWR k z (x.ev e) H KK:=As9 rfl
theorem AYc {k:Nat} {z:TV}:AWR k z (.val (.slice none 0 0)) H KK=KK .any H:=As9 rfl
theorem A1S {k id ver off n cp:Nat} {p:List (Nat×Nat)} {z:TV}:AWR k z (.os k id ver p off n cp) H KK=AtW (List.replicate n z) fun ys=>AUd k (.os k id ver p off n cp) (some ys) H fun _ H'=>KK .any H':=As9 rfl
theorem A00 {kk:MK} {es:List (List UInt8×TV)}:AN6 kk (some (.mpo kk es))=some es:=by simp [AN6]
theorem Bap {l:List UInt8}:Auv .str (.val (.string (str l)))=some l:=by simp [Auv,bl,str]
theorem A9p {n:Nat} {l:List UInt8}:Auv (.arr n) (.arr n 1 (l.map by8))=some l:=by
 unfold Auv; simp only [ALf,AH1,and_self,if_true]
theorem A7s {z:TV} {r:Option TV}:AN3 z false r=r.getD z:=by simp [AN3]
theorem A7C {z:TV} {r:Option TV}:AN3 z true r = .tup [r.getD z,.val (.bool r.isSome)]:=by simp [AN3]
def A7V (x:TV) (A:Prop) [Tg A]:Prop:=match x with
 | .val (.int _ _)=>A
 | _=>False
@[congr] theorem BdS {x x':TV} {A:Prop} (h:x=x'):A7V x A=A7V x' A:=by rw [h]
theorem A5L {q:IntKind} {n:Int} {A:Prop}:A7V (.val (.int q n)) A=A:=by simp [A7V]
theorem A95 {kk:MK}:sop P (.mkm kk none) e H KK=AtW H.length fun n=>AtW (H++[.mpo kk []]) fun H'=>KK (.mp n 0) H':=by simp [sop,AtW]
theorem A9g {kk:MK}:sop P (.mkm kk (some x)) e H KK=A7V (x.ev e) (AtW H.length fun n=>AtW (H++[.mpo kk []]) fun H'=>KK (.mp n 0) H'):=by
 simp only [sop,AtW,A7V]
 cases x.ev e with
 | val v=>cases v<;>simp
 | _=>simp
def AX5 (kk:MK) (m k v:TV) (H:List Ob) (K:TV→List Ob→Prop) [Tg K]:Prop:=match m,Auv kk k with
 | .mp id 0,some kb=>(match H[id]? with
  | some (.mpo kk' es)=>(kk'=kk∧lays v=true)∧K .any (H.set id (.mpo kk (ALO kb v es)))
  | _=>False)
 | _,_=>False
@[congr] theorem Bdz {kk:MK} {H':List Ob} {m m' k k' v v':TV} (h1:m=m') (h2:k=k') (h3:v=v') (h4:H=H'):AX5 kk m k v H KK=AX5 kk m' k' v' H' KK:=by rw [h1,h2,h3,h4]
theorem A8k {kk:MK} {m k:Opd}:sop P (.mupd kk m k x) e H KK=AX5 kk (m.ev e) (k.ev e) (x.ev e) H KK:=As9 rfl
def AWP (kk:MK) (z m k:TV) (H:List Ob) (K:TV→List Ob→Prop) [Tg K]:Prop:=match m,Auv kk k with
 | .mp id 0,some kb=>(match H[id]? with
  | some (.mpo kk' es)=>kk'=kk∧K (.tup [(ABJ kb es).getD z,.val (.int .i64 (APp kb es))]) (H.set id (.mpo kk (ALO kb ((ABJ kb es).getD z) es)))
  | _=>False)
 | _,_=>False
@[congr] theorem Bcj {kk:MK} {H':List Ob} {z m m' k k':TV} (h1:m=m') (h2:k=k') (h4:H=H'):AWP kk z m k H KK=AWP kk z m' k' H' KK:=by rw [h1,h2,h4]
theorem A9j {kk:MK} {z:TV} {m k:Opd}:sop P (.ment kk z m k) e H KK=AWP kk z (m.ev e) (k.ev e) H KK:=As9 rfl
def AXi (m st v:TV) (H:List Ob) (K:TV→List Ob→Prop) [Tg K]:Prop:=match m,st with
 | .mp id 0,.val (.int _ j)=>(match H[id]? with
  | some (.mpo kk es)=>(0≤j∧lays v=true)∧(match es[j.toNat]? with
   | some (k,_)=>K .any (H.set id (.mpo kk (es.set j.toNat (k,v))))
   | none=>False)
  | _=>False)
 | _,_=>False
@[congr] theorem Bdw {H':List Ob} {m m' st st' v v':TV} (h1:m=m') (h2:st=st') (h3:v=v') (h4:H=H'):AXi m st v H KK=AXi m' st' v' H' KK:=by rw [h1,h2,h3,h4]
theorem A8g {m st:Opd}:sop P (.mest m st x) e H KK=AXi (m.ev e) (st.ev e) (x.ev e) H KK:=As9 rfl
theorem A61 {sz:Nat}:sop P (.store sz x y) e H KK=AR6 H sz (x.ev e) (y.ev e) KK:=As9 rfl
theorem BcM {k n:Nat} {z:TV}:sop P (.mks k n z x y) e H KK=BaV H k n z (x.ev e) (y.ev e) KK:=As9 rfl
theorem BbS {k n:Nat} {et:TypeId}:sop P (.app k n et x y) e H KK=A4w k n et (x.ev e) (AuB H k (y.ev e)) H KK:=As9 rfl
theorem A9E {et:TypeId}:sop P (.appS et x y) e H KK=AZ7 et (x.ev e) (y.ev e) H KK:=As9 rfl
theorem BaK {k:Nat}:sop P (.copy k x y) e H KK=AUd k (x.ev e) (AuB H k (y.ev e)) H KK:=As9 rfl
theorem A6h:sop P (.copyS x y) e H KK=AUQ (x.ev e) (y.ev e) H KK:=As9 rfl
theorem A9t {k n:Nat} {et:TypeId} {z:TV}:sop P (.appZ k n et z x y) e H KK=AV6 k n et z (x.ev e) (y.ev e) H KK:=As9 rfl
theorem Bce {n:Bool}:sop P (.eqS x n) e H KK=A47 n (x.ev e) H KK:=As9 rfl
theorem Bdk:sop P (.s2b x) e H KK=BaT H (x.ev e) KK:=As9 rfl
theorem BaI {f:FuncId} {args:List Opd}:sop P (.call f args) e H KK=AtW (evs e args) fun xs=>AwE (AIo xs) (VC P f xs H KK):=by
 rw [BaC,AEs]; rfl
theorem Bc7 {nm:String} {args:List Opd}:sop P (.inv x nm args) e H KK=AtW (evs e args) fun xs=>AwE (AIo xs) (BaE P nm (x.ev e) xs H KK):=by
 show ((∀ y∈args,AuM (y.ev e)=false)∧_)=_
 rw [AEs]; rfl
theorem A5X {args:List Opd}:sop P (.callv x args) e H KK=AtW (evs e args) fun xs=>AwE (AIo xs) (AQt P (x.ev e) xs H KK):=by
 rw [A6v,AEs]; rfl
end
section
variable {K:TV→Prop} {KK:TV→List Ob→Prop} {x y:TV} {cs ys:List TV} {n n' k k':Nat} {id ver off cp:Nat} {p:List (Nat×Nat)} {j:Int} {q:IntKind} {lo hi:Option TV}
theorem AZ2 {t:Bool}:AZb (.val (.bool t)) x y K=vif t (K x) (K y):=by cases t<;>simp [AZb,vif]
theorem A7w {t:TypeId} {op:BinOp} {u v:Value}:BaR t op (.val u) (.val v) K=AwE (A4Q u v=true) (Auf (AyH t op u v) fun r=>AtW (TV.val r) K):=by
 show (_∧_)=_; cases AyH t op u v<;>rfl
theorem A9B {op:UnOp} {u:Value}:Pun op (.val u) K=Auf (unV op u) fun r=>AtW (TV.val r) K:=by
 unfold Pun; simp only; cases unV op u<;>rfl
theorem A2w {k:IntKind}:A4A k (.val (.int q j)) K=AtW (TV.val (.int k (k.wrap j))) K:=As9 rfl
theorem A5p {s:ByteArray}:Ba0 (.val (.string s)) K=K (.val (.string s)):=As9 rfl
theorem A6K:BaS (some cs) K=AwE (∀ y∈cs,AWy y) (AtW (TV.val (.string (str (cs.map ANd)))) K):=As9 rfl
theorem A4L {ag:Bool} {sz:Nat}:AT5 H ag sz (.fp y) K=AwE (AQx ag sz y) (K y):=As9 rfl
theorem A0V {ag:Bool} {sz:Nat}:AT5 H ag sz (.op id ver p) K=Auf (Azn H[id]? ver) fun x=>Auf (ABl p x) fun y=>AwE (AQx ag sz y) (K y):=by
 unfold AT5
 simp only
 cases h:H[id]? with
 | none=>simp [Azn,Auf]
 | some o =>
  cases o with
  | gone v=>simp [Azn,Auf]
  | ice v m y=>simp [Azn,Auf]
  | fact i v t m=>simp [Azn,Auf]
  | bld v t l=>simp [Azn,Auf]
  | lp st pe fn N en ps ca cb=>simp [Azn,Auf]
  | mpo kk es=>simp [Azn,Auf]
  | mpd kk zs cl=>simp [Azn,Auf]
  | mit m sn cl=>simp [Azn,Auf]
  | sit s pos=>simp [Azn,Auf]
  | obj v x =>
   by_cases hv:v=ver
   ·subst hv; simp only [Azn,Auf,AwE,if_true,true_and]; cases ABl p x<;>rfl
   ·simp [Azn,Auf,hv]
theorem AWf {i o:Nat}:AMf i o (.op id ver p) K=AtW (p++[(i,o)]) fun p=>K (.op id ver p):=As9 rfl
theorem AVI {i o:Nat}:AMf i o (.fp (.agg cs)) K=AwE (Aut (cs.take i)=o) (Auf cs[i]? fun y=>K (.fp y)):=by
 unfold AMf; simp only; cases cs[i]?<;>rfl
theorem AZh {ag:Bool} {sz i o:Nat}:ATp ag sz i o (.agg cs) K=AwE (Aut (cs.take i)=o) (Auf cs[i]? fun y=>AwE (AQx ag sz y) (K y)):=by
 unfold ATp; simp only; cases cs[i]?<;>rfl
theorem AZG:AV7 k (.sl k cs) (.val (.int q j)) K=AwE (0≤j) (Auf cs[j.toNat]? fun y=>K (.fp y)):=by
 unfold AV7; simp only [true_and]; cases cs[j.toNat]?<;>rfl
theorem A2l:AV7 k (.os k id ver p off n cp) (.val (.int q j)) K=AwE (0≤j∧j<n) (AtW (off+j.toNat) fun m=>AtW (p++[(m,m*k)]) fun p=>K (.op id ver p)):=by
 show (k=k∧_)=_; simp [AwE,AtW,and_assoc]
theorem AYx:AP8 n k (.fp (.arr n k cs)) (.val (.int q j)) K=AwE (0≤j) (Auf cs[j.toNat]? fun y=>K (.fp y)):=by
 unfold AP8; simp only [true_and]; cases cs[j.toNat]?<;>rfl
theorem AW6:AP8 n k (.op id ver p) (.val (.int q j)) K=AwE (0≤j∧j<n) (AtW j.toNat fun m=>AtW (p++[(m,m*k)]) fun p=>K (.op id ver p)):=by
 show (_∧_)=_; simp [AwE,AtW,and_assoc]
theorem A6y {ag:Bool}:A97 ag n k (.arr n k cs) (.val (.int q j)) K=AwE (0≤j) (Auf cs[j.toNat]? fun y=>AwE (AQx ag k y) (K y)):=by
 unfold A97; simp only [true_and]; cases cs[j.toNat]?<;>rfl
theorem A02 {s:ByteArray}:AXf (.val (.string s)) (.val (.int q j)) K=AwE (0≤j) (Auf (bl s)[j.toNat]? fun b=>K (by8 b)):=by
 unfold AXf; simp only; cases (bl s)[j.toNat]?<;>rfl
theorem A6I {i:Nat}:Bas i (.tup cs) K=Auf cs[i]? K:=by
 unfold Bas; simp only; cases cs[i]?<;>rfl
theorem AZH {s:ByteArray}:A2m (.val (.string s)) K=AtW (TV.val (.int .i64 (bl s).length)) K:=As9 rfl
theorem A1V:AWh (.sl k cs) K=AtW (TV.val (.int .i64 cs.length)) K:=As9 rfl
theorem A1F:AWh (.os k id ver p off n cp) K=K (.val (.int .i64 n)):=As9 rfl
theorem AWI {ad:Option Addr} {c:Nat}:AWh (.val (.slice ad n c)) K=K (.val (.int .i64 n)):=As9 rfl
section
variable {len lim:Nat} {KN:Nat→Nat→Prop} {l h:Int} {q2:IntKind}
theorem A5b:ARn none none len lim KN=AwE (len≤lim) (KN 0 len):=by
 show ((0≤(0:Int)∧(0:Int)≤(len:Int)∧(len:Int)≤lim)∧KN (Int.toNat 0) (Int.toNat len))=_
 simp [AwE]
theorem A51:ARn (some (.val (.int q l))) none len lim KN=AwE (0≤l∧l≤len∧(len:Int)≤lim) (AtW l.toNat fun l=>KN l len):=by
 show ((0≤l∧l≤(len:Int)∧(len:Int)≤lim)∧KN l.toNat (Int.toNat len))=_
 simp [AwE,AtW]
theorem A52:ARn none (some (.val (.int q h))) len lim KN=AwE (0≤h∧h≤lim) (AtW h.toNat fun h=>KN 0 h):=by
 show ((0≤(0:Int)∧0≤h∧h≤lim)∧KN (Int.toNat 0) h.toNat)=_
 simp [AwE,AtW]
theorem A5K:ARn (some (.val (.int q l))) (some (.val (.int q2 h))) len lim KN=AwE (0≤l∧l≤h∧h≤lim) (AtW l.toNat fun l=>AtW h.toNat fun h=>KN l h):=As9 rfl
end
theorem A5V {s:ByteArray}:Ba1 (.val (.string s)) lo hi K=ARn lo hi (bl s).length (bl s).length fun l h=>AtW (((bl s).drop l).take (h - l)) fun r=>K (.val (.string (str r))):=As9 rfl
theorem A7c:A7R k (.sl k cs) lo hi K=ARn lo hi cs.length cs.length fun l h=>AtW ((cs.drop l).take (h - l)) fun r=>K (.sl k r):=by
 exact propext ⟨fun h=>h.2,fun h=>⟨rfl,h⟩⟩
theorem A5S:A7R k (.os k id ver p off n cp) lo hi K=ARn lo hi n cp fun l h=>AtW (off+l) fun o=>AtW (h - l) fun m=>AtW (cp - l) fun c=>K (.os k id ver p o m c):=by
 exact propext ⟨fun h=>h.2,fun h=>⟨rfl,h⟩⟩
theorem A4T {ad:Option Addr}:A7R k (.val (.slice ad 0 0)) lo hi K=ARn lo hi 0 0 fun l h=>K (.val (.slice ad 0 0)):=As9 rfl
theorem A62:A7K H n k (.fp (.arr n k cs)) lo hi K=AwE (n≤9223372036854775807) (ARn lo hi n n fun l h=>AtW ((cs.drop l).take (h - l)) fun r=>K (.sl k r)):=by
 exact propext ⟨fun h=>⟨h.2.2.1,h.2.2.2⟩,fun h=>⟨rfl,rfl,h.1,h.2⟩⟩
def ASw:Option TV→Nat→Nat→Option (List TV)
 | some (.arr n' k' cs),n,k=>if n'=n∧k'=k then some cs else none
 | _,_,_=>none
theorem AZA:ASw (some (.arr n k cs)) n k=some cs:=by simp [ASw]
theorem A6Q:A7K H n k (.op id ver p) lo hi K=Auf (Azn H[id]? ver) fun x=>AwE (n≤9223372036854775807) (Auf (ASw (ABl p x) n k) fun _=>ARn lo hi n n fun l h=>AtW (h - l) fun m=>AtW (n - l) fun c=>K (.os k id ver p l m c)):=by
 unfold A7K
 simp only
 cases h:H[id]? with
 | none=>simp [Azn,Auf]
 | some o =>
  cases o with
  | gone v=>simp [Azn,Auf]
  | ice v m y=>simp [Azn,Auf]
  | fact i v t m=>simp [Azn,Auf]
  | bld v t l=>simp [Azn,Auf]
  | lp st pe fn N en ps ca cb=>simp [Azn,Auf]
  | mpo kk es=>simp [Azn,Auf]
  | mpd kk zs cl=>simp [Azn,Auf]
  | mit m sn cl=>simp [Azn,Auf]
  | sit s pos=>simp [Azn,Auf]
  | obj v x =>
   by_cases hv:v=ver
   ·simp only [Azn,Auf,hv,AwE,AtW,if_true,true_and]
    congr 1
    cases hg:ABl p x with
    | none=>simp [ASw]
    | some y =>
     cases y with
     | arr n2 k2 ds =>
      by_cases h1:n2=n
      ·by_cases h2:k2=k
       ·simp [ASw,h1,h2]; exact Iff.rfl
       ·simp [ASw,h1,h2]
      ·simp [ASw,h1]
     | _=>simp [ASw]
   ·simp [Azn,Auf,hv]
theorem AXK {t:TypeId}:AVn t x K=AwE (lays x=true) (K (.ifc t x)):=As9 rfl
theorem A6N {f:Fn}:A8j f cs ys K=AwE (AIo (cs++ys)) (K (.fn f cs ys)):=As9 rfl
theorem A0G:AR1 (.op id ver p) K=K (.op id ver p):=As9 rfl
theorem A07:AR1 (.fp y) K=K (.fp y):=As9 rfl
theorem A0J {f:FuncId} {a b:List TV}:AR1 (.fn (.func f) a b) K=K (.fn (.func f) a b):=As9 rfl
theorem AYj {t:TypeId}:AR1 (.ifc t y) K=K (.ifc t y):=As9 rfl
theorem AWn {f:FuncId} {a b:Array Value}:AR1 (.val (.func (.func f) a b)) K=K (.val (.func (.func f) a b)):=As9 rfl
section
variable {a b:Int} {q2:IntKind}
theorem A5n:Bba (.val (.int q a)) (.val (.int q2 b)) K=vif (decide (b<a)) (K (.val (.int q b))) (K (.val (.int q a))):=by
 show K _=_
 by_cases h:b<a<;>simp [vif,h]
theorem A5F:Ba9 (.val (.int q a)) (.val (.int q2 b)) K=vif (decide (a<b)) (K (.val (.int q b))) (K (.val (.int q a))):=by
 show K _=_
 by_cases h:a<b<;>simp [vif,h]
theorem A0h {q1 q2 q3:IntKind} {l h m:Int}:AOJ (.sl3 k) H [.sl k cs,.val (.int q1 l),.val (.int q2 h),.val (.int q3 m)] K=AwE (0≤l∧l≤h∧h≤m∧m≤cs.length) (AtW ((cs.drop l.toNat).take (h.toNat - l.toNat)) fun r=>K (.sl k r)):=by
 unfold AOJ gev AwE AtW
 simp only [true_and]
 by_cases hc:0≤l∧l≤h∧h≤m∧m≤cs.length
 ·rw [if_pos hc]; simp [hc]
 ·rw [if_neg hc]; simp only [hc,false_and]
theorem A4F {sh:List EL} {b:Bool} {xs ys:List TV}:AOJ (.eqR sh b) H [.agg xs,.agg ys] K=Auf (AQV sh xs ys) fun r=>AtW (TV.val (.bool (xor b r))) K:=by
 have hg:gev (.eqR sh b) H [.agg xs,.agg ys]=(AQV sh xs ys).map fun r => .val (.bool (xor b r)):=by unfold gev; rfl
 unfold AOJ Auf AtW
 rw [hg]
 cases AQV sh xs ys<;>rfl
theorem AZF:AQV [] [] []=some true:=As9 rfl
theorem A8K {l:List EL} {k:IntKind} {a b:Int} {xs ys:List TV}:AQV (.i::l) (.val (.int k a)::xs) (.val (.int k b)::ys)=(AQV l xs ys).map fun r=>(a == b) && r:=by rw [AQV,if_pos rfl]
theorem A9G {l:List EL} {a b:ByteArray} {xs ys:List TV}:AQV (.s::l) (.val (.string a)::xs) (.val (.string b)::ys)=(AQV l xs ys).map fun r=>(a == b) && r:=As9 rfl
theorem BaB {l:List EL} {n:Nat} {a b:List UInt8} {xs ys:List TV}:AQV (.b n::l) (.arr n 1 (a.map by8)::xs) (.arr n 1 (b.map by8)::ys)=(AQV l xs ys).map fun r=>(a == b) && r:=by
 rw [AQV]
 simp only [ALf,AH1,and_self,if_true]
theorem A4P {n:Nat} {b:Bool} {xs ys:List UInt8}:AOJ (.eqA n b) H [.arr n 1 (xs.map by8),.arr n 1 (ys.map by8)] K=AtW (TV.val (.bool (xor b (xs == ys)))) K:=by
 unfold AOJ gev AtW
 simp only [ALf,AH1,and_self,if_true]
theorem AZP {q:IntKind} {n:Int}:AOJ .r2s H [.val (.int q n)] K=AtW (TV.val (.string (Utf8.encode n))) K:=As9 rfl
theorem A1M {t t':TypeId}:AOJ (.tas t) H [.ifc t' x] K=AwE (t'=t) (K x):=by
 unfold AOJ gev AwE
 by_cases h:t'=t<;>simp [h]
theorem AYR {a:Option Addr} {l n:Nat}:AOJ .capV H [.val (.slice a l n)] K=AtW (TV.val (.int .i64 (n:Int))) K:=As9 rfl
theorem A1L {n:Nat}:AOJ (.s2a n k) H [.sl k cs] K=AwE (0<n∧n≤cs.length) (AtW (cs.take n) fun r=>K (.fp (.arr n k r))):=by
 unfold AOJ gev AwE AtW
 simp only [true_and]
 by_cases hc:0<n∧n≤cs.length
 ·rw [if_pos hc]; simp [hc]
 ·rw [if_neg hc]; simp only [hc,false_and]
theorem BaJ {s t:Bool}:A8A false (.val (.bool s)) (.val (.bool t)) K=AtW (TV.val (.bool (s == t))) K:=by
 show K _=_; simp [AtW]
theorem A9T {s t:Bool}:A8A true (.val (.bool s)) (.val (.bool t)) K=AtW (TV.val (.bool (!(s == t)))) K:=by
 show K _=_; simp [AtW]
theorem A8n {m b:Bool}:A9F m (some true) (some b) K=AtW (TV.val (.bool (xor m b))) K:=As9 rfl
theorem A8Q {m:Bool}:A9F m (some false) (some true) K=AtW (TV.val (.bool (xor m false))) K:=As9 rfl
end
theorem AZY {kk:MK} {m:Nat} {kx v:TV}:AX5 kk (.mp m 0) kx v H KK=Auf (AN6 kk H[m]?) fun es=>Auf (Auv kk kx) fun kb=>AwE (lays v=true) (AtW (ALO kb v es) fun es'=>AtW (H.set m (.mpo kk es')) fun H'=>KK .any H'):=by
 unfold AX5
 cases hh:H[m]? with
 | none=>cases Auv kk kx<;>simp [hh,AN6,Auf]
 | some o =>
  cases o with
  | mpo kk' es =>
   by_cases hk:kk'=kk
   ·subst hk; cases Auv kk' kx<;>simp [hh,AN6,Auf,AwE,AtW]
   ·cases Auv kk kx<;>simp [hh,AN6,Auf,hk]
  | _=>cases Auv kk kx<;>simp [hh,AN6,Auf]
theorem A4O {kk:MK} {m:Nat} {kx z:TV}:AWP kk z (.mp m 0) kx H KK=Auf (AN6 kk H[m]?) fun es=>Auf (Auv kk kx) fun kb=>AtW ((ABJ kb es).getD z) fun y=>AtW (APp kb es) fun p=>AtW (ALO kb y es) fun es'=>AtW (H.set m (.mpo kk es')) fun H'=>KK (.tup [y,.val (.int .i64 (p:Int))]) H':=by
 unfold AWP
 cases hh:H[m]? with
 | none=>cases Auv kk kx<;>simp [hh,AN6,Auf]
 | some o =>
  cases o with
  | mpo kk' es =>
   by_cases hk:kk'=kk
   ·subst hk; cases Auv kk' kx<;>simp [hh,AN6,Auf,AtW]
   ·cases Auv kk kx<;>simp [hh,AN6,Auf,hk]
  | _=>cases Auv kk kx<;>simp [hh,AN6,Auf]
def AQa:Option Ob→Option (MK×List (List UInt8×TV))
 | some (.mpo kk es)=>some (kk,es)
 | _=>none
theorem AWS {kk:MK} {es:List (List UInt8×TV)}:AQa (some (.mpo kk es))=some (kk,es):=by simp [AQa]
theorem A2p {m j:Nat} {q:IntKind} {v:TV}:AXi (.mp m 0) (.val (.int q (j:Int))) v H KK=Auf (AQa H[m]?) fun p=>AwE (lays v=true) (Auf p.2[j]? fun y=>AtW (p.2.set j (y.1,v)) fun es'=>AtW (H.set m (.mpo p.1 es')) fun H'=>KK .any H'):=by
 unfold AXi
 cases hh:H[m]? with
 | none=>simp [hh,AQa,Auf]
 | some o =>
  cases o with
  | mpo kk' es =>
   simp only [hh,AQa,Auf,AwE,AtW,Int.natCast_nonneg,true_and,Int.toNat_natCast]
   cases es[j]?<;>simp
  | _=>simp [hh,AQa,Auf]
theorem AXc {kk:MK} {z kx:TV} {ok:Bool} {m:Nat}:AOJ (.look kk z ok) H [.mp m 0,kx] K=Auf (AOS kk H[m]?) fun es=>Auf (Auv kk kx) fun kb=>AtW (AN3 z ok (ABJ kb es)) K:=by
 unfold AOJ gev AQA
 cases hh:H[m]? with
 | none=>cases hb:Auv kk kx<;>simp [hh,hb,AOS,Auf]
 | some o =>
  cases o with
  | mpo kk' es =>
   by_cases hk:kk'=kk
   ·subst hk; cases hb:Auv kk' kx<;>simp [hh,hb,AOS,Auf,AtW]
   ·cases hb:Auv kk kx<;>simp [hh,hb,AOS,Auf,hk]
  | mpd kk' zs cl =>
   by_cases hk:kk'=kk
   ·subst hk; cases hb:Auv kk' kx<;>simp [hh,hb,AOS,Auf,AtW]
   ·cases hb:Auv kk kx<;>simp [hh,hb,AOS,Auf,hk]
  | _=>cases hb:Auv kk kx<;>simp [hh,hb,AOS,Auf]
theorem AVL {kk:MK} {z kx:TV} {ok:Bool}:AOJ (.look kk z ok) H [.val (.map none),kx] K=Auf (Auv kk kx) fun kb=>AtW (AN3 z ok none) K:=by
 unfold AOJ gev AQA
 cases hb:Auv kk kx<;>simp [hb,Auf,AtW]
theorem AYa {m:Nat}:AOJ .lenM H [.mp m 0] K=Auf (ATP H[m]?) fun p=>AtW p.length fun n=>AtW (TV.val (.int .i64 (n:Int))) K:=by
 unfold AOJ gev A4r
 cases hh:H[m]? with
 | none=>simp [hh,ATP,Auf]
 | some o=>cases o<;>simp [hh,ATP,Auf,AtW]
theorem AY7 {id:Nat}:AOJ .entM H [.op id 0 []] K=Auf (AQ0 H[id]?) fun p=>Auf (stO H[p.1]?) fun q=>Auf (AXJ p q) K:=by
 unfold AOJ gev BaX
 cases hh:H[id]? with
 | none=>simp [hh,AQ0,Auf]
 | some o =>
  cases o with
  | mit m sn cl =>
   simp only [hh,AQ0,Auf,AXJ]
   cases h2:stO H[m]? with
   | none=>simp
   | some q =>
    obtain ⟨kk,zs,cl'⟩:=q
    cases h3:sn.getLast? with
    | none=>simp
    | some s =>
     by_cases hc:cl'=cl
     ·subst hc; cases hf:zs.find? (·.1 == s)<;>simp [hf]
     ·simp [hc]
  | _=>simp [hh,AQ0,Auf]
theorem AX6 {sz:Nat}:AR6 H sz (.op id ver p) y KK=AwE (lays y=true∧Atq y=sz) (Auf (Azn H[id]? ver) fun z=>Auf (AI8 p z y) fun z'=>AtW (H.set id (.obj ver z')) fun H'=>KK .any H'):=by
 unfold AR6
 simp only [AwE]
 congr 1
 cases h:H[id]? with
 | none=>simp [Azn,Auf]
 | some o =>
  cases o with
  | gone v=>simp [Azn,Auf]
  | ice v m y=>simp [Azn,Auf]
  | fact i v t m=>simp [Azn,Auf]
  | bld v t l=>simp [Azn,Auf]
  | lp st pe fn N en ps ca cb=>simp [Azn,Auf]
  | mpo kk es=>simp [Azn,Auf]
  | mpd kk zs cl=>simp [Azn,Auf]
  | mit m sn cl=>simp [Azn,Auf]
  | sit s pos=>simp [Azn,Auf]
  | obj v x =>
   by_cases hv:v=ver
   ·subst hv; simp only [Azn,Auf,AtW,if_true,true_and]; cases AI8 p x y<;>rfl
   ·simp [Azn,Auf,hv]
theorem A6W {z:TV} {l c:Int} {q2:IntKind} {bytes:Nat}:BaV H k bytes z (.val (.int q l)) (.val (.int q2 c)) KK=AwE (0≤l∧l≤c∧(bytes:Int)*c≤281474976710656∧c≤9223372036854775807) (AtW l.toNat fun l=>AtW c.toNat fun c=>AtW H.length fun m=>AtW (H++[.obj 0 (.arr c k (List.replicate c z))]) fun H'=>KK (.os k m 0 [] 0 l c) H'):=As9 rfl
theorem A10 {bytes:Nat} {et:TypeId}:A4w k bytes et (.val (.slice none 0 0)) (some ys) H KK=AwE (ys.length*bytes≤140737488355328∧ys.length≤9223372036854775807) (AtW ys.length fun n=>AtW H.length fun m=>AtW (H++[.obj 1 (.arr n k ys)]) fun H'=>KK (.os k m 1 [] 0 n n) H'):=As9 rfl
def ATX:Option TV→Nat→Option (List TV)
 | some (.arr _ k' cs),k=>if k'=k then some cs else none
 | _,_=>none
theorem A0M:ATX (some (.arr n k cs)) k=some cs:=by simp [ATX]
theorem A1O {v n2:Nat} {et:TypeId}:A04 (some (.obj v (.arr n2 k cs))) v k et off n ys=some (.obj (v+1) (.arr (n+ys.length) k ((cs.drop off).take n++ys))):=by simp [A04]
theorem AU6 {v:Nat} {et:TypeId} {l m:List UInt8}:A04 (some (.bld v et l)) v 1 et 0 n (m.map by8)=some (.bld (v+1) et (l.take n++m)):=by
 simp only [A04,ALf,AH1,and_self,if_true]
theorem AX8 {v:Nat} {et:TypeId} {l:List UInt8} {b:UInt8}:A04 (some (.bld v et l)) v 1 et 0 n [by8 b]=some (.bld (v+1) et (l.take n++[b])):=AU6 (m:=[b])
theorem A1t {v n2:Nat}:A7L (some (.obj v (.arr n2 k cs)))=cs.length:=by simp [A7L]
theorem AZS {v:Nat} {et:TypeId} {l:List UInt8}:A7L (some (.bld v et l))=l.length:=by simp [A7L]
theorem A7z {bytes:Nat} {et:TypeId}:A4w k bytes et (.os k id ver [] off n cp) (some ys) H KK=Auf (A04 H[id]? ver k et off n ys) fun o=>AwE (off+n≤A7L H[id]?∧(n+ys.length)*bytes≤140737488355328∧n+ys.length≤9223372036854775807)
   (AtW (n+ys.length) fun m=>AtW (H.set id o) fun H'=>KK (.os k id (ver+1) [] 0 m m) H'):=by
 unfold A4w APT
 simp only [true_and]
 cases h:A04 H[id]? ver k et off n ys with
 | none=>simp [Auf]
 | some o=>simp [Auf,AwE,AtW]
theorem A05 {s:ByteArray} {et:TypeId}:AZ7 et x (.val (.string s)) H KK=AtW ((bl s).map by8) fun ys=>A4w 1 1 et x (some ys) H KK:=As9 rfl
def Bcy:Option TV→Option Nat
 | some (.arr n _ _)=>some n
 | _=>none
theorem A54:Bcy (some (.arr n k cs))=some n:=As9 rfl
theorem AZO:AUd k (.os k id ver p off n cp) (some ys) H KK=Auf (Azn H[id]? ver) fun z=>Auf (ATX (ABl p z) k) fun cs=>Auf (Bcy (ABl p z)) fun N=>AwE (off+n≤cs.length) (Auf (AI8 p z (.arr N k (cs.take off++(ys.take n++cs.drop (off+min ys.length n))))) fun z' =>
  AtW (H.set id (.obj ver z')) fun H'=>AtW (TV.val (.int .i64 (min ys.length n:Nat))) fun r=>KK r H'):=by
 unfold AUd AIA
 simp only [true_and]
 cases h:H[id]? with
 | none=>simp [Azn,Auf]
 | some o =>
  cases o with
  | gone v=>simp [Azn,Auf]
  | ice v m y=>simp [Azn,Auf]
  | fact i v t m=>simp [Azn,Auf]
  | bld v t l=>simp [Azn,Auf]
  | lp st pe fn N en ps ca cb=>simp [Azn,Auf]
  | mpo kk es=>simp [Azn,Auf]
  | mpd kk zs cl=>simp [Azn,Auf]
  | mit m sn cl=>simp [Azn,Auf]
  | sit s pos=>simp [Azn,Auf]
  | obj v x =>
   by_cases hv:v=ver
   ·simp only [Azn,Auf,hv,if_true,true_and]
    cases hg:ABl p x with
    | none=>simp [ATX]
    | some y =>
     cases y with
     | arr n2 k2 ds =>
      by_cases h1:k2=k
      ·subst h1; simp only [ATX,Bcy,AwE,AtW,if_true,true_and]; refine congrArg (_ ∧ ·) ?_; cases AI8 p x (.arr n2 k2 (ds.take off++(ys.take n++ds.drop (off+min ys.length n))))<;>rfl
      ·simp [ATX,h1]
     | _=>simp [ATX]
   ·simp [Azn,Auf,hv]
theorem AXl {s:ByteArray}:AUQ x (.val (.string s)) H KK=AtW ((bl s).map by8) fun ys=>AUd 1 x (some ys) H KK:=As9 rfl
theorem A4H {f:FuncId} {j v:Nat} {l:List UInt8}:A0b P f (some (j,v,l)) H KK=AwE (Bcm P f) (AwE (l.length≤9223372036854775807) (AtW (H.set j (.gone v)) fun H'=>KK (.val (.string (str l))) H')):=As9 rfl
def A77 (o:Option Ob) (j v n:Nat) (a:TV):Option (Nat×Nat×List UInt8):=match o with
 | some (.bld v3 t l)=>if v3=v∧t=ASI∧n=l.length∧Atq a=1 then some (j,v,l) else none
 | _=>none
def A0K (H:List Ob) (j v n:Nat) (a:TV):Option (Nat×Nat×List UInt8):=A77 H[j]? j v n a
def AWc (H:List Ob) (q:Option TV):Option (Nat×Nat×List UInt8):=match q with
 | some (.agg [a,.os 1 j v2 [] 0 n cp])=>A0K H j v2 n a
 | _=>none
theorem A2t {id ver:Nat} {p:List (Nat×Nat)}:AWl H (.op id ver p)=AWc H ((Azn H[id]? ver).bind (ABl p)):=by
 unfold AWl
 simp only []
 cases h:H[id]? with
 | none=>simp [Azn,AWc]
 | some o =>
  cases o with
  | obj v y =>
   by_cases hv:v=ver
   ·simp only [Azn,hv,if_true,Option.bind_some]
    unfold AWc A0K A77
    rfl
   ·simp [Azn,AWc,hv]
  | _=>simp [Azn,AWc]
theorem A2d {a:TV} {j v n cp:Nat}:AWc H (some (.agg [a,.os 1 j v [] 0 n cp]))=A0K H j v n a:=As9 rfl
theorem A1A {a:TV} {j v n:Nat}:A0K H j v n a=A77 H[j]? j v n a:=As9 rfl
theorem A5z {a:TV} {j v n:Nat} {l:List UInt8} (hn:n=l.length) (ha:Atq a=1):A77 (some (.bld v 5 l)) j v n a=some (j,v,l):=by
 simp [A77,hn,ha,ASI]
theorem A60 {s:ByteArray}:BaT H (.val (.string s)) KK=AwE ((bl s).length≤9223372036854775807) (AtW (bl s).length fun n=>AtW ((bl s).map by8) fun r=>AtW H.length fun m=>AtW (H++[.obj 0 (.arr n 1 r)]) fun H'=>KK (.os 1 m 0 [] 0 n n) H'):=As9 rfl
theorem A0H {et:TypeId} {z:TV} {j:Nat} {bytes:Nat}:AV6 k bytes et z (.os k id ver [] off n cp) (.val (.int .i64 (j:Int))) H KK=AwE ((bytes:Int)*j≤140737488355328∧(j:Int)≤9223372036854775807) (A4w k bytes et (.os k id ver [] off n cp) (some (List.replicate j z)) H KK):=by
 unfold AV6 A4w
 simp only [Int.toNat_natCast]
 exact propext ⟨fun h=>⟨h.1.2,h.2⟩,fun h=>⟨⟨Int.natCast_nonneg _,h.1⟩,h.2⟩⟩
theorem A1T {et:TypeId} {z:TV} {j:Int} {bytes:Nat}:AV6 k bytes et z (.val (.slice none 0 0)) (.val (.int .i64 j)) H KK=AwE (0≤j∧(bytes:Int)*j≤140737488355328∧j≤9223372036854775807) (AtW j.toNat fun n=>AtW H.length fun m=>AtW (H++[.obj 0 (.arr n k (List.replicate n z))]) fun H'=>KK (.os k m 0 [] 0 n n) H'):=As9 rfl
theorem A2f {n:Bool} {a:Option Addr} {l c:Nat}:A47 n (.val (.slice a l c)) H KK=KK (.val (.bool (xor n a.isNone))) H:=As9 rfl
theorem A5G {n:Bool}:A47 n (.sl k cs) H KK=vif (decide (cs.length=0)) (AUb H KK) (KK (.val (.bool n)) H):=by
 unfold A47 vif AUb
 by_cases h:cs=[]
 ·subst h; simp
 ·have h2:¬ cs.length=0:=fun e=>h (List.length_eq_zero_iff.1 e)
  simp [h,h2]
theorem A6B {n:Bool} {m off l cp:Nat} {p:List (Nat×Nat)}:A47 n (.os k m ver p off l cp) H KK=vif (decide (l=0)) (AUb H KK) (KK (.val (.bool n)) H):=by
 unfold A47 vif AUb
 by_cases h:l=0
 ·subst h; simp
 ·simp [h]
theorem AUg (h1:KK (.val (.bool true)) H) (h2:KK (.val (.bool false)) H):AUb H KK:=⟨h1,h2⟩
theorem AY2 {f:FuncId} {a b:List TV}:AQt P (.fn (.func f) a b) cs H KK=AwE (AMt P f=true) (AtW (a++cs++b) fun xs=>VC P f xs H KK):=As9 rfl
theorem AWw {f:FuncId}:AQt P (.val (.func (.func f) #[] #[])) cs H KK=AwE (AMt P f=true) (VC P f cs H KK):=by
 exact propext ⟨fun h=>⟨h.2.1,h.2.2⟩,fun h=>⟨rfl,h.1,h.2⟩⟩
theorem AZl:AQt P (.yl id ver) cs H KK=VY P id ver cs H KK:=As9 rfl
theorem A5q {nm:String} {t:TypeId}:BaE P nm (.ifc t x) cs H KK=A7Q P (A0Y P t nm) x cs H KK:=by
 unfold BaE Ba7 A7Q
 show (match A0Y P t nm with | some (f,none)=>_ | some (f,some (ag,sz))=>_ | none=>False)=_
 rcases A0Y P t nm with _ | ⟨f,_ | ⟨ag,sz⟩⟩<;>rfl
theorem A96 {f:FuncId}:A7Q P (some (f,none)) x cs H KK=AwE (AMt P f=true) (AtW (x::cs) fun xs=>VC P f xs H KK):=As9 rfl
theorem A9L {f:FuncId} {ag:Bool} {sz:Nat}:A7Q P (some (f,some (ag,sz))) x cs H KK=AwE (AMt P f=true) (AT5 H ag sz x fun y=>AtW (y::cs) fun xs=>VC P f xs H KK):=As9 rfl
theorem BcG {t:Bool} {A B:Prop}:Gd (some t) true A B=vif t A B:=As9 rfl
theorem Bcd {t:Bool} {A B:Prop}:Gd (some t) false A B=vif t B A:=by cases t<;>simp [Gd,vif]
theorem Bek {b:Bool} {A B:Prop}:Gd none b A B=B:=As9 rfl
end
section
variable {Q:VEx→Env→List Ob→Prop} {l:List VO} {kp:List Nat} {a b:Atc}
def AZ4 (x:TV) (A B:Prop) [Tg A] [Tg B]:Prop:=match x with
  | .val (.bool t)=>if t=true then A else B
  | _=>False
@[congr] theorem BcW {x x':TV} {A B:Prop} (h:x=x'):AZ4 x A B=AZ4 x' A B:=by rw [h]
theorem A0t {t:Bool} {A B:Prop}:AZ4 (.val (.bool t)) A B=vif t A B:=As9 rfl
theorem BbY:vwp P (.ops l kp) Q e H=ANH P l (fun e H=>AtW (forget kp e) fun e=>Q .nor e H) e H:=As9 rfl
def A1r (zs:List Nat) (e:Env) (H:List Ob) (K:Env→List Ob→Prop) [Tg K]:Prop:=A7X zs K e H
@[congr] theorem Bdq {zs:List Nat} {e e':Env} {H H':List Ob} {K:Env→List Ob→Prop} (h1:e=e') (h2:H=H'):A1r zs e H K=A1r zs e' H' K:=by rw [h1,h2]
theorem Bds {K:Env→List Ob→Prop}:A1r [] e H K=K e H:=As9 rfl
theorem A9f {l r:List VO} {zs kp:List Nat}:vwp P (.opsZ l zs r kp) Q e H=ANH P l (fun e H=>A1r zs e H fun e H=>ANH P r (fun e H=>AtW (forget kp e) fun e=>Q .nor e H) e H) e H:=As9 rfl
theorem A9y {n:Nat}:vwp P (.draw n l kp) Q e H=(vq P (l.take n) (fun e=>ANH P (l.drop n) (fun e H=>AtW (forget kp e) fun e=>Q .nor e H) e H) e H):=As9 rfl
def Thn (P:Program) (b:Atc) (Q:VEx→Env→List Ob→Prop):VEx→Env→List Ob→Prop:=fun x e H=>match x with | .nor=>vwp P b Q e H | .exit i=>Q (.exit i) e H | .ret=>Q .ret e H | .pan u=>Q (.pan u) e H
theorem A7a:Thn P b Q .nor e H=vwp P b Q e H:=As9 rfl
theorem A1z {i:Nat}:Thn P b Q (.exit i) e H=Q (.exit i) e H:=As9 rfl
theorem A6G:Thn P b Q .ret e H=Q .ret e H:=As9 rfl
theorem Bcs:vwp P (.seq a b) Q e H=vwp P a (Thn P b Q) e H:=As9 rfl
def Blk (id:Nat) (Q:VEx→Env→List Ob→Prop):VEx→Env→List Ob→Prop:=fun x e H=>match x with | .nor=>Q .nor e H | .exit i=>if i=id then Q .nor e H else Q (.exit i) e H | .ret=>Q .ret e H | .pan u=>Q (.pan u) e H
theorem A65 {id:Nat}:Blk id Q .nor e H=Q .nor e H:=As9 rfl
theorem A2g {id:Nat}:Blk id Q (.exit id) e H=Q .nor e H:=by simp [Blk]
theorem ATO {id i:Nat} (h:i≠id):Blk id Q (.exit i) e H=Q (.exit i) e H:=by simp [Blk,h]
theorem A5j {id:Nat}:Blk id Q .ret e H=Q .ret e H:=As9 rfl
theorem A6D {id:Nat}:vwp P (.block id a) Q e H=vwp P a (Blk id Q) e H:=As9 rfl
theorem A9l {c:Opd}:vwp P (.cond c a b) Q e H=AZ4 (c.ev e) (vwp P a Q e H) (vwp P b Q e H):=As9 rfl
def Rnd (n0:Nat) (lv:List Nat) (Q:VEx→Env→List Ob→Prop) (I:Nat→Env→List Ob→Prop) (n:Nat):VEx→Env→List Ob→Prop:=fun x e H=>match x with
 | .nor=>∃ m g,m<n∧(n0≤g∧(H.length≤g∨(APh g (forget lv e)=true∧ANh g (H.take g)=true)))∧I m (forget lv e) (H.take g)
 | .exit i=>Q (.exit i) e H | .ret=>Q .ret e H | .pan u=>Q (.pan u) e H
section
variable {n0:Nat} {lv:List Nat} {I:Nat→Env→List Ob→Prop} {n:Nat}
theorem A1e {i:Nat}:Rnd n0 lv Q I n (.exit i) e H=Q (.exit i) e H:=As9 rfl
theorem A64:Rnd n0 lv Q I n .ret e H=Q .ret e H:=As9 rfl
theorem Atk (m:Nat) (hm:m<n) (h:n0≤H.length) (hR:I m (forget lv e) H):Rnd n0 lv Q I n .nor e H:=by
 refine ⟨m,H.length,hm,⟨h,.inl (Nat.le_refl _)⟩,?_⟩
 rw [List.take_length]; exact hR
end
theorem At5 {lv:List Nat} {H0:List Ob} (I:Nat→Env→List Ob→Prop) (n:Nat) (h0:I n (forget lv e) H0)
  (hs:∀ n e H,I n e H→vwp P a (Rnd H0.length lv Q I n) e H):vwp P (.loop lv a) Q e H0:=by
 rw [A8S]
 exact ⟨I,n,h0,hs⟩
theorem A6l {f:Opd} {ps:List Nat} {g:FuncId} {first caps:List TV} (hf:f.ev e = .fn (.func g) first caps) (hg:AMt P g=true) (ha:AL5 a=true) (hb:AL5 b=true)
  (h:∀ (N:Nat) (fn:FuncId) (ca cb:Code),AU9 P N ps ca cb a b→Atj P g (first++[.yl H.length 0]++caps) (H++[.lp .ready none fn N e ps ca cb]) (ANa Q e H.length)):vwp P (.rfunc f ps a b) Q e H:=by
 rw [vwp,hf]; exact ⟨ha,hb,hg,h⟩
theorem o_g {d s:Nat} {o:VOp} {b:Bool} {r:List VO} {K:Env→List Ob→Prop}:ANH P (⟨some d,o,some (s,b)⟩::r) K e H=APE e s fun e q=>Gd q b (vop P o e H (fun x H=>ANH P r K ((d,x)::e) H)) (ANH P r K ((d,.val undef)::e) H):=by
 rw [A9Z]; refine congrArg (APE e s) ?_; funext e q; cases q<;>rfl
def AWO (x:TV) (e:Env) (s:Nat) (Q:Env→Option Bool→Prop) [Tg Q]:Prop:=match x with
 | .val v=>Q e (isB v)
 | .any=>(∀ t,Q ((s,.val (.bool t))::e) (some t))∧∀ v,isB v=none→Q ((s,.val v)::e) none
 | _=>False
@[congr] theorem Bdx {x x':TV} {s:Nat} {Q:Env→Option Bool→Prop} (h:x=x'):AWO x e s Q=AWO x' e s Q:=by rw [h]
theorem BaN {s:Nat} {Q:Env→Option Bool→Prop}:APE e s Q=AWO (get e s) e s Q:=As9 rfl
theorem A5w {b:Bool} {s:Nat} {Q:Env→Option Bool→Prop}:AWO (.val (.bool b)) e s Q=Q e (some b):=As9 rfl
theorem A7n {s:Nat} {Q:Env→Option Bool→Prop}:AWO (.val undef) e s Q=Q e none:=As9 rfl
theorem u_c {d:Nat} {f:FuncId} {args:List Opd} {r:List VO} {K:Env→Prop}:vq P (⟨some d,.s (.call f args),none⟩::r) K e H=AtW (evs e args) fun xs=>AwE (AIo xs) (vex fun x=>VC P f xs H (fun y H'=>y=x∧H'=H)∧vq P r K ((d,x)::e) H):=by
 rw [Bei,AEs]; rfl
def Gq (x:TV) (b:Bool) (A B:Prop) [Tg A] [Tg B]:Prop:=match x with
 | .val v=>if isB v=some b then A else B
 | _=>False
@[congr] theorem BeJ {x x':TV} {b:Bool} {A B:Prop} (h:x=x'):Gq x b A B=Gq x' b A B:=by rw [h]
theorem Bel {t:Bool} {A B:Prop}:Gq (.val (.bool t)) true A B=vif t A B:=by cases t<;>simp [Gq,vif,isB]
theorem Bem {b:Bool} {A B:Prop}:Gq (.val undef) b A B=B:=by simp [Gq,isB,undef]
theorem BeG {t:Bool} {A B:Prop}:Gq (.val (.bool t)) false A B=vif t B A:=by cases t<;>simp [Gq,vif,isB]
theorem u_g {d s:Nat} {o:VOp} {b:Bool} {r:List VO} {K:Env→Prop}:vq P (⟨some d,o,some (s,b)⟩::r) K e H=Gq (get e s) b (APL P o e H fun x=>vq P r K ((d,x)::e) H) (vq P r K ((d,.val undef)::e) H):=As9 rfl
theorem Ben {f:FuncId} {args:List Opd} {k:TV→Prop}:APL P (.s (.call f args)) e H k=AtW (evs e args) fun xs=>AwE (AIo xs) (vex fun x=>VC P f xs H (fun y H'=>y=x∧H'=H)∧k x):=by
 rw [A6C,AEs]; rfl
def A9X (P:Program) (x:TV) (s k:Nat) (c:Atc) (Q:VEx→Env→List Ob→Prop) (e:Env) (H:List Ob):Prop:=match x with
  | .val (.slice none 0 0)=>vwp P c Q ((s,.os k H.length 0 [] 0 0 0)::e) (H++[.obj 0 (.arr 0 k [])])
  | _=>vwp P c Q e H
@[congr] theorem Bd7 {x x':TV} {s k:Nat} (h:x=x'):A9X P x s k a Q e H=A9X P x' s k a Q e H:=by rw [h]
theorem Bcf {s k:Nat}:vwp P (.own s k a) Q e H=A9X P (get e s) s k a Q e H:=As9 rfl
theorem A1W {s k:Nat}:A9X P (.val (.slice none 0 0)) s k a Q e H=vwp P a Q ((s,.os k H.length 0 [] 0 0 0)::e) (H++[.obj 0 (.arr 0 k [])]):=As9 rfl
theorem A7e {s k k' id ver off n cp:Nat} {p:List (Nat×Nat)}:A9X P (.os k' id ver p off n cp) s k a Q e H=vwp P a Q e H:=As9 rfl
end
theorem Bdm {t:Nat} {K:TV→Prop}:res [.tmp t] e H K=AtW (get e t) K:=As9 rfl
theorem BaO {t:Nat} {r:List VR} {K:List TV→Prop}:ATr (.tmp t::r) e H K=AtW (get e t) fun x=>ATr r e H fun xs=>K (x::xs):=As9 rfl
def BdG (K:TV→Prop) (xs:List TV):Prop:=match xs with
 | [x]=>K x
 | xs=>(∀ x∈xs,AuM x=false)∧K (.tup xs)
theorem A2n {x y:TV} {l:List TV} {K:TV→Prop}:BdG K (x::y::l)=AwE (AIo (x::y::l)) (AtW (TV.tup (x::y::l)) K):=As9 rfl
theorem A8x {r s:VR} {l:List VR} {K:TV→Prop}:res (r::s::l) e H K=ATr (r::s::l) e H (BdG K):=As9 rfl
theorem A9D {a sz:Nat} {ag:Bool} {K:TV→Prop}:res [.cell a ag sz] e H K=pop (.load ag sz (.t a)) e H K:=As9 rfl
theorem BbN {K:TV→Prop}:res [] e H K=K (.tup []):=by rw [AXT]; simp
end
def VCP (P:Program) (f:FuncId) (xs:List TV) (H:List Ob) (K:TV→List Ob→Prop) (KP:Value→List Ob→Prop) [Tg K] [Tg KP]:Prop:=AJu P f xs H K KP
@[congr] theorem A8v {P:Program} {f:FuncId} {xs xs':List TV} {H H':List Ob} {K:TV→List Ob→Prop} {KP:Value→List Ob→Prop} (he:xs=xs') (hH:H=H'):VCP P f xs H K KP=VCP P f xs' H' K KP:=by rw [he,hH]
def A7W (x:TV) (K:Value→Prop) [Tg K]:Prop:=match x with
 | .val (.iface t v)=>K (.iface t v)
 | .ifc t (.val v)=>K (.iface t v)
 | _=>False
@[congr] theorem Bd1 {x x':TV} {K:Value→Prop} (h:x=x'):A7W x K=A7W x' K:=by rw [h]
theorem A1n {t:TypeId} {v:Value} {K:Value→Prop}:A7W (.ifc t (.val v)) K=K (.iface t v):=As9 rfl
theorem A7I {t:TypeId} {v:Value} {K:Value→Prop}:A7W (.val (.iface t v)) K=K (.iface t v):=As9 rfl
section
variable {P:Program} {e:Env} {H:List Ob} {r:List VO} {K:Env→List Ob→Prop} {PP:Value→List Ob→Prop} {Q:VEx→Env→List Ob→Prop}
@[congr] theorem A6x {l:List VO} {e':Env} {H':List Ob} (he:e=e') (hH:H=H'):AIm P PP l K e H=AIm P PP l K e' H':=by rw [he,hH]
@[congr] theorem A69 {o:VOp} {e':Env} {H':List Ob} {KK:TV→List Ob→Prop} (he:e=e') (hH:H=H'):pvop P PP o e H KK=pvop P PP o e' H' KK:=by rw [he,hH]
theorem A8r {l:List VO} {kp:List Nat}:vwp P (.pops l kp) Q e H=AIm P (fun u H=>Q (.pan u) (ATM l e) H) l (fun e H=>AtW (forget kp e) fun e=>Q .nor e H) e H:=As9 rfl
theorem A6q {n:Nat} {l:List VO} {kp:List Nat}:vwp P (.pdraw n l kp) Q e H=(vq P (l.take n) (fun e=>AIm P (fun u H=>Q (.pan u) [] H) (l.drop n) (fun e H=>AtW (forget kp e) fun e=>Q .nor e H) e H) e H):=As9 rfl
theorem A8e:AIm P PP [] K e H=K e H:=As9 rfl
theorem Bew {d:Nat} {o:VOp}:AIm P PP (⟨some d,o,none⟩::r) K e H=pvop P PP o e H (fun x H=>AIm P PP r K ((d,x)::e) H):=As9 rfl
theorem Bda {o:VOp}:AIm P PP (⟨none,o,none⟩::r) K e H=pvop P PP o e H (fun x H=>AIm P PP r K e H):=As9 rfl
theorem Bex {d s:Nat} {o:VOp} {b:Bool}:AIm P PP (⟨some d,o,some (s,b)⟩::r) K e H=APE e s fun e q=>Gd q b (pvop P PP o e H (fun x H=>AIm P PP r K ((d,x)::e) H)) (AIm P PP r K ((d,.val undef)::e) H):=by
 show ADe (pvop P PP) _ K e H=_
 rw [ADe]
 refine congrArg (APE e s) ?_; funext e q; cases q<;>rfl
theorem A9N {o:POp} {KK:TV→List Ob→Prop}:pvop P PP (.p o) e H KK=pop o e H fun x=>KK x H:=As9 rfl
theorem AY1 {f:FuncId} {args:List Opd} {KK:TV→List Ob→Prop}:pvop P PP (.s (.call f args)) e H KK=AtW (evs e args) fun xs=>AwE (AIo xs) (VCP P f xs H KK PP):=by
 show ((∀ x∈args,AuM (x.ev e)=false)∧_)=_
 rw [AEs]; rfl
theorem AZZ {x:Opd} {KK:TV→List Ob→Prop}:pvop P PP (.s (.pan x)) e H KK=A7W (x.ev e) (fun u=>PP u H):=by
 show (match x.ev e with | .val (.iface t v)=>PP (.iface t v) H | .ifc t (.val v)=>PP (.iface t v) H | _=>False)=_
 unfold A7W
 split<;>simp_all
theorem AVY {z:TV} {KK:TV→List Ob→Prop}:pvop P PP (.s (.alloc z)) e H KK=sop P (.alloc z) e H KK:=As9 rfl
theorem A17 {x:Opd} {KK:TV→List Ob→Prop}:pvop P PP (.s (.box x)) e H KK=sop P (.box x) e H KK:=As9 rfl
theorem ATy {k n:Nat} {z:TV} {ps:List (Nat×Opd)} {KK:TV→List Ob→Prop}:pvop P PP (.s (.bslice k n z ps)) e H KK=sop P (.bslice k n z ps) e H KK:=As9 rfl
theorem AVE {sz:Nat} {x v:Opd} {KK:TV→List Ob→Prop}:pvop P PP (.s (.store sz x v)) e H KK=sop P (.store sz x v) e H KK:=As9 rfl
theorem A1I {k bytes:Nat} {z:TV} {l c:Opd} {KK:TV→List Ob→Prop}:pvop P PP (.s (.mks k bytes z l c)) e H KK=sop P (.mks k bytes z l c) e H KK:=As9 rfl
theorem A18 {k bytes:Nat} {et:TypeId} {x y:Opd} {KK:TV→List Ob→Prop}:pvop P PP (.s (.app k bytes et x y)) e H KK=sop P (.app k bytes et x y) e H KK:=As9 rfl
theorem AXS {et:TypeId} {x y:Opd} {KK:TV→List Ob→Prop}:pvop P PP (.s (.appS et x y)) e H KK=sop P (.appS et x y) e H KK:=As9 rfl
theorem AXR {k n:Nat} {et:TypeId} {z:TV} {x y:Opd} {KK:TV→List Ob→Prop}:pvop P PP (.s (.appZ k n et z x y)) e H KK=sop P (.appZ k n et z x y) e H KK:=As9 rfl
theorem A14 {x:Opd} {n:Bool} {KK:TV→List Ob→Prop}:pvop P PP (.s (.eqS x n)) e H KK=sop P (.eqS x n) e H KK:=As9 rfl
theorem A0X {x:Opd} {KK:TV→List Ob→Prop}:pvop P PP (.s (.s2b x)) e H KK=sop P (.s2b x) e H KK:=As9 rfl
theorem AY8 {k:Nat} {x y:Opd} {KK:TV→List Ob→Prop}:pvop P PP (.s (.copy k x y)) e H KK=sop P (.copy k x y) e H KK:=As9 rfl
theorem AV8 {x y:Opd} {KK:TV→List Ob→Prop}:pvop P PP (.s (.copyS x y)) e H KK=sop P (.copyS x y) e H KK:=As9 rfl
theorem AWa {x:Opd} {args:List Opd} {KK:TV→List Ob→Prop}:pvop P PP (.s (.callv x args)) e H KK=sop P (.callv x args) e H KK:=As9 rfl
theorem A0x {x:Opd} {nm:String} {args:List Opd} {KK:TV→List Ob→Prop}:pvop P PP (.s (.inv x nm args)) e H KK=sop P (.inv x nm args) e H KK:=As9 rfl
theorem A4K {kk:MK} {h:Option Opd} {KK:TV→List Ob→Prop}:pvop P PP (.s (.mkm kk h)) e H KK=sop P (.mkm kk h) e H KK:=As9 rfl
theorem AXe {kk:MK} {m k x:Opd} {KK:TV→List Ob→Prop}:pvop P PP (.s (.mupd kk m k x)) e H KK=sop P (.mupd kk m k x) e H KK:=As9 rfl
theorem AZq {kk:MK} {z:TV} {m k:Opd} {KK:TV→List Ob→Prop}:pvop P PP (.s (.ment kk z m k)) e H KK=sop P (.ment kk z m k) e H KK:=As9 rfl
theorem AXp {m st x:Opd} {KK:TV→List Ob→Prop}:pvop P PP (.s (.mest m st x)) e H KK=sop P (.mest m st x) e H KK:=As9 rfl
theorem AUv {z:TV} {t:TypeId} {KK:TV→List Ob→Prop}:pvop P PP (.s (.allocT z t)) e H KK=sop P (.allocT z t) e H KK:=As9 rfl
theorem AXE {x:Opd} {t:TypeId} {KK:TV→List Ob→Prop}:pvop P PP (.s (.boxT x t)) e H KK=sop P (.boxT x t) e H KK:=As9 rfl
theorem AYp {x:Opd} {KK:TV→List Ob→Prop}:pvop P PP (.s (.rngS x)) e H KK=sop P (.rngS x) e H KK:=As9 rfl
theorem AYm {x:Opd} {KK:TV→List Ob→Prop}:pvop P PP (.s (.nxtS x)) e H KK=sop P (.nxtS x) e H KK:=As9 rfl
theorem AZj {x:Opd} {KK:TV→List Ob→Prop}:pvop P PP (.s (.rngM x)) e H KK=sop P (.rngM x) e H KK:=As9 rfl
theorem AWT {x:Opd} {KK:TV→List Ob→Prop}:pvop P PP (.s (.nxtM x)) e H KK=sop P (.nxtM x) e H KK:=As9 rfl
theorem AXO {kk:MK} {m k:Opd} {KK:TV→List Ob→Prop}:pvop P PP (.s (.delM kk m k)) e H KK=sop P (.delM kk m k) e H KK:=As9 rfl
theorem A2q {x:Opd} {KK:TV→List Ob→Prop}:pvop P PP (.s (.cvS x)) e H KK=sop P (.cvS x) e H KK:=As9 rfl
theorem AXP {k:Nat} {z:TV} {x:Opd} {KK:TV→List Ob→Prop}:pvop P PP (.s (.clrS k z x)) e H KK=sop P (.clrS k z x) e H KK:=As9 rfl
theorem AXH {f:FuncId} {x:Opd} {KK:TV→List Ob→Prop}:pvop P PP (.s (.bstr f x)) e H KK=sop P (.bstr f x) e H KK:=As9 rfl
theorem A7G {b:Atc} {u:Value}:Thn P b Q (.pan u) e H=Q (.pan u) e H:=As9 rfl
theorem A6p {id:Nat} {u:Value}:Blk id Q (.pan u) e H=Q (.pan u) e H:=As9 rfl
theorem A5I {n0:Nat} {lv:List Nat} {I:Nat→Env→List Ob→Prop} {n:Nat} {u:Value}:Rnd n0 lv Q I n (.pan u) e H=Q (.pan u) e H:=As9 rfl
theorem AVW {vr:List VR} {R:TV→List Ob→Prop} {RP:Value→List Ob→Prop}:AXW vr R RP .ret e H=res vr e H fun x=>R x H:=As9 rfl
theorem AVy {vr:List VR} {R:TV→List Ob→Prop} {RP:Value→List Ob→Prop}:AXW vr R RP .nor e H=res vr e H fun x=>R x H:=As9 rfl
theorem AVT {vr:List VR} {R:TV→List Ob→Prop} {RP:Value→List Ob→Prop} {u:Value}:AXW vr R RP (.pan u) e H=RP u H:=As9 rfl
def ATg (P:Program) (PP:Value→List Ob→Prop) (Ss:SsT) (l:List VO) (K:Env→List Ob→Prop) (e:Env) (H:List Ob):Prop:=ADe (pvopS P PP Ss) l K e H
@[congr] theorem A5s {Ss:SsT} {l:List VO} {e':Env} {H':List Ob} (he:e=e') (hH:H=H'):ATg P PP Ss l K e H=ATg P PP Ss l K e' H':=by rw [he,hH]
@[congr] theorem A4V {Ss:SsT} {o:VOp} {e':Env} {H':List Ob} {KK:TV→List Ob→Prop} (he:e=e') (hH:H=H'):pvopS P PP Ss o e H KK=pvopS P PP Ss o e' H' KK:=by rw [he,hH]
theorem A7b {n:Nat} {l:List VO} {kp:List Nat}:vwp P (.sdraw n l kp) Q e H=(vq P (l.take (nOf n)) (fun e=>ATg P (fun u H=>Q (.pan u) [] H) (ssN n l) (l.drop (nOf n)) (fun e H=>AtW (forget kp e) fun e=>Q .nor e H) e H) e H):=As9 rfl
section
variable {Ss:SsT}
theorem A9V:ATg P PP Ss [] K e H=K e H:=As9 rfl
theorem Bes {d:Nat} {o:VOp}:ATg P PP Ss (⟨some d,o,none⟩::r) K e H=pvopS P PP Ss o e H (fun x H=>ATg P PP Ss r K ((d,x)::e) H):=As9 rfl
theorem Bdn {o:VOp}:ATg P PP Ss (⟨none,o,none⟩::r) K e H=pvopS P PP Ss o e H (fun x H=>ATg P PP Ss r K e H):=As9 rfl
theorem A8Z {o:POp} {KK:TV→List Ob→Prop}:pvopS P PP Ss (.p o) e H KK=pop o e H fun x=>KK x H:=As9 rfl
theorem AYC {f:FuncId} {args:List Opd} {KK:TV→List Ob→Prop}:pvopS P PP Ss (.s (.call f args)) e H KK=AtW (evs e args) fun xs=>AwE (AIo xs) (VCP P f xs H (fun x H'=>KK x H'∧AGj Ss.l e H H') PP):=by
 show ((∀ x∈args,AuM (x.ev e)=false)∧_)=_
 rw [AEs]; rfl
theorem AVN {sz:Nat} {x v:Opd} {KK:TV→List Ob→Prop}:pvopS P PP Ss (.s (.store sz x v)) e H KK=sop P (.store sz x v) e H fun x H'=>KK x H'∧AGj Ss.st e H H':=As9 rfl
theorem AWo {z:TV} {KK:TV→List Ob→Prop}:pvopS P PP Ss (.s (.alloc z)) e H KK=sop P (.alloc z) e H KK:=As9 rfl
theorem AZW {k bytes:Nat} {z:TV} {l c:Opd} {KK:TV→List Ob→Prop}:pvopS P PP Ss (.s (.mks k bytes z l c)) e H KK=sop P (.mks k bytes z l c) e H KK:=As9 rfl
theorem A0q {k bytes:Nat} {et:TypeId} {x y:Opd} {KK:TV→List Ob→Prop}:pvopS P PP Ss (.s (.app k bytes et x y)) e H KK=vif Ss.ap (sop P (.app k bytes et x y) e H fun x H'=>KK x H'∧AGj Ss.l e H H') (sop P (.app k bytes et x y) e H KK):=by
 show sop P (.app k bytes et x y) e H (fun x H'=>KK x H'∧(Ss.ap=true→AGj Ss.l e H H'))=_
 unfold vif
 split
 ·rename_i h
  congr 1; funext x H'; simp [h]
 ·rename_i h
  congr 1; funext x H'; simp [h]
theorem AYD {et:TypeId} {x y:Opd} {KK:TV→List Ob→Prop}:pvopS P PP Ss (.s (.appS et x y)) e H KK=sop P (.appS et x y) e H KK:=As9 rfl
theorem A7Y {n:Nat}:nOf n=n % 10000:=As9 rfl
theorem Bag {n:Nat} {l:List VO}:(ssN n l).ap=decide (10000≤n):=As9 rfl
theorem A4R {x:Opd} {KK:TV→List Ob→Prop}:pvopS P PP Ss (.s (.s2b x)) e H KK=sop P (.s2b x) e H KK:=As9 rfl
theorem ATx {k n:Nat} {z:TV} {ps:List (Nat×Opd)} {KK:TV→List Ob→Prop}:pvopS P PP Ss (.s (.bslice k n z ps)) e H KK=sop P (.bslice k n z ps) e H KK:=As9 rfl
end
theorem AOk {e:Env} {H H':List Ob}:AGj [] e H H':=AGj.nil
theorem AEJ {s:Nat} {Ss:List Nat} {e:Env} {H H':List Ob} {id ver:Nat} {p:List (Nat×Nat)} (h:get e s = .op id ver p) (h1:H'[id]?=H[id]?) (h2:AGj Ss e H H'):AGj (s::Ss) e H H':=fun t ht id' hg=>by
 rcases List.mem_cons.1 ht with rfl | ht
 ·rw [h] at hg; cases hg; exact h1
 ·exact h2 t ht id' hg
theorem Atj.callsP {f:FuncId} {args:List TV} {R:TV→List Ob→Prop} {RP:Value→List Ob→Prop} (h:Atj P f args H R):VCP P f args H R RP:=h.mayP
end
def Atf:=(aI_ (aI_ (aI_ (aI_ (aI_ (aI_ (aI_ (aI_ @BcQ @Ban) (aI_ @Bde @Bey)) (aI_ (aI_ @A9h @Bb8) (aI_ @BcJ @A9A))) (aI_ (aI_ (aI_ @A1Y @A7D) (aI_ @A8y @A5E)) (aI_ (aI_ @BbH @Baf) (aI_ @BcP @A8u)))) (aI_ (aI_ (aI_ (aI_ @A8I @BcI) (aI_ @Bdj @Bbl)) (aI_ (aI_ @A5u @Bbg) (aI_ @Bav @BcA))) (aI_ (aI_ (aI_ @Bc9 @Bbz) (aI_ @BcC @Bdr)) (aI_ (aI_ @A6j @A1a) (aI_ @Bdt @A7q))))) (aI_ (aI_ (aI_ (aI_ (aI_ @A0A @Bbf) (aI_ @A9U @A9Y)) (aI_ (aI_ @A9W @A9s) (aI_ @Bao @A9C))) (aI_ (aI_ (aI_ @Bau @A9m) (aI_ @BcF @AZQ)) (aI_ (aI_ @A61 @BcM) (aI_ @BbS @A9E)))) (aI_ (aI_ (aI_ (aI_ @BaK @A6h) (aI_ @Bdk @A9t)) (aI_ (aI_ @Bce @A95) (aI_ @A9g @A8k))) (aI_ (aI_ (aI_ @A9j @A8g) (aI_ @BaI @A5X)) (aI_ (aI_ @Bc7 @BbY) (aI_ @A9f @Bds)))))) (aI_ (aI_ (aI_ (aI_ (aI_ (aI_ @A9y @Bah) (aI_ @Bcs @A6D)) (aI_ (aI_ @A9l @A8f) (aI_ @Bbn @A6w))) (aI_ (aI_ (aI_ @Bcf @A8z) (aI_ @Baq @A1x)) (aI_ (aI_ @A75 @Bad) (aI_ @A5M @o_g)))) (aI_ (aI_ (aI_ (aI_ @BaN @Bbi) (aI_ @Bdf @A9v)) (aI_ (aI_ @Beu @u_c) (aI_ @u_g @A5e))) (aI_ (aI_ (aI_ @Ben @ASz) (aI_ @ARZ @Bdm)) (aI_ (aI_ @A9D @BbN) (aI_ @A8x @AVl))))) (aI_ (aI_ (aI_ (aI_ (aI_ @BaO @ASh) (aI_ @A2n @A7a)) (aI_ (aI_ @A1z @A6G) (aI_ @A65 @A2g))) (aI_ (aI_ (aI_ @ATO @A5j) (aI_ @A1e @A64)) (aI_ (aI_ @A8r @A6q) (aI_ @A7b @A9V)))) (aI_ (aI_ (aI_ (aI_ @Bes @Bdn) (aI_ @A8Z @AYC)) (aI_ (aI_ @AVN @AWo) (aI_ @AZW @A0q))) (aI_ (aI_ (aI_ @AYD @A4R) (aI_ @ATx @A8e)) (aI_ (aI_ @Bew @Bda) (aI_ @Bex @A9N))))))) (aI_ (aI_ (aI_ (aI_ (aI_ (aI_ @AY1 @AZZ) (aI_ @AVY @A17)) (aI_ (aI_ @ATy @AVE) (aI_ @A1I @A18))) (aI_ (aI_ (aI_ @AXS @A0X) (aI_ @AXR @A14)) (aI_ (aI_ @AY8 @AV8) (aI_ @AWa @A0x)))) (aI_ (aI_ (aI_ (aI_ @A4K @AXe) (aI_ @AZq @AXp)) (aI_ (aI_ @AUv @AXE) (aI_ @AYp @AYm))) (aI_ (aI_ (aI_ @AZj @AWT) (aI_ @AXO @AXP)) (aI_ (aI_ @A2q @AXH) (aI_ @A7G @A6p))))) (aI_ (aI_ @A5I @AVW) (aI_ @AVy @AVT))))
def Atb:=(aI_ (aI_ (aI_ (aI_ (aI_ (aI_ (aI_ (aI_ @A7Y @Bag) (aI_ @A7I @A1n)) (aI_ (aI_ @A0w @AXv) (aI_ @A6i @A5Z))) (aI_ (aI_ (aI_ @A8m @A89) (aI_ @A9k @AWJ)) (aI_ (aI_ @A11 @A6m) (aI_ @A0N @A8o)))) (aI_ (aI_ (aI_ (aI_ @AXZ @A7f) (aI_ @A12 @A4Y)) (aI_ (aI_ @A6E @A9J) (aI_ @Bax @AXj))) (aI_ (aI_ (aI_ @A6r @A1D) (aI_ @A6M @AZ2)) (aI_ (aI_ @A7w @A9B) (aI_ @A2w @A5p))))) (aI_ (aI_ (aI_ (aI_ (aI_ @A6K @A4L) (aI_ @A0V @AWf)) (aI_ (aI_ @AVI @AZh) (aI_ @AZG @A2l))) (aI_ (aI_ (aI_ @AYx @AW6) (aI_ @A6y @A02)) (aI_ (aI_ @A6I @AZH) (aI_ @A1V @A1F)))) (aI_ (aI_ (aI_ (aI_ @AWI @A5b) (aI_ @A51 @A52)) (aI_ (aI_ @A5K @A5V) (aI_ @A7c @A5S))) (aI_ (aI_ (aI_ @A4T @A62) (aI_ @AZA @A6Q)) (aI_ (aI_ @AXK @A6N) (aI_ @A0G @A07)))))) (aI_ (aI_ (aI_ (aI_ (aI_ (aI_ @A0J @AYj) (aI_ @AWn @A5n)) (aI_ (aI_ @A5F @BaJ) (aI_ @A9T @A8n))) (aI_ (aI_ (aI_ @A8Q @A0h) (aI_ @A4P @A4F)) (aI_ (aI_ @AZF @A8K) (aI_ @A9G @BaB)))) (aI_ (aI_ (aI_ (aI_ @AXc @AVL) (aI_ @AYa @AZP)) (aI_ (aI_ @A1L @AYR) (aI_ @A1M @A1T))) (aI_ (aI_ (aI_ @A0H @A2f) (aI_ @A5G @A6B)) (aI_ (aI_ @A00 @AWS) (aI_ @A0S @A6F))))) (aI_ (aI_ (aI_ (aI_ (aI_ @A0n @A6d) (aI_ @A5W @A5a)) (aI_ (aI_ @A0Z @A0P) (aI_ @A0a @AZE))) (aI_ (aI_ (aI_ @A1Z @A0o) (aI_ @AYc @A1S)) (aI_ (aI_ @A7m @A8t) (aI_ @AY7 @Bap)))) (aI_ (aI_ (aI_ (aI_ @A9p @A7s) (aI_ @A7C @A5L)) (aI_ (aI_ @AZY @A4O) (aI_ @A2p @Option.getD_none.{0}))) (aI_ (aI_ (aI_ @Option.getD_some.{0} @AX6) (aI_ @A6W @A10)) (aI_ (aI_ @A0M @A1O) (aI_ @AU6 @AX8))))))) (aI_ (aI_ (aI_ (aI_ (aI_ (aI_ @A1t @AZS) (aI_ @A7z @A05)) (aI_ (aI_ @A54 @AZO) (aI_ @AXl @A60))) (aI_ (aI_ (aI_ @A4H @AZL) (aI_ @A1l @A0s)) (aI_ (aI_ @A2t @A2d) (aI_ @A1A @A5z)))) (aI_ (aI_ (aI_ (aI_ @AY2 @A5q) (aI_ @A96 @A9L)) (aI_ (aI_ @AWw @AZl) (aI_ @BcG @Bcd))) (aI_ (aI_ (aI_ @Bek @A0t) (aI_ @A5w @A7n)) (aI_ (aI_ @Bel @BeG) (aI_ @Bem @A1W))))) (aI_ (aI_ (aI_ @A7e @AZC) (aI_ @AZ9 @A6k)) (aI_ (aI_ @A2i @AWK) @AVC))))
def Atd:=(aI_ (aI_ (aI_ (aI_ (aI_ (aI_ (aI_ (aI_ @A4M @A1g) (aI_ @A66 @A5T)) (aI_ (aI_ @A7j @A6z) (aI_ @AZB @A0c))) (aI_ (aI_ (aI_ @A0r @A4y) (aI_ @A5d @A6t)) (aI_ (aI_ @A6b @AZn) (aI_ @AW8 @A4t)))) (aI_ (aI_ (aI_ (aI_ @AZD @A0g) (aI_ @A1N @AYY)) (aI_ (aI_ @AX3 @AXV) (aI_ @AXF @A0C))) (aI_ (aI_ (aI_ @A0f @A4N) (aI_ @A1E @A6U)) (aI_ (aI_ @A5i @A6S) (aI_ @A5c @A1o))))) (aI_ (aI_ (aI_ (aI_ (aI_ @AZI @A4u) (aI_ @A4G @A5H)) (aI_ (aI_ @A5C @A5P) (aI_ @AYE @AY0))) (aI_ (aI_ (aI_ @A1R @A4S) (aI_ @A1i @A0W)) (aI_ (aI_ @AZe @AZ6) (aI_ @A2r @AWQ)))) (aI_ (aI_ (aI_ (aI_ @AXC @A1w) (aI_ @A1P @A1s)) (aI_ (aI_ @A1J @AXA) (aI_ @AYW @A0u))) (aI_ (aI_ (aI_ @A0U @AZM) (aI_ @AX4 @AYJ)) (aI_ (aI_ @AVM @ATB) (aI_ @AZx @AWF)))))) (aI_ (aI_ (aI_ (aI_ (aI_ (aI_ @AZg @AWZ) (aI_ @AVB @A0e)) (aI_ (aI_ @AYT @AUo) (aI_ @AR7 @AVx))) (aI_ (aI_ (aI_ @A03 @AZw) (aI_ @AS9 @ART)) (aI_ (aI_ @Beo @BeB) (aI_ @BeA @AZ0)))) (aI_ (aI_ (aI_ (aI_ @A0R @A4C) (aI_ @AVh @A0i)) (aI_ (aI_ @A4x @AVO) (aI_ @AT4 @AZr))) (aI_ (aI_ (aI_ @AV4 @A1H) (aI_ @AWd @ATv)) (aI_ (aI_ @AVD @ATW) (aI_ @AWX @AVz))))) (aI_ (aI_ (aI_ (aI_ (aI_ @ATA @ASj) (aI_ @ARi @AP2)) (aI_ (aI_ @A67 @A1u) (aI_ @AXT @A1q))) (aI_ (aI_ (aI_ @AVl @A0I) (aI_ @ASh @ASz)) (aI_ (aI_ @ARZ @A1B) (aI_ @A0p @A63)))) (aI_ (aI_ (aI_ (aI_ @A55 @AZT) (aI_ @A6R @A5f)) (aI_ (aI_ @AZ1 @A4J) (aI_ @A0E @AXx))) (aI_ (aI_ (aI_ @AV3 @A5t) (aI_ @A5l @A80)) (aI_ (aI_ @A5A @A6u) (aI_ @A6e @A5m))))))) (aI_ (aI_ (aI_ @A2k @AX1) (aI_ @AKe @A1d)) (aI_ (aI_ @BbO @A94) @BaA)))
theorem AVV {α β:Type} {f:α→β} {l:List α} {i:Nat}:(l.map f).drop i=(l.drop i).map f:=List.map_drop.symm
theorem AVP {α β:Type} {f:α→β} {l:List α} {i:Nat}:(l.map f).take i=(l.take i).map f:=List.map_take.symm
theorem A87 {b:UInt8}:IntKind.i64.wrap (b.toNat:Int)=b.toNat:=Ax7 (by omega) (by have:=b.toNat_lt; omega)
theorem A8C {n:Nat}:IntKind.u8.wrap (n:Int)=((UInt8.ofNat n).toNat:Int):=by
 rw [IntKind.wrap_u8,UInt8.toNat_ofNat']; omega
theorem A8V {α:Type} {n i:Nat} {a:α} (h:i<n):(List.replicate n a)[i]?=some a:=by simp [h]
section
variable {a b c:Nat}
theorem AZ3:(a:Int)*(b:Int)=((a*b:Nat):Int):=As9 rfl
theorem A4s (h:b≤a):(a:Int) - (b:Int)=((a - b:Nat):Int):=by omega
theorem A2h:(a:Int) / (b:Int)=((a / b:Nat):Int):=As9 rfl
theorem AZV:(a:Int) % (b:Int)=((a % b:Nat):Int):=As9 rfl
variable {t:TypeId} {k2:IntKind}
theorem A98 (h1:b≤63) (h2:a*2 ^ b≤9223372036854775807):AyH t .shl (.int .i64 (a:Int)) (.int k2 (b:Int))=some (.int .i64 ((a*2 ^ b:Nat):Int)):=by
 have e:(a:Int)*2 ^ ((b:Int).toNat)=((a*2 ^ b:Nat):Int):=by rw [Int.toNat_natCast,Int.natCast_mul,Int.natCast_pow]; rfl
 rw [Bbe (by omega) (by omega) (by rw [e]; omega) (by rw [e]; omega),e]
theorem A88 (h1:b≤63):AyH t .shr (.int .i64 (a:Int)) (.int k2 (b:Int))=some (.int .i64 ((a / 2 ^ b:Nat):Int)):=by
 have e:(a:Int) / 2 ^ ((b:Int).toNat)=((a / 2 ^ b:Nat):Int):=by rw [Int.toNat_natCast,Int.natCast_ediv,Int.natCast_pow]; rfl
 rw [Bci (by omega) (by omega) (by omega),e]
variable {k:IntKind}
theorem A8q (h:b≠0):AyH t .rem (.int k (a:Int)) (.int k (b:Int))=some (.int k ((a % b:Nat):Int)):=by rw [Bcp (by omega) (by omega),Int.natCast_emod]
theorem Bab (h:b≠0) (h2:a≤9223372036854775807):AyH t .quo (.int .i64 (a:Int)) (.int .i64 (b:Int))=some (.int .i64 ((a / b:Nat):Int)):=by rw [BbX (by omega) (by omega) (by omega),Int.natCast_ediv]
end
theorem Atj.toPureV {P:Program} {f:FuncId} {args:List TV} {R:TV→Prop} (h:Atj P f args [] fun x H'=>Auf (frz H' x) R):Auk P f args R :=
 Atj.toPure (h.mono fun x H' hx=>by
  cases hf:frz H' x with
  | none=>rw [hf] at hx; exact hx
  | some y=>rw [hf] at hx; exact hx)
abbrev mv_ (d s:Nat):VO:=⟨some d,.p (.mov (.t s)),none⟩
abbrev po_ (d:Nat) (p:POp):VO:=⟨some d,.p p,none⟩
abbrev so_ (d:Nat) (q:SOp):VO:=⟨some d,.s q,none⟩
abbrev ci_ (n:Nat):Opd := .c (.int .i64 (n:Int))
theorem Awn {P:Program} {f:FuncId} {fn:Func} {vc:Atc} {vr:List VR} (n:Nat) (hf:P.funcs[f]?=some fn) (ht:fn.body.bind (trC P fn.ntmps)=some (er vc)) (hr:trR P fn.results.toList=some vr) (hn:fn.ntmps=n) :
  ∀ ⦃args:List TV⦄ ⦃H:List Ob⦄ ⦃R:TV→List Ob→Prop⦄,args.length≤n→vwp P vc (ABL vr R) (AQX 0 args) H→Atj P f args H R:=fun _ _ _ h1 h2=>AWC hf ht hr (hn▸h1) h2
theorem As8 {c c':Atc} (h:c=c'):∀ (P:Program) (Q:VEx→Env→List Ob→Prop) (e:Env) (H:List Ob),vwp P c Q e H=vwp P c' Q e H:=fun _ _ _ _=>by rw [h]
theorem Ata {α:Type}:(∀ {l:List α} {i:Nat} {a:α},(l.set i a).length=l.length)∧(∀ {l m:List α},(l++m).length=l.length+m.length)∧(∀ {a:α} {l:List α},(a::l).length=l.length+1)∧([]:List α).length=0:=⟨List.length_set,List.length_append,List.length_cons,List.length_nil⟩
theorem Atj.toFreshV {P:Program} {f:FuncId} {args:List TV} {R:TV→Prop} (h:Atj P f args [] fun x H'=>Auf (frs H' x) R):Az5 P f args R :=
 Atj.toFresh (h.mono fun x H' hx=>by
  cases hf:frs H' x with
  | none=>rw [hf] at hx; exact hx
  | some y=>rw [hf] at hx; exact hx)
theorem A2j {α:Type} {l:List α} {n:Nat} (h:l.length≤n):l.take n=l:=List.take_of_length_le h
theorem BcB {α:Type} {c:Prop} [Decidable c] {a b:α} (h:c):(if c then a else b)=a:=if_pos h
theorem BcZ {α:Type} {c:Prop} [Decidable c] {a b:α} (h:¬ c):(if c then a else b)=b:=if_neg h
theorem ATz {α:Type} {l:List α} {n:Nat} (h:n≤l.length):(l.take n).length=n:=by simp [h]
theorem AQM {α:Type} {l:List α} {i:Nat}:(l.drop i).take (l.length - i)=l.drop i:=List.take_of_length_le (by simp)
theorem A16 {a b:Nat}:a+b - a=b:=Nat.add_sub_cancel_left a b
theorem A0j {α:Type} {l m:List α}:(l++m).take l.length=l:=List.take_left
theorem A2b {α:Type} {l m:List α}:(l++m).drop l.length=m:=List.drop_left
theorem A1j {a b:Nat}:a+b - b=a:=Nat.add_sub_cancel a b
def Ate:=(aI_ (aI_ (aI_ (aI_ (aI_ (aI_ (aI_ @A0j @A2b) (aI_ @A16 @AQM)) (aI_ (aI_ @ATz @List.length_drop.{0}) (aI_ @BcB @BcZ))) (aI_ (aI_ (aI_ @A2j @A1j) (aI_ @Nat.zero_le @A73)) (aI_ (aI_ @List.nil_append.{0} @List.length_nil.{0}) (aI_ @List.length_cons.{0} @List.cons_append.{0})))) (aI_ (aI_ (aI_ (aI_ @List.getElem?_cons_zero.{0} @List.getElem?_cons_succ.{0}) (aI_ @List.set_cons_zero.{0} @List.set_cons_succ.{0})) (aI_ (aI_ @List.map_cons.{0,0} @List.map_nil.{0,0}) (aI_ @A1Q @A4D))) (aI_ (aI_ (aI_ @true_and @and_true) (aI_ @List.take_zero.{0} @List.take_succ_cons.{0})) (aI_ (aI_ @List.drop_succ_cons.{0} @List.take_nil.{0}) (aI_ @List.drop_nil.{0} @Nat.zero_add))))) (aI_ (aI_ (aI_ (aI_ (aI_ @Bch @BcX) (aI_ @BbG @BcH)) (aI_ (aI_ @BbV @Bbw) (aI_ @Bb4 @Bbt))) (aI_ (aI_ (aI_ @Bcb @A8l) (aI_ @BeE @A8q)) (aI_ (aI_ @Bab @A46) (aI_ @AXb @AXs)))) (aI_ (aI_ (aI_ (aI_ @AWW @AW5) (aI_ @AWm @AYt)) (aI_ (aI_ @AZu @AX7) (aI_ @AYH @AYr))) (aI_ (aI_ (aI_ @Bool.false_xor @Bool.true_xor) (aI_ @Bbq @Bb2)) (aI_ (aI_ @BbQ @decide_true) (aI_ @decide_false @Bool.not_true)))))) (aI_ (aI_ (aI_ (aI_ (aI_ (aI_ @Bool.not_false @not_true_eq_false) (aI_ @not_false_eq_true @Bool.false_eq_true)) (aI_ (aI_ @Bool.true_eq_false @Option.bind_some.{0,0}) (aI_ @Option.map_some.{0,0} @Bool.and_self))) (aI_ (aI_ (aI_ @and_self @Nat.sub_zero) (aI_ @Nat.mul_one @List.length_map.{0,0})) (aI_ (aI_ @Int.toNat_natCast @List.getElem?_map.{0,0}) (aI_ @Int.natCast_nonneg @List.length_append.{0})))) (aI_ (aI_ (aI_ (aI_ @List.drop_zero.{0} @AVV) (aI_ @AVP @A1G)) (aI_ (aI_ @A1f @A2s) (aI_ @A6A @A7t))) (aI_ (aI_ (aI_ @A6L @A7k) (aI_ @List.replicate_zero.{0} @List.take_length.{0})) (aI_ (aI_ @List.length_set.{0} @List.length_replicate.{0}) (aI_ @A87 @Ax7))))) (aI_ (aI_ (aI_ (aI_ @A8C @List.set_set.{0}) (aI_ @List.getElem?_nil.{0} @A8V)) (aI_ (aI_ @AZ3 @A4s) (aI_ @A2h @AZV))) (aI_ @A98 @A88))))
end
section
open Go.RowKit
variable [AtQ]
theorem AWr {g:Nat} {x:GV} (h:AGF g=some x):(g,x)∈AtQ.l:=by
 unfold AGF at h
 obtain ⟨p,hp,rfl⟩:=Option.map_eq_some_iff.1 h
 have h1:=List.mem_of_find?_eq_some hp
 have h2:=List.find?_some hp
 have h3:p.1=g:=by simpa using h2
 obtain ⟨a,b⟩:=p
 simp only at h3; subst h3; exact h1
section
omit [AtQ]
theorem A7i {P:Program} {w:World} {name:String} {g:Nat} {cs:Array Value} (hg:P.globalNamed name=some g) (h:w.var? P name=some cs):∃ t fr,w.heap[g]?=some (.cells cs t fr):=by
 unfold World.var? at h
 rw [hg,Option.bind_some] at h
 split at h
 ·rename_i c t fr hh; cases h; exact ⟨t,fr,hh⟩
 ·cases h
variable {P:Program} {w:World} {fuel:Nat} {cs:List Value}
end
end
section
open Go.RowKit Go.WideShapes Go.ChangeShapes
variable [AtQ]
set_option autoImplicit false
def came (w:World):Ctx:=⟨fun _ _=>none,[],fun b=>b<w.heap.size⟩
def AAE (P:Program) (t:TypeId) {α:Type} (f:α→TV) (ok:α→Prop):Prop :=
 ∀ {H:Type} (enc:TypeId×Value→H) (w:World) (fuel:Nat) (cs:List Value) (d:DataW H) (ps:List MemPlace),DataW.trod enc P w 0 (fun _=>true) true fuel t cs=some (d,ps)→(d.weights P t).all (· ≤ reachBytes)=true→∃ a,Ath (came w) w (f a) cs∧ok a
theorem AS0 {α β:Type} {f:α→Option β}:∀ {l:List α} {xs:List β},l.mapM f=some xs→xs.length=l.length∧∀ (i:Nat) a,l[i]?=some a→∃ x,xs[i]?=some x∧f a=some x
 | [],xs,h=>by simp at h; subst h; simp
 | a::l,xs,h=>by
  rw [List.mapM_cons] at h
  cases hf:f a with
  | none=>rw [hf] at h; cases h
  | some y =>
   rw [hf] at h
   cases hl:l.mapM f with
   | none=>rw [hl] at h; cases h
   | some ys =>
    rw [hl] at h
    have e:xs=y::ys:=by simpa using h.symm
    subst e
    obtain ⟨h1,h2⟩:=AS0 hl
    refine ⟨by simp [h1],fun i b hb => ?_⟩
    cases i with
    | zero=>simp at hb; subst hb; exact ⟨y,by simp,hf⟩
    | succ i=>simpa using h2 i b (by simpa using hb)
theorem AH0 {β:Type} {f:Nat→Option β} {n:Nat} {xs:List β} (h:(List.range n).mapM f=some xs):xs.length=n∧∀ i,i<n→∃ x,xs[i]?=some x∧f i=some x:=by
 obtain ⟨h1,h2⟩:=AS0 h
 exact ⟨by simpa using h1,fun i hi=>h2 i i (by simp [hi])⟩
section
variable {P:Program} {t e:TypeId}
theorem AJS {H:Type} {enc:TypeId×Value→H} {w:World} {fuel:Nat} {cs:List Value} {x:DataW H×List MemPlace} (h:DataW.trod enc P w 0 (fun _=>true) true fuel t cs=some x):∃ n,fuel=n+1:=by
 cases fuel with
 | zero=>simp [DataW.trod] at h
 | succ n=>exact ⟨n,rfl⟩
theorem AP6 {k:IntKind} (ht:P.underlying t=some (.int k)):AAE P t (fun n => .val (.int k n)) (fun n=>(Lit.int k n).wf=true):=by
 intro H enc w fuel cs d ps h _
 obtain ⟨n,rfl⟩:=AJS h
 unfold DataW.trod at h; rw [ht] at h
 split at h<;>rename_i h1<;>try (simp at h1; done)
 all_goals try (cases h; done)
 all_goals try (simp only [Option.some.injEq,TypeDesc.int.injEq] at h1)
 all_goals first
  | (subst h1; split at h; (rename_i hc; obtain ⟨rfl,hw⟩:=hc; cases h; exact ⟨_,by rw [Ath]; exact ⟨rfl,rfl⟩,hw⟩); cases h)
  | (simp at h1; done)
  | (simp at h; done)
theorem ARR (ht:P.underlying t=some .string):AAE P t (fun l => .val (.string (str l))) (fun l=>l.length≤140737488351232):=by
 intro H enc w fuel cs d ps h hw
 obtain ⟨n,rfl⟩:=AJS h
 unfold DataW.trod at h; rw [ht] at h
 split at h<;>rename_i h1<;>try (simp at h1; done)
 all_goals first
  | (simp at h1; done)
  | (simp at h; done)
  | (simp only [Option.ite_none_right_eq_some,Option.some.injEq,Prod.mk.injEq] at h; obtain ⟨hm,rfl,rfl⟩:=h; refine ⟨bl _,by rw [Ath,A7Z]; exact ⟨rfl,rfl⟩,?_⟩; simp only [DataW.weights,List.all_cons,List.all_nil,Bool.and_true,reachBytes] at hw; exact of_decide_eq_true hw)
end
theorem ADc {H:Type} {P:Program} {e:TypeId} {d:DataW H} {n:Nat} (hn:n∈d.weights P e):∀ {ds:List (DataW H)},d∈ds→n∈DataW.weightsAll P e ds
 | d0::ds,h=>by
  simp only [DataW.weightsAll,List.mem_append]
  rcases List.mem_cons.1 h with rfl | h
  ·exact Or.inl hn
  ·exact Or.inr (ADc hn h)
theorem AAq {l m:List Nat} (h:m.all (· ≤ reachBytes)=true) (hs:∀ n∈l,n∈m):l.all (· ≤ reachBytes)=true:=List.all_eq_true.2 fun n hn=>List.all_eq_true.1 h n (hs n hn)
theorem A6g (a:Addr) (i j:Nat):(a.add i).add j=a.add (i+j):=by
 unfold Addr.add
 by_cases h1:i=0<;>by_cases h2:j=0<;>simp [h1,h2,Nat.add_assoc]
theorem AZ5 (b off i:Nat):(⟨b,off,none⟩:Addr).add i=⟨b,off+i,none⟩:=by
 unfold Addr.add
 by_cases h1:i=0<;>simp [h1]
theorem AVH {w:World} {a:Addr} {n:Nat} {us:List Value} (h:w.cells? 0 a n=some us):us.length=n∧∀ i,i<n→∃ u,us[i]?=some u∧w.cell? (a.add i)=some u:=by
 unfold World.cells? at h
 rw [if_pos (Nat.zero_le _)] at h
 exact AH0 h
theorem ASO {α:Type} {f:α→TV} {ok:α→Prop} {k:Nat} (hw:∀ a,ok a→Atq (f a)=k) {w:World} {b off:Nat}:∀ (n i0:Nat),(∀ i,i<n→∃ us a,Ath (came w) w (f a) us∧ok a∧us.length=k∧Av1 w b (off+(i0+i)*k) us) →
  ∃ (l:List α) (us:List Value),l.length=n∧(∀ a∈l,ok a)∧Ati (came w) w (l.map f) us∧us.length=n*k∧Av1 w b (off+i0*k) us
 | 0,i0,_=>⟨[],[],rfl,by simp,by rw [List.map_nil,Ati],by simp,fun j u h=>by simp at h⟩
 | n+1,i0,h=>by
  obtain ⟨us,a,h1,h2,h3,h4⟩:=h 0 (by omega)
  obtain ⟨l,vs,k1,k2,k3,k4,k5⟩:=ASO hw n (i0+1) (fun i hi=>by
   obtain ⟨us,a,h1,h2,h3,h4⟩:=h (i+1) (by omega)
   exact ⟨us,a,h1,h2,h3,by rw [show i0+1+i=i0+(i+1) from by omega]; exact h4⟩)
  refine ⟨a::l,us++vs,by simp [k1],fun c hc => ?_,?_,?_,?_⟩
  ·rcases List.mem_cons.1 hc with rfl | hc
   ·exact h2
   ·exact k2 c hc
  ·rw [List.map_cons,Ati]; exact ⟨us,vs,rfl,h1,k3⟩
  ·rw [List.length_append,h3,k4,Nat.succ_mul,Nat.add_comm]
  ·intro j u hj
   by_cases hjk:j<k
   ·rw [List.getElem?_append_left (by omega)] at hj
    have:=h4 j u hj
    rwa [Nat.add_zero] at this
   ·rw [List.getElem?_append_right (by omega),h3] at hj
    have:=k5 (j - k) u hj
    rw [show off+(i0+1)*k+(j - k)=off+i0*k+j from by rw [Nat.succ_mul]; omega] at this
    exact this
section
variable {P:Program} {t e:TypeId} {α:Type} {f:α→TV} {ok:α→Prop} {k B:Nat}
theorem ANp (ht:P.underlying t=some (.slice e)) (hk:P.cellsOf e=k) (hB:P.bytesOf e=B) (hc:AAE P e f ok) (hw:∀ a,ok a→Atq (f a)=k) (h0:k≠0) :
  AAE P t (fun l:List α => .sl k (l.map f)) (fun l=>(∀ a∈l,ok a)∧l.length*B≤140737488351232∧l.length≤9223372036854775807):=by
 intro H enc w fuel cs d ps h hwt
 obtain ⟨n,rfl⟩:=AJS h
 unfold DataW.trod at h; rw [ht] at h
 split at h<;>rename_i h1<;>try (simp at h1; done)
 all_goals first
  | (simp at h; done)
  | skip
 ·cases h
  refine ⟨[],?_,by simp,by simp,by simp⟩
  rw [Ath]; exact ⟨by simp,.inl ⟨rfl,none,0,rfl,by omega⟩⟩
 ·rename_i a len cap
  simp only [Option.some.injEq,TypeDesc.slice.injEq] at h1
  subst h1
  split at h
  ·rename_i hcond
   obtain ⟨-,hlc,hcm⟩:=hcond
   rw [Option.bind_eq_some_iff] at h
   obtain ⟨elems,he,h⟩:=h
   rw [if_pos rfl,Option.map_eq_some_iff] at h
   obtain ⟨rest,hr,h⟩:=h
   simp only [Prod.mk.injEq] at h
   obtain ⟨rfl,rfl⟩:=h
   obtain ⟨e1,e2⟩:=AH0 he
   obtain ⟨r1,_⟩:=AH0 hr
   unfold maxLen at hcm
   simp only [DataW.weights,ht,List.all_cons,Bool.and_eq_true,decide_eq_true_eq,reachBytes,List.length_map,e1,r1,hB] at hwt
   have hcapB:cap*B≤140737488351232:=by have:=of_decide_eq_true hwt.1; rwa [Nat.add_sub_cancel' hlc] at this
   have hlen:len*B≤140737488351232:=Nat.le_trans (Nat.mul_le_mul_right _ hlc) hcapB
   have hwe:(DataW.weightsAll P e (elems.map (·.1))).all (· ≤ reachBytes)=true:=AAq (m:=DataW.weightsAll P e (elems.map (·.1))++DataW.weightsAll P e (rest.map (·.1))) hwt.2 (fun n hn=>List.mem_append_left _ hn)
   obtain ⟨b,off,spot⟩:=a
   have key:∀ i,i<len→∃ us a,Ath (came w) w (f a) us∧ok a∧us.length=k∧(∀ j u,us[j]?=some u→w.cell? ((⟨b,off,spot⟩:Addr).add (i*k+j))=some u):=by
    intro i hi
    obtain ⟨x,hx,hxe⟩:=e2 i hi
    rw [Option.bind_eq_some_iff] at hxe
    obtain ⟨us,hus,htr⟩:=hxe
    rw [hk] at hus
    obtain ⟨c1,c2⟩:=AVH hus
    obtain ⟨a,ha,hok⟩:=hc enc w n us x.1 x.2 htr (AAq hwe fun m hm=>ADc hm (List.mem_map.2 ⟨x,List.mem_of_getElem? hx,rfl⟩))
    refine ⟨us,a,ha,hok,c1,fun j u hj => ?_⟩
    have hjk:j<k:=by rw [←c1]; exact (List.getElem?_eq_some_iff.1 hj).1
    obtain ⟨u',hu',hcu⟩:=c2 j hjk
    rw [hj] at hu'; cases hu'
    rw [A6g] at hcu
    exact hcu
   by_cases hl0:len=0
   ·subst hl0
    refine ⟨[],?_,by simp,by simp,by simp⟩
    rw [Ath]; exact ⟨by simp,.inl ⟨rfl,_,cap,rfl,hcm⟩⟩
   ·have hsp:spot=none:=by
     obtain ⟨us,a,_,_,c1,c2⟩:=key 0 (by omega)
     have hu:us[0]?=some us[0]:=List.getElem?_eq_getElem (by omega)
     have:=c2 0 _ hu
     simpa [Addr.add] using World.cell?_spot this
    subst hsp
    obtain ⟨l,us,l1,l2,l3,l4,l5⟩:=ASO (f:=f) (ok:=ok) hw (w:=w) (b:=b) (off:=off) len 0 (fun i hi=>by
     obtain ⟨us,a,h1,h2,h3,h4⟩:=key i hi
     refine ⟨us,a,h1,h2,h3,fun j u hj => ?_⟩
     have:=h4 j u hj
     rw [AZ5] at this
     rw [Nat.zero_add,Nat.add_assoc]; exact this)
    refine ⟨l,?_,l2,by rw [l1]; exact hlen,by omega⟩
    rw [Ath]
    refine ⟨fun x hx => ?_,.inr ⟨b,off,cap,us,by rw [List.length_map,l1],by rw [List.length_map,l1]; exact hlc,hcm,?_,l3,by simpa using l5⟩⟩
    ·obtain ⟨a,ha,rfl⟩:=List.mem_map.1 hx; exact hw a (l2 a ha)
    ·have hus:0<us.length:=by rw [l4]; exact Nat.mul_pos (by omega) (by omega)
     exact A7o (l5 0 us[0] (List.getElem?_eq_getElem hus))
  ·cases h
end
section
variable {P:Program} {t e:TypeId} {α:Type} {f:α→TV} {ok:α→Prop} {k:Nat}
theorem ABj {β:Type} {g:β→TV} {ok':β→Prop} (h:AAE P t f ok) (hm:∀ a,ok a→∃ b,f a=g b∧ok' b):AAE P t g ok':=by
 intro H enc w fuel cs d ps h1 h2
 obtain ⟨a,h3,h4⟩:=h enc w fuel cs d ps h1 h2
 obtain ⟨b,h5,h6⟩:=hm a h4
 exact ⟨b,by rw [←h5]; exact h3,h6⟩
theorem AR3 (ht:P.underlying t=some (.int .u8)):AAE P t by8 (fun _=>True) :=
 ABj (AP6 ht) fun n h=>by
  have:=bounds_u8 h
  refine ⟨UInt8.ofNat n.toNat,?_,trivial⟩
  rw [by8,UInt8.toNat_ofNat',Nat.mod_eq_of_lt (by omega)]
  congr 2; omega
theorem AMn (ht:P.underlying t=some (.int .i64)):AAE P t i64 (fun n => -9223372036854775808≤n∧n≤9223372036854775807) :=
 ABj (AP6 ht) fun n h=>⟨n,rfl,by have:=bounds_i64 h; omega⟩
theorem AR4 (ht:P.underlying t=some (.slice e)) (he:P.underlying e=some (.int .u8)) (hk:P.cellsOf e=1) (hB:P.bytesOf e=1):AAE P t slB (fun l=>l.length≤140737488351232) :=
 ABj (ANp ht hk hB (AR3 he) (fun _ _=>rfl) (by omega)) fun l h=>⟨l,rfl,by have:=h.2; omega⟩
theorem A57 {H:Type} {P:Program} {e:TypeId} {parts:List (DataW H)} (h:(DataW.weightsAll P e parts).all (· ≤ reachBytes)=true) {d:DataW H} (hd:d∈parts):(d.weights P e).all (· ≤ reachBytes)=true :=
 AAq h fun n hn=>ADc hn hd
theorem AUA {w:World} (hw:∀ a,ok a→Atq (f a)=k):∀ (n i0:Nat) (cs:List Value),cs.length=n*k→(∀ i,i<n→∃ a,Ath (came w) w (f a) ((cs.drop (i*k)).take k)∧ok a) →
  ∃ l:List α,l.length=n∧(∀ a∈l,ok a)∧Ati (came w) w (l.map f) cs
 | 0,i0,cs,hl,_=>⟨[],rfl,by simp,by rw [List.map_nil,Ati]; exact List.length_eq_zero_iff.1 (by simpa using hl)⟩
 | n+1,i0,cs,hl,h=>by
  obtain ⟨a,h1,h2⟩:=h 0 (by omega)
  rw [Nat.zero_mul,List.drop_zero] at h1
  rw [Nat.succ_mul] at hl
  obtain ⟨l,k1,k2,k3⟩:=AUA hw n 0 (cs.drop k) (by rw [List.length_drop]; omega) (fun i hi=>by
   obtain ⟨a,h1,h2⟩:=h (i+1) (by omega)
   exact ⟨a,by rw [List.drop_drop]; rw [Nat.succ_mul,Nat.add_comm] at h1; exact h1,h2⟩)
  refine ⟨a::l,by simp [k1],fun c hc => ?_,?_⟩
  ·rcases List.mem_cons.1 hc with rfl | hc
   ·exact h2
   ·exact k2 c hc
  ·rw [List.map_cons,Ati]
   exact ⟨cs.take k,cs.drop k,(List.take_append_drop k cs).symm,h1,k3⟩
theorem ARX {n:Nat} (ht:P.underlying t=some (.array n e)) (hk:P.cellsOf e=k) (hn:P.cellsOf t=n*k) (hc:AAE P e f ok) (hw:∀ a,ok a→Atq (f a)=k) :
  AAE P t (fun l:List α => .arr n k (l.map f)) (fun l=>l.length=n∧∀ a∈l,ok a):=by
 intro H enc w fuel cs d ps h hwt
 obtain ⟨m,rfl⟩:=AJS h
 unfold DataW.trod at h; rw [ht] at h
 split at h<;>rename_i h1<;>try (simp at h1; done)
 all_goals first
  | (simp at h; done)
  | exact ((‹∀ (n_1:Nat) (e_1:TypeId),some (TypeDesc.array n e)=some (TypeDesc.array n_1 e_1)→False› : ∀ (n_1:Nat) (e_1:TypeId),some (TypeDesc.array n e)=some (TypeDesc.array n_1 e_1)→False) n e rfl).elim
  | skip
 cases h1
 split at h
 ·rename_i hlen
  rw [Option.map_eq_some_iff] at h
  obtain ⟨xs,hx,h⟩:=h
  simp only [Prod.mk.injEq] at h
  obtain ⟨rfl,rfl⟩:=h
  obtain ⟨e1,e2⟩:=AH0 hx
  simp only [DataW.weights,ht] at hwt
  rw [hn] at hlen
  obtain ⟨l,l1,l2,l3⟩:=AUA (f:=f) (ok:=ok) (w:=w) hw _ 0 _ hlen (fun i hi=>by
   obtain ⟨x,hx,hxe⟩:=e2 i hi
   rw [hk] at hxe
   obtain ⟨a,ha,hok⟩:=hc enc w m _ x.1 x.2 hxe (A57 hwt (List.mem_map.2 ⟨x,List.mem_of_getElem? hx,rfl⟩))
   exact ⟨a,ha,hok⟩)
  refine ⟨l,?_,l1,l2⟩
  rw [Ath]
  refine ⟨by rw [List.length_map,l1],fun x hx => ?_,l3⟩
  obtain ⟨a,ha,rfl⟩:=List.mem_map.1 hx; exact hw a (l2 a ha)
 ·cases h
end
def ARJ (P:Program) (off:Nat) (fs:List Field) {α:Type} (f:α→List TV) (ok:α→Prop):Prop :=
 ∀ {H:Type} (enc:TypeId×Value→H) (w:World) (fuel:Nat) (cs:List Value) (xs:List (DataW H×List MemPlace)),(fs.mapM fun fd=>DataW.trod enc P w 0 (fun _=>true) true fuel fd.type ((cs.drop fd.offset).take (P.cellsOf fd.type)))=some xs→(DataW.weightsEach P (fs.map (·.type)) (xs.map (·.1))).all (· ≤ reachBytes)=true →
  cs.length=off+(fs.map fun fd=>P.cellsOf fd.type).sum→∃ a,Ati (came w) w (f a) (cs.drop off)∧ok a
theorem ATT {P:Program} {off:Nat}:ARJ P off [] (fun _:Unit=>[]) (fun _=>True):=by
 intro H enc w fuel cs xs _ _ hl
 refine ⟨(),?_,trivial⟩
 rw [Ati]; exact List.drop_eq_nil_of_le (by simp at hl; omega)
theorem AAC {P:Program} {off n:Nat} {fd:Field} {fs:List Field} {α β:Type} {f:α→TV} {ok:α→Prop} {g:β→List TV} {ok':β→Prop} (h0:fd.offset=off) (hn:P.cellsOf fd.type=n) (hc:AAE P fd.type f ok) (hr:ARJ P (off+n) fs g ok') :
  ARJ P off (fd::fs) (fun x:α×β=>f x.1::g x.2) (fun x=>ok x.1∧ok' x.2):=by
 intro H enc w fuel cs xs hx hw hl
 rw [List.mapM_cons] at hx
 cases h1:DataW.trod enc P w 0 (fun _=>true) true fuel fd.type ((cs.drop fd.offset).take (P.cellsOf fd.type)) with
 | none=>rw [h1] at hx; cases hx
 | some y =>
  rw [h1] at hx
  cases h2:(fs.mapM fun fd=>DataW.trod enc P w 0 (fun _=>true) true fuel fd.type ((cs.drop fd.offset).take (P.cellsOf fd.type))) with
  | none=>rw [h2] at hx; cases hx
  | some ys =>
   rw [h2] at hx
   have e:xs=y::ys:=by simpa using hx.symm
   subst e
   simp only [List.map_cons,DataW.weightsEach] at hw
   obtain ⟨a,ha,hoka⟩:=hc enc w fuel _ y.1 y.2 h1 (AAq hw fun n hn=>List.mem_append_left _ hn)
   obtain ⟨b,hb,hokb⟩:=hr enc w fuel cs ys h2 (AAq hw fun n hn=>List.mem_append_right _ hn) (by simp [hn] at hl ⊢; omega)
   refine ⟨(a,b),?_,hoka,hokb⟩
   rw [Ati]
   refine ⟨(cs.drop off).take n,cs.drop (off+n),?_,by rw [←h0,←hn]; exact ha,hb⟩
   rw [←List.drop_drop,List.take_append_drop]
theorem ARb {P:Program} {t:TypeId} {fs:Array Field} {α:Type} {f:α→List TV} {ok:α→Prop} (ht:P.underlying t=some (.struct fs)) (hn:P.cellsOf t=(fs.toList.map fun fd=>P.cellsOf fd.type).sum) (hc:ARJ P 0 fs.toList f ok) :
  AAE P t (fun a => .agg (f a)) ok:=by
 intro H enc w fuel cs d ps h hwt
 obtain ⟨m,rfl⟩:=AJS h
 unfold DataW.trod at h; rw [ht] at h
 split at h<;>rename_i h1<;>try (simp at h1; done)
 all_goals first
  | (simp at h; done)
  | exact ((‹∀ (fs_1:Array Field),some (TypeDesc.struct fs)=some (TypeDesc.struct fs_1)→False› : ∀ (fs_1:Array Field),some (TypeDesc.struct fs)=some (TypeDesc.struct fs_1)→False) fs rfl).elim
  | skip
 cases h1
 split at h
 ·rename_i hlen
  rw [Option.map_eq_some_iff] at h
  obtain ⟨xs,hx,h⟩:=h
  simp only [Prod.mk.injEq] at h
  obtain ⟨rfl,rfl⟩:=h
  simp only [DataW.weights,ht] at hwt
  obtain ⟨a,ha,hok⟩:=hc enc w m _ xs hx hwt (by rw [hlen,hn,Nat.zero_add])
  exact ⟨a,by rw [Ath]; rw [List.drop_zero] at ha; exact ha,hok⟩
 ·cases h
def AKM (P:Program) (ts:List TypeId) {α:Type} (f:α→List TV) (ok:α→Prop):Prop :=
 ∀ {H:Type} (enc:TypeId×Value→H) (w:World) (vs:List Value) (ds:List (DataW H)) (ps:List MemPlace),DataW.TrodAll enc P w 0 (fun _=>true) true ts vs ds ps→(∀ (j:Nat) t v,ts[j]?=some t→vs[j]?=some v→∃ base,Value.okWide P w .any base t v)→(DataW.weightsEach P ts ds).all (· ≤ reachBytes)=true→∃ a,Aue (came w) w (f a) vs∧ok a
theorem ARt {P:Program}:AKM P [] (fun _:Unit=>[]) (fun _=>True):=by
 intro H enc w vs ds ps h _ _
 obtain ⟨rfl,rfl,rfl⟩:=trodAll_nil h
 exact ⟨(),by rw [Aue],trivial⟩
def AXX (P:Program) (t:TypeId) (b:Bool):Prop:=∀ w base v,Value.okWide P w .any base t v→if b then ∃ cs,v = .agg cs else v.cells = #[v]
theorem ANx {P:Program} {t e:TypeId} (ht:P.underlying t=some (.slice e)):AXX P t false:=fun w _ v h=>by obtain ⟨_,_,_,rfl⟩:=okWide_slice ht h; rfl
theorem AXt {c:Ctx} {P:Program} {w:World} {t:TypeId} {v:Value} {x:TV} {b:Bool} (hf:AXX P t b) {base:Nat} (hv:Value.okWide P w .any base t v) (hx:AMC x=b):v=mkV x v.cells.toList:=by
 have h:=hf w base v hv
 cases b with
 | true =>
  simp only [if_true] at h
  obtain ⟨cs,rfl⟩:=h
  rw [AVa hx]; simp [Value.cells]
 | false =>
  simp only [Bool.false_eq_true,if_false] at h
  rw [h]
  exact (AOg hx).symm
theorem AII {P:Program} {t:TypeId} {ts:List TypeId} {α β:Type} {f:α→TV} {ok:α→Prop} {g:β→List TV} {ok':β→Prop} {b:Bool} (hc:AAE P t f ok) (hf:AXX P t b) (hm:∀ a,AMC (f a)=b) (hr:AKM P ts g ok') :
  AKM P (t::ts) (fun x:α×β=>f x.1::g x.2) (fun x=>ok x.1∧ok' x.2):=by
 intro H enc w vs ds ps h hv hw
 obtain ⟨v,vs',d,ds',p,q,rfl,rfl,rfl,h0,r0⟩:=trodAll_cons h
 simp only [DataW.weightsEach] at hw
 obtain ⟨fuel,hfu⟩:=h0
 obtain ⟨a,ha,hoka⟩:=hc enc w fuel _ d p hfu (AAq hw fun n hn=>List.mem_append_left _ hn)
 obtain ⟨b,hb,hokb⟩:=hr enc w vs' ds' q r0 (fun j t v h1 h2=>hv (j+1) t v (by simpa using h1) (by simpa using h2)) (AAq hw fun n hn=>List.mem_append_right _ hn)
 refine ⟨(a,b),Aue.cons.2 ⟨v,vs',rfl,.inr (.inr ⟨v.cells.toList,ha,AXt (c:=came w) hf (hv 0 t v rfl rfl).choose_spec (hm a)⟩),hb⟩,hoka,hokb⟩
theorem ALl {H:Type} {enc:TypeId×Value→H} {P:Program} (hl:laidOutB P=true) {W W':World} (hb:Below W.heap.size W W'):∀ {ts:List TypeId} {vs:List Value} {ds:List (DataW H)} {ps:List MemPlace},(ts.all fun t=>P.readableRec t && decide (t<P.types.size))=true →
  DataW.TrodAll enc P W 0 (fun _=>true) true ts vs ds ps→DataW.TrodAll enc P W' 0 (fun b=>decide (b<W.heap.size)) true ts vs ds ps
 | [],vs,ds,ps,_,h=>by
  obtain ⟨rfl,rfl,rfl⟩:=trodAll_nil h
  exact trodAll_mk0
 | t::ts,vs,ds,ps,hr,h=>by
  obtain ⟨v,vs',d,ds',p,q,rfl,rfl,rfl,h0,r0⟩:=trodAll_cons h
  simp only [List.all_cons,Bool.and_eq_true,decide_eq_true_eq] at hr
  refine trodAll_cons_mk (Below.trod hl hr.1.1 hr.1.2 h0 hb ?_) (ALl hl hb (by simpa using hr.2) r0)
  obtain ⟨m,hm⟩:=h0
  exact DataW.trod_lt m _ _ _ hm
theorem AGc.below {F F':Nat→Prop} {w w':World} (h:AGc F w F' w'):Below w.heap.size w w':=⟨h.os,h.tape,h.output,h.size,fun k hk=>h.same k hk⟩
theorem A79 {P:Program} {f:FuncId} {ts:List TypeId} {α:Type} {g:α→List TV} {ok:α→Prop} (hc:AKM P ts g ok) (hlaw:∀ a,ok a→Auk P f (g a) (fun x=>x=tb true)) {H:Type} {enc:TypeId×Value→H} {w:World} {args:Array Value} {ds:List (DataW H)} {ps:List MemPlace}
  (h:DataW.TrodAll enc P w 0 (fun _=>true) true ts args.toList ds ps) (hv:∀ (j:Nat) t v,ts[j]?=some t→args.toList[j]?=some v→∃ base,Value.okWide P w .any base t v) (hw:(DataW.weightsEach P ts ds).all (· ≤ reachBytes)=true) (hg:ABr (fun b=>b<w.heap.size) w) :
  Calls P f args w fun e w'=>e = .returned (.bool true)∧Below w.heap.size w w':=by
 obtain ⟨a,ha,hok⟩:=hc enc w args.toList ds ps h hv hw
 have:=hlaw a hok (fun _ _=>none) (fun b=>b<w.heap.size) w args.toList ⟨fun b h=>h,hg⟩ ha
 rw [Array.toArray_toList] at this
 refine this.mono ?_
 rintro e w' ⟨v,x,F',rfl,rfl,hx,hst⟩
 rw [Rep.val] at hx
 exact ⟨by rw [hx],hst.below⟩
end
section
variable [AtQ]
set_option maxRecDepth 100000
def AIK:Atc := .seq (.seq (.ops [mv_ 7 2,po_ 8 (.bin 3 .gtr (.t 7) (ci_ 0))] [0,1,2,8])
 (.cond (.t 8)
 (.skip)
 (.exit 0)))
 (.block 1 (.seq (.ops [mv_ 9 2,po_ 10 (.bin 3 .sub (.t 9) (ci_ 1)),mv_ 2 10] [0,1,2])
 (.ops [mv_ 11 0,mv_ 12 1,mv_ 13 2,po_ 14 (.bin 3 .mul (ci_ 8) (.t 13)),po_ 15 (.bin 3 .shr (.t 12) (.t 14)),po_ 16 (.conv .u8 (.t 15)),⟨some 17,.s (.bslice 1 1 (.val (.int .u8 ((0:Nat):Int))) [⟨0,.t 16⟩]),none⟩,so_ 18 (.app 1 1 5 (.t 11) (.t 17)),mv_ 0 18] [0,1,2])))
def AIJ:Atc := .seq (.ops [mv_ 19 0,mv_ 6 19] [6])
 (.ret)
def AI2:Atc := .seq (.block 0 (.own 0 1 (.loop [0,1,2] AIK)))
 AIJ
def AO5:Atc := .seq (.ops [po_ 6 (.mov (.c (.slice none 0 0)))] [0,1,2])
 AI2
def AOY:List VR:=[.tmp 6]
theorem AUw:Tryd.f11.body.bind (trC Tryd.prog Tryd.f11.ntmps)=some (er AO5):=by kernel_rfl
theorem ATH:trR Tryd.prog Tryd.f11.results.toList=some AOY:=by kernel_rfl
def ANE:=As8 AIK.eq_1
def ANF:=As8 AIJ.eq_1
def AN0:=As8 AI2.eq_1
def ARv:=As8 AO5.eq_1
theorem AQU {K:TV→Prop} {e:Env} {H:List Ob}:res AOY e H K=res [.tmp 6] e H K:=As9 rfl
def AI9:=(aI_ (aI_ (aI_ @ANE @ANF) (aI_ @AN0 @ARv)) @AQU)
def ASr:=Awn 20 Tryd.func11 AUw ATH rfl
def AD2:Atc := .seq (.ops [po_ 9 (.bin 3 .lss (.t 8) (.t 7))] [3,6,7,8,9])
 (.seq (.cond (.t 9)
 (.skip)
 (.exit 0))
 (.seq (.block 1 (.seq (.ops [po_ 10 (.idxA 1 (.t 6) (.t 8)),po_ 11 (.load false 1 (.t 10)),mv_ 5 11] [3,5,6,7,8])
 (.ops [mv_ 12 3,po_ 13 (.bin 3 .shl (.t 12) (.c (.int .u64 ((8:Nat):Int)))),mv_ 14 5,po_ 15 (.conv .i64 (.t 14)),po_ 16 (.bin 3 .or (.t 13) (.t 15)),mv_ 3 16] [3,6,7,8])))
 (.ops [po_ 17 (.bin 3 .add (.t 8) (ci_ 1)),mv_ 8 17] [3,6,7,8])))
def AEg:Atc := .seq (.ops [mv_ 18 3,mv_ 2 18] [2])
 (.ret)
def ADh:Atc := .seq (.seq (.ops [mv_ 6 0,po_ 7 (.lenV (.t 6)),po_ 8 (.mov (ci_ 0))] [3,6,7,8])
 (.block 0 (.loop [3,6,7,8] AD2)))
 AEg
def AEc:Atc := .seq (.ops [po_ 3 (.mov (ci_ 0))] [0,3])
 ADh
def AIO:Atc := .seq (.ops [po_ 2 (.mov (ci_ 0))] [0])
 AEc
def AIw:List VR:=[.tmp 2]
theorem APr:Tryd.f38.body.bind (trC Tryd.prog Tryd.f38.ntmps)=some (er AIO):=by kernel_rfl
theorem APZ:trR Tryd.prog Tryd.f38.results.toList=some AIw:=by kernel_rfl
def AJq:=As8 AD2.eq_1
def AJN:=As8 AEg.eq_1
def AJo:=As8 ADh.eq_1
def AJd:=As8 AEc.eq_1
def ANW:=As8 AIO.eq_1
theorem AOa {K:TV→Prop} {e:Env} {H:List Ob}:res AIw e H K=res [.tmp 2] e H K:=As9 rfl
def AC7:=(aI_ (aI_ (aI_ @AJq @AJN) (aI_ @AJo @AJd)) (aI_ @ANW @AOa))
def AOW:=Awn 19 Tryd.func38 APr APZ rfl
def AA3:Atc := .seq (.sdraw 10 [mv_ 41 5,po_ 42 (.fieldA 4 23 (.t 7)),po_ 43 (.load false 1 (.t 42)),po_ 44 (.bin 3 .shl (.t 43) (.c (.int .u64 ((12:Nat):Int)))),po_ 45 (.fieldA 0 0 (.t 7)),po_ 46 (.load false 1 (.t 45)),po_ 47 (.lenS (.t 46)),po_ 48 (.bin 3 .or (.t 44) (.t 47)),po_ 50 (.fieldA 0 0 (.t 7)),po_ 51 (.load false 1 (.t 50)),so_ 49 (.call 11 [.t 41,.t 48,.c (.int .i64 ((2:Nat):Int))]),so_ 52 (.appS 5 (.t 49) (.t 51)),mv_ 5 52] [5,7,21,22,23])
 (.ops [mv_ 53 5,po_ 54 (.fieldA 0 0 (.t 7)),po_ 55 (.load false 1 (.t 54)),po_ 56 (.lenS (.t 55)),po_ 57 (.bin 3 .add (ci_ 62) (.t 56)),po_ 58 (.bin 3 .rem (.t 57) (ci_ 8)),po_ 59 (.bin 3 .sub (ci_ 8) (.t 58)),so_ 60 (.appZ 1 1 5 (.val (.int .u8 ((0:Nat):Int))) (.t 53) (.t 59)),mv_ 5 60] [5,21,22,23])
def AF4:Atc := .seq (.ops [mv_ 37 5,po_ 38 (.fieldA 2 2 (.t 7)),po_ 39 (.slA 20 1 (.t 38) none none),so_ 40 (.app 1 1 5 (.t 37) (.t 39)),mv_ 5 40] [5,7,21,22,23])
 AA3
def AAY:Atc := .seq (.sdraw 5 [mv_ 29 5,po_ 30 (.fieldA 1 1 (.t 7)),po_ 31 (.load false 1 (.t 30)),po_ 34 (.fieldA 3 22 (.t 7)),po_ 35 (.load false 1 (.t 34)),so_ 32 (.call 11 [.t 29,.t 31,.c (.int .i64 ((4:Nat):Int))]),so_ 33 (.call 11 [.t 32,.c (.int .i64 ((0:Nat):Int)),.c (.int .i64 ((8:Nat):Int))]),so_ 36 (.call 11 [.t 33,.t 35,.c (.int .i64 ((4:Nat):Int))]),mv_ 5 36] [5,7,21,22,23])
 AF4
def AFX:Atc := .seq (.ops [mv_ 27 5,so_ 28 (.appZ 1 1 5 (.val (.int .u8 ((0:Nat):Int))) (.t 27) (ci_ 24)),mv_ 5 28] [5,7,21,22,23])
 AAY
def AFx:Atc := .seq (.block 1 (.seq (.ops [po_ 25 (.idxA 24 (.t 21) (.t 23)),po_ 26 (.load true 24 (.t 25)),so_ 7 (.alloc (.agg [.val (.string (str [])),.val (.int .i64 ((0:Nat):Int)),.arr 20 1 [.val (.int .u8 ((0:Nat):Int)),.val (.int .u8 ((0:Nat):Int)),.val (.int .u8 ((0:Nat):Int)),.val (.int .u8 ((0:Nat):Int)),.val (.int .u8 ((0:Nat):Int)),.val (.int .u8 ((0:Nat):Int)),.val (.int .u8 ((0:Nat):Int)),.val (.int .u8 ((0:Nat):Int)),.val (.int .u8 ((0:Nat):Int)),.val (.int .u8 ((0:Nat):Int)),.val (.int .u8 ((0:Nat):Int)),.val (.int .u8 ((0:Nat):Int)),.val (.int .u8 ((0:Nat):Int)),.val (.int .u8 ((0:Nat):Int)),.val (.int .u8 ((0:Nat):Int)),.val (.int .u8 ((0:Nat):Int)),.val (.int .u8 ((0:Nat):Int)),.val (.int .u8 ((0:Nat):Int)),.val (.int .u8 ((0:Nat):Int)),.val (.int .u8 ((0:Nat):Int))],.val (.int .i64 ((0:Nat):Int)),.val (.int .i64 ((0:Nat):Int))])),⟨none,.s (.store 24 (.t 7) (.t 26)),none⟩] [5,7,21,22,23])
 AFX))
 (.ops [po_ 61 (.bin 3 .add (.t 23) (ci_ 1)),mv_ 23 61] [5,21,22,23])
def AE8:Atc := .seq (.cond (.t 24)
 (.skip)
 (.exit 0))
 AFx
def AE6:Atc := .seq (.ops [po_ 24 (.bin 3 .lss (.t 23) (.t 22))] [5,21,22,23,24])
 AE8
def AES:Atc := .block 0 (.own 5 1 (.loop [5,21,22,23] AE6))
def AER:Atc := .seq (.ops [mv_ 62 5,so_ 63 (.call 13 [.t 62]),so_ 8 (.alloc (.arr 20 1 [.val (.int .u8 ((0:Nat):Int)),.val (.int .u8 ((0:Nat):Int)),.val (.int .u8 ((0:Nat):Int)),.val (.int .u8 ((0:Nat):Int)),.val (.int .u8 ((0:Nat):Int)),.val (.int .u8 ((0:Nat):Int)),.val (.int .u8 ((0:Nat):Int)),.val (.int .u8 ((0:Nat):Int)),.val (.int .u8 ((0:Nat):Int)),.val (.int .u8 ((0:Nat):Int)),.val (.int .u8 ((0:Nat):Int)),.val (.int .u8 ((0:Nat):Int)),.val (.int .u8 ((0:Nat):Int)),.val (.int .u8 ((0:Nat):Int)),.val (.int .u8 ((0:Nat):Int)),.val (.int .u8 ((0:Nat):Int)),.val (.int .u8 ((0:Nat):Int)),.val (.int .u8 ((0:Nat):Int)),.val (.int .u8 ((0:Nat):Int)),.val (.int .u8 ((0:Nat):Int))])),⟨none,.s (.store 20 (.t 8) (.t 63)),none⟩] [5,8])
 (.seq (.ops [mv_ 64 5,po_ 65 (.slA 20 1 (.t 8) none none),so_ 66 (.app 1 1 5 (.t 64) (.t 65)),mv_ 2 66,po_ 3 (.mov (.c .nilIface))] [2,3])
 (.ret))
def ADq:Atc := .seq (.seq (.ops [mv_ 20 0,so_ 21 (.call 12 [.t 20]),po_ 22 (.lenV (.t 21)),po_ 23 (.mov (ci_ 0))] [5,21,22,23])
 AES)
 AER
def AD9:Atc := .seq (.ops [⟨some 14,.s (.bslice 1 4 (.val (.int .u8 ((0:Nat):Int))) [⟨0,.c (.int .u8 ((68:Nat):Int))⟩,⟨1,.c (.int .u8 ((73:Nat):Int))⟩,⟨2,.c (.int .u8 ((82:Nat):Int))⟩,⟨3,.c (.int .u8 ((67:Nat):Int))⟩]),none⟩,so_ 15 (.cvS (.t 14)),so_ 16 (.call 11 [.t 15,.c (.int .i64 ((2:Nat):Int)),.c (.int .i64 ((4:Nat):Int))]),mv_ 17 0,po_ 18 (.lenV (.t 17)),so_ 19 (.call 11 [.t 16,.t 18,.c (.int .i64 ((4:Nat):Int))]),mv_ 5 19] [0,5])
 ADq
def ADW:Atc := .seq (.seq (.ops [mv_ 9 0,so_ 10 (.call 10 [.t 9]),mv_ 4 10] [0,4])
 (.seq (.ops [mv_ 11 4,po_ 12 (.eqN 1 (.t 11) (.c .nilIface) true)] [0,4,12])
 (.cond (.t 12)
 (.seq (.ops [mv_ 13 4,po_ 2 (.mov (.c (.slice none 0 0))),mv_ 3 13] [2,3])
  (.ret))
 (.skip))))
 AD9
def AJU:Atc := .seq (.ops [po_ 2 (.mov (.c (.slice none 0 0))),po_ 3 (.mov (.c .nilIface))] [0])
 ADW
def ALo:List VR:=[.tmp 2,.tmp 3]
theorem ARc:Tryd.f4.body.bind (trC Tryd.prog Tryd.f4.ntmps)=some (er AJU):=by kernel_rfl
theorem AQI:trR Tryd.prog Tryd.f4.results.toList=some ALo:=by kernel_rfl
def ALx:=As8 AA3.eq_1
def ALa:=As8 AF4.eq_1
def ALc:=As8 AAY.eq_1
def AKj:=As8 AFX.eq_1
def AJQ:=As8 AFx.eq_1
def AB7:=As8 AE8.eq_1
def AB4:=As8 AE6.eq_1
def AJ8:=As8 AES.eq_1
def ALC:=As8 AER.eq_1
def AJi:=As8 ADq.eq_1
def AJG:=As8 AD9.eq_1
def AJc:=As8 ADW.eq_1
def AOu:=As8 AJU.eq_1
theorem AG2 {K:TV→Prop} {e:Env} {H:List Ob}:res ALo e H K=res [.tmp 2,.tmp 3] e H K:=As9 rfl
def APU:=Awn 67 Tryd.func4 ARc AQI rfl
def AGS:Atc := .seq (.ops [mv_ 56 5,mv_ 57 8,po_ 58 (.bin 3 .add (ci_ 62) (.t 57)),po_ 59 (.slV 1 (.t 56) (some (ci_ 62)) (some (.t 58))),po_ 60 (.b2s (.t 59)),po_ 61 (.fieldA 0 0 (.t 7)),⟨none,.s (.store 1 (.t 61) (.t 60)),none⟩] [0,4,5,7,9])
 (.seq (.ops [mv_ 62 4,po_ 63 (.load true 24 (.t 7)),⟨some 64,.s (.bslice 24 1 (.agg [.val (.string (str [])),.val (.int .i64 ((0:Nat):Int)),.arr 20 1 [.val (.int .u8 ((0:Nat):Int)),.val (.int .u8 ((0:Nat):Int)),.val (.int .u8 ((0:Nat):Int)),.val (.int .u8 ((0:Nat):Int)),.val (.int .u8 ((0:Nat):Int)),.val (.int .u8 ((0:Nat):Int)),.val (.int .u8 ((0:Nat):Int)),.val (.int .u8 ((0:Nat):Int)),.val (.int .u8 ((0:Nat):Int)),.val (.int .u8 ((0:Nat):Int)),.val (.int .u8 ((0:Nat):Int)),.val (.int .u8 ((0:Nat):Int)),.val (.int .u8 ((0:Nat):Int)),.val (.int .u8 ((0:Nat):Int)),.val (.int .u8 ((0:Nat):Int)),.val (.int .u8 ((0:Nat):Int)),.val (.int .u8 ((0:Nat):Int)),.val (.int .u8 ((0:Nat):Int)),.val (.int .u8 ((0:Nat):Int)),.val (.int .u8 ((0:Nat):Int))],.val (.int .i64 ((0:Nat):Int)),.val (.int .i64 ((0:Nat):Int))]) [⟨0,.t 63⟩]),none⟩,so_ 65 (.app 24 64 32 (.t 62) (.t 64)),mv_ 4 65] [0,4,5,9])
 (.ops [mv_ 66 5,mv_ 67 9,po_ 68 (.slV 1 (.t 66) (some (.t 67)) none),mv_ 5 68] [0,4,5]))
def AGD:Atc := .seq (.seq (.ops [mv_ 51 5,po_ 52 (.lenV (.t 51)),mv_ 53 9,po_ 54 (.bin 3 .lss (.t 52) (.t 53))] [0,4,5,7,8,9,54])
 (.cond (.t 54)
 (.seq (.ops [po_ 55 (.iface 38 (ci_ 70)),po_ 2 (.mov (.c (.slice none 0 0))),mv_ 3 55] [2,3])
  (.ret))
 (.skip)))
 AGS
def AHv:Atc := .seq (.ops [mv_ 46 8,po_ 47 (.bin 3 .add (ci_ 62) (.t 46)),po_ 48 (.bin 3 .quo (.t 47) (ci_ 8)),po_ 49 (.bin 3 .mul (.t 48) (ci_ 8)),po_ 50 (.bin 3 .add (.t 49) (ci_ 8)),mv_ 9 50] [0,4,5,7,8,9])
 AGD
def AHu:Atc := .seq (.ops [mv_ 44 6,po_ 45 (.bin 3 .and (.t 44) (ci_ 4095)),mv_ 8 45] [0,4,5,7,8])
 AHv
def AGU:Atc := .seq (.draw 12 [mv_ 31 5,po_ 32 (.slV 1 (.t 31) (some (ci_ 24)) (some (ci_ 28))),mv_ 34 5,po_ 35 (.slV 1 (.t 34) (some (ci_ 36)) (some (ci_ 40))),mv_ 37 5,po_ 38 (.slV 1 (.t 37) (some (ci_ 40)) (some (ci_ 60))),po_ 39 (.gen (.s2a 20 1) [.t 38]),po_ 40 (.load true 20 (.t 39)),mv_ 41 6,po_ 42 (.bin 3 .shr (.t 41) (.c (.int .u64 ((12:Nat):Int)))),so_ 33 (.call 38 [.t 32]),so_ 36 (.call 38 [.t 35]),⟨some 43,.p (.build [.val (.string (str [])),.val (.int .i64 ((0:Nat):Int)),.arr 20 1 [.val (.int .u8 ((0:Nat):Int)),.val (.int .u8 ((0:Nat):Int)),.val (.int .u8 ((0:Nat):Int)),.val (.int .u8 ((0:Nat):Int)),.val (.int .u8 ((0:Nat):Int)),.val (.int .u8 ((0:Nat):Int)),.val (.int .u8 ((0:Nat):Int)),.val (.int .u8 ((0:Nat):Int)),.val (.int .u8 ((0:Nat):Int)),.val (.int .u8 ((0:Nat):Int)),.val (.int .u8 ((0:Nat):Int)),.val (.int .u8 ((0:Nat):Int)),.val (.int .u8 ((0:Nat):Int)),.val (.int .u8 ((0:Nat):Int)),.val (.int .u8 ((0:Nat):Int)),.val (.int .u8 ((0:Nat):Int)),.val (.int .u8 ((0:Nat):Int)),.val (.int .u8 ((0:Nat):Int)),.val (.int .u8 ((0:Nat):Int)),.val (.int .u8 ((0:Nat):Int))],.val (.int .i64 ((0:Nat):Int)),.val (.int .i64 ((0:Nat):Int))] [1,1,20,1,1] [⟨1,.t 33⟩,⟨3,.t 36⟩,⟨2,.t 40⟩,⟨4,.t 42⟩]),none⟩,so_ 7 (.alloc (.agg [.val (.string (str [])),.val (.int .i64 ((0:Nat):Int)),.arr 20 1 [.val (.int .u8 ((0:Nat):Int)),.val (.int .u8 ((0:Nat):Int)),.val (.int .u8 ((0:Nat):Int)),.val (.int .u8 ((0:Nat):Int)),.val (.int .u8 ((0:Nat):Int)),.val (.int .u8 ((0:Nat):Int)),.val (.int .u8 ((0:Nat):Int)),.val (.int .u8 ((0:Nat):Int)),.val (.int .u8 ((0:Nat):Int)),.val (.int .u8 ((0:Nat):Int)),.val (.int .u8 ((0:Nat):Int)),.val (.int .u8 ((0:Nat):Int)),.val (.int .u8 ((0:Nat):Int)),.val (.int .u8 ((0:Nat):Int)),.val (.int .u8 ((0:Nat):Int)),.val (.int .u8 ((0:Nat):Int)),.val (.int .u8 ((0:Nat):Int)),.val (.int .u8 ((0:Nat):Int)),.val (.int .u8 ((0:Nat):Int)),.val (.int .u8 ((0:Nat):Int))],.val (.int .i64 ((0:Nat):Int)),.val (.int .i64 ((0:Nat):Int))])),⟨none,.s (.store 24 (.t 7) (.t 43)),none⟩] [0,4,5,6,7])
 AHu
def AGZ:Atc := .seq (.ops [mv_ 28 5,po_ 29 (.slV 1 (.t 28) (some (ci_ 60)) (some (ci_ 62))),so_ 30 (.call 38 [.t 29]),mv_ 6 30] [0,4,5,6])
 AGU
def AHM:Atc := .block 1 (.seq (.seq (.ops [mv_ 24 5,po_ 25 (.lenV (.t 24)),po_ 26 (.bin 3 .lss (.t 25) (ci_ 62))] [0,4,5,26])
 (.cond (.t 26)
 (.seq (.ops [po_ 27 (.iface 38 (ci_ 70)),po_ 2 (.mov (.c (.slice none 0 0))),mv_ 3 27] [2,3])
  (.ret))
 (.skip)))
 AGZ)
def AHA:Atc := .seq (.seq (.ops [mv_ 21 5,po_ 22 (.lenV (.t 21)),po_ 23 (.bin 3 .gtr (.t 22) (ci_ 0))] [0,4,5,23])
 (.cond (.t 23)
 (.skip)
 (.exit 0)))
 AHM
def AHf:Atc := .seq (.seq (.ops [mv_ 70 4,so_ 71 (.call 4 [.t 70]),mv_ 69 71,po_ 72 (.ext 0 (.t 69)),po_ 73 (.ext 1 (.t 69)),mv_ 10 72,mv_ 11 73] [0,4,10,11])
 (.seq (.ops [mv_ 74 11,po_ 75 (.eqN 1 (.t 74) (.c .nilIface) true),mv_ 76 75,⟨some 77,.p (.mov (.t 10)),some ⟨76,false⟩⟩,⟨some 78,.p (.mov (.t 0)),some ⟨76,false⟩⟩,⟨some 79,.s (.call 39 [.t 77,.t 78]),some ⟨76,false⟩⟩,⟨some 80,.p (.un .not (.t 79)),some ⟨76,false⟩⟩,po_ 81 (.pick (.t 76) (.c (.bool true)) (.t 80))] [4,81])
 (.cond (.t 81)
 (.seq (.ops [po_ 82 (.iface 38 (ci_ 70)),po_ 2 (.mov (.c (.slice none 0 0))),mv_ 3 82] [2,3])
  (.ret))
 (.skip))))
 (.seq (.ops [mv_ 83 4,mv_ 2 83,po_ 3 (.mov (.c .nilIface))] [2,3])
 (.ret))
def AEZ:Atc := .seq (.block 0 (.own 4 24 (.loop [0,4,5] AHA)))
 AHf
def AFt:Atc := .seq (.ops [mv_ 16 0,mv_ 17 0,po_ 18 (.lenV (.t 17)),po_ 19 (.bin 3 .sub (.t 18) (ci_ 20)),po_ 20 (.slV 1 (.t 16) (some (ci_ 12)) (some (.t 19))),mv_ 5 20] [0,4,5])
 AEZ
def AFc:Atc := .seq (.ops [po_ 4 (.mov (.c (.slice none 0 0)))] [0,4])
 AFt
def AE5:Atc := .seq (.seq (.ops [mv_ 12 0,po_ 13 (.lenV (.t 12)),po_ 14 (.bin 3 .lss (.t 13) (ci_ 32))] [0,14])
 (.cond (.t 14)
 (.seq (.ops [po_ 15 (.iface 38 (ci_ 70)),po_ 2 (.mov (.c (.slice none 0 0))),mv_ 3 15] [2,3])
  (.ret))
 (.skip)))
 AFc
def ANg:Atc := .seq (.ops [po_ 2 (.mov (.c (.slice none 0 0))),po_ 3 (.mov (.c .nilIface))] [0])
 AE5
def ANk:List VR:=[.tmp 2,.tmp 3]
theorem ATh:Tryd.f20.body.bind (trC Tryd.prog Tryd.f20.ntmps)=some (er ANg):=by kernel_rfl
theorem ASB:trR Tryd.prog Tryd.f20.results.toList=some ANk:=by kernel_rfl
def AMz:=As8 AGS.eq_1
def ADz:=As8 AGD.eq_1
def ADn:=As8 AHv.eq_1
def ADu:=As8 AHu.eq_1
def AM4:=As8 AGU.eq_1
def ALT:=As8 AGZ.eq_1
def ADm:=As8 AHM.eq_1
def AAg:=As8 AHA.eq_1
def AMK:=As8 AHf.eq_1
def ALI:=As8 AEZ.eq_1
def AJ4:=As8 AFt.eq_1
def AK3:=As8 AFc.eq_1
def ABN:=As8 AE5.eq_1
def AIB:=As8 ANg.eq_1
theorem Axd {K:TV→Prop} {e:Env} {H:List Ob}:res ANk e H K=res [.tmp 2,.tmp 3] e H K:=As9 rfl
def ARK:=Awn 84 Tryd.func20 ATh ASB rfl
def AFI:Atc := .seq (.seq (.ops [mv_ 10 7,po_ 11 (.bin 3 .geq (.t 10) (ci_ 0))] [0,1,7,11])
 (.cond (.t 11)
 (.skip)
 (.exit 0)))
 (.seq (.block 1 (.ops [mv_ 14 0,mv_ 15 1,mv_ 16 7,po_ 17 (.bin 3 .mul (ci_ 8) (.t 16)),po_ 18 (.bin 3 .shr (.t 15) (.t 17)),po_ 19 (.conv .u8 (.t 18)),⟨some 20,.s (.bslice 1 1 (.val (.int .u8 ((0:Nat):Int))) [⟨0,.t 19⟩]),none⟩,so_ 21 (.app 1 1 5 (.t 14) (.t 20)),mv_ 0 21] [0,1,7]))
 (.ops [mv_ 12 7,po_ 13 (.bin 3 .sub (.t 12) (ci_ 1)),mv_ 7 13] [0,1,7]))
def AEO:Atc := .block 0 (.own 0 1 (.loop [0,1,7] AFI))
def AFY:Atc := .seq (.ops [mv_ 22 0,mv_ 6 22] [6])
 (.ret)
def AEQ:Atc := .seq (.seq (.ops [mv_ 8 2,po_ 9 (.bin 3 .sub (.t 8) (ci_ 1)),mv_ 7 9] [0,1,7])
 AEO)
 AFY
def AKO:Atc := .seq (.ops [po_ 6 (.mov (.c (.slice none 0 0)))] [0,1,2])
 AEQ
def AKw:List VR:=[.tmp 6]
theorem ARa:Tryd.f16.body.bind (trC Tryd.prog Tryd.f16.ntmps)=some (er AKO):=by kernel_rfl
theorem AQ6:trR Tryd.prog Tryd.f16.results.toList=some AKw:=by kernel_rfl
def AKK:=As8 AFI.eq_1
def AKB:=As8 AEO.eq_1
def ALe:=As8 AFY.eq_1
def AKX:=As8 AEQ.eq_1
def AOC:=As8 AKO.eq_1
theorem AOH {K:TV→Prop} {e:Env} {H:List Ob}:res AKw e H K=res [.tmp 6] e H K:=As9 rfl
def AEK:=(aI_ (aI_ (aI_ @AKK @AKB) (aI_ @ALe @AKX)) (aI_ @AOC @AOH))
def APH:=Awn 23 Tryd.func16 ARa AQ6 rfl
def AGP:Atc := .seq (.seq (.ops [mv_ 83 6,po_ 84 (.lenV (.t 83)),mv_ 85 8,po_ 86 (.bin 3 .sub (.t 84) (.t 85)),po_ 87 (.bin 3 .rem (.t 86) (ci_ 8)),po_ 88 (.bin 3 .neq (.t 87) (ci_ 0))] [5,6,7,8,88])
 (.cond (.t 88)
 (.skip)
 (.exit 2)))
 (.block 3 (.ops [mv_ 89 6,⟨some 90,.s (.bslice 1 1 (.val (.int .u8 ((0:Nat):Int))) [⟨0,.c (.int .u8 ((0:Nat):Int))⟩]),none⟩,so_ 91 (.app 1 1 5 (.t 89) (.t 90)),mv_ 6 91] [5,6,7,8]))
def ABu:Atc := .seq (.ops [mv_ 80 6,⟨some 81,.s (.bslice 1 1 (.val (.int .u8 ((0:Nat):Int))) [⟨0,.c (.int .u8 ((0:Nat):Int))⟩]),none⟩,so_ 82 (.app 1 1 5 (.t 80) (.t 81)),mv_ 6 82] [5,6,7,8])
 (.block 2 (.own 6 1 (.loop [5,6,7,8] AGP)))
def AHa:Atc := .seq (.ops [mv_ 73 6,mv_ 74 5,mv_ 75 7,po_ 76 (.idxA 24 (.t 74) (.t 75)),po_ 77 (.fieldA 0 0 (.t 76)),po_ 78 (.load false 1 (.t 77)),so_ 79 (.appS 5 (.t 73) (.t 78)),mv_ 6 79] [5,6,7,8])
 ABu
def AHI:Atc := .seq (.draw 7 [mv_ 58 6,mv_ 59 5,mv_ 60 7,po_ 61 (.idxA 24 (.t 59) (.t 60)),po_ 62 (.fieldA 4 23 (.t 61)),po_ 63 (.load false 1 (.t 62)),po_ 64 (.bin 3 .mul (.t 63) (ci_ 4096)),mv_ 65 5,mv_ 66 7,po_ 67 (.idxA 24 (.t 65) (.t 66)),po_ 68 (.fieldA 0 0 (.t 67)),po_ 69 (.load false 1 (.t 68)),po_ 70 (.lenS (.t 69)),po_ 71 (.bin 3 .add (.t 64) (.t 70)),so_ 72 (.call 16 [.t 58,.t 71,.c (.int .i64 ((2:Nat):Int))]),mv_ 6 72] [5,6,7,8])
 AHa
def AGC:Atc := .seq (.ops [mv_ 51 6,mv_ 52 5,mv_ 53 7,po_ 54 (.idxA 24 (.t 52) (.t 53)),po_ 55 (.fieldA 2 2 (.t 54)),po_ 56 (.slA 20 1 (.t 55) none none),so_ 57 (.app 1 1 5 (.t 51) (.t 56)),mv_ 6 57] [5,6,7,8])
 AHI
def AHp:Atc := .seq (.ops [mv_ 44 6,mv_ 45 5,mv_ 46 7,po_ 47 (.idxA 24 (.t 45) (.t 46)),po_ 48 (.fieldA 3 22 (.t 47)),po_ 49 (.load false 1 (.t 48)),so_ 50 (.call 16 [.t 44,.t 49,.c (.int .i64 ((4:Nat):Int))]),mv_ 6 50] [5,6,7,8])
 AGC
def AHn:Atc := .seq (.ops [mv_ 42 6,so_ 43 (.appZ 1 1 5 (.val (.int .u8 ((0:Nat):Int))) (.t 42) (ci_ 8)),mv_ 6 43] [5,6,7,8])
 AHp
def AHk:Atc := .seq (.ops [mv_ 35 6,mv_ 36 5,mv_ 37 7,po_ 38 (.idxA 24 (.t 36) (.t 37)),po_ 39 (.fieldA 1 1 (.t 38)),po_ 40 (.load false 1 (.t 39)),so_ 41 (.call 16 [.t 35,.t 40,.c (.int .i64 ((4:Nat):Int))]),mv_ 6 41] [5,6,7,8])
 AHn
def ABq:Atc := .seq (.ops [mv_ 33 6,so_ 34 (.appZ 1 1 5 (.val (.int .u8 ((0:Nat):Int))) (.t 33) (ci_ 24)),mv_ 6 34] [5,6,7,8])
 AHk
def AF6:Atc := .ops [mv_ 29 7,po_ 30 (.bin 3 .add (.t 29) (ci_ 1)),mv_ 7 30] [5,6,7]
def AFv:Atc := .seq (.block 1 (.seq (.ops [mv_ 31 6,po_ 32 (.lenV (.t 31)),mv_ 8 32] [5,6,7,8])
 ABq))
 AF6
def AF1:Atc := .seq (.seq (.ops [mv_ 25 7,mv_ 26 5,po_ 27 (.lenV (.t 26)),po_ 28 (.bin 3 .lss (.t 25) (.t 27))] [5,6,7,28])
 (.cond (.t 28)
 (.skip)
 (.exit 0)))
 AFv
def AFV:Atc := .block 0 (.own 6 1 (.loop [5,6,7] AF1))
def AFk:Atc := .seq (.ops [mv_ 92 6,so_ 93 (.call 17 [.t 92]),so_ 9 (.alloc (.arr 20 1 [.val (.int .u8 ((0:Nat):Int)),.val (.int .u8 ((0:Nat):Int)),.val (.int .u8 ((0:Nat):Int)),.val (.int .u8 ((0:Nat):Int)),.val (.int .u8 ((0:Nat):Int)),.val (.int .u8 ((0:Nat):Int)),.val (.int .u8 ((0:Nat):Int)),.val (.int .u8 ((0:Nat):Int)),.val (.int .u8 ((0:Nat):Int)),.val (.int .u8 ((0:Nat):Int)),.val (.int .u8 ((0:Nat):Int)),.val (.int .u8 ((0:Nat):Int)),.val (.int .u8 ((0:Nat):Int)),.val (.int .u8 ((0:Nat):Int)),.val (.int .u8 ((0:Nat):Int)),.val (.int .u8 ((0:Nat):Int)),.val (.int .u8 ((0:Nat):Int)),.val (.int .u8 ((0:Nat):Int)),.val (.int .u8 ((0:Nat):Int)),.val (.int .u8 ((0:Nat):Int))])),⟨none,.s (.store 20 (.t 9) (.t 93)),none⟩] [6,9])
 (.seq (.ops [mv_ 94 6,po_ 95 (.slA 20 1 (.t 9) none none),so_ 96 (.app 1 1 5 (.t 94) (.t 95)),mv_ 2 96,po_ 3 (.mov (ci_ 0))] [2,3])
 (.ret))
def AFo:Atc := .seq (.seq (.ops [po_ 7 (.mov (ci_ 0))] [5,6,7])
 AFV)
 AFk
def AFG:Atc := .seq (.ops [mv_ 21 6,mv_ 22 5,po_ 23 (.lenV (.t 22)),so_ 24 (.call 16 [.t 21,.t 23,.c (.int .i64 ((4:Nat):Int))]),mv_ 6 24] [5,6])
 AFo
def AFT:Atc := .seq (.ops [mv_ 19 6,so_ 20 (.call 16 [.t 19,.c (.int .i64 ((2:Nat):Int)),.c (.int .i64 ((4:Nat):Int))]),mv_ 6 20] [5,6])
 AFG
def AFs:Atc := .seq (.ops [⟨some 17,.s (.bslice 1 4 (.val (.int .u8 ((0:Nat):Int))) [⟨0,.c (.int .u8 ((68:Nat):Int))⟩,⟨1,.c (.int .u8 ((73:Nat):Int))⟩,⟨2,.c (.int .u8 ((82:Nat):Int))⟩,⟨3,.c (.int .u8 ((67:Nat):Int))⟩]),none⟩,so_ 18 (.cvS (.t 17)),mv_ 6 18] [5,6])
 AFT
def AFj:Atc := .seq (.ops [mv_ 15 0,so_ 16 (.call 15 [.t 15]),mv_ 5 16] [5])
 AFs
def AEV:Atc := .seq (.seq (.ops [mv_ 12 4,po_ 13 (.bin 3 .neq (.t 12) (ci_ 0))] [0,4,13])
 (.cond (.t 13)
 (.seq (.ops [mv_ 14 4,po_ 2 (.mov (.c (.slice none 0 0))),mv_ 3 14] [2,3])
  (.ret))
 (.skip)))
 AFj
def AFe:Atc := .seq (.ops [mv_ 10 0,so_ 11 (.call 14 [.t 10]),mv_ 4 11] [0,4])
 AEV
def ANe:Atc := .seq (.ops [po_ 2 (.mov (.c (.slice none 0 0))),po_ 3 (.mov (ci_ 0))] [0])
 AFe
def ANq:List VR:=[.tmp 2,.tmp 3]
theorem ATk:Tryd.f6.body.bind (trC Tryd.prog Tryd.f6.ntmps)=some (er ANe):=by kernel_rfl
theorem ATe:trR Tryd.prog Tryd.f6.results.toList=some ANq:=by kernel_rfl
def ADT:=As8 AGP.eq_1
def AL9:=As8 ABu.eq_1
def AL6:=As8 AHa.eq_1
def AMw:=As8 AHI.eq_1
def AM3:=As8 AGC.eq_1
def AM1:=As8 AHp.eq_1
def AMW:=As8 AHn.eq_1
def AMv:=As8 AHk.eq_1
def AL1:=As8 ABq.eq_1
def AKY:=As8 AF6.eq_1
def AK8:=As8 AFv.eq_1
def ABY:=As8 AF1.eq_1
def ALF:=As8 AFV.eq_1
def ALD:=As8 AFk.eq_1
def ALA:=As8 AFo.eq_1
def AK6:=As8 AFG.eq_1
def AKo:=As8 AFT.eq_1
def AKu:=As8 AFs.eq_1
def AKk:=As8 AFj.eq_1
def ACd:=As8 AEV.eq_1
def AJY:=As8 AFe.eq_1
def APu:=As8 ANe.eq_1
theorem AIM {K:TV→Prop} {e:Env} {H:List Ob}:res ANq e H K=res [.tmp 2,.tmp 3] e H K:=As9 rfl
def ARp:=Awn 97 Tryd.func6 ATk ATe rfl
def AGs:Atc := .seq (.seq (.ops [mv_ 5 4,mv_ 6 0,po_ 7 (.lenV (.t 6)),po_ 8 (.bin 3 .lss (.t 5) (.t 7))] [0,3,4,8])
 (.cond (.t 8)
 (.skip)
 (.exit 0)))
 (.seq (.block 1 (.ops [mv_ 11 3,po_ 12 (.bin 3 .mul (.t 11) (ci_ 256)),mv_ 13 0,mv_ 14 4,po_ 15 (.idxA 1 (.t 13) (.t 14)),po_ 16 (.load false 1 (.t 15)),po_ 17 (.conv .i64 (.t 16)),po_ 18 (.bin 3 .add (.t 12) (.t 17)),mv_ 3 18] [0,3,4]))
 (.ops [mv_ 9 4,po_ 10 (.bin 3 .add (.t 9) (ci_ 1)),mv_ 4 10] [0,3,4]))
def AHg:Atc := .block 0 (.loop [0,3,4] AGs)
def AGy:Atc := .seq (.ops [mv_ 19 3,mv_ 2 19] [2])
 (.ret)
def AGK:Atc := .seq (.seq (.ops [po_ 4 (.mov (ci_ 0))] [0,3,4])
 AHg)
 AGy
def AHE:Atc := .seq (.ops [po_ 3 (.mov (ci_ 0))] [0,3])
 AGK
def ANm:Atc := .seq (.ops [po_ 2 (.mov (ci_ 0))] [0])
 AHE
def ANu:List VR:=[.tmp 2]
theorem AR2:Tryd.f40.body.bind (trC Tryd.prog Tryd.f40.ntmps)=some (er ANm):=by kernel_rfl
theorem AR0:trR Tryd.prog Tryd.f40.results.toList=some ANu:=by kernel_rfl
def AL4:=As8 AGs.eq_1
def AL3:=As8 AHg.eq_1
def AMd:=As8 AGy.eq_1
def AMQ:=As8 AGK.eq_1
def AMR:=As8 AHE.eq_1
def APw:=As8 ANm.eq_1
theorem APO {K:TV→Prop} {e:Env} {H:List Ob}:res ANu e H K=res [.tmp 2] e H K:=As9 rfl
def AGx:=(aI_ (aI_ (aI_ @AL4 @AL3) (aI_ @AMd @AMQ)) (aI_ (aI_ @AMR @APw) @APO))
def AQD:=Awn 20 Tryd.func40 AR2 AR0 rfl
def AIY:Atc := .seq (.ops [mv_ 85 5,mv_ 86 10,po_ 87 (.bin 3 .add (ci_ 62) (.t 86)),po_ 88 (.bin 3 .quo (.t 87) (ci_ 8)),po_ 89 (.bin 3 .mul (.t 88) (ci_ 8)),po_ 90 (.bin 3 .add (.t 85) (.t 89)),po_ 91 (.bin 3 .add (.t 90) (ci_ 8)),mv_ 5 91] [0,4,5,6,7,8])
 (.ops [mv_ 92 6,po_ 93 (.load true 24 (.t 8)),⟨some 94,.s (.bslice 24 1 (.agg [.val (.string (str [])),.val (.int .i64 ((0:Nat):Int)),.arr 20 1 [.val (.int .u8 ((0:Nat):Int)),.val (.int .u8 ((0:Nat):Int)),.val (.int .u8 ((0:Nat):Int)),.val (.int .u8 ((0:Nat):Int)),.val (.int .u8 ((0:Nat):Int)),.val (.int .u8 ((0:Nat):Int)),.val (.int .u8 ((0:Nat):Int)),.val (.int .u8 ((0:Nat):Int)),.val (.int .u8 ((0:Nat):Int)),.val (.int .u8 ((0:Nat):Int)),.val (.int .u8 ((0:Nat):Int)),.val (.int .u8 ((0:Nat):Int)),.val (.int .u8 ((0:Nat):Int)),.val (.int .u8 ((0:Nat):Int)),.val (.int .u8 ((0:Nat):Int)),.val (.int .u8 ((0:Nat):Int)),.val (.int .u8 ((0:Nat):Int)),.val (.int .u8 ((0:Nat):Int)),.val (.int .u8 ((0:Nat):Int)),.val (.int .u8 ((0:Nat):Int))],.val (.int .i64 ((0:Nat):Int)),.val (.int .i64 ((0:Nat):Int))]) [⟨0,.t 93⟩]),none⟩,so_ 95 (.app 24 64 48 (.t 92) (.t 94)),mv_ 6 95] [0,4,5,6,7])
def AIU:Atc := .seq (.ops [mv_ 75 0,mv_ 76 5,po_ 77 (.bin 3 .add (.t 76) (ci_ 62)),mv_ 78 5,po_ 79 (.bin 3 .add (.t 78) (ci_ 62)),mv_ 80 10,po_ 81 (.bin 3 .add (.t 79) (.t 80)),po_ 82 (.slV 1 (.t 75) (some (.t 77)) (some (.t 81))),po_ 83 (.b2s (.t 82)),po_ 84 (.fieldA 0 0 (.t 8)),⟨none,.s (.store 1 (.t 84) (.t 83)),none⟩] [0,4,5,6,7,8,10])
 AIY
def AIv:Atc := .seq (.seq (.ops [mv_ 68 0,po_ 69 (.lenV (.t 68)),mv_ 70 5,po_ 71 (.bin 3 .sub (.t 69) (.t 70)),po_ 72 (.bin 3 .sub (.t 71) (ci_ 62)),mv_ 73 10,po_ 74 (.bin 3 .lss (.t 72) (.t 73))] [0,4,5,6,7,8,10,74])
 (.cond (.t 74)
 (.seq (.ops [po_ 2 (.mov (.c (.slice none 0 0))),po_ 3 (.mov (.c (.bool false)))] [2,3])
  (.ret))
 (.skip)))
 AIU
def AIX:Atc := .seq (.ops [mv_ 66 9,po_ 67 (.bin 3 .rem (.t 66) (ci_ 4096)),mv_ 10 67] [0,4,5,6,7,8,10])
 AIv
def AIW:Atc := .seq (.ops [mv_ 63 9,po_ 64 (.bin 3 .quo (.t 63) (ci_ 4096)),po_ 65 (.fieldA 4 23 (.t 8)),⟨none,.s (.store 1 (.t 65) (.t 64)),none⟩] [0,4,5,6,7,8,9])
 AIX
def AIG:Atc := .seq (.ops [mv_ 56 0,mv_ 57 5,po_ 58 (.bin 3 .add (.t 57) (ci_ 60)),mv_ 59 5,po_ 60 (.bin 3 .add (.t 59) (ci_ 62)),po_ 61 (.slV 1 (.t 56) (some (.t 58)) (some (.t 60))),so_ 62 (.call 40 [.t 61]),mv_ 9 62] [0,4,5,6,7,8,9])
 AIW
def AIx:Atc := .seq (.draw 5 [po_ 47 (.fieldA 2 2 (.t 8)),po_ 48 (.slA 20 1 (.t 47) none none),mv_ 49 0,mv_ 50 5,po_ 51 (.bin 3 .add (.t 50) (ci_ 40)),mv_ 52 5,po_ 53 (.bin 3 .add (.t 52) (ci_ 60)),po_ 54 (.slV 1 (.t 49) (some (.t 51)) (some (.t 53))),so_ 55 (.copy 1 (.t 48) (.t 54))] [0,4,5,6,7,8])
 AIG
def AI4:Atc := .seq (.ops [mv_ 39 0,mv_ 40 5,po_ 41 (.bin 3 .add (.t 40) (ci_ 36)),mv_ 42 5,po_ 43 (.bin 3 .add (.t 42) (ci_ 40)),po_ 44 (.slV 1 (.t 39) (some (.t 41)) (some (.t 43))),so_ 45 (.call 40 [.t 44]),po_ 46 (.fieldA 3 22 (.t 8)),⟨none,.s (.store 1 (.t 46) (.t 45)),none⟩] [0,4,5,6,7,8])
 AIx
def AIr:Atc := .seq (.ops [mv_ 31 0,mv_ 32 5,po_ 33 (.bin 3 .add (.t 32) (ci_ 24)),mv_ 34 5,po_ 35 (.bin 3 .add (.t 34) (ci_ 28)),po_ 36 (.slV 1 (.t 31) (some (.t 33)) (some (.t 35))),so_ 37 (.call 40 [.t 36]),po_ 38 (.fieldA 1 1 (.t 8)),⟨none,.s (.store 1 (.t 38) (.t 37)),none⟩] [0,4,5,6,7,8])
 AI4
def AGH:Atc := .seq (.ops [so_ 8 (.alloc (.agg [.val (.string (str [])),.val (.int .i64 ((0:Nat):Int)),.arr 20 1 [.val (.int .u8 ((0:Nat):Int)),.val (.int .u8 ((0:Nat):Int)),.val (.int .u8 ((0:Nat):Int)),.val (.int .u8 ((0:Nat):Int)),.val (.int .u8 ((0:Nat):Int)),.val (.int .u8 ((0:Nat):Int)),.val (.int .u8 ((0:Nat):Int)),.val (.int .u8 ((0:Nat):Int)),.val (.int .u8 ((0:Nat):Int)),.val (.int .u8 ((0:Nat):Int)),.val (.int .u8 ((0:Nat):Int)),.val (.int .u8 ((0:Nat):Int)),.val (.int .u8 ((0:Nat):Int)),.val (.int .u8 ((0:Nat):Int)),.val (.int .u8 ((0:Nat):Int)),.val (.int .u8 ((0:Nat):Int)),.val (.int .u8 ((0:Nat):Int)),.val (.int .u8 ((0:Nat):Int)),.val (.int .u8 ((0:Nat):Int)),.val (.int .u8 ((0:Nat):Int))],.val (.int .i64 ((0:Nat):Int)),.val (.int .i64 ((0:Nat):Int))]))] [0,4,5,6,7,8])
 AIr
def AGN:Atc := .seq (.block 1 (.seq (.seq (.ops [mv_ 26 0,po_ 27 (.lenV (.t 26)),mv_ 28 5,po_ 29 (.bin 3 .sub (.t 27) (.t 28)),po_ 30 (.bin 3 .lss (.t 29) (ci_ 62))] [0,4,5,6,7,30])
 (.cond (.t 30)
 (.seq (.ops [po_ 2 (.mov (.c (.slice none 0 0))),po_ 3 (.mov (.c (.bool false)))] [2,3])
  (.ret))
 (.skip)))
 AGH))
 (.ops [mv_ 24 7,po_ 25 (.bin 3 .add (.t 24) (ci_ 1)),mv_ 7 25] [0,4,5,6,7])
def AG0:Atc := .seq (.seq (.ops [mv_ 21 7,mv_ 22 4,po_ 23 (.bin 3 .lss (.t 21) (.t 22))] [0,4,5,6,7,23])
 (.cond (.t 23)
 (.skip)
 (.exit 0)))
 AGN
def AHq:Atc := .block 0 (.own 6 24 (.loop [0,4,5,6,7] AG0))
def AHF:Atc := .seq (.seq (.ops [mv_ 101 12,po_ 102 (.bin 3 .neq (.t 101) (ci_ 0)),mv_ 103 102,⟨some 104,.p (.mov (.t 11)),some ⟨103,false⟩⟩,⟨some 105,.p (.b2s (.t 104)),some ⟨103,false⟩⟩,⟨some 106,.p (.mov (.t 0)),some ⟨103,false⟩⟩,⟨some 107,.p (.b2s (.t 106)),some ⟨103,false⟩⟩,⟨some 108,.p (.bin 9 .neq (.t 105) (.t 107)),some ⟨103,false⟩⟩,po_ 109 (.pick (.t 103) (.c (.bool true)) (.t 108))] [6,109])
 (.cond (.t 109)
 (.seq (.ops [po_ 2 (.mov (.c (.slice none 0 0))),po_ 3 (.mov (.c (.bool false)))] [2,3])
  (.ret))
 (.skip)))
 (.seq (.ops [mv_ 110 6,mv_ 2 110,po_ 3 (.mov (.c (.bool true)))] [2,3])
 (.ret))
def AGX:Atc := .seq (.ops [mv_ 97 6,so_ 98 (.call 6 [.t 97]),mv_ 96 98,po_ 99 (.ext 0 (.t 96)),po_ 100 (.ext 1 (.t 96)),mv_ 11 99,mv_ 12 100] [0,6,11,12])
 AHF
def AGr:Atc := .seq (.seq (.ops [po_ 7 (.mov (ci_ 0))] [0,4,5,6,7])
 AHq)
 AGX
def AHG:Atc := .seq (.ops [po_ 6 (.mov (.c (.slice none 0 0)))] [0,4,5,6])
 AGr
def AHK:Atc := .seq (.ops [po_ 5 (.mov (ci_ 12))] [0,4,5])
 AHG
def AGv:Atc := .seq (.seq (.ops [mv_ 19 4,po_ 20 (.bin 3 .gtr (.t 19) (ci_ 2000))] [0,4,20])
 (.cond (.t 20)
 (.seq (.ops [po_ 2 (.mov (.c (.slice none 0 0))),po_ 3 (.mov (.c (.bool false)))] [2,3])
  (.ret))
 (.skip)))
 AHK
def AG8:Atc := .seq (.ops [mv_ 16 0,po_ 17 (.slV 1 (.t 16) (some (ci_ 8)) (some (ci_ 12))),so_ 18 (.call 40 [.t 17]),mv_ 4 18] [0,4])
 AGv
def AGq:Atc := .seq (.seq (.ops [mv_ 13 0,po_ 14 (.lenV (.t 13)),po_ 15 (.bin 3 .lss (.t 14) (ci_ 32))] [0,15])
 (.cond (.t 15)
 (.seq (.ops [po_ 2 (.mov (.c (.slice none 0 0))),po_ 3 (.mov (.c (.bool false)))] [2,3])
  (.ret))
 (.skip)))
 AG8
def AO6:Atc := .seq (.ops [po_ 2 (.mov (.c (.slice none 0 0))),po_ 3 (.mov (.c (.bool false)))] [0])
 AGq
def APi:List VR:=[.tmp 2,.tmp 3]
theorem AT2:Tryd.f22.body.bind (trC Tryd.prog Tryd.f22.ntmps)=some (er AO6):=by kernel_rfl
theorem ATN:trR Tryd.prog Tryd.f22.results.toList=some APi:=by kernel_rfl
def AN5:=As8 AIY.eq_1
def ANO:=As8 AIU.eq_1
def AEY:=As8 AIv.eq_1
def AFF:=As8 AIX.eq_1
def AET:=As8 AIW.eq_1
def ANP:=As8 AIG.eq_1
def ANT:=As8 AIx.eq_1
def ANB:=As8 AI4.eq_1
def ANK:=As8 AIr.eq_1
def AMM:=As8 AGH.eq_1
def AEh:=As8 AGN.eq_1
def AAm:=As8 AG0.eq_1
def ALZ:=As8 AHq.eq_1
def AAj:=As8 AHF.eq_1
def AMX:=As8 AGX.eq_1
def AMe:=As8 AGr.eq_1
def AMq:=As8 AHG.eq_1
def AMZ:=As8 AHK.eq_1
def AD4:=As8 AGv.eq_1
def AMk:=As8 AG8.eq_1
def AD1:=As8 AGq.eq_1
def AK5:=As8 AO6.eq_1
theorem Aw3 {K:TV→Prop} {e:Env} {H:List Ob}:res APi e H K=res [.tmp 2,.tmp 3] e H K:=As9 rfl
def ATj:=Awn 111 Tryd.func22 AT2 ATN rfl
end
section
structure SW {α:Type} (lt:α→α→Bool):Prop where
 asym:∀ {x y},lt x y=true→lt y x=false
 ntr:∀ {x y z},lt x y=false→lt y z=false→lt x z=false
variable {α:Type} {lt:α→α→Bool}
def AYs (lt:α→α→Bool) (x y:α):Bool := !lt x y && !lt y x
def ABU (lt:α→α→Bool) (l:List α):Prop:=l.Pairwise fun x y=>lt y x=false
def AzJ (lt:α→α→Bool) (l m:List α):Prop:=∀ x,l.filter (AYs lt x)=m.filter (AYs lt x)
theorem SW.refl (h:SW lt) (x:α):lt x x=false:=by
 cases e:lt x x with
 | false=>rfl
 | true=>have:=h.asym e; rw [e] at this; cases this
theorem AKl (h:SW lt) (x:α):AYs lt x x=true:=by unfold AYs; rw [h.refl]; rfl
theorem AzJ.refl (l:List α):AzJ lt l l:=fun _=>rfl
theorem AzJ.trans {l m n:List α} (h:AzJ lt l m) (h2:AzJ lt m n):AzJ lt l n:=fun x=>(h x).trans (h2 x)
theorem AzJ.symm {l m:List α} (h:AzJ lt l m):AzJ lt m l:=fun x=>(h x).symm
theorem AzJ.append {a b c d:List α} (h:AzJ lt a b) (h2:AzJ lt c d):AzJ lt (a++c) (b++d):=fun x=>by rw [List.filter_append,List.filter_append,h x,h2 x]
theorem AzJ.mem (hw:SW lt) {l m:List α} (h:AzJ lt l m) {x:α} (hx:x∈l):x∈m:=by
 have:x∈l.filter (AYs lt x):=List.mem_filter.2 ⟨hx,AKl hw x⟩
 rw [h x] at this
 exact (List.mem_filter.1 this).1
theorem AzJ.swap (hw:SW lt) {a b:List α} (h:∀ x∈a,∀ y∈b,lt y x=true):AzJ lt (b++a) (a++b):=fun z=>by
 rw [List.filter_append,List.filter_append]
 by_cases hb:b.filter (AYs lt z)=[]
 ·rw [hb]; simp
 ·have ha:a.filter (AYs lt z)=[]:=by
   rw [List.filter_eq_nil_iff]
   intro x hx he
   obtain ⟨y,hy⟩:=List.exists_mem_of_ne_nil _ hb
   obtain ⟨hy1,hy2⟩:=List.mem_filter.1 hy
   have h1:=h x hx y hy1
   unfold AYs at he hy2
   simp only [Bool.and_eq_true,Bool.not_eq_true'] at he hy2
   have:=hw.ntr hy2.2 he.1
   rw [h1] at this
   cases this
  rw [ha]; simp
theorem AVf (hw:SW lt):∀ {l m:List α},ABU lt l→ABU lt m→AzJ lt l m→l=m
 | [],[],_,_,_=>rfl
 | [],d::m,_,_,h=>by have:=h d; simp [AKl hw] at this
 | c::l,[],_,_,h=>by have:=h c; simp [AKl hw] at this
 | c::l,d::m,hl,hm,h=>by
  have hl2:=List.pairwise_cons.1 hl
  have hm2:=List.pairwise_cons.1 hm
  have hcd:lt c d=false:=by
   rcases List.mem_cons.1 (h.mem hw (List.mem_cons_self (a:=c) (l:=l))) with e | e
   ·rw [e]; exact hw.refl d
   ·exact hm2.1 c e
  have hdc:lt d c=false:=by
   rcases List.mem_cons.1 (h.symm.mem hw (List.mem_cons_self (a:=d) (l:=m))) with e | e
   ·rw [e]; exact hw.refl c
   ·exact hl2.1 d e
  have heq:AYs lt c d=true:=by unfold AYs; rw [hcd,hdc]; rfl
  have hc:=h c
  rw [List.filter_cons_of_pos (AKl hw c),List.filter_cons_of_pos heq] at hc
  obtain rfl:=(List.cons.inj hc).1
  refine congrArg (c :: ·) (AVf hw hl2.2 hm2.2 fun x => ?_)
  have hx:=h x
  by_cases e:AYs lt x c=true
  ·rw [List.filter_cons_of_pos e,List.filter_cons_of_pos e] at hx
   exact (List.cons.inj hx).2
  ·rw [List.filter_cons_of_neg e,List.filter_cons_of_neg e] at hx
   exact hx
def ASi (lt:α→α→Bool) (e:α):List α→List α
 | []=>[e]
 | d::l=>if lt e d then e::d::l else d::ASi lt e l
def AAu (lt:α→α→Bool) (l:List α):List α:=l.foldl (fun o e=>ASi lt e o) []
theorem ASn (hw:SW lt) (e:α):∀ {l:List α},ABU lt l→∃ a b,l=a++b∧ASi lt e l=a++e::b∧(∀ x∈a,lt e x=false)∧(∀ x∈b,lt e x=true)
 | [],_=>⟨[],[],rfl,rfl,by simp,by simp⟩
 | d::l,h=>by
  have h2:=List.pairwise_cons.1 h
  rw [ASi]
  by_cases hd:lt e d=true
  ·rw [if_pos hd]
   refine ⟨[],d::l,rfl,rfl,by simp,fun x hx => ?_⟩
   rcases List.mem_cons.1 hx with rfl | hx
   ·exact hd
   ·cases he:lt e x with
    | true=>rfl
    | false =>
     have:=hw.ntr he (h2.1 x hx)
     rw [hd] at this; cases this
  ·rw [if_neg hd]
   obtain ⟨a,b,rfl,h3,h4,h5⟩:=ASn hw e h2.2
   refine ⟨d::a,b,rfl,by rw [h3]; rfl,fun x hx => ?_,h5⟩
   rcases List.mem_cons.1 hx with rfl | hx
   ·exact Bool.eq_false_iff.2 hd
   ·exact h4 x hx
theorem A0v (hw:SW lt) (e:α) {l:List α} (h:ABU lt l):ABU lt (ASi lt e l)∧AzJ lt (ASi lt e l) (l++[e]):=by
 obtain ⟨a,b,rfl,h2,h3,h4⟩:=ASn hw e h
 rw [h2]
 have hp:=List.pairwise_append.1 h
 constructor
 ·refine List.pairwise_append.2 ⟨hp.1,List.pairwise_cons.2 ⟨fun x hx=>hw.asym (h4 x hx),hp.2.1⟩,fun x hx y hy => ?_⟩
  rcases List.mem_cons.1 hy with rfl | hy
  ·exact h3 x hx
  ·exact hp.2.2 x hx y hy
 ·rw [List.append_assoc]
  refine AzJ.append (AzJ.refl a) ?_
  exact AzJ.swap hw (a:=b) (b:=[e]) fun x hx y hy=>by rw [List.mem_singleton] at hy; subst hy; exact h4 x hx
theorem ASZ (hw:SW lt):∀ (l o:List α),ABU lt o→ABU lt (l.foldl (fun o e=>ASi lt e o) o)∧AzJ lt (l.foldl (fun o e=>ASi lt e o) o) (o++l)
 | [],o,h=>by simp only [List.foldl_nil,List.append_nil]; exact ⟨h,AzJ.refl o⟩
 | e::l,o,h=>by
  rw [List.foldl_cons]
  obtain ⟨h1,h2⟩:=A0v hw e h
  obtain ⟨h3,h4⟩:=ASZ hw l (ASi lt e o) h1
  refine ⟨h3,h4.trans ?_⟩
  rw [show o++e::l=(o++[e])++l by simp]
  exact h2.append (AzJ.refl l)
theorem AOh (hw:SW lt) (l:List α):ABU lt (AAu lt l)∧AzJ lt (AAu lt l) l:=by
 have:=ASZ hw l [] List.Pairwise.nil
 rwa [List.nil_append] at this
theorem AXq (hw:SW lt) {l m:List α} (h:ABU lt m) (h2:AzJ lt m l):m=AAu lt l :=
 AVf hw h (AOh hw l).1 (h2.trans (AOh hw l).2.symm)
theorem AXM (hw:SW lt) {a1 a2 b1 b2 c d:List α} (ha:ABU lt (a1++a2)) (hb:ABU lt (b1++b2)) (h12:∀ x∈a1.getLast?,∀ y∈b2.head?,lt y x=false) (h21:∀ x∈b1.getLast?,∀ y∈a2.head?,lt x y=true)
  (hc:ABU lt c) (hc2:AzJ lt c (a1++b1)) (hd:ABU lt d) (hd2:AzJ lt d (a2++b2)):ABU lt (c++d)∧AzJ lt (c++d) ((a1++a2)++(b1++b2)):=by
 have pa:=List.pairwise_append.1 ha
 have pb:=List.pairwise_append.1 hb
 -- all of a1 before all of b2
 have lastA:∀ z,(∀ x∈a1.getLast?,lt z x=false)→∀ x∈a1,lt z x=false:=fun z hz x hx=>by
  obtain ⟨l,y,rfl⟩:∃ l y,a1=l++[y]:=⟨_,_,(List.dropLast_concat_getLast (List.ne_nil_of_mem hx)).symm⟩
  have hy:=hz y (by simp)
  rcases List.mem_append.1 hx with h | h
  ·have:=(List.pairwise_append.1 pa.1).2.2 x h y (by simp)
   exact hw.ntr hy this
  ·rw [List.mem_singleton] at h; subst h; exact hy
 have s12:∀ x∈a1,∀ y∈b2,lt y x=false:=fun x hx y hy=>by
  obtain ⟨e,t,rfl⟩:=List.exists_cons_of_ne_nil (List.ne_nil_of_mem hy)
  have he:∀ x∈a1,lt e x=false:=lastA e fun x hx=>h12 x hx e (by simp)
  rcases List.mem_cons.1 hy with rfl | h
  ·exact he x hx
  ·exact hw.ntr ((List.pairwise_cons.1 pb.2.1).1 y h) (he x hx)
 have s21:∀ x∈a2,∀ y∈b1,lt y x=true:=fun x hx y hy=>by
  obtain ⟨e,t,rfl⟩:=List.exists_cons_of_ne_nil (List.ne_nil_of_mem hx)
  obtain ⟨l,z,rfl⟩:∃ l z,b1=l++[z]:=⟨_,_,(List.dropLast_concat_getLast (List.ne_nil_of_mem hy)).symm⟩
  have hze:=h21 z (by simp) e (by simp)
  have hyz:lt z y=false:=by
   rcases List.mem_append.1 hy with h | h
   ·exact (List.pairwise_append.1 pb.1).2.2 y h z (by simp)
   ·rw [List.mem_singleton] at h; subst h; exact hw.refl _
  have hex:lt x e=false:=by
   rcases List.mem_cons.1 hx with rfl | h
   ·exact hw.refl _
   ·exact (List.pairwise_cons.1 pa.2.1).1 x h
  cases hyx:lt y x with
  | true=>rfl
  | false =>
   have h1:=hw.ntr hyx hex
   have h2:=hw.ntr hyz h1
   rw [hze] at h2; cases h2
 refine ⟨List.pairwise_append.2 ⟨hc,hd,fun x hx y hy => ?_⟩,?_⟩
 ·rcases List.mem_append.1 (hc2.mem hw hx) with h | h<;>rcases List.mem_append.1 (hd2.mem hw hy) with k | k
  ·exact pa.2.2 x h y k
  ·exact s12 x h y k
  ·exact hw.asym (s21 y k x h)
  ·exact pb.2.2 x h y k
 ·have h1:AzJ lt (c++d) ((a1++b1)++(a2++b2)):=hc2.append hd2
  refine h1.trans ?_
  have h2:AzJ lt (b1++a2) (a2++b1):=AzJ.swap hw s21
  have e1:(a1++b1)++(a2++b2)=a1++((b1++a2)++b2):=by simp
  have e2:(a1++a2)++(b1++b2)=a1++((a2++b1)++b2):=by simp
  rw [e1,e2]
  exact (AzJ.refl a1).append (h2.append (AzJ.refl b2))
end
section
open Go.RowKit
variable [AtQ]
structure Bak (c c':Ctx) (n:Nat):Prop where
 beta:∀ id ver,c'.β (id+n) ver=c.β id ver
 has:∀ id ver,c.has id ver→c'.has (id+n) ver
 keepF:∀ b,c.F b→c'.F b
theorem Bak.bare {c c':Ctx} {n:Nat} {w:World} (h:Bak c c' n):AAo c.bare w c'.bare w:=⟨fun b hb=>⟨h.keepF b hb,rfl⟩,fun _ _ k=>(Ctx.bare_has k).elim,fun _ _=>rfl⟩
end
section
open Go.RowKit
variable [AtQ]
def ltB (a b:List UInt8):Prop:=a<b
theorem AYB (a b:List UInt8):Op.bytesLess a b=decide (a<b):=bytesLess_eq a b
theorem Axg (a:List UInt8):¬ ltB a a:=List.lt_irrefl a
theorem AKR {a b c:List UInt8} (h:ltB a b) (k:ltB b c):ltB a c:=List.lt_trans h k
theorem AMj {a b:List UInt8} (h1:¬ ltB a b) (h2:¬ ltB b a):a=b:=List.le_antisymm (List.not_lt.1 h2) (List.not_lt.1 h1)
instance (a b:List UInt8):Decidable (ltB a b):=inferInstanceAs (Decidable (a<b))
abbrev SD (l:List (List UInt8)):Prop:=l.Pairwise ltB
theorem SD.filter {l:List (List UInt8)} (h:SD l) (p:List UInt8→Bool):SD (l.filter p):=List.Pairwise.filter p h
end
section
open Go.RowKit
variable [AtQ]
structure EnJ where
 path:List UInt8
 mode:Int
 id:List UInt8
 size:Int
 stage:Int
def ltJ (x y:EnJ):Bool:=decide (ltB x.path y.path) || (decide (x.path=y.path) && decide (x.stage<y.stage))
theorem AOq {x y:EnJ}:ltJ x y=true↔ltB x.path y.path∨(x.path=y.path∧x.stage<y.stage):=by unfold ltJ; simp
theorem APk {x y:EnJ}:ltJ x y=false↔¬ ltB x.path y.path∧(x.path=y.path→¬ x.stage<y.stage):=by
 rw [←Bool.not_eq_true,AOq,not_or]
 constructor
 ·rintro ⟨h1,h2⟩; exact ⟨h1,fun e h=>h2 ⟨e,h⟩⟩
 ·rintro ⟨h1,h2⟩; exact ⟨h1,fun h=>h2 h.1 h.2⟩
theorem swJ:SW ltJ where
 asym {x y} h:=by
  rw [APk]
  rcases AOq.1 h with h | ⟨e,h⟩
  ·exact ⟨fun k=>Axg _ (AKR h k),fun e=>by rw [e] at h; exact absurd h (Axg _)⟩
  ·refine ⟨fun k => ?_,fun _ k=>by omega⟩
   rw [e] at k; exact Axg _ k
 ntr {x y z} h1 h2:=by
  rw [APk] at h1 h2 ⊢
  constructor
  ·intro h
   by_cases k:ltB y.path x.path
   ·exact h2.1 (AKR k h)
   ·have e:x.path=y.path:=AMj h1.1 k
    rw [e] at h; exact h2.1 h
  ·intro e h
   have e1:x.path=y.path:=by
    by_cases k:ltB y.path x.path
    ·rw [e] at k; exact absurd k h2.1
    ·exact AMj h1.1 k
   have a:=h1.2 e1
   have b:=h2.2 (by rw [←e1,e])
   omega
def Aun (e:EnJ):Bool:=(decide (e.mode=33188) || decide (e.mode=33261) || decide (e.mode=40960)) && decide (0≤e.size∧e.size≤100000) && decide (0≤e.stage∧e.stage≤3)
def A1y (x y:EnJ):Prop:=x.path=y.path∧(x.stage=y.stage∨x.stage=0∨y.stage=0)
instance (x y:EnJ):Decidable (A1y x y):=by unfold A1y; infer_instance
theorem AWN {x y:EnJ} (h:A1y x y):A1y y x:=⟨h.1.symm,h.2.elim (fun h => .inl h.symm) fun h => .inr (h.elim .inr .inl)⟩
def A7B (x y:EnJ):Prop:=x.path=y.path∧(x.stage=y.stage∨x.stage=0)
instance (x y:EnJ):Decidable (A7B x y):=by unfold A7B; infer_instance
def AN2:List EnJ→Prop
 | []=>True
 | [_]=>True
 | x::y::l=>¬ A7B x y∧AN2 (y::l)
def ABG (l:List EnJ):Prop:=l.Pairwise fun x y=>¬ A1y x y
instance (l:List EnJ):Decidable (ABG l):=by unfold ABG; infer_instance
theorem ASl:∀ {l:List EnJ},ABG l→AN2 l
 | [],_=>trivial
 | [_],_=>trivial
 | x::y::l,h=>by
  have h2:=List.pairwise_cons.1 h
  exact ⟨fun k=>h2.1 y (by simp) ⟨k.1,k.2.elim .inl fun k => .inr (.inl k)⟩,ASl h2.2⟩
theorem ASf:∀ {l:List EnJ},ABU ltJ l→(∀ e∈l,Aun e=true)→AN2 l→ABG l
 | [],_,_,_=>List.Pairwise.nil
 | [_],_,_,_=>by simp [ABG]
 | x::y::l,hs,hg,h=>by
  have hs2:=List.pairwise_cons.1 hs
  have hs3:=List.pairwise_cons.1 hs2.2
  have ih:=ASf hs2.2 (fun e he=>hg e (List.mem_cons_of_mem _ he)) h.2
  have hx0:0≤x.stage:=by have:=hg x (by simp); unfold Aun at this; simp at this; omega
  refine List.pairwise_cons.2 ⟨fun z hz hc => ?_,ih⟩
  have hxz:=APk.1 (hs2.1 z hz)
  have hst:x.stage≤z.stage:=by have:=hxz.2 hc.1.symm; omega
  have h0:x.stage=z.stage∨x.stage=0:=by
   rcases hc.2 with h | h | h
   ·exact .inl h
   ·exact .inr h
   ·right; omega
  rcases List.mem_cons.1 hz with rfl | hz
  ·exact h.1 ⟨hc.1,h0⟩
  ·have hxy:=APk.1 (hs2.1 y (by simp))
   have hyz:=APk.1 (hs3.1 z hz)
   have e1:x.path=y.path:=by
    by_cases k:ltB x.path y.path
    ·rw [hc.1] at k; exact absurd k hyz.1
    ·exact AMj k hxy.1
   have a:=hxy.2 e1.symm
   have b:=hyz.2 (by rw [←e1,hc.1])
   refine h.1 ⟨e1,?_⟩
   rcases h0 with h0 | h0
   ·left; omega
   ·exact .inr h0
theorem ATo {α:Type} {lt:α→α→Bool} (e:α):∀ l:List α,(ASi lt e l).Perm (e::l)
 | []=>List.Perm.refl _
 | d::l=>by
  rw [ASi]
  split
  ·exact List.Perm.refl _
  ·exact ((ATo e l).cons d).trans (List.Perm.swap e d l)
theorem AP9 {α:Type} {lt:α→α→Bool}:∀ (l o:List α),(l.foldl (fun o e=>ASi lt e o) o).Perm (o++l)
 | [],o=>by simp
 | e::l,o=>by
  rw [List.foldl_cons]
  refine (AP9 l _).trans ?_
  refine ((ATo e o).append_right l).trans ?_
  rw [List.cons_append]
  exact (List.perm_middle (a:=e) (l₁:=o) (l₂:=l)).symm
theorem AuA {α:Type} {lt:α→α→Bool} (l:List α):(AAu lt l).Perm l:=by
 have:=AP9 (lt:=lt) l []
 rwa [List.nil_append] at this
theorem AXL {l m:List EnJ} (h:l.Perm m):ABG l↔ABG m:=h.pairwise_iff fun hx hc=>hx (AWN hc)
theorem AYL (l:List EnJ) (hg:∀ e∈l,Aun e=true):AN2 (AAu ltJ l)↔ABG l:=by
 have hp:=AuA (lt:=ltJ) l
 rw [←AXL hp]
 exact ⟨ASf (AOh swJ l).1 fun e he=>hg e (hp.mem_iff.1 he),ASl⟩
def AQf (x y:EnJ):Prop:=(x.path++[47]) <+: y.path
instance (x y:EnJ):Decidable (AQf x y):=by unfold AQf; infer_instance
def ACS (pok:List UInt8→Bool) (l:List EnJ):Nat :=
 if l.any (fun e => !pok e.path) then 71 else if l.all Aun && decide (ABG l) then (if l.any fun x=>l.any fun y=>decide (AQf x y) then 71 else 0) else 70
theorem AYl {pok:List UInt8→Bool} {l m:List EnJ} (h:l.Perm m):ACS pok l=ACS pok m:=by
 have e1:∀ p:EnJ→Bool,l.any p=m.any p:=fun p=>by
  rw [Bool.eq_iff_iff,List.any_eq_true,List.any_eq_true]
  exact ⟨fun ⟨x,hx,k⟩=>⟨x,h.mem_iff.1 hx,k⟩,fun ⟨x,hx,k⟩=>⟨x,h.mem_iff.2 hx,k⟩⟩
 have e2:l.all Aun=m.all Aun:=by
  rw [Bool.eq_iff_iff,List.all_eq_true,List.all_eq_true]
  exact ⟨fun k x hx=>k x (h.mem_iff.2 hx),fun k x hx=>k x (h.mem_iff.1 hx)⟩
 have e3:decide (ABG l)=decide (ABG m):=decide_eq_decide.2 (AXL h)
 have e4:(l.any fun x=>l.any fun y=>decide (AQf x y))=(m.any fun x=>m.any fun y=>decide (AQf x y)):=by
  rw [e1]
  congr 1
  funext x
  exact e1 _
 unfold ACS
 rw [e1,e2,e3,e4]
end
section
open Go.RowKit
variable [AtQ]
def beN (n:Nat):Nat→List UInt8
 | 0=>[]
 | k+1=>UInt8.ofNat (n / 256 ^ k)::beN n k
theorem Aur (n:Nat):∀ k,(beN n k).length=k
 | 0=>rfl
 | k+1=>by rw [beN,List.length_cons,Aur n k]
def beV (l:List UInt8):Nat:=l.foldl (fun n x=>n*256+x.toNat) 0
theorem AXQ (l:List UInt8) (x:UInt8):beV (l++[x])=beV l*256+x.toNat:=by unfold beV; rw [List.foldl_append]; rfl
theorem AKr:∀ (l:List UInt8) (n:Nat),l.foldl (fun n x=>n*256+x.toNat) n=n*256 ^ l.length+beV l
 | [],n=>by simp [beV]
 | x::l,n=>by
  have e:beV (x::l)=l.foldl (fun n x=>n*256+x.toNat) x.toNat:=by unfold beV; rw [List.foldl_cons]; simp
  rw [List.foldl_cons,AKr l (n*256+x.toNat),e,AKr l x.toNat,List.length_cons,Nat.pow_succ,Nat.add_mul]
  have:n*256*256 ^ l.length=n*(256 ^ l.length*256):=by rw [Nat.mul_assoc,Nat.mul_comm 256]
  omega
theorem AKJ:∀ l:List UInt8,beV l<256 ^ l.length
 | []=>by simp [beV]
 | x::l=>by
  have h:=AKJ l
  have hx:=x.toNat_lt
  have e:beV (x::l)=x.toNat*256 ^ l.length+beV l:=by
   rw [beV,List.foldl_cons,AKr]; simp
  rw [e,List.length_cons,Nat.pow_succ]
  have:(x.toNat+1)*256 ^ l.length≤256*256 ^ l.length:=Nat.mul_le_mul_right _ (by omega)
  rw [Nat.add_mul] at this
  rw [Nat.mul_comm (256 ^ l.length) 256]
  omega
theorem AOA (n:Nat):∀ k,beV (beN n k)=n % 256 ^ k
 | 0=>by simp [beN,beV,Nat.mod_one]
 | k+1=>by
  have e:∀ (x:UInt8) (l:List UInt8),beV (x::l)=x.toNat*256 ^ l.length+beV l:=fun x l=>by
   rw [beV,List.foldl_cons,AKr]; simp
  have h:=Nat.mod_mul (x:=n) (a:=256 ^ k) (b:=256)
  rw [←Nat.pow_succ] at h
  rw [beN,e,Aur,AOA n k,UInt8.toNat_ofNat',h,show (2:Nat) ^ 8=256 from rfl,Nat.mul_comm]
  omega
def AuZ (k:Nat):List UInt8:=List.replicate k 0
def ALQ (n:Nat):Nat:=(62+n) / 8*8+8
def AH4 (e:EnJ):List UInt8:=AuZ 24++beN e.mode.toNat 4++AuZ 8++beN e.size.toNat 4++e.id++beN (e.stage.toNat*4096+e.path.length) 2++e.path++AuZ (8 - (62+e.path.length) % 8)
theorem AHX (e:EnJ) (h:e.id.length=20):(AH4 e).length=ALQ e.path.length:=by
 unfold AH4 AuZ ALQ
 simp only [List.length_append,List.length_replicate,Aur,h]
 omega
def Awl (b:List UInt8) (i j:Nat):List UInt8:=(b.drop i).take (j - i)
def AWB (b:List UInt8):Option (EnJ×List UInt8) :=
 if b.length<62 then none else
  let f:=beV (Awl b 60 62)
  if b.length<ALQ (f % 4096) then none else
   some (⟨Awl b 62 (62+f % 4096),(beV (Awl b 24 28):Int),Awl b 40 60,(beV (Awl b 36 40):Int),((f / 4096:Nat):Int)⟩,b.drop (ALQ (f % 4096)))
structure OkJ (e:EnJ):Prop where
 id:e.id.length=20
 good:Aun e=true
 path:e.path.length≤100
theorem AOd {e:EnJ} (h:OkJ e) (r:List UInt8):AWB (AH4 e++r)=some (e,r):=by
 obtain ⟨h1,h2,h3⟩:=h
 have hg:(e.mode=33188∨e.mode=33261∨e.mode=40960)∧(0≤e.size∧e.size≤100000)∧(0≤e.stage∧e.stage≤3):=by
  unfold Aun at h2
  simp at h2
  omega
 obtain ⟨g1,g2,g3⟩:=hg
 have hl:=AHX e h1
 have L:(AH4 e++r).length=ALQ e.path.length+r.length:=by rw [List.length_append,hl]
 have s62:62≤ALQ e.path.length:=by unfold ALQ; omega
 -- the parts
 have cut:∀ (a m z:List UInt8) (i j:Nat),a.length=i→m.length=j - i→Awl (a++m++z) i j=m:=fun a m z i j ha hm=>by
  unfold Awl
  rw [List.append_assoc,←ha,List.drop_left,show j - a.length=m.length by omega,List.take_left]
 have z24:(AuZ 24).length=24:=by simp [AuZ]
 have z8:(AuZ 8).length=8:=by simp [AuZ]
 have c1:Awl (AH4 e++r) 24 28=beN e.mode.toNat 4:=by
  unfold AH4
  rw [show ∀ a b c d f g h i:List UInt8,a++b++c++d++f++g++h++i++r=a++b++(c++d++f++g++h++i++r) from fun a b c d f g h i=>by simp]
  exact cut _ _ _ _ _ z24 (Aur _ _)
 have c2:Awl (AH4 e++r) 36 40=beN e.size.toNat 4:=by
  unfold AH4
  rw [show ∀ a b c d f g h i:List UInt8,a++b++c++d++f++g++h++i++r=(a++b++c)++d++(f++g++h++i++r) from fun a b c d f g h i=>by simp]
  exact cut _ _ _ _ _ (by simp [z24,z8,Aur]) (Aur _ _)
 have c3:Awl (AH4 e++r) 40 60=e.id:=by
  unfold AH4
  rw [show ∀ a b c d f g h i:List UInt8,a++b++c++d++f++g++h++i++r=(a++b++c++d)++f++(g++h++i++r) from fun a b c d f g h i=>by simp]
  exact cut _ _ _ _ _ (by simp [z24,z8,Aur]) (by rw [h1])
 have c4:Awl (AH4 e++r) 60 62=beN (e.stage.toNat*4096+e.path.length) 2:=by
  unfold AH4
  rw [show ∀ a b c d f g h i:List UInt8,a++b++c++d++f++g++h++i++r=(a++b++c++d++f)++g++(h++i++r) from fun a b c d f g h i=>by simp]
  exact cut _ _ _ _ _ (by simp [z24,z8,Aur,h1]) (Aur _ _)
 have c5:Awl (AH4 e++r) 62 (62+e.path.length)=e.path:=by
  unfold AH4
  rw [show ∀ a b c d f g h i:List UInt8,a++b++c++d++f++g++h++i++r=(a++b++c++d++f++g)++h++(i++r) from fun a b c d f g h i=>by simp]
  exact cut _ _ _ _ _ (by simp [z24,z8,Aur,h1]) (by omega)
 have hf:beV (beN (e.stage.toNat*4096+e.path.length) 2)=e.stage.toNat*4096+e.path.length:=by
  rw [AOA]; exact Nat.mod_eq_of_lt (by omega)
 have f1:(e.stage.toNat*4096+e.path.length) % 4096=e.path.length:=by omega
 have f2:(e.stage.toNat*4096+e.path.length) / 4096=e.stage.toNat:=by omega
 have m1:((beV (beN e.mode.toNat 4):Nat):Int)=e.mode:=by
  rw [AOA,Nat.mod_eq_of_lt (by omega)]; omega
 have m2:((beV (beN e.size.toNat 4):Nat):Int)=e.size:=by
  rw [AOA,Nat.mod_eq_of_lt (by omega)]; omega
 unfold AWB
 rw [if_neg (by rw [L]; omega)]
 simp only
 rw [c4,hf,f1,f2,if_neg (by rw [L]; omega),c1,c2,c3,c5,m1,m2]
 have e5:((e.stage.toNat:Nat):Int)=e.stage:=by omega
 have e6:(AH4 e++r).drop (ALQ e.path.length)=r:=by rw [←hl,List.drop_left]
 rw [e5,e6]
def ABg (l:List EnJ):List UInt8:=[68,73,82,67]++beN 2 4++beN l.length 4++(AAu ltJ l).flatMap AH4
def wrJ (pok:List UInt8→Bool) (sha:List UInt8→List UInt8) (l:List EnJ):Option (List UInt8):=if ACS pok l=0 then some (ABg l++sha (ABg l)) else none
end
section
open Go.RowKit
variable [AtQ]
variable {pok:List UInt8→Bool} {sha:List UInt8→List UInt8}
theorem A6Z {l:List EnJ} (h:ACS pok l=0):(∀ e∈l,pok e.path=true)∧(∀ e∈l,Aun e=true)∧ABG l∧∀ x∈l,∀ y∈l,¬ AQf x y:=by
 unfold ACS at h
 split at h
 ·cases h
 rename_i h1
 split at h
 ·rename_i h2
  split at h
  ·cases h
  rename_i h3
  simp only [Bool.and_eq_true,List.all_eq_true,decide_eq_true_eq] at h2
  simp only [List.any_eq_true,not_exists,not_and,Bool.not_eq_true',decide_eq_true_eq] at h1 h3
  exact ⟨fun e he=>by have:=h1 e he; simpa using this,h2.1,h2.2,fun x hx y hy=>by have:=h3 x hx y hy; simpa using this⟩
 ·cases h
def ANV (l:List EnJ):Prop:=∀ e∈l,e.id.length=20
theorem ANV.perm {l m:List EnJ} (h:ANV l) (hp:m.Perm l):ANV m:=fun e he=>h e (hp.mem_iff.1 he)
theorem A5N {l:List EnJ} (h:ANV l):ANV (AAu ltJ l):=h.perm (AuA l)
theorem A7h (l:List EnJ):AAu ltJ (AAu ltJ l)=AAu ltJ l:=(AXq swJ (AOh swJ l).1 (AzJ.refl _)).symm
theorem AYh (l:List EnJ):ABg (AAu ltJ l)=ABg l:=by unfold ABg; rw [A7h,(AuA (lt:=ltJ) l).length_eq]
theorem ARm (l:List EnJ):wrJ pok sha (AAu ltJ l)=wrJ pok sha l:=by unfold wrJ; rw [AYl (AuA (lt:=ltJ) l),AYh]
structure AT1 (pok:List UInt8→Bool) (sha:List UInt8→List UInt8):Prop where
 len:∀ p,pok p=true→p.length≤100
 sha:∀ x,(sha x).length=20
theorem AHY {l:List EnJ} {b:List UInt8} (hp:AT1 pok sha) (hi:ANV l) (h:wrJ pok sha l=some b):b=ABg l++sha (ABg l)∧∀ e∈AAu ltJ l,OkJ e:=by
 unfold wrJ at h
 split at h
 ·rename_i hc
  cases h
  obtain ⟨h1,h2,_⟩:=A6Z hc
  refine ⟨rfl,fun e he => ?_⟩
  have he':=(AuA (lt:=ltJ) l).mem_iff.1 he
  exact ⟨hi e he',h2 e he',hp.len _ (h1 e he')⟩
 ·cases h
theorem AH2 (l:List EnJ):∃ hd,hd.length=12∧ABg l=hd++(AAu ltJ l).flatMap AH4∧hd=[68,73,82,67]++beN 2 4++beN l.length 4:=⟨_,by simp [Aur],rfl,rfl⟩
theorem AUE (a m z:List UInt8) {i j:Nat} (ha:a.length=i) (hm:a.length+m.length=j):Awl (a++m++z) i j=m:=by
 unfold Awl
 rw [List.append_assoc,←ha,List.drop_left,show j - a.length=m.length by omega,List.take_left]
def LIJ (pok:List UInt8→Bool) (sha:List UInt8→List UInt8) (b:List UInt8) (ls:List EnJ) (rest:List UInt8):Prop :=
 ∀ l,ANV l→wrJ pok sha l=some b→∃ ms,AAu ltJ l=ls++ms∧rest=ms.flatMap AH4∧∀ e∈ms,OkJ e
def NoJ (pok:List UInt8→Bool) (sha:List UInt8→List UInt8) (b:List UInt8):Prop:=∀ l,ANV l→wrJ pok sha l≠some b
theorem NoJ.short (hp:AT1 pok sha) {b:List UInt8} (h:b.length<32):NoJ pok sha b:=fun l hi hw=>by
 obtain ⟨rfl,_⟩:=AHY hp hi hw
 obtain ⟨hd,h1,h2,_⟩:=AH2 l
 rw [h2] at h
 simp only [List.length_append,hp.sha,h1] at h
 omega
theorem LIJ.start (hp:AT1 pok sha) (b:List UInt8):LIJ pok sha b [] (Awl b 12 (b.length - 20)):=fun l hi hw=>by
 obtain ⟨rfl,hok⟩:=AHY hp hi hw
 obtain ⟨hd,h1,h2,_⟩:=AH2 l
 refine ⟨AAu ltJ l,rfl,?_,hok⟩
 have h3:=hp.sha (ABg l)
 generalize sha (ABg l)=t at *
 rw [h2]
 exact AUE _ _ _ h1 (by simp only [List.length_append,h3]; omega)
theorem A5R {e:EnJ} (h:OkJ e):AH4 e≠[]:=fun h0=>by
 have:=congrArg List.length h0
 rw [AHX e h.id] at this
 unfold ALQ at this
 simp at this
theorem LIJ.step {b rest r:List UInt8} {ls:List EnJ} {e:EnJ} (h:LIJ pok sha b ls rest) (hne:rest≠[]) (hd:AWB rest=some (e,r)):LIJ pok sha b (ls++[e]) r:=fun l hi hw=>by
 obtain ⟨ms,h1,h2,h3⟩:=h l hi hw
 cases ms with
 | nil=>exact absurd h2 hne
 | cons m ms =>
  rw [h2,List.flatMap_cons,AOd (h3 m (by simp))] at hd
  cases hd
  exact ⟨ms,by rw [h1]; simp,rfl,fun e he=>h3 e (by simp [he])⟩
theorem LIJ.bad {b rest:List UInt8} {ls:List EnJ} (h:LIJ pok sha b ls rest) (hne:rest≠[]) (hd:AWB rest=none):NoJ pok sha b:=fun l hi hw=>by
 obtain ⟨ms,h1,h2,h3⟩:=h l hi hw
 cases ms with
 | nil=>exact absurd h2 hne
 | cons m ms =>
  rw [h2,List.flatMap_cons,AOd (h3 m (by simp))] at hd
  cases hd
theorem LIJ.fin {b:List UInt8} {ls:List EnJ} (h:LIJ pok sha b ls []) {l:List EnJ} (hi:ANV l) (hw:wrJ pok sha l=some b):AAu ltJ l=ls:=by
 obtain ⟨ms,h1,h2,h3⟩:=h l hi hw
 cases ms with
 | nil=>rw [h1]; simp
 | cons m ms =>
  rw [List.flatMap_cons] at h2
  exact absurd (List.append_eq_nil_iff.1 h2.symm).1 (A5R (h3 m (by simp)))
def LDJ (pok:List UInt8→Bool) (sha:List UInt8→List UInt8) (b:List UInt8) (ls:List EnJ) (at_:Nat):Prop :=
 ∀ l,ANV l→wrJ pok sha l=some b→∃ ms,AAu ltJ l=ls++ms∧b.drop at_=ms.flatMap AH4++sha (ABg l)∧∀ e∈ms,OkJ e
theorem LDJ.start (hp:AT1 pok sha) (b:List UInt8):LDJ pok sha b [] 12:=fun l hi hw=>by
 obtain ⟨rfl,hok⟩:=AHY hp hi hw
 obtain ⟨hd,h1,h2,_⟩:=AH2 l
 refine ⟨AAu ltJ l,rfl,?_,hok⟩
 generalize sha (ABg l)=t at *
 rw [h2,List.append_assoc,←h1,List.drop_left]
theorem A9b (hp:AT1 pok sha) {b:List UInt8} {l:List EnJ} (hi:ANV l) (hl:l.length<4294967296) (hw:wrJ pok sha l=some b):beV (Awl b 8 12)=l.length:=by
 obtain ⟨rfl,hok⟩:=AHY hp hi hw
 obtain ⟨hd,h1,h2,h3⟩:=AH2 l
 rw [h2,h3]
 have:Awl (([68,73,82,67]++beN 2 4++beN l.length 4++(AAu ltJ l).flatMap AH4)++sha ([68,73,82,67]++beN 2 4++beN l.length 4++(AAu ltJ l).flatMap AH4)) 8 12=beN l.length 4:=by
  rw [List.append_assoc]
  exact AUE _ _ _ (by simp [Aur]) (by simp [Aur])
 rw [this,AOA,Nat.mod_eq_of_lt hl]
end
section
open Go.RowKit
variable [AtQ]
set_option autoImplicit false
section
variable {t:TypeId} {a b:Nat} {k2:IntKind}
end
theorem AtL {l:List UInt8}:bl (str l)=l:=by simp [bl,str]
theorem A5h {l m:List UInt8}:str l++str m=str (l++m):=by
 apply ByteArray.ext
 simp [str]
theorem A6o {t:TypeId} {l m:List UInt8} (h:l.length+m.length≤9223372036854775807):AyH t .add (.string (str l)) (.string (str m))=some (.string (str (l++m))):=by
 have e1:(str l).size=l.length:=by show l.toArray.size=_; simp
 have e2:(str m).size=m.length:=by show m.toArray.size=_; simp
 rw [←A5h,AyH,binOp_string_add,Op.stringOp]
 simp only [e1,e2]
 rw [if_neg (by show ¬ ((l.length+m.length:Nat):Int) > 9223372036854775807; omega)]
 rfl
end
section
open Go.RowKit
variable [AtQ]
section
variable {t:TypeId} {a b:Nat} {k2:IntKind}
end
end
section
open Go.RowKit
variable [AtQ]
structure APB (H H':List Ob) (id:Nat) (o:Ob):Prop where
 at':H'[id]?=some o
 low:∀ i,i<H.length→i≠id→H'[i]?=H[i]?
 len:H.length≤H'.length
theorem APB.trans {H H1 H2:List Ob} {id:Nat} {o o2:Ob} (h:APB H H1 id o) (k:APB H1 H2 id o2):APB H H2 id o2:=⟨k.at',fun i h1 h2=>(k.low i (Nat.lt_of_lt_of_le h1 h.len) h2).trans (h.low i h1 h2),Nat.le_trans h.len k.len⟩
theorem AUM (n:Nat):∀ (k i:Nat),i≤k→beN n k=(beN n k).take i++beN n (k - i)
 | k,0,_=>by simp
 | 0,i+1,h=>by omega
 | k+1,i+1,h=>by
  have:=AUM n k i (by omega)
  rw [beN,List.take_succ_cons,show k+1 - (i+1)=k - i by omega]
  rw [List.cons_append,←this]
theorem AUT {n k i:Nat} (h:i<k):(beN n k).take (i+1)=(beN n k).take i++[UInt8.ofNat (n / 2 ^ (8*(k - i - 1)))]:=by
 have e1:=AUM n k i (by omega)
 have e2:beN n (k - i)=UInt8.ofNat (n / 256 ^ (k - i - 1))::beN n (k - i - 1):=by
  rw [show k - i=(k - i - 1)+1 by omega,beN]; simp
 have e3:(256:Nat) ^ (k - i - 1)=2 ^ (8*(k - i - 1)):=by rw [Nat.pow_mul]
 have hl:((beN n k).take i).length=i:=by simp [Aur]; omega
 rw [e2,e3] at e1
 conv=>lhs; rw [e1]
 rw [List.take_append,hl,List.take_of_length_le (by omega),show i+1 - i=1 by omega]
 rfl
theorem AEC {α:Type} {z a:α}:(List.replicate 1 z).set 0 a=[a]:=by simp [List.replicate]
theorem A7U {l:List UInt8} {n k:Nat} (hn:n<4611686018427387904) (hk0:0<k) (hk:k≤8) (hl:l.length≤100000000) {id v cp N:Nat} {H:List Ob} (ho:H[id]?=some (.obj v (.arr N 1 (l.map by8)))) {K:TV→List Ob→Prop}
  (hK:∀ H' v',APB H H' id (.obj v' (.arr (l.length+k) 1 ((l++beN n k).map by8)))→K (.os 1 id v' [] 0 (l.length+k) (l.length+k)) H'):Atj Tryd.prog 11 [.os 1 id v [] 0 l.length cp,i64 (n:Int),i64 (k:Int)] H K:=by
 refine ASr (by simp) ?_
 have hid:id<H.length:=(List.getElem?_eq_some_iff.1 ho).1
 simp -dsimp (disch:=first | assumption | omega | (simp only [Ata];try omega)) only [↓Atf,Atb,Atd,Ate,eq_self,Nat.reduceEqDiff,↓reduceIte,Nat.reduceAdd,reduceCtorEq,↓AI9]
 refine At5 (fun c e H'=>∃ (i v' cp' N':Nat),c=k - i∧i≤k∧(0<i→N'=l.length+i∧cp'=l.length+i)∧APB H H' id (.obj v' (.arr N' 1 ((l++(beN n k).take i).map by8))) ∧
  e=[(0,.os 1 id v' [] 0 (l.length+i) cp'),(1,i64 (n:Int)),(2,i64 ((k - i:Nat):Int))]) k ?_ ?_
 ·exact ⟨0,v,cp,N,rfl,by omega,by omega,⟨by simpa using ho,fun _ _ _=>rfl,Nat.le_refl _⟩,rfl⟩
 ·rintro c e H' ⟨i,v',cp',N',rfl,hi,hN,hG,rfl⟩
  obtain ⟨ha,hlow,hlen⟩:=hG
  by_cases h:i<k
  ·have hst:=AUT (n:=n) h
   have hc1:((l++(beN n k).take i).map by8).length=l.length+i:=by simp [Aur]; omega
   have htk:((l++(beN n k).take i).map by8).take (l.length+i)=(l++(beN n k).take i).map by8:=by rw [List.take_of_length_le]; omega
   have hidl:id<H'.length:=by omega
   have hk1:0<k - i:=by omega
   simp -dsimp (disch:=first | assumption | omega | (simp only [Ata];try omega)) only [↓Atf,Atb,Atd,Ate,eq_self,Nat.reduceEqDiff,↓reduceIte,reduceCtorEq,Nat.reduceLeDiff,↓AI9,ha,AEC,hc1]
   have hmap:(l++(beN n k).take i).map by8++[by8 (UInt8.ofNat (n / 2 ^ (8*(k - i - 1))))]=(l++(beN n k).take (i+1)).map by8:=by rw [hst]; simp
   refine Atk (k - (i+1)) (by omega) (by simp; omega) ⟨i+1,v'+1,l.length+i+1,l.length+i+1,rfl,by omega,fun _=>⟨by omega,by omega⟩,⟨?_,fun j h1 h2 => ?_,by simp; omega⟩,by rw [show k - (i+1)=k - i - 1 by omega]; rfl⟩
   ·rw [List.getElem?_append_left (by simpa using hidl),List.getElem?_set_self hidl,←hmap]
   ·rw [List.getElem?_append_left (by simp; omega),List.getElem?_set_ne (Ne.symm h2)]; exact hlow j h1 h2
  ·obtain rfl:i=k:=by omega
   obtain ⟨rfl,rfl⟩:=hN hk0
   rw [List.take_of_length_le (by rw [Aur]; omega)] at ha
   have:=hK H' v' ⟨ha,hlow,hlen⟩
   simp -dsimp (disch:=first | assumption | omega | (simp only [Ata];try omega)) only [↓Atf,Atb,Atd,Ate,eq_self,Nat.reduceEqDiff,↓reduceIte,reduceCtorEq,↓AI9]
   exact this
theorem AXw {l:List UInt8} {n k:Nat} (hn:n<4611686018427387904) (hk0:0<k) (hk:k≤8) (hl:l.length≤100000000) {id v cp N:Nat} {H:List Ob} (ho:H[id]?=some (.obj v (.arr N 1 (l.map by8)))) {K:TV→List Ob→Prop}
  (hK:∀ H' v',APB H H' id (.obj v' (.arr (l.length+k) 1 ((l++beN n k).map by8)))→K (.os 1 id v' [] 0 (l.length+k) (l.length+k)) H'):Atj Tryd.prog 16 [.os 1 id v [] 0 l.length cp,i64 (n:Int),i64 (k:Int)] H K:=by
 refine APH (by simp) ?_
 have hid:id<H.length:=(List.getElem?_eq_some_iff.1 ho).1
 simp -dsimp (disch:=first | assumption | omega | (simp only [Ata];try omega)) only [↓Atf,Atb,Atd,Ate,eq_self,Nat.reduceEqDiff,↓reduceIte,Nat.reduceAdd,reduceCtorEq,↓AEK]
 refine At5 (fun c e H'=>∃ (i v' cp' N':Nat),c=k - i∧i≤k∧(0<i→N'=l.length+i∧cp'=l.length+i)∧APB H H' id (.obj v' (.arr N' 1 ((l++(beN n k).take i).map by8))) ∧
  e=[(0,.os 1 id v' [] 0 (l.length+i) cp'),(1,i64 (n:Int)),(7,i64 (((k - i:Nat):Int) - ((1:Nat):Int)))]) k ?_ ?_
 ·refine ⟨0,v,cp,N,rfl,by omega,by omega,⟨by simpa using ho,fun _ _ _=>rfl,Nat.le_refl _⟩,?_⟩
  rw [show (((k - 0:Nat):Int) - ((1:Nat):Int))=((k - 1:Nat):Int) by omega]; rfl
 ·rintro c e H' ⟨i,v',cp',N',rfl,hi,hN,hG,rfl⟩
  obtain ⟨ha,hlow,hlen⟩:=hG
  by_cases h:i<k
  ·have hst:=AUT (n:=n) h
   have hc1:((l++(beN n k).take i).map by8).length=l.length+i:=by simp [Aur]; omega
   have htk:((l++(beN n k).take i).map by8).take (l.length+i)=(l++(beN n k).take i).map by8:=by rw [List.take_of_length_le]; omega
   have hidl:id<H'.length:=by omega
   have hk1:0<k - i:=by omega
   have hq:(((k - i:Nat):Int) - ((1:Nat):Int))=((k - i - 1:Nat):Int):=by omega
   rw [hq]
   simp -dsimp (disch:=first | assumption | omega | (simp only [Ata];try omega)) only [↓Atf,Atb,Atd,Ate,eq_self,Nat.reduceEqDiff,↓reduceIte,reduceCtorEq,Nat.reduceLeDiff,↓AEK,ha,AEC,hc1]
   have hmap:(l++(beN n k).take i).map by8++[by8 (UInt8.ofNat (n / 2 ^ (8*(k - i - 1))))]=(l++(beN n k).take (i+1)).map by8:=by rw [hst]; simp
   refine Atk (k - (i+1)) (by omega) (by simp; omega) ⟨i+1,v'+1,l.length+i+1,l.length+i+1,rfl,by omega,fun _=>⟨by omega,by omega⟩,⟨?_,fun j h1 h2 => ?_,by simp; omega⟩,by rw [show k - (i+1)=k - i - 1 by omega]; rfl⟩
   ·rw [List.getElem?_append_left (by simpa using hidl),List.getElem?_set_self hidl,←hmap]
   ·rw [List.getElem?_append_left (by simp; omega),List.getElem?_set_ne (Ne.symm h2)]; exact hlow j h1 h2
  ·obtain rfl:i=k:=by omega
   obtain ⟨rfl,rfl⟩:=hN hk0
   rw [List.take_of_length_le (by rw [Aur]; omega)] at ha
   have:=hK H' v' ⟨ha,hlow,hlen⟩
   rw [Nat.sub_self]
   simp -dsimp (disch:=first | assumption | omega | (simp only [Ata];try omega)) only [↓Atf,Atb,Atd,Ate,eq_self,Nat.reduceEqDiff,↓reduceIte,reduceCtorEq,↓AEK]
   exact this
theorem ARU {l:List UInt8} (hl:l.length≤6):beV l<281474976710656:=by
 have h:=AKJ l
 have h2:256 ^ l.length≤256 ^ 6:=Nat.pow_le_pow_right (by decide) hl
 exact Nat.lt_of_lt_of_le h (Nat.le_trans h2 (by decide))
theorem A9o {n x:Nat} (hx:x<256):(n*2 ^ 8 ||| x)=n*256+x:=by
 rw [show n*2 ^ 8=n <<< 8 from by rw [Nat.shiftLeft_eq],←Nat.shiftLeft_add_eq_or_of_lt (by simpa using hx),Nat.shiftLeft_eq]
theorem BcV (l:List UInt8) (hl:l.length≤6):Auk Tryd.prog 38 [slB l] (fun r=>r=i64 ((beV l:Nat):Int)):=by
 refine Atj.toPureV (AOW (by simp) ?_)
 simp -dsimp (disch:=first | assumption | omega | (simp only [Ata];try omega)) only [↓Atf,Atb,Atd,Ate,eq_self,Nat.reduceEqDiff,↓reduceIte,reduceCtorEq,↓AC7]
 refine At5 (fun c e H=>∃ i:Nat,c=l.length - i∧i≤l.length∧e=[(3,i64 ((beV (l.take i):Nat):Int)),(6,slB l),(7,i64 (l.length:Int)),(8,i64 (i:Int))]∧H=[]) l.length ?_ ?_
 ·exact ⟨0,rfl,by omega,rfl,rfl⟩
 ·rintro c e H ⟨i,rfl,hi,rfl,rfl⟩
  by_cases h:i<l.length
  ·obtain ⟨x,hx⟩:∃ x,l[i]?=some x:=⟨_,List.getElem?_eq_getElem h⟩
   have hsucc:l.take (i+1)=l.take i++[x]:=by
    obtain ⟨_,rfl⟩:=List.getElem?_eq_some_iff.1 hx
    exact List.take_succ_eq_append_getElem h
   have hv:beV (l.take (i+1))=beV (l.take i)*256+x.toNat:=by rw [hsucc,AXQ]
   have hb:=ARU (l:=l.take i) (by simp; omega)
   have hxl:=x.toNat_lt
   generalize beV (l.take i)=n at *
   have ho:=A9o (n:=n) hxl
   simp -dsimp (disch:=first | assumption | omega | (simp only [Ata];try omega)) only [↓Atf,Atb,Atd,Ate,eq_self,Nat.reduceEqDiff,Nat.reducePow,↓reduceIte,↓AC7,hx,ho]
   exact Atk (l.length - (i+1)) (by omega) (by simp) ⟨i+1,rfl,by omega,by rw [hv]; rfl,rfl⟩
  ·obtain rfl:i=l.length:=by omega
   rw [List.take_length]
   simp -dsimp (disch:=first | assumption | omega | (simp only [Ata];try omega)) only [↓Atf,Atb,Atd,Ate,eq_self,Nat.reduceEqDiff,↓reduceIte,↓AC7]
theorem Ba8 (l:List UInt8) (hl:l.length≤6):Auk Tryd.prog 40 [slB l] (fun r=>r=i64 ((beV l:Nat):Int)):=by
 refine Atj.toPureV (AQD (by simp) ?_)
 simp -dsimp (disch:=first | assumption | omega | (simp only [Ata];try omega)) only [↓Atf,Atb,Atd,Ate,eq_self,Nat.reduceEqDiff,↓reduceIte,reduceCtorEq,↓AGx]
 refine At5 (fun c e H=>∃ i:Nat,c=l.length - i∧i≤l.length∧e=[(0,slB l),(3,i64 ((beV (l.take i):Nat):Int)),(4,i64 (i:Int))]∧H=[]) l.length ?_ ?_
 ·exact ⟨0,rfl,by omega,rfl,rfl⟩
 ·rintro c e H ⟨i,rfl,hi,rfl,rfl⟩
  by_cases h:i<l.length
  ·obtain ⟨x,hx⟩:∃ x,l[i]?=some x:=⟨_,List.getElem?_eq_getElem h⟩
   have hsucc:l.take (i+1)=l.take i++[x]:=by
    obtain ⟨_,rfl⟩:=List.getElem?_eq_some_iff.1 hx
    exact List.take_succ_eq_append_getElem h
   have hv:beV (l.take (i+1))=beV (l.take i)*256+x.toNat:=by rw [hsucc,AXQ]
   have hb:=ARU (l:=l.take i) (by simp; omega)
   have hxl:=x.toNat_lt
   generalize beV (l.take i)=n at *
   simp -dsimp (disch:=first | assumption | omega | (simp only [Ata];try omega)) only [↓Atf,Atb,Atd,Ate,eq_self,Nat.reduceEqDiff,↓reduceIte,reduceCtorEq,↓AGx,hx]
   exact Atk (l.length - (i+1)) (by omega) (by simp) ⟨i+1,rfl,by omega,by rw [hv]; rfl,rfl⟩
  ·obtain rfl:i=l.length:=by omega
   rw [List.take_length]
   simp -dsimp (disch:=first | assumption | omega | (simp only [Ata];try omega)) only [↓Atf,Atb,Atd,Ate,eq_self,Nat.reduceEqDiff,↓reduceIte,reduceCtorEq,↓AGx]
end
end Go.Proofs.YtnkpoloeifhflaaDoor
