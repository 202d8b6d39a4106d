/- What the proof of DiffAppliesCard stands on (texts merged; names shortened by a program): part 5. -/
import Derived.Test.YtkoilgokgaigbaaGreatDoorQD
import Derived.ProofKit
import Derived.Lib.LaidTab
import Derived.LaidHandle
import Derived.Handed
import Derived.ShapedOpen
import Derived.Shelf.Vars
import Derived.OpenShut
import Derived.ShutString
import Derived.ChangeOld
import Derived.Below
import Derived.Carry
import Derived.SizedLaws
import Derived.Lib.Bytealg
import Derived.WalkKit
import Derived.WalkSpells
import Derived.WalkLawsBesides
import Derived.Lib.Hide
import Derived.Deep.QuietTactic
import Derived.BigQuiet
import Derived.Deep.OwnRows
import Derived.Laws.CopyOwn
import Derived.Lib.ItoaMem
import Derived.Lib.AtoiAll
import Derived.Lib.SlTrimSet
import Derived.Lib.Strings
import Derived.Lib.IndexMore
import Derived.Shelf.Strings.Builder1
import Derived.Shelf.Strings.Builder2
import Derived.Shelf.Strings.OnBuilder
import Derived.Shelf.Strings.Trim
import Derived.Shelf.Small.Utf8
import Derived.Shelf.Small.Strs
import Derived.Shelf.Small.Wraps
import Derived.Shelf.Strconv.Atoi
import Derived.Shelf.Strconv.Itoa0
import Derived.Shelf.Strconv.Itoa1
import Derived.Shelf.LaysM
import Derived.Shelf.Strconv.Itoa2
import Derived.Shelf.Strconv.Itoa3
import Derived.Shelf.Strconv.AtoiErrFast
import Derived.Shelf.Strconv.ParseIntEmpty
import Derived.Shelf.Strconv.AtoiFail
import Derived.Shelf.Strconv.Clone
import Derived.Shelf.Strconv.SyntaxError
import Derived.Shelf.LaysC
import Derived.Shelf.Strconv.ToError
import Derived.Shelf.Strconv.Lower
import Derived.Shelf.Strconv.ParseUint10
import Derived.Shelf.Strconv.ParseUint10Empty
import Derived.Shelf.Strconv.ParseUint10Any
import Derived.Shelf.Strconv.ParseInt10
import Derived.Shelf.Strconv.AtoiLong
import Derived.Shelf.Strconv.AtoiInnerAll
import Derived.Shelf.Strconv.RangeError
import Derived.Shelf.Strconv.ToErrorRange
import Derived.Shelf.Strconv.AtoiAll
import Derived.Shelf.Strings.Search1
import Derived.Shelf.Strings.Search2
import Derived.Shelf.Strings.Cut
import Derived.Shelf.Strings.Shaped
import Derived.Shelf.Strings.Prefix
import Derived.Shelf.Strings.Runes
import Derived.Shelf.Strings.AsciiSet
import Derived.Shelf.Unicode.DecodeSlow
import Derived.Shelf.Bytes.SlIndexAt
import Derived.Shelf.Bytes.IndexByte
import Derived.Test.YtkoilgokgaigbaaGreatDoorProg
import Derived.Shelf.Strings.SlTrimAscii
set_option linter.defProp false
set_option linter.unusedSectionVars false
set_option linter.unusedSimpArgs false
set_option linter.unusedVariables false
namespace Go.Proofs.YtkoilgokgaigbaaGreatDoor
theorem aI_ {a b:Prop} (x:a) (y:b):a∧b:=⟨x,y⟩
section
open Go.RowKit
variable [Bq]
set_option autoImplicit false
universe u
class Tg {α:Sort u} (a:α):Type where
instance tg {α:Sort u} (a:α):Tg a:={}
def vif (t:Bool) (A B:Prop) [Tg A] [Tg B]:Prop:=if t=true then A else B
def BA {α:Type} (o:Option α) (K:α→Prop) [Tg K]:Prop:=match o with | some y=>K y | none=>False
def Dl (A K:Prop) [Tg K]:Prop:=A∧K
def Bz {α:Type} (x:α) (K:α→Prop) [Tg K]:Prop:=K x
def vex (K:TV→Prop) [Tg K]:Prop:=∃ x,K x
def VC (P:Program) (f:FuncId) (xs:List TV) (H:List Ob) (K:TV→List Ob→Prop) [Tg K]:Prop:=Az P f xs H K
def VY (P:Program) (id ver:Nat) (xs:List TV) (H:List Ob) (K:TV→List Ob→Prop) [Tg K]:Prop:=Nq P id ver xs H K
theorem EP {P:Program} {f:FuncId} {xs:List TV} {H:List Ob} {K:TV→List Ob→Prop} (h:Az P f xs H K):VC P f xs H K:=h
section
variable {A A' B K:Prop} {α:Type}
@[congr] theorem An9 {t t':Bool} (h:t=t'):vif t A B=vif t' A B:=by rw [h]
@[congr] theorem AmE {o o':Option α} {K:α→Prop} (h:o=o'):BA o K=BA o' K:=by rw [h]
@[congr] theorem AmC (h:A=A'):Dl A K=Dl A' K:=by rw [h]
@[congr] theorem Amy {x x':α} {K:α→Prop} (h:x=x'):Bz x K=Bz x' K:=by rw [h]
@[congr] theorem Aoj {P:Program} {c:Af} {Q:VEx→Env→List Ob→Prop} {e e':Env} {H H':List Ob} (he:e=e') (hH:H=H'):vwp P c Q e H=vwp P c Q e' H':=by rw [he,hH]
@[congr] theorem Apy {P:Program} {f:FuncId} {xs xs':List TV} {H H':List Ob} {K:TV→List Ob→Prop} (he:xs=xs') (hH:H=H'):VC P f xs H K=VC P f xs' H' K:=by rw [he,hH]
@[congr] theorem Apw {P:Program} {id ver:Nat} {xs xs':List TV} {H H':List Ob} {K:TV→List Ob→Prop} (he:xs=xs') (hH:H=H'):VY P id ver xs H K=VY P id ver xs' H' K:=by rw [he,hH]
theorem Ag8:vif true A B=A:=by simp [vif]
theorem AfA:vif false A B=B:=by simp [vif]
theorem AoO {p:Prop} [Decidable p] (h:p):vif (decide p) A B=A:=by simp [vif,h]
theorem AoL {p:Prop} [Decidable p] (h:¬ p):vif (decide p) A B=B:=by simp [vif,h]
theorem Aj6 {t:Bool}:vif (!t) A B=vif t B A:=by cases t<;>simp [vif]
theorem Xd {p:Prop} [Decidable p] (h1:p→A) (h2:¬ p→B):vif (decide p) A B:=by by_cases h:p<;>simp [vif,h,h1,h2]
theorem Akm {s t:Bool}:vif (s && t) A B=vif s (vif t A B) B:=by cases s<;>simp [vif]
theorem Aot {s t:Bool}:vif (s || t) A B=vif s A (vif t A B):=by cases s<;>simp [vif]
theorem Afh {y:α} {K:α→Prop}:BA (some y) K=K y:=rfl
theorem Aim {β:Type} {f:α→β} {o:Option α} {K:β→Prop}:BA (o.map f) K=BA o fun y=>K (f y):=by cases o<;>rfl
theorem AlP {cs:List α} {i:Nat} {K:α→Prop} (h:i<cs.length):BA cs[i]? K=K cs[i]:=by rw [List.getElem?_eq_getElem h]; rfl
theorem Agg (h:A):Dl A K=K:=by simp [Dl,h]
theorem Aon:Dl True K=K:=by simp [Dl]
theorem Aiu:Dl (A∧B) K=Dl A (Dl B K):=by simp [Dl,and_assoc]
theorem Al0 {x:α} {K:α→Prop}:Bz x K=K x:=rfl
end
def EG:Option Ob→Nat→Option TV
 | some (.obj v x),ver=>if v=ver then some x else none
 | _,_=>none
theorem AhK {v:Nat} {x:TV}:EG (some (.obj v x)) v=some x:=by simp [EG]
section
variable {H l:List Ob} {o:Ob} {n k:Nat}
theorem Anj (h:H.length=n):(H++l)[n]?=l[0]?:=by rw [List.getElem?_append_right (by omega),h,Nat.sub_self]
theorem AlM (h:H.length=n):(H++l)[n+k]?=l[k]?:=by rw [List.getElem?_append_right (by omega)]; congr 1; omega
theorem Aoe (h:n<H.length):(H++l)[n]?=H[n]?:=List.getElem?_append_left h
theorem AmQ (h:n<H.length):(H.set n o)[n]?=some o:=by simp [h]
theorem Afi {m:Nat} (h:m≠n):(H.set m o)[n]?=H[n]?:=by rw [List.getElem?_set_ne h]
theorem AkI (h:H.length=n):(H++l).set n o=H++l.set 0 o:=by rw [List.set_append_right _ _ (by omega),h,Nat.sub_self]
theorem AhU (h:H.length=n):(H++l).set (n+k) o=H++l.set k o:=by rw [List.set_append_right _ _ (by omega)]; congr 2; omega
theorem Ako (h:n<H.length):(H++l).set n o=H.set n o++l:=List.set_append_left _ _ h
end
section
variable {P:Program} {e:Env} {H:List Ob}
def Afu (c a b:TV) (K:TV→Prop) [Tg K]:Prop:=match c with | .val (.bool t)=>K (if t then a else b) | _=>False
def Apt (t:TypeId) (op:BinOp) (x y:TV) (K:TV→Prop) [Tg K]:Prop:=match x,y with
  | .val u,.val v=>AhD u v=true∧(match G5 t op u v with | some r=>K (.val r) | none=>False)
  | _,_=>False
def Pun (op:UnOp) (x:TV) (K:TV→Prop) [Tg K]:Prop:=match x with
  | .val u=>(match unV op u with | some r=>K (.val r) | none=>False)
  | _=>False
def Aie (k:IntKind) (x:TV) (K:TV→Prop) [Tg K]:Prop:=match x with
  | .val (.int _ n)=>K (.val (.int k (k.wrap n)))
  | _=>False
def Apz (x:TV) (K:TV→Prop) [Tg K]:Prop:=match x with
  | .val (.string s)=>K (.val (.string s))
  | _=>False
def ApB (x:Option (List TV)) (K:TV→Prop) [Tg K]:Prop:=match x with
  | some cs=>(∀ y∈cs,AdN y)∧K (.val (.string (str (cs.map VZ))))
  | none=>False
def AbE (H:List Ob) (ag:Bool) (sz:Nat) (x:TV) (K:TV→Prop) [Tg K]:Prop:=match x with
  | .fp y=>YF ag sz y∧K y
  | .op id ver p=>(match H[id]? with
   | some (.obj v x)=>v=ver∧(match IY p x with | some y=>YF ag sz y∧K y | none=>False)
   | _=>False)
  | _=>False
def U7 (i off:Nat) (x:TV) (K:TV→Prop) [Tg K]:Prop:=match x with
  | .op id ver p=>K (.op id ver (p++[(i,off)]))
  | .fp (.agg cs)=>BQ (cs.take i)=off∧(match cs[i]? with | some y=>K (.fp y) | none=>False)
  | _=>False
def AaV (ag:Bool) (sz i off:Nat) (x:TV) (K:TV→Prop) [Tg K]:Prop:=match x with
  | .agg cs=>BQ (cs.take i)=off∧(match cs[i]? with | some y=>YF ag sz y∧K y | none=>False)
  | _=>False
def Adv (k:Nat) (x i:TV) (K:TV→Prop) [Tg K]:Prop:=match x,i with
  | .sl k' cs,.val (.int _ j)=>k'=k∧0≤j∧(match cs[j.toNat]? with | some y=>K (.fp y) | none=>False)
  | .os k' id ver p off n cp,.val (.int _ j)=>k'=k∧0≤j∧j<n∧K (.op id ver (p++[(off+j.toNat,(off+j.toNat)*k)]))
  | _,_=>False
def Yv (n k:Nat) (x i:TV) (K:TV→Prop) [Tg K]:Prop:=match x,i with
  | .fp (.arr n' k' cs),.val (.int _ j)=>k'=k∧n'=n∧0≤j∧(match cs[j.toNat]? with | some y=>K (.fp y) | none=>False)
  | .op id ver p,.val (.int _ j)=>0≤j∧j<n∧K (.op id ver (p++[(j.toNat,j.toNat*k)]))
  | _,_=>False
def Aph (ag:Bool) (n k:Nat) (x i:TV) (K:TV→Prop) [Tg K]:Prop:=match x,i with
  | .arr n' k' cs,.val (.int _ j)=>k'=k∧n'=n∧0≤j∧(match cs[j.toNat]? with | some y=>YF ag k y∧K y | none=>False)
  | _,_=>False
def Ae4 (x i:TV) (K:TV→Prop) [Tg K]:Prop:=match x,i with
  | .val (.string s),.val (.int _ j)=>0≤j∧(match (bl s)[j.toNat]? with | some b=>K (by8 b) | none=>False)
  | _,_=>False
def Anm (i:Nat) (x:TV) (K:TV→Prop) [Tg K]:Prop:=match x with
  | .tup xs=>(match xs[i]? with | some y=>K y | none=>False)
  | _=>False
def Agx (x:TV) (K:TV→Prop) [Tg K]:Prop:=match x with
  | .val (.string s)=>K (.val (.int .i64 (bl s).length))
  | _=>False
def Adx (x:TV) (K:TV→Prop) [Tg K]:Prop:=match x with
  | .val (.slice _ n _)=>K (.val (.int .i64 n))
  | .sl _ cs=>K (.val (.int .i64 cs.length))
  | .os _ _ _ _ _ n _=>K (.val (.int .i64 n))
  | _=>False
def Y0 (lo hi:Option TV) (len lim:Nat) (K:Nat→Nat→Prop) [Tg K]:Prop :=
 match (match lo with | none=>some 0 | some x=>(match x with | .val (.int _ i)=>some i | _=>none)),(match hi with | none=>some (len:Int) | some x=>(match x with | .val (.int _ i)=>some i | _=>none)) with
 | some l,some h=>(0≤l∧l≤h∧h≤lim)∧K l.toNat h.toNat
 | _,_=>False
def evO (e:Env):Option Opd→Option TV
 | none=>none
 | some x=>some (x.ev e)
theorem Ajg:evO e none=none:=Aa rfl
theorem AgG {x:Opd}:evO e (some x)=some (x.ev e):=Aa rfl
theorem AeA {lo hi:Option Opd} {len lim:Nat} {K:Nat→Nat→Prop}:bnd e lo hi len lim K=Y0 (evO e lo) (evO e hi) len lim K:=by
 cases lo<;>cases hi<;>rfl
def Apx (x:TV) (lo hi:Option TV) (K:TV→Prop) [Tg K]:Prop:=match x with
  | .val (.string s)=>Y0 lo hi (bl s).length (bl s).length fun l h=>K (.val (.string (str (((bl s).drop l).take (h - l)))))
  | _=>False
def AmG (k:Nat) (x:TV) (lo hi:Option TV) (K:TV→Prop) [Tg K]:Prop:=match x with
  | .sl k' cs=>k'=k∧Y0 lo hi cs.length cs.length fun l h=>K (.sl k ((cs.drop l).take (h - l)))
  | .os k' id ver p off n cp=>k'=k∧Y0 lo hi n cp fun l h=>K (.os k id ver p (off+l) (h - l) (cp - l))
  | .val (.slice ad 0 0)=>Y0 lo hi 0 0 fun l h=>K (.val (.slice ad 0 0))
  | _=>False
def AmF (H:List Ob) (n k:Nat) (x:TV) (lo hi:Option TV) (K:TV→Prop) [Tg K]:Prop:=match x with
  | .fp (.arr n' k' cs)=>k'=k∧n'=n∧n≤9223372036854775807∧Y0 lo hi n n fun l h=>K (.sl k ((cs.drop l).take (h - l)))
  | .op id ver p=>(match H[id]? with
   | some (.obj v x)=>v=ver∧n≤9223372036854775807∧(match IY p x with | some (.arr n' k' cs)=>k'=k∧n'=n∧Y0 lo hi n n fun l h=>K (.os k id ver p l (h - l) (n - l)) | _=>False)
   | _=>False)
  | _=>False
def AcH (t:TypeId) (x:TV) (K:TV→Prop) [Tg K]:Prop:=lays x=true∧K (.ifc t x)
def Ank (f:Fn) (first caps:List TV) (K:TV→Prop) [Tg K]:Prop:=(∀ x∈first++caps,CP x=false)∧K (.fn f first caps)
def Aa1 (x:TV) (K:TV→Prop) [Tg K]:Prop:=match x with
  | .op id ver p=>K (.op id ver p)
  | .fp y=>K (.fp y)
  | .fn (.func f) a b=>K (.fn (.func f) a b)
  | .ifc t y=>K (.ifc t y)
  | .val (.func (.func f) a b)=>K (.val (.func (.func f) a b))
  | _=>False
def ApN (x y:TV) (K:TV→Prop) [Tg K]:Prop:=match x,y with
  | .val (.int k a),.val (.int _ b)=>K (.val (.int k (if b<a then b else a)))
  | _,_=>False
def Apu (x y:TV) (K:TV→Prop) [Tg K]:Prop:=match x,y with
  | .val (.int k a),.val (.int _ b)=>K (.val (.int k (if b > a then b else a)))
  | _,_=>False
def XN (g:GOp) (H:List Ob) (xs:List TV) (K:TV→Prop) [Tg K]:Prop:=match gev g H xs with
  | some y=>K y
  | none=>False
def Am7 (neg:Bool) (x y:TV) (K:TV→Prop) [Tg K]:Prop:=match x,y with
  | .val (.bool a),.val (.bool b)=>K (.val (.bool (xor neg (a == b))))
  | _,_=>False
def AoY (neg:Bool) (x y:Option Bool) (K:TV→Prop) [Tg K]:Prop:=match x,y with
  | some true,some b=>K (.val (.bool (xor neg b)))
  | some false,some true=>K (.val (.bool (xor neg false)))
  | _,_=>False
def Aak (H:List Ob) (sz:Nat) (x v:TV) (K:TV→List Ob→Prop) [Tg K]:Prop:=(lays v=true∧AP v=sz)∧(match x with
  | .op id ver p=>(match H[id]? with
   | some (.obj vr y)=>vr=ver∧(match Ri p y v with | some y'=>K .any (H.set id (.obj ver y')) | none=>False)
   | _=>False)
  | _=>False)
def ApD (H:List Ob) (k bytes:Nat) (z l c:TV) (K:TV→List Ob→Prop) [Tg K]:Prop:=match l,c with
  | .val (.int _ l),.val (.int _ c)=>(0≤l∧l≤c∧(bytes:Int)*c≤281474976710656∧c≤9223372036854775807)∧K (.os k H.length 0 [] 0 l.toNat c.toNat) (H++[.obj 0 (.arr c.toNat k (List.replicate c.toNat z))])
  | _,_=>False
def AlH (k bytes:Nat) (et:TypeId) (x:TV) (y:Option (List TV)) (H:List Ob) (K:TV→List Ob→Prop) [Tg K]:Prop:=match y with
  | some ys=>Aao k bytes et x ys H K
  | none=>False
def Aa6 (k:Nat) (x:TV) (y:Option (List TV)) (H:List Ob) (K:TV→List Ob→Prop) [Tg K]:Prop:=match y with
  | some ys=>QH k x ys H K
  | none=>False
def Aig (et:TypeId) (x y:TV) (H:List Ob) (K:TV→List Ob→Prop) [Tg K]:Prop:=match y with
  | .val (.string s)=>Aao 1 1 et x ((bl s).map by8) H K
  | _=>False
def Ab6 (x y:TV) (H:List Ob) (K:TV→List Ob→Prop) [Tg K]:Prop:=match y with
  | .val (.string s)=>QH 1 x ((bl s).map by8) H K
  | _=>False
def AiA (P:Program) (f:FuncId) (x:Option (Nat×Nat×List UInt8)) (H:List Ob) (K:TV→List Ob→Prop) [Tg K]:Prop:=AqC P f∧(match x with
  | some (j,v,l)=>l.length≤9223372036854775807∧K (.val (.string (str l))) (H.set j (.gone v))
  | none=>False)
def ApG (H:List Ob) (x:TV) (K:TV→List Ob→Prop) [Tg K]:Prop:=match x with
  | .val (.string s)=>(bl s).length≤9223372036854775807∧K (.os 1 H.length 0 [] 0 (bl s).length (bl s).length) (H++[.obj 0 (.arr (bl s).length 1 ((bl s).map by8))])
  | _=>False
def Ah1 (k bytes:Nat) (z x n:TV) (H:List Ob) (K:TV→List Ob→Prop) [Tg K]:Prop:=match x,n with
  | .val (.slice none 0 0),.val (.int .i64 j)=>(0≤j∧(bytes:Int)*j≤140737488355328∧j≤9223372036854775807)∧K (.os k H.length 0 [] 0 j.toNat j.toNat) (H++[.obj 0 (.arr j.toNat k (List.replicate j.toNat z))])
  | _,_=>False
def AdL (H:List Ob) (K:TV→List Ob→Prop) [Tg K]:Prop:=K (.val (.bool true)) H∧K (.val (.bool false)) H
def AjS (neg:Bool) (x:TV) (H:List Ob) (K:TV→List Ob→Prop) [Tg K]:Prop:=match x with
  | .val (.slice a _ _)=>K (.val (.bool (xor neg a.isNone))) H
  | .sl _ cs=>(cs=[]→K (.val (.bool true)) H∧K (.val (.bool false)) H)∧(cs≠[]→K (.val (.bool neg)) H)
  | .os _ _ _ _ _ n _=>(n=0→K (.val (.bool true)) H∧K (.val (.bool false)) H)∧(n≠0→K (.val (.bool neg)) H)
  | _=>False
def YA (P:Program) (x:TV) (args:List TV) (H:List Ob) (K:TV→List Ob→Prop) [Tg K]:Prop:=match x with
  | .fn (.func f) first caps=>VJ P f=true∧Az P f (first++args++caps) H K
  | .val (.func (.func f) xs ys)=>(xs.isEmpty && ys.isEmpty)=true∧VJ P f=true∧Az P f args H K
  | .yl id ver=>Nq P id ver args H K
  | _=>False
def Apn (P:Program) (nm:String) (x:TV) (args:List TV) (H:List Ob) (K:TV→List Ob→Prop) [Tg K]:Prop:=ApK P nm H x fun f r=>Az P f (r::args) H K
def Amw (P:Program) (q:Option (FuncId×Option (Bool×Nat))) (r:TV) (args:List TV) (H:List Ob) (K:TV→List Ob→Prop) [Tg K]:Prop:=match q with
 | some (f,none)=>VJ P f=true∧Az P f (r::args) H K
 | some (f,some (ag,sz))=>VJ P f=true∧ldT H ag sz r fun y=>Az P f (y::args) H K
 | none=>False
def Gd (q:Option Bool) (b:Bool) (A B:Prop) [Tg A] [Tg B]:Prop:=match q with
 | some t=>if t=b then A else B
 | none=>B
def evs (e:Env) (xs:List Opd):List TV:=xs.map (·.ev e)
theorem Alb:evs e []=[]:=Aa rfl
theorem AiL {x:Opd} {xs:List Opd}:evs e (x::xs)=x.ev e::evs e xs:=Aa rfl
def Qj (xs:List TV):Prop:=∀ x∈xs,CP x=false
theorem AdX:Qj []=True:=by simp [Qj]
theorem AdJ {x:TV} {xs:List TV}:Qj (x::xs)=(CP x=false∧Qj xs):=by simp [Qj]
theorem MX {args:List Opd}:(∀ x∈args,CP (x.ev e)=false)=Qj (evs e args):=by simp [Qj,evs]
section
variable {c c' a a' b b' x x' y y':TV} {K:TV→Prop} {KK:TV→List Ob→Prop} {lo lo' hi hi':Option TV} {ox ox':Option (List TV)} {q q' q2 q2':Option Bool} {xs xs':List TV} {A B:Prop} {H':List Ob}
@[congr] theorem Aqr (h1:c=c') (h2:a=a') (h3:b=b'):Afu c a b K=Afu c' a' b' K:=by rw [h1,h2,h3]
@[congr] theorem Asm {t:TypeId} {op:BinOp} (h1:x=x') (h2:y=y'):Apt t op x y K=Apt t op x' y' K:=by rw [h1,h2]
@[congr] theorem AsN {op:UnOp} (h1:x=x'):Pun op x K=Pun op x' K:=by rw [h1]
@[congr] theorem Aqv {k:IntKind} (h1:x=x'):Aie k x K=Aie k x' K:=by rw [h1]
@[congr] theorem Asn (h1:x=x'):Apz x K=Apz x' K:=by rw [h1]
@[congr] theorem Asu (h1:ox=ox'):ApB ox K=ApB ox' K:=by rw [h1]
@[congr] theorem AqK {ag:Bool} {sz:Nat} (h1:x=x') (h2:H=H'):AbE H ag sz x K=AbE H' ag sz x' K:=by rw [h1,h2]
@[congr] theorem Am4 {i o:Nat} (h1:x=x'):U7 i o x K=U7 i o x' K:=by rw [h1]
@[congr] theorem ApI {ag:Bool} {sz i o:Nat} (h1:x=x'):AaV ag sz i o x K=AaV ag sz i o x' K:=by rw [h1]
@[congr] theorem Arx {k:Nat} (h1:x=x') (h2:y=y'):Adv k x y K=Adv k x' y' K:=by rw [h1,h2]
@[congr] theorem ApH {n k:Nat} (h1:x=x') (h2:y=y'):Yv n k x y K=Yv n k x' y' K:=by rw [h1,h2]
@[congr] theorem AsI {ag:Bool} {n k:Nat} (h1:x=x') (h2:y=y'):Aph ag n k x y K=Aph ag n k x' y' K:=by rw [h1,h2]
@[congr] theorem Aqm (h1:x=x') (h2:y=y'):Ae4 x y K=Ae4 x' y' K:=by rw [h1,h2]
@[congr] theorem Asi {i:Nat} (h1:x=x'):Anm i x K=Anm i x' K:=by rw [h1]
@[congr] theorem Aq1 (h1:x=x'):Agx x K=Agx x' K:=by rw [h1]
@[congr] theorem AqF (h1:x=x'):Adx x K=Adx x' K:=by rw [h1]
@[congr] theorem Asg {n m:Nat} {K:Nat→Nat→Prop} {n' m':Nat} (h1:lo=lo') (h2:hi=hi') (h3:n=n') (h4:m=m'):Y0 lo hi n m K=Y0 lo' hi' n' m' K:=by rw [h1,h2,h3,h4]
@[congr] theorem Asa (h1:x=x') (h2:lo=lo') (h3:hi=hi'):Apx x lo hi K=Apx x' lo' hi' K:=by rw [h1,h2,h3]
@[congr] theorem Asj {k:Nat} (h1:x=x') (h2:lo=lo') (h3:hi=hi'):AmG k x lo hi K=AmG k x' lo' hi' K:=by rw [h1,h2,h3]
@[congr] theorem AsH {n k:Nat} (h0:H=H') (h1:x=x') (h2:lo=lo') (h3:hi=hi'):AmF H n k x lo hi K=AmF H' n k x' lo' hi' K:=by rw [h0,h1,h2,h3]
@[congr] theorem ApP {t:TypeId} (h1:x=x'):AcH t x K=AcH t x' K:=by rw [h1]
@[congr] theorem AsG {f:Fn} {ys ys':List TV} (h1:xs=xs') (h2:ys=ys'):Ank f xs ys K=Ank f xs' ys' K:=by rw [h1,h2]
@[congr] theorem Ar0 (h1:x=x'):Aa1 x K=Aa1 x' K:=by rw [h1]
@[congr] theorem Asf (h1:x=x') (h2:y=y'):ApN x y K=ApN x' y' K:=by rw [h1,h2]
@[congr] theorem Ass (h1:x=x') (h2:y=y'):Apu x y K=Apu x' y' K:=by rw [h1,h2]
@[congr] theorem Asp {g:GOp} {xs xs':List TV} (h1:H=H') (h2:xs=xs'):XN g H xs K=XN g H' xs' K:=by rw [h1,h2]
@[congr] theorem Asw {n:Bool} (h1:x=x') (h2:y=y'):Am7 n x y K=Am7 n x' y' K:=by rw [h1,h2]
@[congr] theorem AsE {n:Bool} (h1:q=q') (h2:q2=q2'):AoY n q q2 K=AoY n q' q2' K:=by rw [h1,h2]
@[congr] theorem ApR {sz:Nat} (h0:H=H') (h1:x=x') (h2:y=y'):Aak H sz x y KK=Aak H' sz x' y' KK:=by rw [h0,h1,h2]
@[congr] theorem Asq {k n:Nat} {z:TV} (h0:H=H') (h1:x=x') (h2:y=y'):ApD H k n z x y KK=ApD H' k n z x' y' KK:=by rw [h0,h1,h2]
@[congr] theorem Aso {k n:Nat} {et:TypeId} (h0:H=H') (h1:x=x') (h2:ox=ox'):AlH k n et x ox H KK=AlH k n et x' ox' H' KK:=by rw [h0,h1,h2]
@[congr] theorem ArL {k:Nat} (h0:H=H') (h1:x=x') (h2:ox=ox'):Aa6 k x ox H KK=Aa6 k x' ox' H' KK:=by rw [h0,h1,h2]
@[congr] theorem Arj {et:TypeId} (h0:H=H') (h1:x=x') (h2:y=y'):Aig et x y H KK=Aig et x' y' H' KK:=by rw [h0,h1,h2]
@[congr] theorem ApF (h0:H=H') (h1:x=x') (h2:y=y'):Ab6 x y H KK=Ab6 x' y' H' KK:=by rw [h0,h1,h2]
@[congr] theorem AqV {P:Program} {f:FuncId} {r r':Option (Nat×Nat×List UInt8)} (h0:H=H') (h1:r=r'):AiA P f r H KK=AiA P f r' H' KK:=by rw [h0,h1]
@[congr] theorem Aqh {k n:Nat} {z:TV} (h0:H=H') (h1:x=x') (h2:y=y'):Ah1 k n z x y H KK=Ah1 k n z x' y' H' KK:=by rw [h0,h1,h2]
@[congr] theorem AsA {n:Bool} (h0:H=H') (h1:x=x'):AjS n x H KK=AjS n x' H' KK:=by rw [h0,h1]
@[congr] theorem Arh (h0:H=H'):AdL H KK=AdL H' KK:=by rw [h0]
@[congr] theorem Ase (h0:H=H') (h1:x=x'):ApG H x KK=ApG H' x' KK:=by rw [h0,h1]
@[congr] theorem ApC (h0:H=H') (h1:x=x') (h2:xs=xs'):YA P x xs H KK=YA P x' xs' H' KK:=by rw [h0,h1,h2]
@[congr] theorem Asv {P:Program} {nm:String} (h0:H=H') (h1:x=x') (h2:xs=xs'):Apn P nm x xs H KK=Apn P nm x' xs' H' KK:=by rw [h0,h1,h2]
@[congr] theorem Asl {P:Program} {g g':Option (FuncId×Option (Bool×Nat))} (h:g=g') (h0:H=H') (h1:x=x') (h2:xs=xs'):Amw P g x xs H KK=Amw P g' x' xs' H' KK:=by rw [h,h0,h1,h2]
@[congr] theorem As6 {b:Bool} (h1:q=q'):Gd q b A B=Gd q' b A B:=by rw [h1]
end
section
variable {K:TV→Prop} {KK:TV→List Ob→Prop} {x y i a b c:Opd} {lo hi:Option Opd}
theorem Ap9:pop (.mov x) e H K=Bz (x.ev e) K:=Aa rfl
theorem Apc:pop (.pick c a b) e H K=Afu (c.ev e) (a.ev e) (b.ev e) K:=Aa rfl
theorem Ap8 {t:TypeId} {op:BinOp}:pop (.bin t op x y) e H K=Apt t op (x.ev e) (y.ev e) K:=Aa rfl
theorem AsW {op:UnOp}:pop (.un op x) e H K=Pun op (x.ev e) K:=Aa rfl
theorem Aor {k:IntKind}:pop (.conv k x) e H K=Aie k (x.ev e) K:=Aa rfl
theorem Aq9:pop (.s2s x) e H K=Apz (x.ev e) K:=Aa rfl
theorem Aru:pop (.b2s x) e H K=ApB (BL H 1 (x.ev e)) K:=Aa rfl
theorem AoN {ag:Bool} {sz:Nat}:pop (.load ag sz x) e H K=AbE H ag sz (x.ev e) K:=Aa rfl
theorem AjA {n o:Nat}:pop (.fieldA n o x) e H K=U7 n o (x.ev e) K:=Aa rfl
theorem Al9 {ag:Bool} {sz n o:Nat}:pop (.field ag sz n o x) e H K=AaV ag sz n o (x.ev e) K:=Aa rfl
theorem AoZ {k:Nat}:pop (.idxA k x i) e H K=Adv k (x.ev e) (i.ev e) K:=Aa rfl
theorem AlK {n k:Nat}:pop (.idxAA n k x i) e H K=Yv n k (x.ev e) (i.ev e) K:=Aa rfl
theorem Ap2 {ag:Bool} {n k:Nat}:pop (.idx ag n k x i) e H K=Aph ag n k (x.ev e) (i.ev e) K:=Aa rfl
theorem AoC:pop (.idxS x i) e H K=Ae4 (x.ev e) (i.ev e) K:=Aa rfl
theorem Ap4 {n:Nat}:pop (.ext n x) e H K=Anm n (x.ev e) K:=Aa rfl
theorem Anx:pop (.lenS x) e H K=Agx (x.ev e) K:=Aa rfl
theorem AmP:pop (.lenV x) e H K=Adx (x.ev e) K:=Aa rfl
theorem AqI:pop (.slS x lo hi) e H K=Apx (x.ev e) (evO e lo) (evO e hi) K:=by
 show (match x.ev e with | .val (.string s)=>bnd e lo hi (bl s).length (bl s).length fun l h=>K (.val (.string (str (((bl s).drop l).take (h - l))))) | _=>False)=_
 simp only [AeA]; rfl
theorem ArE {k:Nat}:pop (.slV k x lo hi) e H K=AmG k (x.ev e) (evO e lo) (evO e hi) K:=by
 rw [ApX]; simp only [AeA]; rfl
theorem Aq6 {n k:Nat}:pop (.slA n k x lo hi) e H K=AmF H n k (x.ev e) (evO e lo) (evO e hi) K:=by
 rw [Aqu]; simp only [AeA]; rfl
theorem AkW {t:TypeId}:pop (.iface t x) e H K=AcH t (x.ev e) K:=Aa rfl
theorem Aqk {f:Fn} {xs ys:List Opd}:pop (.mkf f xs ys) e H K=Ank f (evs e xs) (evs e ys) K:=by
 rw [ArM]; unfold Ank evs; rw [←List.map_append]
 refine congrArg (· ∧ _) (propext ⟨fun h y hy => ?_,fun h y hy=>h _ (List.mem_map.2 ⟨y,hy,rfl⟩)⟩)
 obtain ⟨z,hz,rfl⟩:=List.mem_map.1 hy; exact h z hz
theorem AmX:pop (.nilc x) e H K=Aa1 (x.ev e) K:=Aa rfl
theorem Arr:pop (.min x y) e H K=ApN (x.ev e) (y.ev e) K:=Aa rfl
theorem ApZ:pop (.max x y) e H K=Apu (x.ev e) (y.ev e) K:=Aa rfl
theorem Aq3 {g:GOp} {xs:List Opd}:pop (.gen g xs) e H K=XN g H (evs e xs) K:=Aa rfl
theorem Aqi {n:Bool}:pop (.eqB x y n) e H K=Am7 n (x.ev e) (y.ev e) K:=Aa rfl
theorem AqJ {kd:Nat} {n:Bool}:pop (.eqN kd x y n) e H K=AoY n (Dw kd (x.ev e)) (Dw kd (y.ev e)) K:=Aa rfl
theorem Alj {zs:List TV} {szs:List Nat} {ps:List (Nat×Opd)}:pop (.build zs szs ps) e H K=Dl (DD e szs ps) (Bz (TV.agg (Ee e zs ps)) K):=Aa rfl
theorem AgM {n k:Nat} {zs:List TV} {ps:List (Nat×Opd)}:pop (.buildA n k zs ps) e H K=Dl (DD e (List.replicate n k) ps) (Dl (BD e ps) (Bz (TV.arr n k (Ee e zs ps)) K)):=Aa rfl
theorem ArQ {k n:Nat} {z:TV} {ps:List (Nat×Opd)}:pop (.bsl k n z ps) e H K=Dl (DD e (List.replicate n k) ps) (Dl (BD e ps∧n≤1000) (Bz (TV.sl k (Ee e (List.replicate n z) ps)) K)):=by
 show ((_∧_∧_)∧_)=_
 simp only [Dl,Bz,and_assoc]
theorem Akt {z:TV}:sop P (.alloc z) e H KK=Bz (H.length) fun n=>Bz (H++[.obj 0 z]) fun H'=>KK (.op n 0 []) H':=Aa rfl
theorem Ag9 {z:TV} {t:TypeId}:sop P (.allocT z t) e H KK=Bz (H.length) fun n=>Bz (AP z) fun m=>Bz (H++[.obj 0 z,.fact n 0 t m]) fun H'=>KK (.op n 0 []) H':=Aa rfl
theorem Aom {t:TypeId}:sop P (.boxT x t) e H KK=Bz (x.ev e) fun v=>Dl (lays v=true) (Bz (H.length) fun n=>Bz (AP v) fun m=>Bz (H++[.obj 0 v,.fact n 0 t m]) fun H'=>KK (.op n 0 []) H'):=Aa rfl
theorem AmH {f:FuncId}:sop P (.bstr f x) e H KK=AiA P f (Ady H (x.ev e)) H KK:=Aa rfl
def Aiy (x:TV) (H:List Ob) (K:TV→List Ob→Prop) [Tg K]:Prop:=match x with
 | .val (.string s)=>K (.op H.length 0 []) (H++[.sit (bl s) 0])
 | _=>False
@[congr] theorem Aq8 {x x':TV} {H':List Ob} (h1:x=x') (h2:H=H'):Aiy x H KK=Aiy x' H' KK:=by rw [h1,h2]
theorem AoE:sop P (.rngS x) e H KK=Aiy (x.ev e) H KK:=Aa rfl
theorem AiI {s:ByteArray}:Aiy (.val (.string s)) H KK=Bz H.length fun n=>Bz (H++[.sit (bl s) 0]) fun H'=>KK (.op n 0 []) H':=Aa rfl
def Ae9:Option Ob→Option (List UInt8×Nat)
 | some (.sit s pos)=>some (s,pos)
 | _=>none
theorem Ahr {s:List UInt8} {pos:Nat}:Ae9 (some (.sit s pos))=some (s,pos):=Aa rfl
def Af8 (x:TV) (H:List Ob) (K:TV→List Ob→Prop) [Tg K]:Prop:=match x with
 | .op id 0 []=>(match H[id]? with
  | some (.sit s pos)=>if pos<s.length then K (.tup [.val (.bool true),.val (.int .i64 (pos:Int)),.val (.int .i32 ((Utf8.decode (str s) pos).1:Int))]) (H.set id (.sit s (pos+(Utf8.decode (str s) pos).2))) else K (.tup [.val (.bool false)]) H
  | _=>False)
 | _=>False
@[congr] theorem AqQ {x x':TV} {H':List Ob} (h1:x=x') (h2:H=H'):Af8 x H KK=Af8 x' H' KK:=by rw [h1,h2]
theorem AnH:sop P (.nxtS x) e H KK=Af8 (x.ev e) H KK:=Aa rfl
theorem Ahm {id:Nat}:Af8 (.op id 0 []) H KK=BA (Ae9 H[id]?) fun p=>vif (decide (p.2<p.1.length))
  (Bz (H.set id (.sit p.1 (p.2+(Utf8.decode (str p.1) p.2).2))) fun H'=>KK (.tup [.val (.bool true),.val (.int .i64 (p.2:Int)),.val (.int .i32 ((Utf8.decode (str p.1) p.2).1:Int))]) H') (KK (.tup [.val (.bool false)]) H):=by
 unfold Af8
 cases h:H[id]? with
 | none=>simp [Ae9,BA,h]
 | some o =>
  cases o with
  | sit s pos=>simp only [h,Ae9,BA,Bz]; by_cases hp:pos<s.length<;>simp [vif,hp]
  | _=>simp [Ae9,BA,h]
theorem Aqa:sop P (.box x) e H KK=Bz (x.ev e) fun v=>Dl (lays v=true) (Bz (H.length) fun n=>Bz (H++[.obj 0 v]) fun H'=>KK (.op n 0 []) H'):=Aa rfl
theorem Agy {k n:Nat} {z:TV} {ps:List (Nat×Opd)}:sop P (.bslice k n z ps) e H KK=Dl (DD e (List.replicate n k) ps) (Dl (BD e ps∧n≤1000) (Bz H.length fun m=>Bz (H++[.obj 0 (.arr n k (Ee e (List.replicate n z) ps))]) fun H'=>KK (.os k m 0 [] 0 n n) H')):=by
 rw [Aik]; simp only [Dl,Bz,and_assoc]
def Wq (kk:MK):Option Ob→Option (List (List UInt8×TV))
 | some (.mpo kk' es)=>if kk'=kk then some es else none
 | _=>none
def Xt (kk:MK):Option Ob→Option (List (List UInt8×TV))
 | some (.mpo kk' es)=>if kk'=kk then some es else none
 | some (.mpd kk' zs _)=>if kk'=kk then some (zs.map (·.2)) else none
 | _=>none
theorem Air {kk:MK} {es:List (List UInt8×TV)}:Xt kk (some (.mpo kk es))=some es:=by simp [Xt]
theorem AkP {kk:MK} {zs:List (Nat×List UInt8×TV)} {cl:Nat}:Xt kk (some (.mpd kk zs cl))=some (zs.map (·.2)):=by simp [Xt]
def Abj:Option Ob→Option (List (List UInt8×TV))
 | some (.mpo _ es)=>some es
 | some (.mpd _ zs _)=>some (zs.map (·.2))
 | _=>none
theorem Ai1 {kk:MK} {es:List (List UInt8×TV)}:Abj (some (.mpo kk es))=some es:=by simp [Abj]
theorem Alg {kk:MK} {zs:List (Nat×List UInt8×TV)} {cl:Nat}:Abj (some (.mpd kk zs cl))=some (zs.map (·.2)):=by simp [Abj]
theorem Alu {kk:MK} {es:List (List UInt8×TV)}:stO (some (.mpo kk es))=some (kk,VS 0 es,es.length):=Aa rfl
theorem AlT {kk:MK} {zs:List (Nat×List UInt8×TV)} {cl:Nat}:stO (some (.mpd kk zs cl))=some (kk,zs,cl):=Aa rfl
def Aeh (x:TV) (H:List Ob) (K:TV→List Ob→Prop) [Tg K]:Prop:=match x with
 | .mp id 0=>(match stO H[id]? with
  | some (_,_,cl)=>K (.op H.length 0 []) (H++[.mit id [] cl])
  | none=>False)
 | _=>False
@[congr] theorem Ap1 {x x':TV} {H':List Ob} (h1:x=x') (h2:H=H'):Aeh x H KK=Aeh x' H' KK:=by rw [h1,h2]
theorem AnU:sop P (.rngM x) e H KK=Aeh (x.ev e) H KK:=Aa rfl
theorem AiR {id:Nat}:Aeh (.mp id 0) H KK=BA (stO H[id]?) fun p=>Bz H.length fun n=>Bz (H++[.mit id [] p.2.2]) fun H'=>KK (.op n 0 []) H':=by
 unfold Aeh
 cases h:stO H[id]? with
 | none=>simp [BA,h]
 | some o=>obtain ⟨a,b,c⟩:=o; simp [BA,Bz,h]
def ZO:Option Ob→Option (Nat×List Nat×Nat)
 | some (.mit m sn cl)=>some (m,sn,cl)
 | _=>none
theorem Ag0 {m cl:Nat} {sn:List Nat}:ZO (some (.mit m sn cl))=some (m,sn,cl):=Aa rfl
def AfQ (x:TV) (H:List Ob) (K:TV→List Ob→Prop) [Tg K]:Prop:=match x with
 | .op id 0 []=>(match H[id]? with
  | some (.mit m sn cl)=>(match stO H[m]? with
   | some (kk,zs,cl')=>(cl'=cl∧∀ z∈zs,z.1<cl)∧(∀ z∈zs,z.1∉sn→K (.tup [.val (.bool true),kTV kk z.2.1,z.2.2]) (H.set id (.mit m (sn++[z.1]) cl)))∧((∀ z∈zs,z.1∈sn)→K (.tup [.val (.bool false)]) H)
   | none=>False)
  | _=>False)
 | _=>False
@[congr] theorem Arb {x x':TV} {H':List Ob} (h1:x=x') (h2:H=H'):AfQ x H KK=AfQ x' H' KK:=by rw [h1,h2]
theorem Aod:sop P (.nxtM x) e H KK=AfQ (x.ev e) H KK:=Aa rfl
def ApM (id m:Nat) (sn:List Nat) (cl:Nat) (kk:MK) (zs:List (Nat×List UInt8×TV)) (cl':Nat) (H:List Ob) (K:TV→List Ob→Prop) [Tg K]:Prop :=
 (cl'=cl∧∀ z∈zs,z.1<cl)∧(∀ z∈zs,z.1∉sn→K (.tup [.val (.bool true),kTV kk z.2.1,z.2.2]) (H.set id (.mit m (sn++[z.1]) cl)))∧((∀ z∈zs,z.1∈sn)→K (.tup [.val (.bool false)]) H)
@[congr] theorem Ar9 {id m:Nat} {sn sn':List Nat} {cl c2:Nat} {kk:MK} {zs zs':List (Nat×List UInt8×TV)} {cl' c2':Nat} {H':List Ob} (h1:sn=sn') (h2:cl=c2) (h3:zs=zs') (h4:cl'=c2') (h5:H=H'):ApM id m sn cl kk zs cl' H KK=ApM id m sn' c2 kk zs' c2' H' KK:=by rw [h1,h2,h3,h4,h5]
theorem AgH {id:Nat}:AfQ (.op id 0 []) H KK=BA (ZO H[id]?) fun p=>BA (stO H[p.1]?) fun q=>ApM id p.1 p.2.1 p.2.2 q.1 q.2.1 q.2.2 H KK:=by
 unfold AfQ
 cases h:H[id]? with
 | none=>simp [ZO,BA,h]
 | some o =>
  cases o with
  | mit m sn cl =>
   simp only [h,ZO,BA]
   cases h2:stO H[m]? with
   | none=>simp
   | some q=>obtain ⟨a,b,c⟩:=q; simp only [ApM]
  | _=>simp [ZO,BA,h]
def Ana (p:Nat×List Nat×Nat) (q:MK×List (Nat×List UInt8×TV)×Nat):Option TV:=match p.2.1.getLast? with
 | some s=>if q.2.2=p.2.2 then (match q.2.1.find? (·.1 == s) with
  | some z=>some (.tup [kTV q.1 z.2.1,z.2.2])
  | none=>none) else none
 | none=>none
def Amx (kk:MK) (o:Option Ob):Option (List (Nat×List UInt8×TV)×Nat):=match stO o with
 | some (kk',zs,cl)=>if kk'=kk then some (zs,cl) else none
 | none=>none
theorem Ajf {kk:MK} {es:List (List UInt8×TV)}:Amx kk (some (.mpo kk es))=some (VS 0 es,es.length):=by simp [Amx,stO]
theorem AgK {kk:MK} {zs:List (Nat×List UInt8×TV)} {cl:Nat}:Amx kk (some (.mpd kk zs cl))=some (zs,cl):=by simp [Amx,stO]
def Afw (kk:MK) (m k:TV) (H:List Ob) (K:TV→List Ob→Prop) [Tg K]:Prop:=match m,BJ kk k with
 | .mp id 0,some kb=>(match stO H[id]? with
  | some (kk',zs,cl)=>kk'=kk∧K .any (H.set id (.mpd kk (zs.eraseIdx (XO kb (zs.map (·.2)))) cl))
  | none=>False)
 | _,_=>False
@[congr] theorem AqG {kk:MK} {H':List Ob} {m m' k k':TV} (h1:m=m') (h2:k=k') (h4:H=H'):Afw kk m k H KK=Afw kk m' k' H' KK:=by rw [h1,h2,h4]
theorem Anw {kk:MK} {m k:Opd}:sop P (.delM kk m k) e H KK=Afw kk (m.ev e) (k.ev e) H KK:=Aa rfl
theorem Aij {kk:MK} {id:Nat} {kx:TV}:Afw kk (.mp id 0) kx H KK=BA (Amx kk H[id]?) fun p=>BA (BJ kk kx) fun kb=>Bz (p.1.eraseIdx (XO kb (p.1.map (·.2)))) fun zs=>Bz (H.set id (.mpd kk zs p.2)) fun H'=>KK .any H':=by
 unfold Afw Amx
 cases h:stO H[id]? with
 | none=>cases BJ kk kx<;>simp [h,BA]
 | some q =>
  obtain ⟨kk',zs,cl⟩:=q
  by_cases hk:kk'=kk
  ·subst hk; cases BJ kk' kx<;>simp [h,BA,Bz]
  ·cases BJ kk kx<;>simp [h,BA,hk]
def ApJ (H:List Ob) (x:TV) (K:TV→List Ob→Prop) [Tg K]:Prop:=match x with
 | .os k id ver [] off n cp=>n≠0∧obV H[id]?=some ver∧K (.os k id ver [] off n cp) H
 | _=>False
@[congr] theorem Ar7 {H':List Ob} {x x':TV} (h0:H=H') (h1:x=x'):ApJ H x KK=ApJ H' x' KK:=by rw [h0,h1]
theorem Arp {x:Opd}:sop P (.cvS x) e H KK=ApJ H (x.ev e) KK:=Aa rfl
theorem AjY {k id ver off n cp:Nat}:ApJ H (.os k id ver [] off n cp) KK=Dl (n≠0) (Dl (obV H[id]?=some ver) (KK (.os k id ver [] off n cp) H)):=Aa rfl
theorem Ao0 {v:Nat} {y:TV}:obV (some (.obj v y))=some v:=Aa rfl
def AfO (k:Nat) (z x:TV) (H:List Ob) (K:TV→List Ob→Prop) [Tg K]:Prop:=match x with
 | .os k' id ver p off n cp=>QH k (.os k' id ver p off n cp) (List.replicate n z) H fun _ H'=>K .any H'
 | .val (.slice none 0 0)=>K .any H
 | _=>False
@[congr] theorem ArT {k:Nat} {z x x':TV} {H':List Ob} (h1:x=x') (h2:H=H'):AfO k z x H KK=AfO k z x' H' KK:=by rw [h1,h2]
theorem Ao1 {k:Nat} {z:TV}:sop P (.clrS k z x) e H KK=AfO k z (x.ev e) H KK:=Aa rfl
theorem Aed {k:Nat} {z:TV}:AfO k z (.val (.slice none 0 0)) H KK=KK .any H:=Aa rfl
theorem Ah3 {k id ver off n cp:Nat} {p:List (Nat×Nat)} {z:TV}:AfO k z (.os k id ver p off n cp) H KK=Bz (List.replicate n z) fun ys=>Aa6 k (.os k id ver p off n cp) (some ys) H fun _ H'=>KK .any H':=Aa rfl
theorem AgP {kk:MK} {es:List (List UInt8×TV)}:Wq kk (some (.mpo kk es))=some es:=by simp [Wq]
theorem Apf {l:List UInt8}:BJ .str (.val (.string (str l)))=some l:=by simp [BJ,bl,str]
theorem Anu {n:Nat} {l:List UInt8}:BJ (.arr n) (.arr n 1 (l.map by8))=some l:=by
 unfold BJ; simp only [Uf,Qg,and_self,if_true]
theorem Akp {z:TV} {r:Option TV}:WA z false r=r.getD z:=by simp [WA]
theorem AkZ {z:TV} {r:Option TV}:WA z true r = .tup [r.getD z,.val (.bool r.isSome)]:=by simp [WA]
def AmB (x:TV) (A:Prop) [Tg A]:Prop:=match x with
 | .val (.int _ _)=>A
 | _=>False
@[congr] theorem AsC {x x':TV} {A:Prop} (h:x=x'):AmB x A=AmB x' A:=by rw [h]
theorem AlR {q:IntKind} {n:Int} {A:Prop}:AmB (.val (.int q n)) A=A:=by simp [AmB]
theorem AoS {kk:MK}:sop P (.mkm kk none) e H KK=Bz H.length fun n=>Bz (H++[.mpo kk []]) fun H'=>KK (.mp n 0) H':=by simp [sop,Bz]
theorem Anp {kk:MK}:sop P (.mkm kk (some x)) e H KK=AmB (x.ev e) (Bz H.length fun n=>Bz (H++[.mpo kk []]) fun H'=>KK (.mp n 0) H'):=by
 simp only [sop,Bz,AmB]
 cases x.ev e with
 | val v=>cases v<;>simp
 | _=>simp
def Ae7 (kk:MK) (m k v:TV) (H:List Ob) (K:TV→List Ob→Prop) [Tg K]:Prop:=match m,BJ kk k with
 | .mp id 0,some kb=>(match H[id]? with
  | some (.mpo kk' es)=>(kk'=kk∧lays v=true)∧K .any (H.set id (.mpo kk (YH kb v es)))
  | _=>False)
 | _,_=>False
@[congr] theorem Arl {kk:MK} {H':List Ob} {m m' k k' v v':TV} (h1:m=m') (h2:k=k') (h3:v=v') (h4:H=H'):Ae7 kk m k v H KK=Ae7 kk m' k' v' H' KK:=by rw [h1,h2,h3,h4]
theorem Am9 {kk:MK} {m k:Opd}:sop P (.mupd kk m k x) e H KK=Ae7 kk (m.ev e) (k.ev e) (x.ev e) H KK:=Aa rfl
def AdV (kk:MK) (z m k:TV) (H:List Ob) (K:TV→List Ob→Prop) [Tg K]:Prop:=match m,BJ kk k with
 | .mp id 0,some kb=>(match H[id]? with
  | some (.mpo kk' es)=>kk'=kk∧K (.tup [(Wu kb es).getD z,.val (.int .i64 (XO kb es))]) (H.set id (.mpo kk (YH kb ((Wu kb es).getD z) es)))
  | _=>False)
 | _,_=>False
@[congr] theorem Aq0 {kk:MK} {H':List Ob} {z m m' k k':TV} (h1:m=m') (h2:k=k') (h4:H=H'):AdV kk z m k H KK=AdV kk z m' k' H' KK:=by rw [h1,h2,h4]
theorem AnO {kk:MK} {z:TV} {m k:Opd}:sop P (.ment kk z m k) e H KK=AdV kk z (m.ev e) (k.ev e) H KK:=Aa rfl
def Ae5 (m st v:TV) (H:List Ob) (K:TV→List Ob→Prop) [Tg K]:Prop:=match m,st with
 | .mp id 0,.val (.int _ j)=>(match H[id]? with
  | some (.mpo kk es)=>(0≤j∧lays v=true)∧(match es[j.toNat]? with
   | some (k,_)=>K .any (H.set id (.mpo kk (es.set j.toNat (k,v))))
   | none=>False)
  | _=>False)
 | _,_=>False
@[congr] theorem AqN {H':List Ob} {m m' st st' v v':TV} (h1:m=m') (h2:st=st') (h3:v=v') (h4:H=H'):Ae5 m st v H KK=Ae5 m' st' v' H' KK:=by rw [h1,h2,h3,h4]
theorem Anb {m st:Opd}:sop P (.mest m st x) e H KK=Ae5 (m.ev e) (st.ev e) (x.ev e) H KK:=Aa rfl
theorem AkX {sz:Nat}:sop P (.store sz x y) e H KK=Aak H sz (x.ev e) (y.ev e) KK:=Aa rfl
theorem Ars {k n:Nat} {z:TV}:sop P (.mks k n z x y) e H KK=ApD H k n z (x.ev e) (y.ev e) KK:=Aa rfl
theorem AqM {k n:Nat} {et:TypeId}:sop P (.app k n et x y) e H KK=AlH k n et (x.ev e) (BL H k (y.ev e)) H KK:=Aa rfl
theorem Apg {et:TypeId}:sop P (.appS et x y) e H KK=Aig et (x.ev e) (y.ev e) H KK:=Aa rfl
theorem Am8 {k:Nat}:sop P (.copy k x y) e H KK=Aa6 k (x.ev e) (BL H k (y.ev e)) H KK:=Aa rfl
theorem Ak5:sop P (.copyS x y) e H KK=Ab6 (x.ev e) (y.ev e) H KK:=Aa rfl
theorem Aoc {k n:Nat} {z:TV}:sop P (.appZ k n z x y) e H KK=Ah1 k n z (x.ev e) (y.ev e) H KK:=Aa rfl
theorem ApW {n:Bool}:sop P (.eqS x n) e H KK=AjS n (x.ev e) H KK:=Aa rfl
theorem Aqt:sop P (.s2b x) e H KK=ApG H (x.ev e) KK:=Aa rfl
theorem Aox {f:FuncId} {args:List Opd}:sop P (.call f args) e H KK=Bz (evs e args) fun xs=>Dl (Qj xs) (VC P f xs H KK):=by
 rw [AnS,MX]; rfl
theorem Arf {nm:String} {args:List Opd}:sop P (.inv x nm args) e H KK=Bz (evs e args) fun xs=>Dl (Qj xs) (Apn P nm (x.ev e) xs H KK):=by
 show ((∀ y∈args,CP (y.ev e)=false)∧_)=_
 rw [MX]; rfl
theorem Amo {args:List Opd}:sop P (.callv x args) e H KK=Bz (evs e args) fun xs=>Dl (Qj xs) (YA P (x.ev e) xs H KK):=by
 rw [Amc,MX]; rfl
end
section
variable {K:TV→Prop} {KK:TV→List Ob→Prop} {x y:TV} {cs ys:List TV} {n n' k k':Nat} {id ver off cp:Nat} {p:List (Nat×Nat)} {j:Int} {q:IntKind} {lo hi:Option TV}
theorem AiG {t:Bool}:Afu (.val (.bool t)) x y K=vif t (K x) (K y):=by cases t<;>simp [Afu,vif]
theorem AjW {t:TypeId} {op:BinOp} {u v:Value}:Apt t op (.val u) (.val v) K=Dl (AhD u v=true) (BA (G5 t op u v) fun r=>Bz (TV.val r) K):=by
 show (_∧_)=_; cases G5 t op u v<;>rfl
theorem Anc {op:UnOp} {u:Value}:Pun op (.val u) K=BA (unV op u) fun r=>Bz (TV.val r) K:=by
 unfold Pun; simp only; cases unV op u<;>rfl
theorem AhV {k:IntKind}:Aie k (.val (.int q j)) K=Bz (TV.val (.int k (k.wrap j))) K:=Aa rfl
theorem AkG {s:ByteArray}:Apz (.val (.string s)) K=K (.val (.string s)):=Aa rfl
theorem Ak7:ApB (some cs) K=Dl (∀ y∈cs,AdN y) (Bz (TV.val (.string (str (cs.map VZ)))) K):=Aa rfl
theorem AiX {ag:Bool} {sz:Nat}:AbE H ag sz (.fp y) K=Dl (YF ag sz y) (K y):=Aa rfl
theorem Ait {ag:Bool} {sz:Nat}:AbE H ag sz (.op id ver p) K=BA (EG H[id]? ver) fun x=>BA (IY p x) fun y=>Dl (YF ag sz y) (K y):=by
 unfold AbE
 simp only
 cases h:H[id]? with
 | none=>simp [EG,BA]
 | some o =>
  cases o with
  | gone v=>simp [EG,BA]
  | ice v m y=>simp [EG,BA]
  | fact i v t m=>simp [EG,BA]
  | bld v t l=>simp [EG,BA]
  | lp st pe fn N en ps ca cb=>simp [EG,BA]
  | mpo kk es=>simp [EG,BA]
  | mpd kk zs cl=>simp [EG,BA]
  | mit m sn cl=>simp [EG,BA]
  | sit s pos=>simp [EG,BA]
  | obj v x =>
   by_cases hv:v=ver
   ·subst hv; simp only [EG,BA,Dl,if_true,true_and]; cases IY p x<;>rfl
   ·simp [EG,BA,hv]
theorem AcX {i o:Nat}:U7 i o (.op id ver p) K=Bz (p++[(i,o)]) fun p=>K (.op id ver p):=Aa rfl
theorem Adc {i o:Nat}:U7 i o (.fp (.agg cs)) K=Dl (BQ (cs.take i)=o) (BA cs[i]? fun y=>K (.fp y)):=by
 unfold U7; simp only; cases cs[i]?<;>rfl
theorem Af0 {ag:Bool} {sz i o:Nat}:AaV ag sz i o (.agg cs) K=Dl (BQ (cs.take i)=o) (BA cs[i]? fun y=>Dl (YF ag sz y) (K y)):=by
 unfold AaV; simp only; cases cs[i]?<;>rfl
theorem Ajk:Adv k (.sl k cs) (.val (.int q j)) K=Dl (0≤j) (BA cs[j.toNat]? fun y=>K (.fp y)):=by
 unfold Adv; simp only [true_and]; cases cs[j.toNat]?<;>rfl
theorem Ahw:Adv k (.os k id ver p off n cp) (.val (.int q j)) K=Dl (0≤j∧j<n) (Bz (off+j.toNat) fun m=>Bz (p++[(m,m*k)]) fun p=>K (.op id ver p)):=by
 show (k=k∧_)=_; simp [Dl,Bz,and_assoc]
theorem Aev:Yv n k (.fp (.arr n k cs)) (.val (.int q j)) K=Dl (0≤j) (BA cs[j.toNat]? fun y=>K (.fp y)):=by
 unfold Yv; simp only [true_and]; cases cs[j.toNat]?<;>rfl
theorem AfX:Yv n k (.op id ver p) (.val (.int q j)) K=Dl (0≤j∧j<n) (Bz j.toNat fun m=>Bz (p++[(m,m*k)]) fun p=>K (.op id ver p)):=by
 show (_∧_)=_; simp [Dl,Bz,and_assoc]
theorem Ald {ag:Bool}:Aph ag n k (.arr n k cs) (.val (.int q j)) K=Dl (0≤j) (BA cs[j.toNat]? fun y=>Dl (YF ag k y) (K y)):=by
 unfold Aph; simp only [true_and]; cases cs[j.toNat]?<;>rfl
theorem AiT {s:ByteArray}:Ae4 (.val (.string s)) (.val (.int q j)) K=Dl (0≤j) (BA (bl s)[j.toNat]? fun b=>K (by8 b)):=by
 unfold Ae4; simp only; cases (bl s)[j.toNat]?<;>rfl
theorem Akg {i:Nat}:Anm i (.tup cs) K=BA cs[i]? K:=by
 unfold Anm; simp only; cases cs[i]?<;>rfl
theorem Ai6 {s:ByteArray}:Agx (.val (.string s)) K=Bz (TV.val (.int .i64 (bl s).length)) K:=Aa rfl
theorem AgD:Adx (.sl k cs) K=Bz (TV.val (.int .i64 cs.length)) K:=Aa rfl
theorem AhZ:Adx (.os k id ver p off n cp) K=K (.val (.int .i64 n)):=Aa rfl
theorem Afz {ad:Option Addr} {c:Nat}:Adx (.val (.slice ad n c)) K=K (.val (.int .i64 n)):=Aa rfl
section
variable {len lim:Nat} {KN:Nat→Nat→Prop} {l h:Int} {q2:IntKind}
theorem Amk:Y0 none none len lim KN=Dl (len≤lim) (KN 0 len):=by
 show ((0≤(0:Int)∧(0:Int)≤(len:Int)∧(len:Int)≤lim)∧KN (Int.toNat 0) (Int.toNat len))=_
 simp [Dl]
theorem Al4:Y0 (some (.val (.int q l))) none len lim KN=Dl (0≤l∧l≤len∧(len:Int)≤lim) (Bz l.toNat fun l=>KN l len):=by
 show ((0≤l∧l≤(len:Int)∧(len:Int)≤lim)∧KN l.toNat (Int.toNat len))=_
 simp [Dl,Bz]
theorem Ak1:Y0 none (some (.val (.int q h))) len lim KN=Dl (0≤h∧h≤lim) (Bz h.toNat fun h=>KN 0 h):=by
 show ((0≤(0:Int)∧0≤h∧h≤lim)∧KN (Int.toNat 0) h.toNat)=_
 simp [Dl,Bz]
theorem Alv:Y0 (some (.val (.int q l))) (some (.val (.int q2 h))) len lim KN=Dl (0≤l∧l≤h∧h≤lim) (Bz l.toNat fun l=>Bz h.toNat fun h=>KN l h):=Aa rfl
end
theorem Ame {s:ByteArray}:Apx (.val (.string s)) lo hi K=Y0 lo hi (bl s).length (bl s).length fun l h=>Bz (((bl s).drop l).take (h - l)) fun r=>K (.val (.string (str r))):=Aa rfl
theorem Al7:AmG k (.sl k cs) lo hi K=Y0 lo hi cs.length cs.length fun l h=>Bz ((cs.drop l).take (h - l)) fun r=>K (.sl k r):=by
 exact propext ⟨fun h=>h.2,fun h=>⟨rfl,h⟩⟩
theorem AlJ:AmG k (.os k id ver p off n cp) lo hi K=Y0 lo hi n cp fun l h=>Bz (off+l) fun o=>Bz (h - l) fun m=>Bz (cp - l) fun c=>K (.os k id ver p o m c):=by
 exact propext ⟨fun h=>h.2,fun h=>⟨rfl,h⟩⟩
theorem Ai7 {ad:Option Addr}:AmG k (.val (.slice ad 0 0)) lo hi K=Y0 lo hi 0 0 fun l h=>K (.val (.slice ad 0 0)):=Aa rfl
theorem Amg:AmF H n k (.fp (.arr n k cs)) lo hi K=Dl (n≤9223372036854775807) (Y0 lo hi n n fun l h=>Bz ((cs.drop l).take (h - l)) fun r=>K (.sl k r)):=by
 exact propext ⟨fun h=>⟨h.2.2.1,h.2.2.2⟩,fun h=>⟨rfl,rfl,h.1,h.2⟩⟩
def Aaq:Option TV→Nat→Nat→Option (List TV)
 | some (.arr n' k' cs),n,k=>if n'=n∧k'=k then some cs else none
 | _,_,_=>none
theorem Ajt:Aaq (some (.arr n k cs)) n k=some cs:=by simp [Aaq]
theorem Akv:AmF H n k (.op id ver p) lo hi K=BA (EG H[id]? ver) fun x=>Dl (n≤9223372036854775807) (BA (Aaq (IY p x) n k) fun _=>Y0 lo hi n n fun l h=>Bz (h - l) fun m=>Bz (n - l) fun c=>K (.os k id ver p l m c)):=by
 unfold AmF
 simp only
 cases h:H[id]? with
 | none=>simp [EG,BA]
 | some o =>
  cases o with
  | gone v=>simp [EG,BA]
  | ice v m y=>simp [EG,BA]
  | fact i v t m=>simp [EG,BA]
  | bld v t l=>simp [EG,BA]
  | lp st pe fn N en ps ca cb=>simp [EG,BA]
  | mpo kk es=>simp [EG,BA]
  | mpd kk zs cl=>simp [EG,BA]
  | mit m sn cl=>simp [EG,BA]
  | sit s pos=>simp [EG,BA]
  | obj v x =>
   by_cases hv:v=ver
   ·simp only [EG,BA,hv,Dl,Bz,if_true,true_and]
    congr 1
    cases hg:IY p x with
    | none=>simp [Aaq]
    | some y =>
     cases y with
     | arr n2 k2 ds =>
      by_cases h1:n2=n
      ·by_cases h2:k2=k
       ·simp [Aaq,h1,h2]; exact Iff.rfl
       ·simp [Aaq,h1,h2]
      ·simp [Aaq,h1]
     | _=>simp [Aaq]
   ·simp [EG,BA,hv]
theorem Agf {t:TypeId}:AcH t x K=Dl (lays x=true) (K (.ifc t x)):=Aa rfl
theorem Amb {f:Fn}:Ank f cs ys K=Dl (Qj (cs++ys)) (K (.fn f cs ys)):=Aa rfl
theorem Ag6:Aa1 (.op id ver p) K=K (.op id ver p):=Aa rfl
theorem AjB:Aa1 (.fp y) K=K (.fp y):=Aa rfl
theorem AgV {f:FuncId} {a b:List TV}:Aa1 (.fn (.func f) a b) K=K (.fn (.func f) a b):=Aa rfl
theorem AfG {t:TypeId}:Aa1 (.ifc t y) K=K (.ifc t y):=Aa rfl
theorem AdM {f:FuncId} {a b:Array Value}:Aa1 (.val (.func (.func f) a b)) K=K (.val (.func (.func f) a b)):=Aa rfl
section
variable {a b:Int} {q2:IntKind}
theorem Aj5:ApN (.val (.int q a)) (.val (.int q2 b)) K=vif (decide (b<a)) (K (.val (.int q b))) (K (.val (.int q a))):=by
 show K _=_
 by_cases h:b<a<;>simp [vif,h]
theorem Akj:Apu (.val (.int q a)) (.val (.int q2 b)) K=vif (decide (a<b)) (K (.val (.int q b))) (K (.val (.int q a))):=by
 show K _=_
 by_cases h:a<b<;>simp [vif,h]
theorem AiS {q1 q2 q3:IntKind} {l h m:Int}:XN (.sl3 k) H [.sl k cs,.val (.int q1 l),.val (.int q2 h),.val (.int q3 m)] K=Dl (0≤l∧l≤h∧h≤m∧m≤cs.length) (Bz ((cs.drop l.toNat).take (h.toNat - l.toNat)) fun r=>K (.sl k r)):=by
 unfold XN gev Dl Bz
 simp only [true_and]
 by_cases hc:0≤l∧l≤h∧h≤m∧m≤cs.length
 ·rw [if_pos hc]; simp [hc]
 ·rw [if_neg hc]; simp only [hc,false_and]
theorem AhB {sh:List EL} {b:Bool} {xs ys:List TV}:XN (.eqR sh b) H [.agg xs,.agg ys] K=BA (ZP sh xs ys) fun r=>Bz (TV.val (.bool (xor b r))) K:=by
 have hg:gev (.eqR sh b) H [.agg xs,.agg ys]=(ZP sh xs ys).map fun r => .val (.bool (xor b r)):=by unfold gev; rfl
 unfold XN BA Bz
 rw [hg]
 cases ZP sh xs ys<;>rfl
theorem Ahc:ZP [] [] []=some true:=Aa rfl
theorem AoG {l:List EL} {k:IntKind} {a b:Int} {xs ys:List TV}:ZP (.i::l) (.val (.int k a)::xs) (.val (.int k b)::ys)=(ZP l xs ys).map fun r=>(a == b) && r:=by rw [ZP,if_pos rfl]
theorem AnY {l:List EL} {a b:ByteArray} {xs ys:List TV}:ZP (.s::l) (.val (.string a)::xs) (.val (.string b)::ys)=(ZP l xs ys).map fun r=>(a == b) && r:=Aa rfl
theorem Aoi {l:List EL} {n:Nat} {a b:List UInt8} {xs ys:List TV}:ZP (.b n::l) (.arr n 1 (a.map by8)::xs) (.arr n 1 (b.map by8)::ys)=(ZP l xs ys).map fun r=>(a == b) && r:=by
 rw [ZP]
 simp only [Uf,Qg,and_self,if_true]
theorem AjC {n:Nat} {b:Bool} {xs ys:List UInt8}:XN (.eqA n b) H [.arr n 1 (xs.map by8),.arr n 1 (ys.map by8)] K=Bz (TV.val (.bool (xor b (xs == ys)))) K:=by
 unfold XN gev Bz
 simp only [Uf,Qg,and_self,if_true]
theorem Aic {q:IntKind} {n:Int}:XN .r2s H [.val (.int q n)] K=Bz (TV.val (.string (Utf8.encode n))) K:=Aa rfl
theorem Ais {t t':TypeId}:XN (.tas t) H [.ifc t' x] K=Dl (t'=t) (K x):=by
 unfold XN gev Dl
 by_cases h:t'=t<;>simp [h]
theorem Agq {a:Option Addr} {l n:Nat}:XN .capV H [.val (.slice a l n)] K=Bz (TV.val (.int .i64 (n:Int))) K:=Aa rfl
theorem Ajp {n:Nat}:XN (.s2a n k) H [.sl k cs] K=Dl (0<n∧n≤cs.length) (Bz (cs.take n) fun r=>K (.fp (.arr n k r))):=by
 unfold XN gev Dl Bz
 simp only [true_and]
 by_cases hc:0<n∧n≤cs.length
 ·rw [if_pos hc]; simp [hc]
 ·rw [if_neg hc]; simp only [hc,false_and]
theorem AmM {s t:Bool}:Am7 false (.val (.bool s)) (.val (.bool t)) K=Bz (TV.val (.bool (s == t))) K:=by
 show K _=_; simp [Bz]
theorem AnJ {s t:Bool}:Am7 true (.val (.bool s)) (.val (.bool t)) K=Bz (TV.val (.bool (!(s == t)))) K:=by
 show K _=_; simp [Bz]
theorem Aoq {m b:Bool}:AoY m (some true) (some b) K=Bz (TV.val (.bool (xor m b))) K:=Aa rfl
theorem AoM {m:Bool}:AoY m (some false) (some true) K=Bz (TV.val (.bool (xor m false))) K:=Aa rfl
end
theorem Aho {kk:MK} {m:Nat} {kx v:TV}:Ae7 kk (.mp m 0) kx v H KK=BA (Wq kk H[m]?) fun es=>BA (BJ kk kx) fun kb=>Dl (lays v=true) (Bz (YH kb v es) fun es'=>Bz (H.set m (.mpo kk es')) fun H'=>KK .any H'):=by
 unfold Ae7
 cases hh:H[m]? with
 | none=>cases BJ kk kx<;>simp [hh,Wq,BA]
 | some o =>
  cases o with
  | mpo kk' es =>
   by_cases hk:kk'=kk
   ·subst hk; cases BJ kk' kx<;>simp [hh,Wq,BA,Dl,Bz]
   ·cases BJ kk kx<;>simp [hh,Wq,BA,hk]
  | _=>cases BJ kk kx<;>simp [hh,Wq,BA]
theorem Ahs {kk:MK} {m:Nat} {kx z:TV}:AdV kk z (.mp m 0) kx H KK=BA (Wq kk H[m]?) fun es=>BA (BJ kk kx) fun kb=>Bz ((Wu kb es).getD z) fun y=>Bz (XO kb es) fun p=>Bz (YH kb y es) fun es'=>Bz (H.set m (.mpo kk es')) fun H'=>KK (.tup [y,.val (.int .i64 (p:Int))]) H':=by
 unfold AdV
 cases hh:H[m]? with
 | none=>cases BJ kk kx<;>simp [hh,Wq,BA]
 | some o =>
  cases o with
  | mpo kk' es =>
   by_cases hk:kk'=kk
   ·subst hk; cases BJ kk' kx<;>simp [hh,Wq,BA,Bz]
   ·cases BJ kk kx<;>simp [hh,Wq,BA,hk]
  | _=>cases BJ kk kx<;>simp [hh,Wq,BA]
def Yo:Option Ob→Option (MK×List (List UInt8×TV))
 | some (.mpo kk es)=>some (kk,es)
 | _=>none
theorem Aee {kk:MK} {es:List (List UInt8×TV)}:Yo (some (.mpo kk es))=some (kk,es):=by simp [Yo]
theorem Agw {m j:Nat} {q:IntKind} {v:TV}:Ae5 (.mp m 0) (.val (.int q (j:Int))) v H KK=BA (Yo H[m]?) fun p=>Dl (lays v=true) (BA p.2[j]? fun y=>Bz (p.2.set j (y.1,v)) fun es'=>Bz (H.set m (.mpo p.1 es')) fun H'=>KK .any H'):=by
 unfold Ae5
 cases hh:H[m]? with
 | none=>simp [hh,Yo,BA]
 | some o =>
  cases o with
  | mpo kk' es =>
   simp only [hh,Yo,BA,Dl,Bz,Int.natCast_nonneg,true_and,Int.toNat_natCast]
   cases es[j]?<;>simp
  | _=>simp [hh,Yo,BA]
theorem Afa {kk:MK} {z kx:TV} {ok:Bool} {m:Nat}:XN (.look kk z ok) H [.mp m 0,kx] K=BA (Xt kk H[m]?) fun es=>BA (BJ kk kx) fun kb=>Bz (WA z ok (Wu kb es)) K:=by
 unfold XN gev ZA
 cases hh:H[m]? with
 | none=>cases hb:BJ kk kx<;>simp [hh,hb,Xt,BA]
 | some o =>
  cases o with
  | mpo kk' es =>
   by_cases hk:kk'=kk
   ·subst hk; cases hb:BJ kk' kx<;>simp [hh,hb,Xt,BA,Bz]
   ·cases hb:BJ kk kx<;>simp [hh,hb,Xt,BA,hk]
  | mpd kk' zs cl =>
   by_cases hk:kk'=kk
   ·subst hk; cases hb:BJ kk' kx<;>simp [hh,hb,Xt,BA,Bz]
   ·cases hb:BJ kk kx<;>simp [hh,hb,Xt,BA,hk]
  | _=>cases hb:BJ kk kx<;>simp [hh,hb,Xt,BA]
theorem Adf {kk:MK} {z kx:TV} {ok:Bool}:XN (.look kk z ok) H [.val (.map none),kx] K=BA (BJ kk kx) fun kb=>Bz (WA z ok none) K:=by
 unfold XN gev ZA
 cases hb:BJ kk kx<;>simp [hb,BA,Bz]
theorem AdR {m:Nat}:XN .lenM H [.mp m 0] K=BA (Abj H[m]?) fun p=>Bz p.length fun n=>Bz (TV.val (.int .i64 (n:Int))) K:=by
 unfold XN gev AiJ
 cases hh:H[m]? with
 | none=>simp [hh,Abj,BA]
 | some o=>cases o<;>simp [hh,Abj,BA,Bz]
theorem Agh {id:Nat}:XN .entM H [.op id 0 []] K=BA (ZO H[id]?) fun p=>BA (stO H[p.1]?) fun q=>BA (Ana p q) K:=by
 unfold XN gev Apv
 cases hh:H[id]? with
 | none=>simp [hh,ZO,BA]
 | some o =>
  cases o with
  | mit m sn cl =>
   simp only [hh,ZO,BA,Ana]
   cases h2:stO H[m]? with
   | none=>simp
   | some q =>
    obtain ⟨kk,zs,cl'⟩:=q
    cases h3:sn.getLast? with
    | none=>simp
    | some s =>
     by_cases hc:cl'=cl
     ·subst hc; cases hf:zs.find? (·.1 == s)<;>simp [hf]
     ·simp [hc]
  | _=>simp [hh,ZO,BA]
theorem Ae0 {sz:Nat}:Aak H sz (.op id ver p) y KK=Dl (lays y=true∧AP y=sz) (BA (EG H[id]? ver) fun z=>BA (Ri p z y) fun z'=>Bz (H.set id (.obj ver z')) fun H'=>KK .any H'):=by
 unfold Aak
 simp only [Dl]
 congr 1
 cases h:H[id]? with
 | none=>simp [EG,BA]
 | some o =>
  cases o with
  | gone v=>simp [EG,BA]
  | ice v m y=>simp [EG,BA]
  | fact i v t m=>simp [EG,BA]
  | bld v t l=>simp [EG,BA]
  | lp st pe fn N en ps ca cb=>simp [EG,BA]
  | mpo kk es=>simp [EG,BA]
  | mpd kk zs cl=>simp [EG,BA]
  | mit m sn cl=>simp [EG,BA]
  | sit s pos=>simp [EG,BA]
  | obj v x =>
   by_cases hv:v=ver
   ·subst hv; simp only [EG,BA,Bz,if_true,true_and]; cases Ri p x y<;>rfl
   ·simp [EG,BA,hv]
theorem Ak6 {z:TV} {l c:Int} {q2:IntKind} {bytes:Nat}:ApD H k bytes z (.val (.int q l)) (.val (.int q2 c)) KK=Dl (0≤l∧l≤c∧(bytes:Int)*c≤281474976710656∧c≤9223372036854775807) (Bz l.toNat fun l=>Bz c.toNat fun c=>Bz H.length fun m=>Bz (H++[.obj 0 (.arr c k (List.replicate c z))]) fun H'=>KK (.os k m 0 [] 0 l c) H'):=Aa rfl
theorem AgC {bytes:Nat} {et:TypeId}:AlH k bytes et (.val (.slice none 0 0)) (some ys) H KK=Dl (ys.length*bytes≤140737488355328∧ys.length≤9223372036854775807) (Bz ys.length fun n=>Bz H.length fun m=>Bz (H++[.obj 1 (.arr n k ys)]) fun H'=>KK (.os k m 1 [] 0 n n) H'):=Aa rfl
def Abf:Option TV→Nat→Option (List TV)
 | some (.arr _ k' cs),k=>if k'=k then some cs else none
 | _,_=>none
theorem AhF:Abf (some (.arr n k cs)) k=some cs:=by simp [Abf]
theorem Ah5 {v n2:Nat} {et:TypeId}:Ail (some (.obj v (.arr n2 k cs))) v k et off n ys=some (.obj (v+1) (.arr (n+ys.length) k ((cs.drop off).take n++ys))):=by simp [Ail]
theorem Ab8 {v:Nat} {et:TypeId} {l m:List UInt8}:Ail (some (.bld v et l)) v 1 et 0 n (m.map by8)=some (.bld (v+1) et (l.take n++m)):=by
 simp only [Ail,Uf,Qg,and_self,if_true]
theorem Af1 {v:Nat} {et:TypeId} {l:List UInt8} {b:UInt8}:Ail (some (.bld v et l)) v 1 et 0 n [by8 b]=some (.bld (v+1) et (l.take n++[b])):=Ab8 (m:=[b])
theorem Ajs {v n2:Nat}:Amv (some (.obj v (.arr n2 k cs)))=cs.length:=by simp [Amv]
theorem Ahi {v:Nat} {et:TypeId} {l:List UInt8}:Amv (some (.bld v et l))=l.length:=by simp [Amv]
theorem AkQ {bytes:Nat} {et:TypeId}:AlH k bytes et (.os k id ver [] off n cp) (some ys) H KK=BA (Ail H[id]? ver k et off n ys) fun o=>Dl (off+n≤Amv H[id]?∧(n+ys.length)*bytes≤140737488355328∧n+ys.length≤9223372036854775807)
   (Bz (n+ys.length) fun m=>Bz (H.set id o) fun H'=>KK (.os k id (ver+1) [] 0 m m) H'):=by
 unfold AlH Aao
 simp only [true_and]
 cases h:Ail H[id]? ver k et off n ys with
 | none=>simp [BA]
 | some o=>simp [BA,Dl,Bz]
theorem Aib {s:ByteArray} {et:TypeId}:Aig et x (.val (.string s)) H KK=Bz ((bl s).map by8) fun ys=>AlH 1 1 et x (some ys) H KK:=Aa rfl
def Aqw:Option TV→Option Nat
 | some (.arr n _ _)=>some n
 | _=>none
theorem AkE:Aqw (some (.arr n k cs))=some n:=Aa rfl
theorem AgJ:Aa6 k (.os k id ver p off n cp) (some ys) H KK=BA (EG H[id]? ver) fun z=>BA (Abf (IY p z) k) fun cs=>BA (Aqw (IY p z)) fun N=>Dl (off+n≤cs.length) (BA (Ri p z (.arr N k (cs.take off++(ys.take n++cs.drop (off+min ys.length n))))) fun z' =>
  Bz (H.set id (.obj ver z')) fun H'=>Bz (TV.val (.int .i64 (min ys.length n:Nat))) fun r=>KK r H'):=by
 unfold Aa6 QH
 simp only [true_and]
 cases h:H[id]? with
 | none=>simp [EG,BA]
 | some o =>
  cases o with
  | gone v=>simp [EG,BA]
  | ice v m y=>simp [EG,BA]
  | fact i v t m=>simp [EG,BA]
  | bld v t l=>simp [EG,BA]
  | lp st pe fn N en ps ca cb=>simp [EG,BA]
  | mpo kk es=>simp [EG,BA]
  | mpd kk zs cl=>simp [EG,BA]
  | mit m sn cl=>simp [EG,BA]
  | sit s pos=>simp [EG,BA]
  | obj v x =>
   by_cases hv:v=ver
   ·simp only [EG,BA,hv,if_true,true_and]
    cases hg:IY p x with
    | none=>simp [Abf]
    | some y =>
     cases y with
     | arr n2 k2 ds =>
      by_cases h1:k2=k
      ·subst h1; simp only [Abf,Aqw,Dl,Bz,if_true,true_and]; refine congrArg (_ ∧ ·) ?_; cases Ri p x (.arr n2 k2 (ds.take off++(ys.take n++ds.drop (off+min ys.length n))))<;>rfl
      ·simp [Abf,h1]
     | _=>simp [Abf]
   ·simp [EG,BA,hv]
theorem Afn {s:ByteArray}:Ab6 x (.val (.string s)) H KK=Bz ((bl s).map by8) fun ys=>Aa6 1 x (some ys) H KK:=Aa rfl
theorem Ai5 {f:FuncId} {j v:Nat} {l:List UInt8}:AiA P f (some (j,v,l)) H KK=Dl (AqC P f) (Dl (l.length≤9223372036854775807) (Bz (H.set j (.gone v)) fun H'=>KK (.val (.string (str l))) H')):=Aa rfl
def AoP (o:Option Ob) (j v n:Nat) (a:TV):Option (Nat×Nat×List UInt8):=match o with
 | some (.bld v3 t l)=>if v3=v∧t=ZT∧n=l.length∧AP a=1 then some (j,v,l) else none
 | _=>none
def Aji (H:List Ob) (j v n:Nat) (a:TV):Option (Nat×Nat×List UInt8):=AoP H[j]? j v n a
def Adw (H:List Ob) (q:Option TV):Option (Nat×Nat×List UInt8):=match q with
 | some (.agg [a,.os 1 j v2 [] 0 n cp])=>Aji H j v2 n a
 | _=>none
theorem Ah4 {id ver:Nat} {p:List (Nat×Nat)}:Ady H (.op id ver p)=Adw H ((EG H[id]? ver).bind (IY p)):=by
 unfold Ady
 simp only []
 cases h:H[id]? with
 | none=>simp [EG,Adw]
 | some o =>
  cases o with
  | obj v y =>
   by_cases hv:v=ver
   ·simp only [EG,hv,if_true,Option.bind_some]
    unfold Adw Aji AoP
    rfl
   ·simp [EG,Adw,hv]
  | _=>simp [EG,Adw]
theorem Aht {a:TV} {j v n cp:Nat}:Adw H (some (.agg [a,.os 1 j v [] 0 n cp]))=Aji H j v n a:=Aa rfl
theorem Aii {a:TV} {j v n:Nat}:Aji H j v n a=AoP H[j]? j v n a:=Aa rfl
theorem Amt {a:TV} {j v n:Nat} {l:List UInt8} (hn:n=l.length) (ha:AP a=1):AoP (some (.bld v 5 l)) j v n a=some (j,v,l):=by
 simp [AoP,hn,ha,ZT]
theorem Amh {s:ByteArray}:ApG H (.val (.string s)) KK=Dl ((bl s).length≤9223372036854775807) (Bz (bl s).length fun n=>Bz ((bl s).map by8) fun r=>Bz H.length fun m=>Bz (H++[.obj 0 (.arr n 1 r)]) fun H'=>KK (.os 1 m 0 [] 0 n n) H'):=Aa rfl
theorem Ahb {z:TV} {j:Int} {bytes:Nat}:Ah1 k bytes z (.val (.slice none 0 0)) (.val (.int .i64 j)) H KK=Dl (0≤j∧(bytes:Int)*j≤140737488355328∧j≤9223372036854775807) (Bz j.toNat fun n=>Bz H.length fun m=>Bz (H++[.obj 0 (.arr n k (List.replicate n z))]) fun H'=>KK (.os k m 0 [] 0 n n) H'):=Aa rfl
theorem Ajc {n:Bool} {a:Option Addr} {l c:Nat}:AjS n (.val (.slice a l c)) H KK=KK (.val (.bool (xor n a.isNone))) H:=Aa rfl
theorem Ak3 {n:Bool}:AjS n (.sl k cs) H KK=vif (decide (cs.length=0)) (AdL H KK) (KK (.val (.bool n)) H):=by
 unfold AjS vif AdL
 by_cases h:cs=[]
 ·subst h; simp
 ·have h2:¬ cs.length=0:=fun e=>h (List.length_eq_zero_iff.1 e)
  simp [h,h2]
theorem Aj4 {n:Bool} {m off l cp:Nat} {p:List (Nat×Nat)}:AjS n (.os k m ver p off l cp) H KK=vif (decide (l=0)) (AdL H KK) (KK (.val (.bool n)) H):=by
 unfold AjS vif AdL
 by_cases h:l=0
 ·subst h; simp
 ·simp [h]
theorem AdT {f:FuncId} {a b:List TV}:YA P (.fn (.func f) a b) cs H KK=Dl (VJ P f=true) (Bz (a++cs++b) fun xs=>VC P f xs H KK):=Aa rfl
theorem Ac3 {f:FuncId}:YA P (.val (.func (.func f) #[] #[])) cs H KK=Dl (VJ P f=true) (VC P f cs H KK):=by
 exact propext ⟨fun h=>⟨h.2.1,h.2.2⟩,fun h=>⟨rfl,h.1,h.2⟩⟩
theorem AdU:YA P (.yl id ver) cs H KK=VY P id ver cs H KK:=Aa rfl
theorem Ak2 {nm:String} {t:TypeId}:Apn P nm (.ifc t x) cs H KK=Amw P (AhJ P t nm) x cs H KK:=by
 unfold Apn ApK Amw
 show (match AhJ P t nm with | some (f,none)=>_ | some (f,some (ag,sz))=>_ | none=>False)=_
 rcases AhJ P t nm with _ | ⟨f,_ | ⟨ag,sz⟩⟩<;>rfl
theorem AoX {f:FuncId}:Amw P (some (f,none)) x cs H KK=Dl (VJ P f=true) (Bz (x::cs) fun xs=>VC P f xs H KK):=Aa rfl
theorem Am1 {f:FuncId} {ag:Bool} {sz:Nat}:Amw P (some (f,some (ag,sz))) x cs H KK=Dl (VJ P f=true) (AbE H ag sz x fun y=>Bz (y::cs) fun xs=>VC P f xs H KK):=Aa rfl
theorem Aqj {t:Bool} {A B:Prop}:Gd (some t) true A B=vif t A B:=Aa rfl
theorem Ary {t:Bool} {A B:Prop}:Gd (some t) false A B=vif t B A:=by cases t<;>simp [Gd,vif]
theorem As3 {b:Bool} {A B:Prop}:Gd none b A B=B:=Aa rfl
end
section
variable {Q:VEx→Env→List Ob→Prop} {l:List VO} {kp:List Nat} {a b:Af}
def Ai2 (x:TV) (A B:Prop) [Tg A] [Tg B]:Prop:=match x with
  | .val (.bool t)=>if t=true then A else B
  | _=>False
@[congr] theorem Aqd {x x':TV} {A B:Prop} (h:x=x'):Ai2 x A B=Ai2 x' A B:=by rw [h]
theorem Ah9 {t:Bool} {A B:Prop}:Ai2 (.val (.bool t)) A B=vif t A B:=Aa rfl
theorem ArB:vwp P (.ops l kp) Q e H=WM P l (fun e H=>Bz (forget kp e) fun e=>Q .nor e H) e H:=Aa rfl
def AhO (zs:List Nat) (e:Env) (H:List Ob) (K:Env→List Ob→Prop) [Tg K]:Prop:=AmD zs K e H
@[congr] theorem Arw {zs:List Nat} {e e':Env} {H H':List Ob} {K:Env→List Ob→Prop} (h1:e=e') (h2:H=H'):AhO zs e H K=AhO zs e' H' K:=by rw [h1,h2]
theorem Aql {K:Env→List Ob→Prop}:AhO [] e H K=K e H:=Aa rfl
theorem Aoz {l r:List VO} {zs kp:List Nat}:vwp P (.opsZ l zs r kp) Q e H=WM P l (fun e H=>AhO zs e H fun e H=>WM P r (fun e H=>Bz (forget kp e) fun e=>Q .nor e H) e H) e H:=Aa rfl
theorem AnD {n:Nat}:vwp P (.draw n l kp) Q e H=(vq P (l.take n) (fun e=>WM P (l.drop n) (fun e H=>Bz (forget kp e) fun e=>Q .nor e H) e H) e H):=Aa rfl
def Thn (P:Program) (b:Af) (Q:VEx→Env→List Ob→Prop):VEx→Env→List Ob→Prop:=fun x e H=>match x with | .nor=>vwp P b Q e H | .exit i=>Q (.exit i) e H | .ret=>Q .ret e H | .pan u=>Q (.pan u) e H
theorem Aki:Thn P b Q .nor e H=vwp P b Q e H:=Aa rfl
theorem AiK {i:Nat}:Thn P b Q (.exit i) e H=Q (.exit i) e H:=Aa rfl
theorem Ak4:Thn P b Q .ret e H=Q .ret e H:=Aa rfl
theorem AqU:vwp P (.seq a b) Q e H=vwp P a (Thn P b Q) e H:=Aa rfl
def Blk (id:Nat) (Q:VEx→Env→List Ob→Prop):VEx→Env→List Ob→Prop:=fun x e H=>match x with | .nor=>Q .nor e H | .exit i=>if i=id then Q .nor e H else Q (.exit i) e H | .ret=>Q .ret e H | .pan u=>Q (.pan u) e H
theorem Akk {id:Nat}:Blk id Q .nor e H=Q .nor e H:=Aa rfl
theorem AiB {id:Nat}:Blk id Q (.exit id) e H=Q .nor e H:=by simp [Blk]
theorem Abt {id i:Nat} (h:i≠id):Blk id Q (.exit i) e H=Q (.exit i) e H:=by simp [Blk,h]
theorem Alz {id:Nat}:Blk id Q .ret e H=Q .ret e H:=Aa rfl
theorem Akd {id:Nat}:vwp P (.block id a) Q e H=vwp P a (Blk id Q) e H:=Aa rfl
theorem Anz {c:Opd}:vwp P (.cond c a b) Q e H=Ai2 (c.ev e) (vwp P a Q e H) (vwp P b Q e H):=Aa rfl
def Rnd (n0:Nat) (lv:List Nat) (Q:VEx→Env→List Ob→Prop) (I:Nat→Env→List Ob→Prop) (n:Nat):VEx→Env→List Ob→Prop:=fun x e H=>match x with
 | .nor=>∃ m g,m<n∧(n0≤g∧(H.length≤g∨(SS g (forget lv e)=true∧OX g (H.take g)=true)))∧I m (forget lv e) (H.take g)
 | .exit i=>Q (.exit i) e H | .ret=>Q .ret e H | .pan u=>Q (.pan u) e H
section
variable {n0:Nat} {lv:List Nat} {I:Nat→Env→List Ob→Prop} {n:Nat}
theorem AiH {i:Nat}:Rnd n0 lv Q I n (.exit i) e H=Q (.exit i) e H:=Aa rfl
theorem Ak9:Rnd n0 lv Q I n .ret e H=Q .ret e H:=Aa rfl
theorem BR (m:Nat) (hm:m<n) (h:n0≤H.length) (hR:I m (forget lv e) H):Rnd n0 lv Q I n .nor e H:=by
 refine ⟨m,H.length,hm,⟨h,.inl (Nat.le_refl _)⟩,?_⟩
 rw [List.take_length]; exact hR
theorem DR (m g:Nat) (hm:m<n) (h:n0≤g) (he:SS g (forget lv e)=true) (hH:OX g (H.take g)=true) (hR:I m (forget lv e) (H.take g)):Rnd n0 lv Q I n .nor e H :=
 ⟨m,g,hm,⟨h,.inr ⟨he,hH⟩⟩,hR⟩
end
theorem FU {lv:List Nat} {H0:List Ob} (I:Nat→Env→List Ob→Prop) (n:Nat) (h0:I n (forget lv e) H0)
  (hs:∀ n e H,I n e H→vwp P a (Rnd H0.length lv Q I n) e H):vwp P (.loop lv a) Q e H0:=by
 rw [Apa]
 exact ⟨I,n,h0,hs⟩
theorem Aml {f:Opd} {ps:List Nat} {g:FuncId} {first caps:List TV} (hf:f.ev e = .fn (.func g) first caps) (hg:VJ P g=true) (ha:U8 a=true) (hb:U8 b=true)
  (h:∀ (N:Nat) (fn:FuncId) (ca cb:Code),Aca P N ps ca cb a b→Az P g (first++[.yl H.length 0]++caps) (H++[.lp .ready none fn N e ps ca cb]) (YI Q e H.length)):vwp P (.rfunc f ps a b) Q e H:=by
 rw [vwp,hf]; exact ⟨ha,hb,hg,h⟩
theorem o_g {d s:Nat} {o:VOp} {b:Bool} {r:List VO} {K:Env→List Ob→Prop}:WM P (⟨some d,o,some (s,b)⟩::r) K e H=X5 e s fun e q=>Gd q b (vop P o e H (fun x H=>WM P r K ((d,x)::e) H)) (WM P r K ((d,.val undef)::e) H):=by
 rw [AoV]; refine congrArg (X5 e s) ?_; funext e q; cases q<;>rfl
def AeO (x:TV) (e:Env) (s:Nat) (Q:Env→Option Bool→Prop) [Tg Q]:Prop:=match x with
 | .val v=>Q e (isB v)
 | .any=>(∀ t,Q ((s,.val (.bool t))::e) (some t))∧∀ v,isB v=none→Q ((s,.val v)::e) none
 | _=>False
@[congr] theorem Ari {x x':TV} {s:Nat} {Q:Env→Option Bool→Prop} (h:x=x'):AeO x e s Q=AeO x' e s Q:=by rw [h]
theorem An2 {s:Nat} {Q:Env→Option Bool→Prop}:X5 e s Q=AeO (get e s) e s Q:=Aa rfl
theorem Akb {b:Bool} {s:Nat} {Q:Env→Option Bool→Prop}:AeO (.val (.bool b)) e s Q=Q e (some b):=Aa rfl
theorem Alh {s:Nat} {Q:Env→Option Bool→Prop}:AeO (.val undef) e s Q=Q e none:=Aa rfl
theorem u_c {d:Nat} {f:FuncId} {args:List Opd} {r:List VO} {K:Env→Prop}:vq P (⟨some d,.s (.call f args),none⟩::r) K e H=Bz (evs e args) fun xs=>Dl (Qj xs) (vex fun x=>VC P f xs H (fun y H'=>y=x∧H'=H)∧vq P r K ((d,x)::e) H):=by
 rw [AsX,MX]; rfl
def Gq (x:TV) (b:Bool) (A B:Prop) [Tg A] [Tg B]:Prop:=match x with
 | .val v=>if isB v=some b then A else B
 | _=>False
@[congr] theorem As7 {x x':TV} {b:Bool} {A B:Prop} (h:x=x'):Gq x b A B=Gq x' b A B:=by rw [h]
theorem As1 {t:Bool} {A B:Prop}:Gq (.val (.bool t)) true A B=vif t A B:=by cases t<;>simp [Gq,vif,isB]
theorem AsM {b:Bool} {A B:Prop}:Gq (.val undef) b A B=B:=by simp [Gq,isB,undef]
theorem AsQ {t:Bool} {A B:Prop}:Gq (.val (.bool t)) false A B=vif t B A:=by cases t<;>simp [Gq,vif,isB]
theorem u_g {d s:Nat} {o:VOp} {b:Bool} {r:List VO} {K:Env→Prop}:vq P (⟨some d,o,some (s,b)⟩::r) K e H=Gq (get e s) b (Yb P o e H fun x=>vq P r K ((d,x)::e) H) (vq P r K ((d,.val undef)::e) H):=Aa rfl
theorem As0 {f:FuncId} {args:List Opd} {k:TV→Prop}:Yb P (.s (.call f args)) e H k=Bz (evs e args) fun xs=>Dl (Qj xs) (vex fun x=>VC P f xs H (fun y H'=>y=x∧H'=H)∧k x):=by
 rw [Ala,MX]; rfl
def Anr (P:Program) (x:TV) (s k:Nat) (c:Af) (Q:VEx→Env→List Ob→Prop) (e:Env) (H:List Ob):Prop:=match x with
  | .val (.slice none 0 0)=>vwp P c Q ((s,.os k H.length 0 [] 0 0 0)::e) (H++[.obj 0 (.arr 0 k [])])
  | _=>vwp P c Q e H
@[congr] theorem AsF {x x':TV} {s k:Nat} (h:x=x'):Anr P x s k a Q e H=Anr P x' s k a Q e H:=by rw [h]
theorem AqD {s k:Nat}:vwp P (.own s k a) Q e H=Anr P (get e s) s k a Q e H:=Aa rfl
theorem Ag7 {s k:Nat}:Anr P (.val (.slice none 0 0)) s k a Q e H=vwp P a Q ((s,.os k H.length 0 [] 0 0 0)::e) (H++[.obj 0 (.arr 0 k [])]):=Aa rfl
theorem Akz {s k k' id ver off n cp:Nat} {p:List (Nat×Nat)}:Anr P (.os k' id ver p off n cp) s k a Q e H=vwp P a Q e H:=Aa rfl
end
theorem Aqc {t:Nat} {K:TV→Prop}:res [.tmp t] e H K=Bz (get e t) K:=Aa rfl
theorem AnZ {t:Nat} {r:List VR} {K:List TV→Prop}:Aa4 (.tmp t::r) e H K=Bz (get e t) fun x=>Aa4 r e H fun xs=>K (x::xs):=Aa rfl
def Asz (K:TV→Prop) (xs:List TV):Prop:=match xs with
 | [x]=>K x
 | xs=>(∀ x∈xs,CP x=false)∧K (.tup xs)
theorem AhH {x y:TV} {l:List TV} {K:TV→Prop}:Asz K (x::y::l)=Dl (Qj (x::y::l)) (Bz (TV.tup (x::y::l)) K):=Aa rfl
theorem AoW {r s:VR} {l:List VR} {K:TV→Prop}:res (r::s::l) e H K=Aa4 (r::s::l) e H (Asz K):=Aa rfl
theorem Anl {a sz:Nat} {ag:Bool} {K:TV→Prop}:res [.cell a ag sz] e H K=pop (.load ag sz (.t a)) e H K:=Aa rfl
theorem ApT {K:TV→Prop}:res [] e H K=K (.tup []):=by rw [AeX]; simp
end
def VCP (P:Program) (f:FuncId) (xs:List TV) (H:List Ob) (K:TV→List Ob→Prop) (KP:Value→List Ob→Prop) [Tg K] [Tg KP]:Prop:=RZ P f xs H K KP
@[congr] theorem Ape {P:Program} {f:FuncId} {xs xs':List TV} {H H':List Ob} {K:TV→List Ob→Prop} {KP:Value→List Ob→Prop} (he:xs=xs') (hH:H=H'):VCP P f xs H K KP=VCP P f xs' H' K KP:=by rw [he,hH]
def Amu (x:TV) (K:Value→Prop) [Tg K]:Prop:=match x with
 | .val (.iface t v)=>K (.iface t v)
 | .ifc t (.val v)=>K (.iface t v)
 | _=>False
@[congr] theorem AsK {x x':TV} {K:Value→Prop} (h:x=x'):Amu x K=Amu x' K:=by rw [h]
theorem AgT {t:TypeId} {v:Value} {K:Value→Prop}:Amu (.ifc t (.val v)) K=K (.iface t v):=Aa rfl
theorem Ale {t:TypeId} {v:Value} {K:Value→Prop}:Amu (.val (.iface t v)) K=K (.iface t v):=Aa rfl
section
variable {P:Program} {e:Env} {H:List Ob} {r:List VO} {K:Env→List Ob→Prop} {PP:Value→List Ob→Prop} {Q:VEx→Env→List Ob→Prop}
@[congr] theorem AlW {l:List VO} {e':Env} {H':List Ob} (he:e=e') (hH:H=H'):Qp P PP l K e H=Qp P PP l K e' H':=by rw [he,hH]
@[congr] theorem Aj8 {o:VOp} {e':Env} {H':List Ob} {KK:TV→List Ob→Prop} (he:e=e') (hH:H=H'):pvop P PP o e H KK=pvop P PP o e' H' KK:=by rw [he,hH]
theorem Aob {l:List VO} {kp:List Nat}:vwp P (.pops l kp) Q e H=Qp P (fun u H=>Q (.pan u) (AbZ l e) H) l (fun e H=>Bz (forget kp e) fun e=>Q .nor e H) e H:=Aa rfl
theorem AlC {n:Nat} {l:List VO} {kp:List Nat}:vwp P (.pdraw n l kp) Q e H=(vq P (l.take n) (fun e=>Qp P (fun u H=>Q (.pan u) [] H) (l.drop n) (fun e H=>Bz (forget kp e) fun e=>Q .nor e H) e H) e H):=Aa rfl
theorem AnX:Qp P PP [] K e H=K e H:=Aa rfl
theorem AsY {d:Nat} {o:VOp}:Qp P PP (⟨some d,o,none⟩::r) K e H=pvop P PP o e H (fun x H=>Qp P PP r K ((d,x)::e) H):=Aa rfl
theorem ArW {o:VOp}:Qp P PP (⟨none,o,none⟩::r) K e H=pvop P PP o e H (fun x H=>Qp P PP r K e H):=Aa rfl
theorem AsR {d s:Nat} {o:VOp} {b:Bool}:Qp P PP (⟨some d,o,some (s,b)⟩::r) K e H=X5 e s fun e q=>Gd q b (pvop P PP o e H (fun x H=>Qp P PP r K ((d,x)::e) H)) (Qp P PP r K ((d,.val undef)::e) H):=by
 show JR (pvop P PP) _ K e H=_
 rw [JR]
 refine congrArg (X5 e s) ?_; funext e q; cases q<;>rfl
theorem Anf {o:POp} {KK:TV→List Ob→Prop}:pvop P PP (.p o) e H KK=pop o e H fun x=>KK x H:=Aa rfl
theorem AfE {f:FuncId} {args:List Opd} {KK:TV→List Ob→Prop}:pvop P PP (.s (.call f args)) e H KK=Bz (evs e args) fun xs=>Dl (Qj xs) (VCP P f xs H KK PP):=by
 show ((∀ x∈args,CP (x.ev e)=false)∧_)=_
 rw [MX]; rfl
theorem Aip {x:Opd} {KK:TV→List Ob→Prop}:pvop P PP (.s (.pan x)) e H KK=Amu (x.ev e) (fun u=>PP u H):=by
 show (match x.ev e with | .val (.iface t v)=>PP (.iface t v) H | .ifc t (.val v)=>PP (.iface t v) H | _=>False)=_
 unfold Amu
 split<;>simp_all
theorem Ac9 {z:TV} {KK:TV→List Ob→Prop}:pvop P PP (.s (.alloc z)) e H KK=sop P (.alloc z) e H KK:=Aa rfl
theorem AiW {x:Opd} {KK:TV→List Ob→Prop}:pvop P PP (.s (.box x)) e H KK=sop P (.box x) e H KK:=Aa rfl
theorem AbM {k n:Nat} {z:TV} {ps:List (Nat×Opd)} {KK:TV→List Ob→Prop}:pvop P PP (.s (.bslice k n z ps)) e H KK=sop P (.bslice k n z ps) e H KK:=Aa rfl
theorem AdF {sz:Nat} {x v:Opd} {KK:TV→List Ob→Prop}:pvop P PP (.s (.store sz x v)) e H KK=sop P (.store sz x v) e H KK:=Aa rfl
theorem Ahk {k bytes:Nat} {z:TV} {l c:Opd} {KK:TV→List Ob→Prop}:pvop P PP (.s (.mks k bytes z l c)) e H KK=sop P (.mks k bytes z l c) e H KK:=Aa rfl
theorem AgX {k bytes:Nat} {et:TypeId} {x y:Opd} {KK:TV→List Ob→Prop}:pvop P PP (.s (.app k bytes et x y)) e H KK=sop P (.app k bytes et x y) e H KK:=Aa rfl
theorem Aeo {et:TypeId} {x y:Opd} {KK:TV→List Ob→Prop}:pvop P PP (.s (.appS et x y)) e H KK=sop P (.appS et x y) e H KK:=Aa rfl
theorem Aep {k n:Nat} {z:TV} {x y:Opd} {KK:TV→List Ob→Prop}:pvop P PP (.s (.appZ k n z x y)) e H KK=sop P (.appZ k n z x y) e H KK:=Aa rfl
theorem AgZ {x:Opd} {n:Bool} {KK:TV→List Ob→Prop}:pvop P PP (.s (.eqS x n)) e H KK=sop P (.eqS x n) e H KK:=Aa rfl
theorem AhR {x:Opd} {KK:TV→List Ob→Prop}:pvop P PP (.s (.s2b x)) e H KK=sop P (.s2b x) e H KK:=Aa rfl
theorem Aex {k:Nat} {x y:Opd} {KK:TV→List Ob→Prop}:pvop P PP (.s (.copy k x y)) e H KK=sop P (.copy k x y) e H KK:=Aa rfl
theorem Ado {x y:Opd} {KK:TV→List Ob→Prop}:pvop P PP (.s (.copyS x y)) e H KK=sop P (.copyS x y) e H KK:=Aa rfl
theorem Adt {x:Opd} {args:List Opd} {KK:TV→List Ob→Prop}:pvop P PP (.s (.callv x args)) e H KK=sop P (.callv x args) e H KK:=Aa rfl
theorem AgF {x:Opd} {nm:String} {args:List Opd} {KK:TV→List Ob→Prop}:pvop P PP (.s (.inv x nm args)) e H KK=sop P (.inv x nm args) e H KK:=Aa rfl
theorem AiU {kk:MK} {h:Option Opd} {KK:TV→List Ob→Prop}:pvop P PP (.s (.mkm kk h)) e H KK=sop P (.mkm kk h) e H KK:=Aa rfl
theorem Aei {kk:MK} {m k x:Opd} {KK:TV→List Ob→Prop}:pvop P PP (.s (.mupd kk m k x)) e H KK=sop P (.mupd kk m k x) e H KK:=Aa rfl
theorem Aes {kk:MK} {z:TV} {m k:Opd} {KK:TV→List Ob→Prop}:pvop P PP (.s (.ment kk z m k)) e H KK=sop P (.ment kk z m k) e H KK:=Aa rfl
theorem Ae3 {m st x:Opd} {KK:TV→List Ob→Prop}:pvop P PP (.s (.mest m st x)) e H KK=sop P (.mest m st x) e H KK:=Aa rfl
theorem Abi {z:TV} {t:TypeId} {KK:TV→List Ob→Prop}:pvop P PP (.s (.allocT z t)) e H KK=sop P (.allocT z t) e H KK:=Aa rfl
theorem Afg {x:Opd} {t:TypeId} {KK:TV→List Ob→Prop}:pvop P PP (.s (.boxT x t)) e H KK=sop P (.boxT x t) e H KK:=Aa rfl
theorem AfV {x:Opd} {KK:TV→List Ob→Prop}:pvop P PP (.s (.rngS x)) e H KK=sop P (.rngS x) e H KK:=Aa rfl
theorem AeG {x:Opd} {KK:TV→List Ob→Prop}:pvop P PP (.s (.nxtS x)) e H KK=sop P (.nxtS x) e H KK:=Aa rfl
theorem Afo {x:Opd} {KK:TV→List Ob→Prop}:pvop P PP (.s (.rngM x)) e H KK=sop P (.rngM x) e H KK:=Aa rfl
theorem Ags {x:Opd} {KK:TV→List Ob→Prop}:pvop P PP (.s (.nxtM x)) e H KK=sop P (.nxtM x) e H KK:=Aa rfl
theorem AfT {kk:MK} {m k:Opd} {KK:TV→List Ob→Prop}:pvop P PP (.s (.delM kk m k)) e H KK=sop P (.delM kk m k) e H KK:=Aa rfl
theorem Ahp {x:Opd} {KK:TV→List Ob→Prop}:pvop P PP (.s (.cvS x)) e H KK=sop P (.cvS x) e H KK:=Aa rfl
theorem Agd {k:Nat} {z:TV} {x:Opd} {KK:TV→List Ob→Prop}:pvop P PP (.s (.clrS k z x)) e H KK=sop P (.clrS k z x) e H KK:=Aa rfl
theorem Af7 {f:FuncId} {x:Opd} {KK:TV→List Ob→Prop}:pvop P PP (.s (.bstr f x)) e H KK=sop P (.bstr f x) e H KK:=Aa rfl
theorem AlL {b:Af} {u:Value}:Thn P b Q (.pan u) e H=Q (.pan u) e H:=Aa rfl
theorem Ak0 {id:Nat} {u:Value}:Blk id Q (.pan u) e H=Q (.pan u) e H:=Aa rfl
theorem AlI {n0:Nat} {lv:List Nat} {I:Nat→Env→List Ob→Prop} {n:Nat} {u:Value}:Rnd n0 lv Q I n (.pan u) e H=Q (.pan u) e H:=Aa rfl
theorem AdB {vr:List VR} {R:TV→List Ob→Prop} {RP:Value→List Ob→Prop}:Ago vr R RP .ret e H=res vr e H fun x=>R x H:=Aa rfl
theorem Ac8 {vr:List VR} {R:TV→List Ob→Prop} {RP:Value→List Ob→Prop}:Ago vr R RP .nor e H=res vr e H fun x=>R x H:=Aa rfl
theorem AdG {vr:List VR} {R:TV→List Ob→Prop} {RP:Value→List Ob→Prop} {u:Value}:Ago vr R RP (.pan u) e H=RP u H:=Aa rfl
def ZQ (P:Program) (PP:Value→List Ob→Prop) (Ss:SsT) (l:List VO) (K:Env→List Ob→Prop) (e:Env) (H:List Ob):Prop:=JR (pvopS P PP Ss) l K e H
@[congr] theorem Aly {Ss:SsT} {l:List VO} {e':Env} {H':List Ob} (he:e=e') (hH:H=H'):ZQ P PP Ss l K e H=ZQ P PP Ss l K e' H':=by rw [he,hH]
@[congr] theorem AjE {Ss:SsT} {o:VOp} {e':Env} {H':List Ob} {KK:TV→List Ob→Prop} (he:e=e') (hH:H=H'):pvopS P PP Ss o e H KK=pvopS P PP Ss o e' H' KK:=by rw [he,hH]
theorem Alf {n:Nat} {l:List VO} {kp:List Nat}:vwp P (.sdraw n l kp) Q e H=(vq P (l.take (nOf n)) (fun e=>ZQ P (fun u H=>Q (.pan u) [] H) (ssN n l) (l.drop (nOf n)) (fun e H=>Bz (forget kp e) fun e=>Q .nor e H) e H) e H):=Aa rfl
section
variable {Ss:SsT}
theorem AoJ:ZQ P PP Ss [] K e H=K e H:=Aa rfl
theorem AsL {d:Nat} {o:VOp}:ZQ P PP Ss (⟨some d,o,none⟩::r) K e H=pvopS P PP Ss o e H (fun x H=>ZQ P PP Ss r K ((d,x)::e) H):=Aa rfl
theorem Arv {o:VOp}:ZQ P PP Ss (⟨none,o,none⟩::r) K e H=pvopS P PP Ss o e H (fun x H=>ZQ P PP Ss r K e H):=Aa rfl
theorem Apb {o:POp} {KK:TV→List Ob→Prop}:pvopS P PP Ss (.p o) e H KK=pop o e H fun x=>KK x H:=Aa rfl
theorem Afj {f:FuncId} {args:List Opd} {KK:TV→List Ob→Prop}:pvopS P PP Ss (.s (.call f args)) e H KK=Bz (evs e args) fun xs=>Dl (Qj xs) (VCP P f xs H (fun x H'=>KK x H'∧RF Ss.l e H H') PP):=by
 show ((∀ x∈args,CP (x.ev e)=false)∧_)=_
 rw [MX]; rfl
theorem Ac6 {sz:Nat} {x v:Opd} {KK:TV→List Ob→Prop}:pvopS P PP Ss (.s (.store sz x v)) e H KK=sop P (.store sz x v) e H fun x H'=>KK x H'∧RF Ss.st e H H':=Aa rfl
theorem AdD {z:TV} {KK:TV→List Ob→Prop}:pvopS P PP Ss (.s (.alloc z)) e H KK=sop P (.alloc z) e H KK:=Aa rfl
theorem AhC {k bytes:Nat} {z:TV} {l c:Opd} {KK:TV→List Ob→Prop}:pvopS P PP Ss (.s (.mks k bytes z l c)) e H KK=sop P (.mks k bytes z l c) e H KK:=Aa rfl
theorem Ajo {k bytes:Nat} {et:TypeId} {x y:Opd} {KK:TV→List Ob→Prop}:pvopS P PP Ss (.s (.app k bytes et x y)) e H KK=vif Ss.ap (sop P (.app k bytes et x y) e H fun x H'=>KK x H'∧RF Ss.l e H H') (sop P (.app k bytes et x y) e H KK):=by
 show sop P (.app k bytes et x y) e H (fun x H'=>KK x H'∧(Ss.ap=true→RF Ss.l e H H'))=_
 unfold vif
 split
 ·rename_i h
  congr 1; funext x H'; simp [h]
 ·rename_i h
  congr 1; funext x H'; simp [h]
theorem Afy {et:TypeId} {x y:Opd} {KK:TV→List Ob→Prop}:pvopS P PP Ss (.s (.appS et x y)) e H KK=sop P (.appS et x y) e H KK:=Aa rfl
theorem Apj {n:Nat}:nOf n=n % 10000:=Aa rfl
theorem AnN {n:Nat} {l:List VO}:(ssN n l).ap=decide (10000≤n):=Aa rfl
theorem Ajj {x:Opd} {KK:TV→List Ob→Prop}:pvopS P PP Ss (.s (.s2b x)) e H KK=sop P (.s2b x) e H KK:=Aa rfl
theorem Abg {k n:Nat} {z:TV} {ps:List (Nat×Opd)} {KK:TV→List Ob→Prop}:pvopS P PP Ss (.s (.bslice k n z ps)) e H KK=sop P (.bslice k n z ps) e H KK:=Aa rfl
end
theorem Az.callsP {f:FuncId} {args:List TV} {R:TV→List Ob→Prop} {RP:Value→List Ob→Prop} (h:Az P f args H R):VCP P f args H R RP:=h.mayP
end
def Ah:=(aI_ (aI_ (aI_ (aI_ (aI_ (aI_ (aI_ (aI_ @Ap9 @Apc) (aI_ @Ap8 @AsW)) (aI_ (aI_ @Aor @Aq9) (aI_ @Aru @AoN))) (aI_ (aI_ (aI_ @AjA @Al9) (aI_ @AoZ @AlK)) (aI_ (aI_ @Ap2 @AoC) (aI_ @Ap4 @Anx)))) (aI_ (aI_ (aI_ (aI_ @AmP @AqI) (aI_ @ArE @Aq6)) (aI_ (aI_ @AkW @Aqk) (aI_ @AmX @Arr))) (aI_ (aI_ (aI_ @ApZ @Aqi) (aI_ @AqJ @Aq3)) (aI_ (aI_ @Alj @AgM) (aI_ @ArQ @Akt))))) (aI_ (aI_ (aI_ (aI_ (aI_ @Ag9 @Aqa) (aI_ @Aom @AmH)) (aI_ (aI_ @AoE @AnH) (aI_ @AnU @Aod))) (aI_ (aI_ (aI_ @Anw @Ao1) (aI_ @Arp @Agy)) (aI_ (aI_ @AkX @Ars) (aI_ @AqM @Apg)))) (aI_ (aI_ (aI_ (aI_ @Am8 @Ak5) (aI_ @Aqt @Aoc)) (aI_ (aI_ @ApW @AoS) (aI_ @Anp @Am9))) (aI_ (aI_ (aI_ @AnO @Anb) (aI_ @Aox @Amo)) (aI_ (aI_ @Arf @ArB) (aI_ @Aoz @Aql)))))) (aI_ (aI_ (aI_ (aI_ (aI_ (aI_ @AnD @An0) (aI_ @AqU @Akd)) (aI_ (aI_ @Anz @Apq) (aI_ @Ar4 @Akr))) (aI_ (aI_ (aI_ @AqD @AoK) (aI_ @AnB @Ajz)) (aI_ (aI_ @Aog @AnE) (aI_ @AlA @o_g)))) (aI_ (aI_ (aI_ (aI_ @An2 @AqE) (aI_ @Ar5 @AoI)) (aI_ (aI_ @As5 @u_c) (aI_ @u_g @Amr))) (aI_ (aI_ (aI_ @As0 @AaD) (aI_ @Aaw @Aqc)) (aI_ (aI_ @Anl @ApT) (aI_ @AoW @Ab2))))) (aI_ (aI_ (aI_ (aI_ (aI_ @AnZ @ZV) (aI_ @AhH @Aki)) (aI_ (aI_ @AiK @Ak4) (aI_ @Akk @AiB))) (aI_ (aI_ (aI_ @Abt @Alz) (aI_ @AiH @Ak9)) (aI_ (aI_ @Aob @AlC) (aI_ @Alf @AoJ)))) (aI_ (aI_ (aI_ (aI_ @AsL @Arv) (aI_ @Apb @Afj)) (aI_ (aI_ @Ac6 @AdD) (aI_ @AhC @Ajo))) (aI_ (aI_ (aI_ @Afy @Ajj) (aI_ @Abg @AnX)) (aI_ (aI_ @AsY @ArW) (aI_ @AsR @Anf))))))) (aI_ (aI_ (aI_ (aI_ (aI_ (aI_ @AfE @Aip) (aI_ @Ac9 @AiW)) (aI_ (aI_ @AbM @AdF) (aI_ @Ahk @AgX))) (aI_ (aI_ (aI_ @Aeo @AhR) (aI_ @Aep @AgZ)) (aI_ (aI_ @Aex @Ado) (aI_ @Adt @AgF)))) (aI_ (aI_ (aI_ (aI_ @AiU @Aei) (aI_ @Aes @Ae3)) (aI_ (aI_ @Abi @Afg) (aI_ @AfV @AeG))) (aI_ (aI_ (aI_ @Afo @Ags) (aI_ @AfT @Agd)) (aI_ (aI_ @Ahp @Af7) (aI_ @AlL @Ak0))))) (aI_ (aI_ @AlI @AdB) (aI_ @Ac8 @AdG))))
def Ad:=(aI_ (aI_ (aI_ (aI_ (aI_ (aI_ (aI_ (aI_ @Apj @AnN) (aI_ @Ale @AgT)) (aI_ (aI_ @Ag8 @AfA) (aI_ @Aj6 @Akm))) (aI_ (aI_ (aI_ @Aot @AoO) (aI_ @AoL @Afh)) (aI_ (aI_ @Aim @AlP) (aI_ @Aiu @Aon)))) (aI_ (aI_ (aI_ (aI_ @Agg @Al0) (aI_ @AhK @Anj)) (aI_ (aI_ @AlM @Aoe) (aI_ @AmQ @Afi))) (aI_ (aI_ (aI_ @AkI @AhU) (aI_ @Ako @AiG)) (aI_ (aI_ @AjW @Anc) (aI_ @AhV @AkG))))) (aI_ (aI_ (aI_ (aI_ (aI_ @Ak7 @AiX) (aI_ @Ait @AcX)) (aI_ (aI_ @Adc @Af0) (aI_ @Ajk @Ahw))) (aI_ (aI_ (aI_ @Aev @AfX) (aI_ @Ald @AiT)) (aI_ (aI_ @Akg @Ai6) (aI_ @AgD @AhZ)))) (aI_ (aI_ (aI_ (aI_ @Afz @Amk) (aI_ @Al4 @Ak1)) (aI_ (aI_ @Alv @Ame) (aI_ @Al7 @AlJ))) (aI_ (aI_ (aI_ @Ai7 @Amg) (aI_ @Ajt @Akv)) (aI_ (aI_ @Agf @Amb) (aI_ @Ag6 @AjB)))))) (aI_ (aI_ (aI_ (aI_ (aI_ (aI_ @AgV @AfG) (aI_ @AdM @Aj5)) (aI_ (aI_ @Akj @AmM) (aI_ @AnJ @Aoq))) (aI_ (aI_ (aI_ @AoM @AiS) (aI_ @AjC @AhB)) (aI_ (aI_ @Ahc @AoG) (aI_ @AnY @Aoi)))) (aI_ (aI_ (aI_ (aI_ @Afa @Adf) (aI_ @AdR @Aic)) (aI_ (aI_ @Ajp @Agq) (aI_ @Ais @Ahb))) (aI_ (aI_ (aI_ @Ajc @Ak3) (aI_ @Aj4 @AgP)) (aI_ (aI_ @Aee @Air) (aI_ @AkP @Ai1))))) (aI_ (aI_ (aI_ (aI_ (aI_ @Alg @Alu) (aI_ @AlT @AiR)) (aI_ (aI_ @AgH @Ag0) (aI_ @Aij @Ajf))) (aI_ (aI_ (aI_ @AgK @Aed) (aI_ @Ah3 @AjY)) (aI_ (aI_ @Ao0 @Agh) (aI_ @Apf @Anu)))) (aI_ (aI_ (aI_ (aI_ @Akp @AkZ) (aI_ @AlR @Aho)) (aI_ (aI_ @Ahs @Agw) (aI_ @Option.getD_none.{0} @Option.getD_some.{0}))) (aI_ (aI_ (aI_ @Ae0 @Ak6) (aI_ @AgC @AhF)) (aI_ (aI_ @Ah5 @Ab8) (aI_ @Af1 @Ajs))))))) (aI_ (aI_ (aI_ (aI_ (aI_ (aI_ @Ahi @AkQ) (aI_ @Aib @AkE)) (aI_ (aI_ @AgJ @Afn) (aI_ @Amh @Ai5))) (aI_ (aI_ (aI_ @AiI @Ahm) (aI_ @Ahr @Ah4)) (aI_ (aI_ @Aht @Aii) (aI_ @Amt @AdT)))) (aI_ (aI_ (aI_ (aI_ @Ak2 @AoX) (aI_ @Am1 @Ac3)) (aI_ (aI_ @AdU @Aqj) (aI_ @Ary @As3))) (aI_ (aI_ (aI_ @Ah9 @Akb) (aI_ @Alh @As1)) (aI_ (aI_ @AsQ @AsM) (aI_ @Ag7 @Akz))))) (aI_ (aI_ (aI_ @Ajg @AgG) (aI_ @Alb @AiL)) (aI_ @AdX @AdJ))))
def Ai:=(aI_ (aI_ (aI_ (aI_ (aI_ (aI_ (aI_ (aI_ @AiN @Ahe) (aI_ @Al1 @AlZ)) (aI_ (aI_ @AkY @Ak8) (aI_ @Aix @AhT))) (aI_ (aI_ (aI_ @AhG @Ahx) (aI_ @AkT @AkL)) (aI_ (aI_ @Akn @AeD) (aI_ @AeV @Ahv)))) (aI_ (aI_ (aI_ (aI_ @AiV @AgI) (aI_ @Ai3 @AdZ)) (aI_ (aI_ @AfY @Ad5) (aI_ @Aeb @AiY))) (aI_ (aI_ (aI_ @Ahy @Ai9) (aI_ @AhS @AkO)) (aI_ (aI_ @Aj7 @AlD) (aI_ @AlQ @Aiv))))) (aI_ (aI_ (aI_ (aI_ (aI_ @Ag5 @Ah6) (aI_ @AiD @Al8)) (aI_ (aI_ @Ams @Alp) (aI_ @AeS @AeB))) (aI_ (aI_ (aI_ @Ajh @Ajm) (aI_ @AhY @Aiz)) (aI_ (aI_ @Af9 @Ajl) (aI_ @Ahq @AeR)))) (aI_ (aI_ (aI_ (aI_ @Agj @Agv) (aI_ @AgN @AiZ)) (aI_ (aI_ @Aha @AeE) (aI_ @AfL @Ahu))) (aI_ (aI_ (aI_ @Aje @AgQ) (aI_ @Ad1 @Afx)) (aI_ (aI_ @AcU @AbR) (aI_ @Afs @Aez)))))) (aI_ (aI_ (aI_ (aI_ (aI_ (aI_ @Ae8 @AfB) (aI_ @AdC @AgO)) (aI_ (aI_ @Afv @AbX) (aI_ @Aax @AcW))) (aI_ (aI_ (aI_ @AgY @AfH) (aI_ @Aai @Zd)) (aI_ (aI_ @As4 @As2) (aI_ @Asx @Agz)))) (aI_ (aI_ (aI_ (aI_ @Ajr @Aio) (aI_ @Ab9 @Ah2)) (aI_ (aI_ @Ag3 @Adu) (aI_ @Abw @Ae6))) (aI_ (aI_ (aI_ @Adm @Ajw) (aI_ @Adb @Aa5)) (aI_ (aI_ @Ade @Ab0) (aI_ @Aeu @Ada))))) (aI_ (aI_ (aI_ (aI_ (aI_ @AbK @Z4) (aI_ @ZN @XQ)) (aI_ (aI_ @Aj2 @AiO) (aI_ @AeX @Aih))) (aI_ (aI_ (aI_ @Ab2 @AiC) (aI_ @ZV @AaD)) (aI_ (aI_ @Aaw @Ai4) (aI_ @AiQ @AkF)))) (aI_ (aI_ (aI_ (aI_ @Alr @AhX) (aI_ @Amn @Alo)) (aI_ (aI_ @Aid @Ahd) (aI_ @Ahj @AeC))) (aI_ (aI_ (aI_ @Adk @AkJ) (aI_ @AlE @Ano)) (aI_ (aI_ @Ami @Amj) (aI_ @AlF @Al3))))))) (aI_ (aI_ (aI_ @AiP @Ae1) (aI_ @Af3 @Ajn)) (aI_ (aI_ @Ar6 @Ao7) @Aos)))
theorem Adi {α β:Type} {f:α→β} {l:List α} {i:Nat}:(l.map f).drop i=(l.drop i).map f:=List.map_drop.symm
theorem Adr {α β:Type} {f:α→β} {l:List α} {i:Nat}:(l.map f).take i=(l.take i).map f:=List.map_take.symm
theorem AoR {b:UInt8}:IntKind.i64.wrap (b.toNat:Int)=b.toNat:=Ef (by omega) (by have:=b.toNat_lt; omega)
theorem An1 {n:Nat}:IntKind.u8.wrap (n:Int)=((UInt8.ofNat n).toNat:Int):=by
 rw [IntKind.wrap_u8,UInt8.toNat_ofNat']; omega
theorem Ao4 {α:Type} {n i:Nat} {a:α} (h:i<n):(List.replicate n a)[i]?=some a:=by simp [h]
section
variable {a b c:Nat}
theorem Ahf:(a:Int)*(b:Int)=((a*b:Nat):Int):=Aa rfl
theorem Ajx (h:b≤a):(a:Int) - (b:Int)=((a - b:Nat):Int):=by omega
theorem AgW:(a:Int) / (b:Int)=((a / b:Nat):Int):=Aa rfl
theorem AgE:(a:Int) % (b:Int)=((a % b:Nat):Int):=Aa rfl
variable {t:TypeId} {k2:IntKind}
theorem Aoo (h1:b≤63) (h2:a*2 ^ b≤9223372036854775807):G5 t .shl (.int .i64 (a:Int)) (.int k2 (b:Int))=some (.int .i64 ((a*2 ^ b:Nat):Int)):=by
 have e:(a:Int)*2 ^ ((b:Int).toNat)=((a*2 ^ b:Nat):Int):=by rw [Int.toNat_natCast,Int.natCast_mul,Int.natCast_pow]; rfl
 rw [Arq (by omega) (by omega) (by rw [e]; omega) (by rw [e]; omega),e]
theorem Ann (h1:b≤63):G5 t .shr (.int .i64 (a:Int)) (.int k2 (b:Int))=some (.int .i64 ((a / 2 ^ b:Nat):Int)):=by
 have e:(a:Int) / 2 ^ ((b:Int).toNat)=((a / 2 ^ b:Nat):Int):=by rw [Int.toNat_natCast,Int.natCast_ediv,Int.natCast_pow]; rfl
 rw [Aqx (by omega) (by omega) (by omega),e]
variable {k:IntKind}
theorem AnI (h:b≠0):G5 t .rem (.int k (a:Int)) (.int k (b:Int))=some (.int k ((a % b:Nat):Int)):=by rw [Arz (by omega) (by omega),Int.natCast_emod]
theorem Aoy (h:b≠0) (h2:a≤9223372036854775807):G5 t .quo (.int .i64 (a:Int)) (.int .i64 (b:Int))=some (.int .i64 ((a / b:Nat):Int)):=by rw [Ar3 (by omega) (by omega) (by omega),Int.natCast_ediv]
end
theorem Az.toPureV {P:Program} {f:FuncId} {args:List TV} {R:TV→Prop} (h:Az P f args [] fun x H'=>BA (frz H' x) R):CJ P f args R :=
 Az.toPure (h.mono fun x H' hx=>by
  cases hf:frz H' x with
  | none=>rw [hf] at hx; exact hx
  | some y=>rw [hf] at hx; exact hx)
abbrev mv_ (d s:Nat):VO:=⟨some d,.p (.mov (.t s)),none⟩
abbrev po_ (d:Nat) (p:POp):VO:=⟨some d,.p p,none⟩
abbrev so_ (d:Nat) (q:SOp):VO:=⟨some d,.s q,none⟩
abbrev ci_ (n:Nat):Opd := .c (.int .i64 (n:Int))
theorem Il {P:Program} {f:FuncId} {fn:Func} {vc:Af} {vr:List VR} (n:Nat) (hf:P.funcs[f]?=some fn) (ht:fn.body.bind (trC P fn.ntmps)=some (er vc)) (hr:trR P fn.results.toList=some vr) (hn:fn.ntmps=n) :
  ∀ ⦃args:List TV⦄ ⦃H:List Ob⦄ ⦃R:TV→List Ob→Prop⦄,args.length≤n→vwp P vc (XD vr R) (Ze 0 args) H→Az P f args H R:=fun _ _ _ h1 h2=>Aew hf ht hr (hn▸h1) h2
theorem Ac {c c':Af} (h:c=c'):∀ (P:Program) (Q:VEx→Env→List Ob→Prop) (e:Env) (H:List Ob),vwp P c Q e H=vwp P c' Q e H:=fun _ _ _ _=>by rw [h]
theorem Ae {α:Type}:(∀ {l:List α} {i:Nat} {a:α},(l.set i a).length=l.length)∧(∀ {l m:List α},(l++m).length=l.length+m.length)∧(∀ {a:α} {l:List α},(a::l).length=l.length+1)∧([]:List α).length=0:=⟨List.length_set,List.length_append,List.length_cons,List.length_nil⟩
theorem Az.toFreshV {P:Program} {f:FuncId} {args:List TV} {R:TV→Prop} (h:Az P f args [] fun x H'=>BA (frs H' x) R):Ph P f args R :=
 Az.toFresh (h.mono fun x H' hx=>by
  cases hf:frs H' x with
  | none=>rw [hf] at hx; exact hx
  | some y=>rw [hf] at hx; exact hx)
theorem AgL {α:Type} {l:List α} {n:Nat} (h:l.length≤n):l.take n=l:=List.take_of_length_le h
theorem ArZ {α:Type} {c:Prop} [Decidable c] {a b:α} (h:c):(if c then a else b)=a:=if_pos h
theorem Aqs {α:Type} {c:Prop} [Decidable c] {a b:α} (h:¬ c):(if c then a else b)=b:=if_neg h
theorem AbF {α:Type} {l:List α} {n:Nat} (h:n≤l.length):(l.take n).length=n:=by simp [h]
theorem Y8 {α:Type} {l:List α} {i:Nat}:(l.drop i).take (l.length - i)=l.drop i:=List.take_of_length_le (by simp)
theorem Ajd {a b:Nat}:a+b - a=b:=Nat.add_sub_cancel_left a b
theorem Ahn {α:Type} {l m:List α}:(l++m).take l.length=l:=List.take_left
theorem Ahg {α:Type} {l m:List α}:(l++m).drop l.length=m:=List.drop_left
theorem AgU {a b:Nat}:a+b - b=a:=Nat.add_sub_cancel a b
def Ag:=(aI_ (aI_ (aI_ (aI_ (aI_ (aI_ (aI_ @Ahn @Ahg) (aI_ @Ajd @Y8)) (aI_ (aI_ @AbF @List.length_drop.{0}) (aI_ @ArZ @Aqs))) (aI_ (aI_ (aI_ @AgL @AgU) (aI_ @Nat.zero_le @An4)) (aI_ (aI_ @List.nil_append.{0} @List.length_nil.{0}) (aI_ @List.length_cons.{0} @List.cons_append.{0})))) (aI_ (aI_ (aI_ (aI_ @List.getElem?_cons_zero.{0} @List.getElem?_cons_succ.{0}) (aI_ @List.set_cons_zero.{0} @List.set_cons_succ.{0})) (aI_ (aI_ @List.map_cons.{0,0} @List.map_nil.{0,0}) (aI_ @Ag1 @Ahz))) (aI_ (aI_ (aI_ @true_and @and_true) (aI_ @List.take_zero.{0} @List.take_succ_cons.{0})) (aI_ (aI_ @List.drop_succ_cons.{0} @List.take_nil.{0}) (aI_ @List.drop_nil.{0} @Nat.zero_add))))) (aI_ (aI_ (aI_ (aI_ (aI_ @Aq2 @AqH) (aI_ @ArR @AqW)) (aI_ (aI_ @AqP @Aro) (aI_ @Aqe @Ap7))) (aI_ (aI_ (aI_ @Aqn @ArV) (aI_ @AsZ @AnI)) (aI_ (aI_ @Aoy @AjN) (aI_ @Agi @Af6)))) (aI_ (aI_ (aI_ (aI_ @Aer @AfF) (aI_ @Adl @Ad0)) (aI_ (aI_ @Afk @Agl) (aI_ @AdW @AfS))) (aI_ (aI_ (aI_ @Bool.false_xor @Bool.true_xor) (aI_ @AqO @AqZ)) (aI_ (aI_ @Ap3 @decide_true) (aI_ @decide_false @Bool.not_true)))))) (aI_ (aI_ (aI_ (aI_ (aI_ (aI_ @Bool.not_false @not_true_eq_false) (aI_ @not_false_eq_true @Bool.false_eq_true)) (aI_ (aI_ @Bool.true_eq_false @Option.bind_some.{0,0}) (aI_ @Option.map_some.{0,0} @Bool.and_self))) (aI_ (aI_ (aI_ @and_self @Nat.sub_zero) (aI_ @Nat.mul_one @List.length_map.{0,0})) (aI_ (aI_ @Int.toNat_natCast @List.getElem?_map.{0,0}) (aI_ @Int.natCast_nonneg @List.length_append.{0})))) (aI_ (aI_ (aI_ (aI_ @List.drop_zero.{0} @Adi) (aI_ @Adr @AhE)) (aI_ (aI_ @Ag2 @Ai8) (aI_ @Ali @AkU))) (aI_ (aI_ (aI_ @AjX @Amq) (aI_ @List.replicate_zero.{0} @List.take_length.{0})) (aI_ (aI_ @List.length_set.{0} @List.length_replicate.{0}) (aI_ @AoR @Ef))))) (aI_ (aI_ (aI_ (aI_ @An1 @List.set_set.{0}) (aI_ @List.getElem?_nil.{0} @Ao4)) (aI_ (aI_ @Ahf @Ajx) (aI_ @AgW @AgE))) (aI_ @Aoo @Ann))))
end
section
open Go.RowKit
variable [Bq]
theorem Adg {g:Nat} {x:GV} (h:EU g=some x):(g,x)∈Bq.l:=by
 unfold EU at h
 obtain ⟨p,hp,rfl⟩:=Option.map_eq_some_iff.1 h
 have h1:=List.mem_of_find?_eq_some hp
 have h2:=List.find?_some hp
 have h3:p.1=g:=by simpa using h2
 obtain ⟨a,b⟩:=p
 simp only at h3; subst h3; exact h1
section
omit [Bq]
theorem Zi {P:Program} {w:World} {name:String} {g:Nat} {cs:Array Value} (hg:P.globalNamed name=some g) (h:w.var? P name=some cs):∃ t fr,w.heap[g]?=some (.cells cs t fr):=by
 unfold World.var? at h
 rw [hg,Option.bind_some] at h
 split at h
 ·rename_i c t fr hh; cases h; exact ⟨t,fr,hh⟩
 ·cases h
def Aiw (P:Program) (t:TypeId):Bool:=match P.underlying t with
 | some (.int _)=>true
 | some .string=>true
 | _=>false
def ApL:DataW Unit→Option Value
 | .lit (.int k n)=>some (.int k n)
 | .lit (.string l)=>some (.string ⟨l.toArray⟩)
 | _=>none
variable {P:Program} {w:World} {fuel:Nat} {cs:List Value}
theorem AbV {t:TypeId} {x:DataW Unit×List MemPlace} (ht:Aiw P t=true) (h:DataW.trod (fun _=>()) P w 0 (fun _=>true) false fuel t cs=some x):∃ v,ApL x.1=some v∧cs=[v]:=by
 unfold Aiw at ht
 split at ht
 ·rename_i k hk
  obtain ⟨n,rfl,rfl,_⟩:=DataW.trod_int hk h
  exact ⟨_,rfl,rfl⟩
 ·rename_i hk
  obtain ⟨s,rfl,rfl,_⟩:=DataW.trod_string hk h
  exact ⟨_,rfl,by simp⟩
 ·cases ht
theorem AbH {t e:TypeId} {n:Nat} {ds:List (DataW Unit)} {p:List MemPlace} {vs:List Value} (ht:P.underlying t=some (.array n e)) (he:Aiw P e=true) (hce:P.cellsOf e=1) (hct:P.cellsOf t=n) (hv:ds.map ApL=vs.map some)
  (h:DataW.trod (fun _=>()) P w 0 (fun _=>true) false fuel t cs=some (.agg ds,p)):cs=vs:=by
 cases fuel with
 | zero=>simp [DataW.trod] at h
 | succ fuel =>
  simp only [DataW.trod,ht,hce,hct,Nat.mul_one] at h
  split at h
  ·rename_i hl
   obtain ⟨xs,hm,hx⟩:=Option.map_eq_some_iff.1 h
   have hxs:xs.map (·.1)=ds:=by
    have:=congrArg Prod.fst hx
    simpa using this
   have hxl:xs.length=n:=by simpa using Lib.mapM_length hm
   have hvl:vs.length=n:=by
    have h1:=congrArg List.length hxs
    have h2:=congrArg List.length hv
    simp at h1 h2
    omega
   apply List.ext_getElem?
   intro i
   by_cases hi:i<n
   ·obtain ⟨b,hb,hf⟩:=Lib.mapM_at hm i i (by simp [hi])
    obtain ⟨v,hv1,hv2⟩:=AbV he hf
    have h1:cs[i]?=some v:=by
     have:=congrArg (·[0]?) hv2
     simpa [List.getElem?_take,List.getElem?_drop] using this
    have h2:ds[i]?=some b.1:=by rw [←hxs]; simp [hb]
    have h3:(ds.map ApL)[i]?=some (some v):=by simp [h2,hv1]
    rw [hv] at h3
    simp only [List.getElem?_map,Option.map_eq_some_iff,Option.some.injEq] at h3
    obtain ⟨u,hu,rfl⟩:=h3
    rw [h1,hu]
   ·rw [List.getElem?_eq_none (by omega),List.getElem?_eq_none (by omega)]
  ·cases h
theorem Ach {name:String} {d:DataW Unit}:∀ {laid:List (String×DataW Unit)} {ps:List MemPlace},DataW.LaidVars P w laid ps→(name,d)∈laid →
  ∃ g t cs fuel p,P.globalNamed name=some g∧(P.globals[g]?).map (·.type)=some t∧w.var? P name=some cs∧DataW.trod (fun _=>()) P w 0 (fun _=>true) false fuel t cs.toList=some (d,p)
 | [],ps,_,hm=>by simp at hm
 | (n,d')::r,ps,h,hm=>by
  obtain ⟨g,t,cs,fuel,p,q,h1,h2,h3,h4,h5,_⟩:=h
  rcases List.mem_cons.1 hm with e | hm
  ·cases e; exact ⟨g,t,cs,fuel,p,h1,h2,h3,h4⟩
  ·exact Ach h5 hm
theorem WT {laid:List (String×DataW Unit)} (h:laidMet P laid w) {name:String} {ds:List (DataW Unit)} (hm:(name,DataW.agg ds)∈laid) {g:Nat} {t e:TypeId} {n:Nat} {vs:List Value} (hg:P.globalNamed name=some g) (hty:(P.globals[g]?).map (·.type)=some t)
  (ht:P.underlying t=some (.array n e)) (he:Aiw P e=true) (hce:P.cellsOf e=1) (hct:P.cellsOf t=n) (hv:ds.map ApL=vs.map some):∃ tt fr,w.heap[g]?=some (.cells vs.toArray tt fr):=by
 obtain ⟨ps,h,_⟩:=h
 obtain ⟨g',t',cs,fuel,p,h1,h2,h3,h4⟩:=Ach h hm
 obtain rfl:=Option.some.inj (hg.symm.trans h1)
 obtain rfl:=Option.some.inj (hty.symm.trans h2)
 have:=AbH ht he hce hct hv h4
 have e:cs=vs.toArray:=by rw [←this,Array.toArray_toList]
 rw [e] at h3
 exact Zi hg h3
end
end
section
open Go.RowKit Go.WideShapes Go.ChangeShapes
section
variable {H:Type} {enc:TypeId×Value→H}
theorem UY {a:Assume} {C:Checked} {os:Os} {f:FuncId} {fn:Func} {s:ChangeSpec} {conds:List PathCond} {apart fresh handsOn again:Bool} {X:World→Array Value→Prop}
  (hX:∀ (w w':World) (args:Array Value),w.heap=w'.heap→X w args→X w' args)
  (own:ownKnob C.prog.godebug=none) (started:os.Started) (noInit:C.prog.inits.idxOf? f=none) (hfn:C.prog.funcs[f]?=some fn)
  (witness:∃ (w:World) (tape:Tape) (i:Input),w.os=os∧(w.forCall tape i).Shaped C.prog∧i.vars=[]∧Input.okWide C.prog (w.forCall tape i) .any w.heap.size f i ∧
   ((s.pre enc C.prog fn conds apart (w.forCall tape i).memory i.args∧X (w.forCall tape i).memory i.args)∧sizedMet enc C.prog fn (OpenSpec.ofChange s) apart (w.forCall tape i).memory i.args)∧a.holds C.prog (lone (Frame.enter C.prog f i.args .normal) [] (w.forCall tape i)))
  (contract:∀ (W:World) (base:Nat) (args:Array Value) (ds gs:List (DataW H)) (before:List MemPlace),(∀ (j:Nat) t v,fn.params[j]?=some t→args[j]?=some v→Value.okWide C.prog W .any base t v) →
   DataW.Whole enc C.prog fn.params.toList s.vars apart W args.toList ds gs before →
   conds.all (PathCond.test C.prog ⟨fn.params.toList,ds,s.plain.varTypes C.prog,gs⟩)=true →
   (DataW.weightsEach C.prog (fn.params.toList++s.plain.varTypes C.prog) (ds++gs)).all (· ≤ reachBytes)=true→X W args →
   W.ShapedOpen C.prog →
   a.holds C.prog (lone (Frame.enter C.prog f args .normal) [] W) →
   Calls C.prog f args W fun e W'=>∃ v,e = .returned v∧s.post enc C.prog fn apart fresh handsOn again W args v W') :
  ReturnsInHanded a C os f .any (fun w args=>(s.pre enc C.prog fn conds apart w args∧X w args)∧sizedMet enc C.prog fn (OpenSpec.ofChange s) apart w args) (s.post enc C.prog fn apart fresh handsOn again):=by
 refine returnsInHanded_of_calls own started noInit witness ?_
 intro w tape i _ hsh _ hok hpre hholds
 obtain ⟨_,_,_,fn',hfn',_,_,_,_,hval⟩:=hok
 have e:fn'=fn:=Option.some.inj (hfn'.symm.trans hfn)
 subst e
 obtain ⟨⟨⟨ds,gs,before,hw,hc⟩,hx⟩,hz⟩:=hpre
 have hw':=DataW.Whole.of_heap (w':=w.forCall tape i) (by rfl) hw
 refine (contract (w.forCall tape i) w.heap.size i.args ds gs before hval hw' hc (hz.weights hw) (hX _ _ _ (by rfl) hx) hsh hholds).mono fun e W' ⟨v,he,hp⟩ => ?_
 subst he
 exact ChangeSpec.post_blind hp
end
theorem YV {P:Program} {w:World} {g:Nat} {t:TypeId} {zero:Array Value} {k:IntKind} (h:w.ShapedOpen P) (hg:g<P.globals.size)
  (h0:((begin P (fun _ _=>0) default).world.heap[g]?).bind Obj.row?=some (zero,t)) (hz:zero.size=1)
  (hb:P.buildable t=true) (hc:P.cellTypes P.depth t=some [t]) (hu:P.underlying t=some (.int k)):∃ m tt fr,w.heap[g]?=some (.cells #[.int k m] tt fr):=by
 obtain ⟨m,hm⟩:=cell_of_shapedOpen_int h hg h0 hz hb hc hu
 obtain ⟨cs,hh,hs,_⟩:=h.1 g zero t hg h0
 have h1:cs[0]?=some (.int k m):=by simpa [World.cell?,hh] using hm
 have e:cs = #[.int k m]:=by
  apply Array.ext
  ·rw [hs,hz]; rfl
  ·intro i h2 h3
   have hi:i=0:=by simpa using h3
   subst hi
   have:=(Array.getElem?_eq_some_iff.1 h1).2
   simpa using this
 rw [e] at hh
 exact ⟨m,_,_,hh⟩
end
section
open Go.RowKit Go.WideShapes Go.ChangeShapes
variable [Bq]
set_option autoImplicit false
def came (w:World):Ctx:=⟨fun _ _=>none,[],fun b=>b<w.heap.size⟩
def VT (P:Program) (t:TypeId) {α:Type} (f:α→TV) (ok:α→Prop):Prop :=
 ∀ {H:Type} (enc:TypeId×Value→H) (w:World) (fuel:Nat) (cs:List Value) (d:DataW H) (ps:List MemPlace),DataW.trod enc P w 0 (fun _=>true) true fuel t cs=some (d,ps)→(d.weights P t).all (· ≤ reachBytes)=true→∃ a,Aj (came w) w (f a) cs∧ok a
theorem AaE {α β:Type} {f:α→Option β}:∀ {l:List α} {xs:List β},l.mapM f=some xs→xs.length=l.length∧∀ (i:Nat) a,l[i]?=some a→∃ x,xs[i]?=some x∧f a=some x
 | [],xs,h=>by simp at h; subst h; simp
 | a::l,xs,h=>by
  rw [List.mapM_cons] at h
  cases hf:f a with
  | none=>rw [hf] at h; cases h
  | some y =>
   rw [hf] at h
   cases hl:l.mapM f with
   | none=>rw [hl] at h; cases h
   | some ys =>
    rw [hl] at h
    have e:xs=y::ys:=by simpa using h.symm
    subst e
    obtain ⟨h1,h2⟩:=AaE hl
    refine ⟨by simp [h1],fun i b hb => ?_⟩
    cases i with
    | zero=>simp at hb; subst hb; exact ⟨y,by simp,hf⟩
    | succ i=>simpa using h2 i b (by simpa using hb)
theorem Vz {β:Type} {f:Nat→Option β} {n:Nat} {xs:List β} (h:(List.range n).mapM f=some xs):xs.length=n∧∀ i,i<n→∃ x,xs[i]?=some x∧f i=some x:=by
 obtain ⟨h1,h2⟩:=AaE h
 exact ⟨by simpa using h1,fun i hi=>h2 i i (by simp [hi])⟩
section
variable {P:Program} {t e:TypeId}
theorem Aco {H:Type} {enc:TypeId×Value→H} {w:World} {fuel:Nat} {cs:List Value} {x:DataW H×List MemPlace} (h:DataW.trod enc P w 0 (fun _=>true) true fuel t cs=some x):∃ n,fuel=n+1:=by
 cases fuel with
 | zero=>simp [DataW.trod] at h
 | succ n=>exact ⟨n,rfl⟩
theorem AdI {k:IntKind} (ht:P.underlying t=some (.int k)):VT P t (fun n => .val (.int k n)) (fun n=>(Lit.int k n).wf=true):=by
 intro H enc w fuel cs d ps h _
 obtain ⟨n,rfl⟩:=Aco h
 unfold DataW.trod at h; rw [ht] at h
 split at h<;>rename_i h1<;>try (simp at h1; done)
 all_goals try (cases h; done)
 all_goals try (simp only [Option.some.injEq,TypeDesc.int.injEq] at h1)
 all_goals first
  | (subst h1; split at h; (rename_i hc; obtain ⟨rfl,hw⟩:=hc; cases h; exact ⟨_,by rw [Aj]; exact ⟨rfl,rfl⟩,hw⟩); cases h)
  | (simp at h1; done)
  | (simp at h; done)
end
theorem Q3 {H:Type} {P:Program} {e:TypeId} {d:DataW H} {n:Nat} (hn:n∈d.weights P e):∀ {ds:List (DataW H)},d∈ds→n∈DataW.weightsAll P e ds
 | d0::ds,h=>by
  simp only [DataW.weightsAll,List.mem_append]
  rcases List.mem_cons.1 h with rfl | h
  ·exact Or.inl hn
  ·exact Or.inr (Q3 hn h)
theorem Qh {l m:List Nat} (h:m.all (· ≤ reachBytes)=true) (hs:∀ n∈l,n∈m):l.all (· ≤ reachBytes)=true:=List.all_eq_true.2 fun n hn=>List.all_eq_true.1 h n (hs n hn)
theorem Aku (a:Addr) (i j:Nat):(a.add i).add j=a.add (i+j):=by
 unfold Addr.add
 by_cases h1:i=0<;>by_cases h2:j=0<;>simp [h1,h2,Nat.add_assoc]
theorem Aju (b off i:Nat):(⟨b,off,none⟩:Addr).add i=⟨b,off+i,none⟩:=by
 unfold Addr.add
 by_cases h1:i=0<;>simp [h1]
theorem AcP {w:World} {a:Addr} {n:Nat} {us:List Value} (h:w.cells? 0 a n=some us):us.length=n∧∀ i,i<n→∃ u,us[i]?=some u∧w.cell? (a.add i)=some u:=by
 unfold World.cells? at h
 rw [if_pos (Nat.zero_le _)] at h
 exact Vz h
theorem Aag {α:Type} {f:α→TV} {ok:α→Prop} {k:Nat} (hw:∀ a,ok a→AP (f a)=k) {w:World} {b off:Nat}:∀ (n i0:Nat),(∀ i,i<n→∃ us a,Aj (came w) w (f a) us∧ok a∧us.length=k∧CU w b (off+(i0+i)*k) us) →
  ∃ (l:List α) (us:List Value),l.length=n∧(∀ a∈l,ok a)∧Ak (came w) w (l.map f) us∧us.length=n*k∧CU w b (off+i0*k) us
 | 0,i0,_=>⟨[],[],rfl,by simp,by rw [List.map_nil,Ak],by simp,fun j u h=>by simp at h⟩
 | n+1,i0,h=>by
  obtain ⟨us,a,h1,h2,h3,h4⟩:=h 0 (by omega)
  obtain ⟨l,vs,k1,k2,k3,k4,k5⟩:=Aag hw n (i0+1) (fun i hi=>by
   obtain ⟨us,a,h1,h2,h3,h4⟩:=h (i+1) (by omega)
   exact ⟨us,a,h1,h2,h3,by rw [show i0+1+i=i0+(i+1) from by omega]; exact h4⟩)
  refine ⟨a::l,us++vs,by simp [k1],fun c hc => ?_,?_,?_,?_⟩
  ·rcases List.mem_cons.1 hc with rfl | hc
   ·exact h2
   ·exact k2 c hc
  ·rw [List.map_cons,Ak]; exact ⟨us,vs,rfl,h1,k3⟩
  ·rw [List.length_append,h3,k4,Nat.succ_mul,Nat.add_comm]
  ·intro j u hj
   by_cases hjk:j<k
   ·rw [List.getElem?_append_left (by omega)] at hj
    have:=h4 j u hj
    rwa [Nat.add_zero] at this
   ·rw [List.getElem?_append_right (by omega),h3] at hj
    have:=k5 (j - k) u hj
    rw [show off+(i0+1)*k+(j - k)=off+i0*k+j from by rw [Nat.succ_mul]; omega] at this
    exact this
section
variable {P:Program} {t e:TypeId} {α:Type} {f:α→TV} {ok:α→Prop} {k B:Nat}
theorem Aav (ht:P.underlying t=some (.slice e)) (hk:P.cellsOf e=k) (hB:P.bytesOf e=B) (hc:VT P e f ok) (hw:∀ a,ok a→AP (f a)=k) (h0:k≠0) :
  VT P t (fun l:List α => .sl k (l.map f)) (fun l=>(∀ a∈l,ok a)∧l.length*B≤140737488351232∧l.length≤9223372036854775807):=by
 intro H enc w fuel cs d ps h hwt
 obtain ⟨n,rfl⟩:=Aco h
 unfold DataW.trod at h; rw [ht] at h
 split at h<;>rename_i h1<;>try (simp at h1; done)
 all_goals first
  | (simp at h; done)
  | skip
 ·cases h
  refine ⟨[],?_,by simp,by simp,by simp⟩
  rw [Aj]; exact ⟨by simp,.inl ⟨rfl,none,0,rfl,by omega⟩⟩
 ·rename_i a len cap
  simp only [Option.some.injEq,TypeDesc.slice.injEq] at h1
  subst h1
  split at h
  ·rename_i hcond
   obtain ⟨-,hlc,hcm⟩:=hcond
   rw [Option.bind_eq_some_iff] at h
   obtain ⟨elems,he,h⟩:=h
   rw [if_pos rfl,Option.map_eq_some_iff] at h
   obtain ⟨rest,hr,h⟩:=h
   simp only [Prod.mk.injEq] at h
   obtain ⟨rfl,rfl⟩:=h
   obtain ⟨e1,e2⟩:=Vz he
   obtain ⟨r1,_⟩:=Vz hr
   unfold maxLen at hcm
   simp only [DataW.weights,ht,List.all_cons,Bool.and_eq_true,decide_eq_true_eq,reachBytes,List.length_map,e1,r1,hB] at hwt
   have hcapB:cap*B≤140737488351232:=by have:=of_decide_eq_true hwt.1; rwa [Nat.add_sub_cancel' hlc] at this
   have hlen:len*B≤140737488351232:=Nat.le_trans (Nat.mul_le_mul_right _ hlc) hcapB
   have hwe:(DataW.weightsAll P e (elems.map (·.1))).all (· ≤ reachBytes)=true:=Qh (m:=DataW.weightsAll P e (elems.map (·.1))++DataW.weightsAll P e (rest.map (·.1))) hwt.2 (fun n hn=>List.mem_append_left _ hn)
   obtain ⟨b,off,spot⟩:=a
   have key:∀ i,i<len→∃ us a,Aj (came w) w (f a) us∧ok a∧us.length=k∧(∀ j u,us[j]?=some u→w.cell? ((⟨b,off,spot⟩:Addr).add (i*k+j))=some u):=by
    intro i hi
    obtain ⟨x,hx,hxe⟩:=e2 i hi
    rw [Option.bind_eq_some_iff] at hxe
    obtain ⟨us,hus,htr⟩:=hxe
    rw [hk] at hus
    obtain ⟨c1,c2⟩:=AcP hus
    obtain ⟨a,ha,hok⟩:=hc enc w n us x.1 x.2 htr (Qh hwe fun m hm=>Q3 hm (List.mem_map.2 ⟨x,List.mem_of_getElem? hx,rfl⟩))
    refine ⟨us,a,ha,hok,c1,fun j u hj => ?_⟩
    have hjk:j<k:=by rw [←c1]; exact (List.getElem?_eq_some_iff.1 hj).1
    obtain ⟨u',hu',hcu⟩:=c2 j hjk
    rw [hj] at hu'; cases hu'
    rw [Aku] at hcu
    exact hcu
   by_cases hl0:len=0
   ·subst hl0
    refine ⟨[],?_,by simp,by simp,by simp⟩
    rw [Aj]; exact ⟨by simp,.inl ⟨rfl,_,cap,rfl,hcm⟩⟩
   ·have hsp:spot=none:=by
     obtain ⟨us,a,_,_,c1,c2⟩:=key 0 (by omega)
     have hu:us[0]?=some us[0]:=List.getElem?_eq_getElem (by omega)
     have:=c2 0 _ hu
     simpa [Addr.add] using World.cell?_spot this
    subst hsp
    obtain ⟨l,us,l1,l2,l3,l4,l5⟩:=Aag (f:=f) (ok:=ok) hw (w:=w) (b:=b) (off:=off) len 0 (fun i hi=>by
     obtain ⟨us,a,h1,h2,h3,h4⟩:=key i hi
     refine ⟨us,a,h1,h2,h3,fun j u hj => ?_⟩
     have:=h4 j u hj
     rw [Aju] at this
     rw [Nat.zero_add,Nat.add_assoc]; exact this)
    refine ⟨l,?_,l2,by rw [l1]; exact hlen,by omega⟩
    rw [Aj]
    refine ⟨fun x hx => ?_,.inr ⟨b,off,cap,us,by rw [List.length_map,l1],by rw [List.length_map,l1]; exact hlc,hcm,?_,l3,by simpa using l5⟩⟩
    ·obtain ⟨a,ha,rfl⟩:=List.mem_map.1 hx; exact hw a (l2 a ha)
    ·have hus:0<us.length:=by rw [l4]; exact Nat.mul_pos (by omega) (by omega)
     exact Aln (l5 0 us[0] (List.getElem?_eq_getElem hus))
  ·cases h
end
section
variable {P:Program} {t e:TypeId} {α:Type} {f:α→TV} {ok:α→Prop} {k:Nat}
theorem Yr {β:Type} {g:β→TV} {ok':β→Prop} (h:VT P t f ok) (hm:∀ a,ok a→∃ b,f a=g b∧ok' b):VT P t g ok':=by
 intro H enc w fuel cs d ps h1 h2
 obtain ⟨a,h3,h4⟩:=h enc w fuel cs d ps h1 h2
 obtain ⟨b,h5,h6⟩:=hm a h4
 exact ⟨b,by rw [←h5]; exact h3,h6⟩
theorem Ad3 (ht:P.underlying t=some (.int .u8)):VT P t by8 (fun _=>True) :=
 Yr (AdI ht) fun n h=>by
  have:=bounds_u8 h
  refine ⟨UInt8.ofNat n.toNat,?_,trivial⟩
  rw [by8,UInt8.toNat_ofNat',Nat.mod_eq_of_lt (by omega)]
  congr 2; omega
theorem VQ (ht:P.underlying t=some (.slice e)) (he:P.underlying e=some (.int .u8)) (hk:P.cellsOf e=1) (hB:P.bytesOf e=1):VT P t slB (fun l=>l.length≤140737488351232) :=
 Yr (Aav ht hk hB (Ad3 he) (fun _ _=>rfl) (by omega)) fun l h=>⟨l,rfl,by have:=h.2; omega⟩
end
def SK (P:Program) (ts:List TypeId) {α:Type} (f:α→List TV) (ok:α→Prop):Prop :=
 ∀ {H:Type} (enc:TypeId×Value→H) (w:World) (vs:List Value) (ds:List (DataW H)) (ps:List MemPlace),DataW.TrodAll enc P w 0 (fun _=>true) true ts vs ds ps→(∀ (j:Nat) t v,ts[j]?=some t→vs[j]?=some v→∃ base,Value.okWide P w .any base t v)→(DataW.weightsEach P ts ds).all (· ≤ reachBytes)=true→∃ a,Bo (came w) w (f a) vs∧ok a
theorem YX {P:Program}:SK P [] (fun _:Unit=>[]) (fun _=>True):=by
 intro H enc w vs ds ps h _ _
 obtain ⟨rfl,rfl,rfl⟩:=trodAll_nil h
 exact ⟨(),by rw [Bo],trivial⟩
def AfC (P:Program) (t:TypeId) (b:Bool):Prop:=∀ w base v,Value.okWide P w .any base t v→if b then ∃ cs,v = .agg cs else v.cells = #[v]
theorem VI {P:Program} {t e:TypeId} (ht:P.underlying t=some (.slice e)):AfC P t false:=fun w _ v h=>by obtain ⟨_,_,_,rfl⟩:=okWide_slice ht h; rfl
theorem Afb {c:Ctx} {P:Program} {w:World} {t:TypeId} {v:Value} {x:TV} {b:Bool} (hf:AfC P t b) {base:Nat} (hv:Value.okWide P w .any base t v) (hx:VU x=b):v=mkV x v.cells.toList:=by
 have h:=hf w base v hv
 cases b with
 | true =>
  simp only [if_true] at h
  obtain ⟨cs,rfl⟩:=h
  rw [Acm hx]; simp [Value.cells]
 | false =>
  simp only [Bool.false_eq_true,if_false] at h
  rw [h]
  exact (WP hx).symm
theorem QX {P:Program} {t:TypeId} {ts:List TypeId} {α β:Type} {f:α→TV} {ok:α→Prop} {g:β→List TV} {ok':β→Prop} {b:Bool} (hc:VT P t f ok) (hf:AfC P t b) (hm:∀ a,VU (f a)=b) (hr:SK P ts g ok') :
  SK P (t::ts) (fun x:α×β=>f x.1::g x.2) (fun x=>ok x.1∧ok' x.2):=by
 intro H enc w vs ds ps h hv hw
 obtain ⟨v,vs',d,ds',p,q,rfl,rfl,rfl,h0,r0⟩:=trodAll_cons h
 simp only [DataW.weightsEach] at hw
 obtain ⟨fuel,hfu⟩:=h0
 obtain ⟨a,ha,hoka⟩:=hc enc w fuel _ d p hfu (Qh hw fun n hn=>List.mem_append_left _ hn)
 obtain ⟨b,hb,hokb⟩:=hr enc w vs' ds' q r0 (fun j t v h1 h2=>hv (j+1) t v (by simpa using h1) (by simpa using h2)) (Qh hw fun n hn=>List.mem_append_right _ hn)
 refine ⟨(a,b),Bo.cons.2 ⟨v,vs',rfl,.inr (.inr ⟨v.cells.toList,ha,Afb (c:=came w) hf (hv 0 t v rfl rfl).choose_spec (hm a)⟩),hb⟩,hoka,hokb⟩
theorem SV {H:Type} {enc:TypeId×Value→H} {P:Program} (hl:laidOutB P=true) {W W':World} (hb:Below W.heap.size W W'):∀ {ts:List TypeId} {vs:List Value} {ds:List (DataW H)} {ps:List MemPlace},(ts.all fun t=>P.readableRec t && decide (t<P.types.size))=true →
  DataW.TrodAll enc P W 0 (fun _=>true) true ts vs ds ps→DataW.TrodAll enc P W' 0 (fun b=>decide (b<W.heap.size)) true ts vs ds ps
 | [],vs,ds,ps,_,h=>by
  obtain ⟨rfl,rfl,rfl⟩:=trodAll_nil h
  exact trodAll_mk0
 | t::ts,vs,ds,ps,hr,h=>by
  obtain ⟨v,vs',d,ds',p,q,rfl,rfl,rfl,h0,r0⟩:=trodAll_cons h
  simp only [List.all_cons,Bool.and_eq_true,decide_eq_true_eq] at hr
  refine trodAll_cons_mk (Below.trod hl hr.1.1 hr.1.2 h0 hb ?_) (SV hl hb (by simpa using hr.2) r0)
  obtain ⟨m,hm⟩:=h0
  exact DataW.trod_lt m _ _ _ hm
theorem Md.below {F F':Nat→Prop} {w w':World} (h:Md F w F' w'):Below w.heap.size w w':=⟨h.os,h.tape,h.output,h.size,fun k hk=>h.same k hk⟩
theorem AoU {P:Program} {f:FuncId} {ts:List TypeId} {α:Type} {g:α→List TV} {ok:α→Prop} (hc:SK P ts g ok) (hlaw:∀ a,ok a→CJ P f (g a) (fun x=>x=tb true)) {H:Type} {enc:TypeId×Value→H} {w:World} {args:Array Value} {ds:List (DataW H)} {ps:List MemPlace}
  (h:DataW.TrodAll enc P w 0 (fun _=>true) true ts args.toList ds ps) (hv:∀ (j:Nat) t v,ts[j]?=some t→args.toList[j]?=some v→∃ base,Value.okWide P w .any base t v) (hw:(DataW.weightsEach P ts ds).all (· ≤ reachBytes)=true) (hg:EO (fun b=>b<w.heap.size) w) :
  Calls P f args w fun e w'=>e = .returned (.bool true)∧Below w.heap.size w w':=by
 obtain ⟨a,ha,hok⟩:=hc enc w args.toList ds ps h hv hw
 have:=hlaw a hok (fun _ _=>none) (fun b=>b<w.heap.size) w args.toList ⟨fun b h=>h,hg⟩ ha
 rw [Array.toArray_toList] at this
 refine this.mono ?_
 rintro e w' ⟨v,x,F',rfl,rfl,hx,hst⟩
 rw [Rep.val] at hx
 exact ⟨by rw [hx],hst.below⟩
end
section
def O5 (c:UInt8):List UInt8→Option Nat
 | []=>none
 | b::l=>if b=c then some 0 else (O5 c l).map (· + 1)
theorem U3 {c:UInt8}:∀ {l:List UInt8} {i:Nat},O5 c l=some i→i<l.length∧l[i]?=some c∧¬ c∈l.take i
 | [],i,h=>by cases h
 | b::l,i,h=>by
  rw [O5] at h
  split at h
  ·rename_i e; cases h; exact ⟨by simp,by simp [e],by simp⟩
  ·rename_i e
   obtain ⟨j,hj,rfl⟩:=Option.map_eq_some_iff.1 h
   obtain ⟨h1,h2,h3⟩:=U3 hj
   exact ⟨by simp; omega,by simpa using h2,by simp [h3,Ne.symm e]⟩
theorem YY (c:UInt8):∀ l:List UInt8,Lib.indexByte l c=(match O5 c l with | some i=>(i:Int) | none => -1):=by
 intro l
 induction l with
 | nil=>rfl
 | cons b l ih =>
  rw [Lib.indexByte,O5]
  by_cases e:b=c
  ·simp [e]
  ·rw [if_neg (by simpa using e),if_neg e,ih]
   cases hc:O5 c l with
   | none=>simp
   | some i =>
    have:¬ ((i:Int) == -1)=true:=by simp
    simp only [Option.map_some]
    rw [if_neg this]; rfl
end
end Go.Proofs.YtkoilgokgaigbaaGreatDoor
namespace Go.Proofs.YtkoilgokgaigbaaGreatDoor.Kit
open Go.RowKit
def XX (w w':World):Prop:=Below w.heap.size w w'
theorem XX.trans {a b c:World} (h:XX a b) (k:XX b c):XX a c:=Below.trans h (Below.mono k (Below.size h))
theorem XX.drewN {a b:World} (h:XX a b) (n:Nat):XX a (b.drewN n):=Below.trans h ⟨rfl,rfl,rfl,Nat.le_refl _,fun _ _=>rfl⟩
theorem XX.cell {w w':World} (h:XX w w') {p:Addr} {v:Value} (hv:w.cell? p=some v):w'.cell? p=some v:=by
 rw [Below.cell h (World.block_lt_of_cell? w p hv)]; exact hv
def Bs (w:World) (a:Option Addr) (l:List UInt8):Prop :=
 ∀ j,j<l.length→∃ b off,a=some ⟨b,off,none⟩∧w.cell? ⟨b,off+j,none⟩=some (.int .u8 (l.getD j 0).toNat)
theorem Bs.keep {w w':World} {a:Option Addr} {l:List UInt8} (h:Bs w a l) (k:XX w w'):Bs w' a l:=fun j hj =>
 let ⟨b,off,e,hc⟩:=h j hj; ⟨b,off,e,k.cell hc⟩
theorem Bs.take {w:World} {a:Option Addr} {l:List UInt8} (h:Bs w a l) (n:Nat):Bs w a (l.take n):=fun j hj=>by
 have hj':j<l.length:=by simp at hj; omega
 have hjn:j<n:=by simp at hj; omega
 obtain ⟨b,off,e,hc⟩:=h j hj'
 exact ⟨b,off,e,by rw [hc]; simp [List.getD,hjn]⟩
theorem Bs.drop {w:World} {b off:Nat} {l:List UInt8} (h:Bs w (some ⟨b,off,none⟩) l) (n:Nat):Bs w (some ⟨b,off+n,none⟩) (l.drop n):=fun j hj=>by
 have hj':n+j<l.length:=by simp at hj; omega
 obtain ⟨b',off',e,hc⟩:=h (n+j) hj'
 simp only [Option.some.injEq,Addr.mk.injEq,and_true] at e
 obtain ⟨rfl,rfl⟩:=e
 refine ⟨b,off+n,rfl,?_⟩
 rw [Nat.add_assoc,hc]
 simp [List.getD]
def bv (l:List UInt8):List Value:=l.map fun x => .int .u8 (x.toNat:Int)
@[simp] theorem Anh (l:List UInt8):(bv l).length=l.length:=by simp [bv]
theorem AlB (l:List UInt8) (j:Nat) (h:j<l.length):(bv l)[j]?=some (.int .u8 ((l.getD j 0).toNat:Int)):=by simp [bv,List.getD,h]
theorem Bs.src {w:World} {a:Option Addr} {l:List UInt8} (h:Bs w a l) (hp:0<(bv l).length):∃ ad,a=some ad∧∀ j v,(bv l)[j]?=some v→w.cell? (ad.add j)=some v:=by
 obtain ⟨b,off,rfl,_⟩:=h 0 (by simpa using hp)
 refine ⟨_,rfl,fun j v hv => ?_⟩
 have hj:j<l.length:=by
  rcases Nat.lt_or_ge j l.length with h1 | h1
  ·exact h1
  ·rw [List.getElem?_eq_none (by simpa using h1)] at hv; cases hv
 obtain ⟨b',off',e,hc⟩:=h j hj
 simp only [Option.some.injEq,Addr.mk.injEq,and_true] at e
 obtain ⟨rfl,rfl⟩:=e
 rw [AlB l j hj] at hv
 rw [show (⟨b,off,none⟩:Addr).add j=⟨b,off+j,none⟩ from by simp [Addr.add],hc]; exact hv
end Go.Proofs.YtkoilgokgaigbaaGreatDoor.Kit
namespace Go.Proofs.YtkoilgokgaigbaaGreatDoor
section
def lin:List UInt8→List UInt8→List (List UInt8)
 | cur,[]=>if cur=[] then [] else [cur]
 | cur,b::r=>if b=10 then (cur++[b])::lin [] r else lin (cur++[b]) r
def AA (b:List UInt8):List (List UInt8):=lin [] b
theorem AhQ (r:List UInt8):∀ cur,(lin cur r).flatten=cur++r:=by
 induction r with
 | nil=>intro cur; by_cases h:cur=[]<;>simp [lin,h]
 | cons b r ih=>intro cur; by_cases h:b=10<;>simp [lin,h,ih]
theorem Es (b:List UInt8):(AA b).flatten=b:=by simp [AA,AhQ]
theorem AeM (r:List UInt8):∀ cur,∀ l∈lin cur r,l≠[]:=by
 induction r with
 | nil=>intro cur l hl; by_cases h:cur=[]<;>simp [lin,h] at hl; subst hl; exact h
 | cons b r ih =>
  intro cur l hl
  by_cases h:b=10
  ·simp [lin,h] at hl
   rcases hl with rfl | hl
   ·simp
   ·exact ih _ _ hl
  ·simp [lin,h] at hl; exact ih _ _ hl
theorem Ah8 (ls:List (List UInt8)) (h:∀ l∈ls,l≠[]):ls.length≤ls.flatten.length:=by
 induction ls with
 | nil=>simp
 | cons l ls ih =>
  have h1:=ih (fun x hx=>h x (by simp [hx]))
  have h2:0<l.length:=List.length_pos_iff.2 (h l (by simp))
  rw [List.flatten_cons,List.length_append,List.length_cons]; omega
theorem JG (b:List UInt8):(AA b).length≤b.length:=by
 have:=Ah8 (AA b) (AeM b [])
 rwa [Es] at this
end
section
def Xu:List UInt8→List UInt8×List UInt8
 | []=>([],[])
 | b::r=>if b=10 then ([b],r) else (b::(Xu r).1,(Xu r).2)
theorem Agt (r:List UInt8):(Xu r).1++(Xu r).2=r:=by
 induction r with
 | nil=>rfl
 | cons b r ih=>rw [Xu]; split<;>simp [ih]
theorem Acw:∀ (r:List UInt8),r≠[]→(Xu r).2.length<r.length
 | [],h=>absurd rfl h
 | b::r,_=>by
  rw [Xu]; split
  ·simp
  ·have:=congrArg List.length (Agt r)
   rw [List.length_append] at this
   simp only [List.length_cons]; omega
theorem Adn (r:List UInt8):(∃ k:Nat,Lib.indexByte r 10=k∧k<r.length∧Xu r=(r.take (k+1),r.drop (k+1)))∨(Lib.indexByte r 10 = -1∧Xu r=(r,[])):=by
 induction r with
 | nil=>exact .inr ⟨rfl,rfl⟩
 | cons b r ih =>
  rw [Xu,Lib.indexByte]
  by_cases hb:b=10
  ·subst hb
   exact .inl ⟨0,by simp,by simp,by simp⟩
  ·have hbf:(b == 10)=false:=by simpa using hb
   rw [if_neg hb,hbf]
   rcases ih with ⟨k,h1,h2,h3⟩ | ⟨h1,h2⟩
   ·refine .inl ⟨k+1,?_,by simpa using h2,by rw [h3]; rfl⟩
    rw [h1]
    have:((k:Int) == -1)=false:=by rw [beq_eq_false_iff_ne]; omega
    simp [this]
   ·refine .inr ⟨by rw [h1]; simp,by rw [h2]⟩
theorem Akl (r:List UInt8):∀ cur,(cur≠[]∨r≠[])→lin cur r=(cur++(Xu r).1)::AA (Xu r).2:=by
 induction r with
 | nil=>intro cur h; rcases h with h | h
     ·simp [lin,Xu,h,AA]
     ·exact absurd rfl h
 | cons b r ih =>
  intro cur h
  rw [lin,Xu]
  by_cases hb:b=10
  ·simp [hb,AA]
  ·rw [if_neg hb,if_neg hb,ih (cur++[b]) (.inl (by simp))]; simp
theorem Aa0 (r:List UInt8) (h:r≠[]):AA r=(Xu r).1::AA (Xu r).2:=by
 have:=Akl r [] (.inr h); simpa [AA] using this
end
section
def Bj (b:UInt8):Bool:=decide (48≤b.toNat∧b.toNat≤57)
def Ij (n:Nat) (l:List UInt8):Nat:=l.foldl (fun n b=>n*10+(b.toNat - 48)) n
theorem P8 (n:Nat):Ij n []=n:=by unfold Ij; rw [List.foldl_nil]
theorem OZ (n:Nat) (b:UInt8) (l:List UInt8):Ij n (b::l)=Ij (n*10+(b.toNat - 48)) l:=by unfold Ij; rw [List.foldl_cons]
theorem Zf (l m:List UInt8) (n:Nat):Ij n (l++m)=Ij (Ij n l) m:=by unfold Ij; rw [List.foldl_append]
theorem WX (n:Nat) (c:UInt8):Ij n [c]=n*10+(c.toNat - 48):=by rw [OZ,P8]
def PL (d:List UInt8):Prop:=d≠[]∧d.length≤9∧(d.length=1∨d[0]?≠some 48)
instance:DecidablePred PL:=fun d=>by unfold PL; infer_instance
def LV (s:List UInt8):Option (Nat×List UInt8):=if PL (s.takeWhile Bj) then some (Ij 0 (s.takeWhile Bj),s.dropWhile Bj) else none
theorem Aba:∀ (l:List UInt8) (n k:Nat),n<10 ^ k→l.all Bj=true→Ij n l<10 ^ (k+l.length)
 | [],n,k,h,_=>by rw [P8]; exact h
 | b::l,n,k,h,ha=>by
  rw [List.all_cons,Bool.and_eq_true] at ha
  have hb:b.toNat - 48≤9:=by
   have:=ha.1
   unfold Bj at this
   simp at this
   omega
  have h10:n*10+(b.toNat - 48)<10 ^ (k+1):=by
   rw [Nat.pow_succ]
   have:n+1≤10 ^ k:=h
   have h2:(n+1)*10≤10 ^ k*10:=Nat.mul_le_mul_right 10 this
   generalize 10 ^ k*10=z at *
   omega
  have:=Aba l (n*10+(b.toNat - 48)) (k+1) h10 ha.2
  rw [List.length_cons,show k+(l.length+1)=k+1+l.length by omega]
  exact this
theorem Zr {l:List UInt8} (h:l.length≤10) (ha:l.all Bj=true):Ij 0 l<10000000000:=by
 have h1:=Aba l 0 0 (by decide) ha
 have h2:10 ^ (0+l.length)≤10 ^ 10:=Nat.pow_le_pow_right (by decide) (by omega)
 exact Nat.lt_of_lt_of_le h1 (Nat.le_trans h2 (by decide))
theorem AjP {l:List UInt8} (h:l.length≤9) (ha:l.all Bj=true):Ij 0 l<1000000000:=by
 have h1:=Aba l 0 0 (by decide) ha
 have h2:10 ^ (0+l.length)≤10 ^ 9:=Nat.pow_le_pow_right (by decide) (by omega)
 exact Nat.lt_of_lt_of_le h1 (Nat.le_trans h2 (by decide))
theorem AjV (s:List UInt8):(s.takeWhile Bj).all Bj=true:=List.all_takeWhile
theorem Aem {s r:List UInt8} {n:Nat} (h:LV s=some (n,r)):n<1000000000∧r.length≤s.length:=by
 unfold LV at h
 split at h
 ·rename_i hc
  cases h
  refine ⟨AjP hc.2.1 (AjV s),?_⟩
  have:=congrArg List.length (List.takeWhile_append_dropWhile (p:=Bj) (l:=s))
  rw [List.length_append] at this
  omega
 ·cases h
theorem Abp:∀ (l:List UInt8) (n:Nat),n≤Ij n l
 | [],n=>by rw [P8]; exact Nat.le_refl n
 | b::l,n=>by rw [OZ]; exact Nat.le_trans (by omega) (Abp l _)
theorem Acz {b:UInt8} (h:Bj b=true):UInt8.ofNat (48+(b.toNat - 48))=b:=by
 unfold Bj at h
 simp at h
 rw [show 48+(b.toNat - 48)=b.toNat by omega]
 simp
theorem AoB:∀ (k:Nat) (d:List UInt8),d.length=k→d≠[]→d.all Bj=true→(d.length=1∨d[0]?≠some 48)→Lib.decDigits (Ij 0 d)=d:=by
 intro k
 induction k with
 | zero=>intro d h h0; exact absurd (List.eq_nil_of_length_eq_zero h) h0
 | succ k ih =>
  intro d hk h0 ha hc
  obtain ⟨c,e,rfl⟩:∃ c e,d=e++[c]:=⟨_,_,(List.dropLast_concat_getLast h0).symm⟩
  rw [List.all_append,Bool.and_eq_true,List.all_cons,Bool.and_eq_true] at ha
  rw [Zf,WX]
  have hcb:c.toNat - 48<10:=by
   have:=ha.2.1
   unfold Bj at this
   simp at this
   omega
  by_cases he:e=[]
  ·subst he
   rw [P8,Nat.zero_mul,Nat.zero_add,Lib.decDigits_one hcb,Acz ha.2.1]
   rfl
  ·have hk2:e.length=k:=by simpa using hk
   obtain ⟨b,l,rfl⟩:∃ b l,e=b::l:=List.exists_cons_of_ne_nil he
   have hc2:¬ b=48:=by
    rcases hc with h | h
    ·simp at h
    ·simpa using h
   have hb:=ha.1
   rw [List.all_cons,Bool.and_eq_true] at hb
   have hb1:1≤b.toNat - 48:=by
    have:=hb.1
    unfold Bj at this
    simp at this
    have h48:b.toNat≠48:=fun h=>hc2 (UInt8.toNat_inj.1 h)
    omega
   have hbig:1≤Ij 0 (b::l):=by
    rw [OZ]
    exact Nat.le_trans (by omega) (Abp l _)
   have hi:=ih (b::l) hk2 he ha.1 (.inr (by simpa using hc2))
   generalize Ij 0 (b::l)=z at *
   rw [Lib.decDigits.eq_1,dif_neg (by omega),show (z*10+(c.toNat - 48)) / 10=z by omega,show (z*10+(c.toNat - 48)) % 10=c.toNat - 48 by omega,hi,Acz ha.2.1]
theorem Agp {k:Nat} (hk:k<10):Bj (UInt8.ofNat (48+k))=true∧(UInt8.ofNat (48+k)).toNat - 48=k:=by
 have:(UInt8.ofNat (48+k)).toNat=48+k:=by rw [UInt8.toNat_ofNat']; omega
 unfold Bj
 rw [this]
 exact ⟨by simp; omega,by omega⟩
theorem An8:∀ n:Nat,Lib.decDigits n≠[]∧(Lib.decDigits n).all Bj=true∧Ij 0 (Lib.decDigits n)=n∧((Lib.decDigits n).length=1∨(Lib.decDigits n)[0]?≠some 48):=by
 intro n
 induction n using Nat.strongRecOn with
 | _ n ih =>
  by_cases h:n<10
  ·obtain ⟨h1,h2⟩:=Agp h
   rw [Lib.decDigits_one h,WX,h2,List.all_cons,h1]
   exact ⟨by simp,rfl,by omega,.inl rfl⟩
  ·obtain ⟨h0,h1,h2,h5⟩:=ih (n / 10) (by omega)
   obtain ⟨h3,h4⟩:=Agp (k:=n % 10) (by omega)
   rw [Lib.decDigits.eq_1 n,dif_neg h,List.all_append,Zf,WX,h1,h2,h4,List.all_cons,h3]
   refine ⟨by simp,rfl,by omega,.inr ?_⟩
   rw [List.getElem?_append_left (List.length_pos_iff.2 h0)]
   rcases h5 with h5 | h5
   ·by_cases h9:n / 10<10
    ·rw [Lib.decDigits_one h9]
     intro e
     have e2:=congrArg UInt8.toNat (Option.some.inj e)
     rw [UInt8.toNat_ofNat'] at e2
     simp at e2
     omega
    ·rw [Lib.decDigits.eq_1,dif_neg h9,List.length_append,List.length_singleton] at h5
     exact absurd (List.eq_nil_of_length_eq_zero (by omega)) (ih (n / 10 / 10) (by omega)).1
   ·exact h5
theorem Ae2 {d:List UInt8} (ha:d.all Bj=true) (h0:d≠[]) (h9:d.length≤9):PL d↔Lib.decDigits (Ij 0 d)=d:=by
 constructor
 ·rintro ⟨h,_,h2⟩
  exact AoB _ d rfl h ha h2
 ·intro e
  refine ⟨h0,h9,?_⟩
  have:=(An8 (Ij 0 d)).2.2.2
  rwa [e] at this
theorem AfM:∀ (l:List UInt8) (n:Nat),l.all Bj=true→Ij n l<100000000000→Lib.parseUint10 n l = .ok (Ij n l)
 | [],n,_,_=>by rw [P8]; rfl
 | b::l,n,ha,hl=>by
  rw [List.all_cons,Bool.and_eq_true] at ha
  have hb:=ha.1
  unfold Bj at hb
  simp at hb
  have:=Abp l (n*10+(b.toNat - 48))
  rw [OZ] at hl
  rw [Lib.parseUint10,if_pos hb,if_neg (by omega),if_neg (by omega),AfM l _ ha.2 hl,OZ]
theorem Agu {d:List UInt8} (ha:d.all Bj=true) (h0:d≠[]) (h9:d.length≤10):Lib.atoiAll d = .ok (Ij 0 d:Int):=by
 have hl:=Zr h9 ha
 obtain ⟨b,l,rfl⟩:=List.exists_cons_of_ne_nil h0
 have hb:=ha
 rw [List.all_cons,Bool.and_eq_true] at hb
 have hb1:=hb.1
 unfold Bj at hb1
 simp at hb1
 have hp:Lib.parseMag (b::l) = .ok (Ij 0 (b::l)):=by
  unfold Lib.parseMag
  rw [if_neg h0,AfM _ _ ha (by omega)]
 unfold Lib.atoiAll
 simp only
 rw [if_neg (by omega),hp]
 simp only
 rw [if_neg (by omega),if_neg (by omega),if_neg (by omega)]
def Ig (c:UInt8):Option Int:=if c=32 then some 0 else if c=45 then some 1 else if c=43 then some 2 else none
def noE:List UInt8:=[92,32,78,111,32,110,101,119,108,105,110,101,32,97,116,32,101,110,100,32,111,102,32,102,105,108,101,10]
abbrev EZ:=Int×List UInt8
def lnE (t r:List UInt8):List UInt8×List UInt8:=if noE.isPrefixOf r then (t,r.drop noE.length) else (t++[10],r)
def lnF (s:List UInt8):Option (EZ×List UInt8):=match O5 10 s with
 | none=>none
 | some i=>match s.take i with
  | []=>none
  | c::t=>match Ig c with
   | none=>none
   | some k=>if (lnE t (s.drop (i+1))).1=[] then none else some ((k,(lnE t (s.drop (i+1))).1),(lnE t (s.drop (i+1))).2)
theorem AeZ (t r:List UInt8):(lnE t r).2.length≤r.length∧(lnE t r).1.length≤t.length+1:=by
 unfold lnE
 split<;>simp
theorem Ei {s r:List UInt8} {e:EZ} (h:lnF s=some (e,r)):r.length<s.length∧e.2≠[]∧e.2.length+r.length≤s.length∧(e.1=0∨e.1=1∨e.1=2):=by
 unfold lnF at h
 split at h
 ·cases h
 rename_i i hi
 obtain ⟨h1,_,_⟩:=U3 hi
 split at h
 ·cases h
 rename_i c t ht
 split at h
 ·cases h
 rename_i k hk
 split at h
 ·cases h
 rename_i hne
 cases h
 have hl:=AeZ t (s.drop (i+1))
 have htl:t.length+1=i:=by
  have:=congrArg List.length ht
  rw [List.length_take,List.length_cons] at this
  omega
 have hdl:(s.drop (i+1)).length=s.length - (i+1):=by simp
 refine ⟨by omega,hne,by show (lnE t (s.drop (i+1))).1.length+_≤_; omega,?_⟩
 unfold Ig at hk
 split at hk
 ·cases hk; exact .inl rfl
 split at hk
 ·cases hk; exact .inr (.inl rfl)
 split at hk
 ·cases hk; exact .inr (.inr rfl)
 ·cases hk
def zN (l:List EZ):Nat:=l.countP fun e=>decide (e.1≠2)
def zM (l:List EZ):Nat:=l.countP fun e=>decide (e.1≠1)
theorem Ad9 (l:List EZ):zN l≤l.length:=List.countP_le_length
theorem AdY (l:List EZ):zM l≤l.length:=List.countP_le_length
theorem Ad4 (e:EZ):zN [e]=if e.1=2 then 0 else 1:=by unfold zN; by_cases h:e.1=2<;>simp [h]
theorem AjJ (e:EZ):zM [e]=if e.1=1 then 0 else 1:=by unfold zM; by_cases h:e.1=1<;>simp [h]
theorem AeI (l m:List EZ):zN (l++m)=zN l+zN m:=List.countP_append
theorem AjM (l m:List EZ):zM (l++m)=zM l+zM m:=List.countP_append
def X3 (n m:Nat) (s:List UInt8) (es:List EZ):Option (List EZ×List UInt8) :=
 if zN es<n∨zM es<m then
  match h:lnF s with
  | none=>none
  | some (e,r)=>X3 n m r (es++[e])
 else if zN es=n∧zM es=m∧es.any (fun e=>decide (e.1≠0)) then some (es,s) else none
termination_by s.length
decreasing_by exact (Ei h).1
theorem XK {n m:Nat} {s:List UInt8} {es:List EZ} (h:¬ (zN es<n∨zM es<m)):X3 n m s es=if zN es=n∧zM es=m∧es.any (fun e=>decide (e.1≠0)) then some (es,s) else none:=by
 rw [X3,if_neg h]
theorem YQ {n m:Nat} {s:List UInt8} {es:List EZ} (h:zN es<n∨zM es<m) (hl:lnF s=none):X3 n m s es=none:=by
 rw [X3,if_pos h]
 split
 ·rfl
 ·rename_i e r h2; rw [hl] at h2; cases h2
theorem Abh {n m:Nat} {s r:List UInt8} {es:List EZ} {e:EZ} (h:zN es<n∨zM es<m) (hl:lnF s=some (e,r)):X3 n m s es=X3 n m r (es++[e]):=by
 rw [X3,if_pos h]
 split
 ·rename_i h2; rw [hl] at h2; cases h2
 ·rename_i e' r' h2; rw [hl] at h2; cases h2; rfl
structure HZ where
 at_:Nat
 to_:Nat
 es:List EZ
def Cf (w s:List UInt8):Option (List UInt8):=if w.isPrefixOf s then some (s.drop w.length) else none
def Ym (s:List UInt8):Option (Nat×Nat×List UInt8):=match LV s with
 | none=>none
 | some (a,r)=>match Cf [44] r with
  | none=>none
  | some r=>match LV r with
   | none=>none
   | some (n,r)=>if 0<n then (if a=0 then none else some (a - 1,n,r)) else some (a,n,r)
def wAt:List UInt8:=[64,64,32,45]
def wPl:List UInt8:=[32,43]
def wEn:List UInt8:=[32,64,64,10]
def OH (s:List UInt8):Option ((Nat×Nat)×(Nat×Nat)×List UInt8):=match Cf wAt s with
 | none=>none
 | some r=>match Ym r with
  | none=>none
  | some (a,n,r)=>match Cf wPl r with
   | none=>none
   | some r=>match Ym r with
    | none=>none
    | some (b,m,r)=>match Cf wEn r with
     | none=>none
     | some r=>some ((a,n),(b,m),r)
def Iu (s:List UInt8):Option (HZ×List UInt8):=match OH s with
 | none=>none
 | some ((a,n),(b,m),r)=>match X3 n m r [] with
  | none=>none
  | some (es,r)=>some (⟨a,b,es⟩,r)
theorem TG {w s r:List UInt8} (h:Cf w s=some r):s=w++r:=by
 unfold Cf at h
 split at h
 ·rename_i hp
  cases h
  rw [List.isPrefixOf_iff_prefix] at hp
  obtain ⟨t,rfl⟩:=hp
  simp
 ·cases h
theorem Acp {s r:List UInt8} {a n:Nat} (h:Ym s=some (a,n,r)):r.length≤s.length∧a<1000000000∧n<1000000000:=by
 unfold Ym at h
 split at h
 ·cases h
 rename_i a1 r1 h1
 split at h
 ·cases h
 rename_i r2 h2
 split at h
 ·cases h
 rename_i n1 r3 h3
 have l1:=Aem h1
 have l2:=congrArg List.length (TG h2)
 have l3:=Aem h3
 rw [List.length_append] at l2
 split at h
 ·split at h
  ·cases h
  ·cases h; omega
 ·cases h; omega
theorem Aae {s r:List UInt8} {p q:Nat×Nat} (h:OH s=some (p,q,r)):r.length+10≤s.length∧p.1<1000000000∧p.2<1000000000∧q.1<1000000000∧q.2<1000000000:=by
 unfold OH at h
 split at h
 ·cases h
 rename_i r1 h1
 split at h
 ·cases h
 rename_i a n r2 h2
 split at h
 ·cases h
 rename_i r3 h3
 split at h
 ·cases h
 rename_i b m r4 h4
 split at h
 ·cases h
 rename_i r5 h5
 cases h
 have l1:=congrArg List.length (TG h1)
 have l2:=Acp h2
 have l3:=congrArg List.length (TG h3)
 have l4:=Acp h4
 have l5:=congrArg List.length (TG h5)
 rw [List.length_append] at l1 l3 l5
 have e1:wAt.length=4:=rfl
 have e2:wPl.length=2:=rfl
 have e3:wEn.length=4:=rfl
 exact ⟨by omega,l2.2.1,l2.2.2,l4.2.1,l4.2.2⟩
theorem YU (n m:Nat):∀ (k:Nat) (s:List UInt8) (es:List EZ) (fs:List EZ) (r:List UInt8),s.length≤k→X3 n m s es=some (fs,r) →
  r.length≤s.length∧zN fs=n∧zM fs=m∧∃ gs,fs=es++gs∧gs.length+r.length≤s.length∧(gs.flatMap (·.2)).length+r.length≤s.length∧∀ g∈gs,g.2≠[]∧(g.1=0∨g.1=1∨g.1=2)
 | k,s,es,fs,r,hk,h=>by
  by_cases hs:zN es<n∨zM es<m
  ·cases hl:lnF s with
   | none=>rw [YQ hs hl] at h; cases h
   | some p =>
    obtain ⟨e,q⟩:=p
    rw [Abh hs hl] at h
    obtain ⟨h1,h2,h3,h4⟩:=Ei hl
    match k,hk with
    | 0,hk=>exact absurd h1 (by omega)
    | k+1,hk =>
     obtain ⟨i1,i2,i3,gs,rfl,i4,i5,i6⟩:=YU n m k q _ fs r (by omega) h
     refine ⟨by omega,i2,i3,e::gs,by simp,by simp; omega,?_,?_⟩
     ·rw [List.flatMap_cons,List.length_append]; omega
     ·intro g hg
      rcases List.mem_cons.1 hg with rfl | hg
      ·exact ⟨h2,h4⟩
      ·exact i6 g hg
  ·rw [XK hs] at h
   split at h
   ·rename_i hc
    cases h
    exact ⟨Nat.le_refl _,hc.1,hc.2.1,[],by simp,by simp,by simp,by simp⟩
   ·cases h
theorem SH {s r:List UInt8} {h:HZ} (e:Iu s=some (h,r)):r.length+10≤s.length∧h.at_<1000000000∧h.to_<1000000000∧h.es.length+r.length≤s.length∧(h.es.flatMap (·.2)).length+r.length≤s.length∧∀ g∈h.es,g.2≠[]∧(g.1=0∨g.1=1∨g.1=2):=by
 unfold Iu at e
 split at e
 ·cases e
 rename_i a n b m r1 h1
 split at e
 ·cases e
 rename_i es r2 h2
 cases e
 have l1:=Aae h1
 obtain ⟨l2,_,_,gs,rfl,l3,l4,l5⟩:=YU n m _ _ _ _ _ (Nat.le_refl _) h2
 simp only [List.nil_append]
 exact ⟨by omega,l1.2.1,l1.2.2.2.1,by omega,by omega,l5⟩
def SG (s:List UInt8) (en:Nat) (sh:Int):Option (List HZ) :=
 if s=[] then some [] else
  match h:Iu s with
  | none=>none
  | some (x,r)=>if x.at_<en∨(x.to_:Int)≠x.at_+sh then none else (SG r (x.at_+zN x.es) (sh+zM x.es - zN x.es)).map (x :: ·)
termination_by s.length
decreasing_by have:=SH h; omega
theorem Zg {en:Nat} {sh:Int}:SG [] en sh=some []:=by rw [SG,if_pos rfl]
theorem WO {s:List UInt8} {en:Nat} {sh:Int} (h0:s≠[]) (h:Iu s=none):SG s en sh=none:=by
 rw [SG,if_neg h0]
 split
 ·rfl
 ·rename_i x r h2; rw [h] at h2; cases h2
theorem AbS {s r:List UInt8} {x:HZ} {en:Nat} {sh:Int} (h0:s≠[]) (h:Iu s=some (x,r)):SG s en sh=if x.at_<en∨(x.to_:Int)≠x.at_+sh then none else (SG r (x.at_+zN x.es) (sh+zM x.es - zN x.es)).map (x :: ·):=by
 rw [SG,if_neg h0]
 split
 ·rename_i h2; rw [h] at h2; cases h2
 ·rename_i x' r' h2; rw [h] at h2; cases h2; rfl
def apE (x:List (List UInt8)):Nat→List EZ→Option (List (List UInt8)×Nat)
 | at_,[]=>some ([],at_)
 | at_,e::es=>if e.1≠2∧x[at_]?≠some e.2 then none else (apE x (if e.1≠2 then at_+1 else at_) es).map fun p=>(if e.1≠1 then e.2::p.1 else p.1,p.2)
def apH (x:List (List UInt8)):Nat→List HZ→Option (List (List UInt8))
 | at_,[]=>some (x.drop at_)
 | at_,h::hs=>if x.length<h.at_ then none else match apE x h.at_ h.es with
  | none=>none
  | some (y,a)=>(apH x a hs).map fun z=>(x.take h.at_).drop at_++(y++z)
def Abn (y:List (List UInt8)):Prop:=∀ i l,y[i]?=some l→i+1<y.length→l.getLast?=some 10
inductive ArX where
 | no (e:Nat)
 | yes (b:List UInt8)
open Classical in
noncomputable def Dp (a p:List UInt8):ArX:=match SG p 0 0 with
 | none => .no 90
 | some hs=>match apH (AA a) 0 hs with
  | none => .no 91
  | some y=>if Abn y then .yes y.flatten else .no 91
end
end Go.Proofs.YtkoilgokgaigbaaGreatDoor
namespace Go.Proofs
open Go.Shelf
def Tryz.lays156_ren:Go.Shelf.Ren:=⟨fun | 156=>17 | 165=>31 | 166=>32 | 169=>26 | 240=>45 | 241=>46 | 276=>58 | 277=>59 | n=>n,fun | 31=>42 | 9=>9 | 3=>3 | 4=>4 | 0=>0 | 20=>20 | 72=>68 | 76=>82 | 70=>66 | 37=>22 | 75=>25 | 127=>102 | 164=>86 | 5=>5 | 80=>71 | n=>n,fun | n=>n⟩
theorem Tryz.lays156:Go.Proofs.Lays.n156 Tryz.prog Tryz.lays156_ren:={
 mixed:=by kernel_rfl
 f156:=Tryz.func17.trans (congrArg some (by kernel_rfl))
 f165:=Tryz.func31.trans (congrArg some (by kernel_rfl))
 f166:=Tryz.func32.trans (congrArg some (by kernel_rfl))
 f169:=Tryz.func26.trans (congrArg some (by kernel_rfl))
 f240:=Tryz.func45.trans (congrArg some (by kernel_rfl))
 f241:=Tryz.func46.trans (congrArg some (by kernel_rfl))
 f276:=Tryz.func58.trans (congrArg some (by kernel_rfl))
 f277:=Tryz.func59.trans (congrArg some (by kernel_rfl))
 t0:=Tryz.underlying0
 a0:=Tryz.isAgg0
 z0:=Tryz.sizeOf0
 v0:=Tryz.zeroValue0
 t3:=Tryz.underlying3
 a3:=Tryz.isAgg3
 z3:=Tryz.sizeOf3
 v3:=Tryz.zeroValue3
 t4:=Tryz.underlying4
 a4:=Tryz.isAgg4
 z4:=Tryz.sizeOf4
 v4:=Tryz.zeroValue4
 t9:=Tryz.underlying9
 a9:=Tryz.isAgg9
 z9:=Tryz.sizeOf9
 v9:=Tryz.zeroValue9
 t20:=Tryz.underlying20
 a20:=Tryz.isAgg20
 z20:=Tryz.sizeOf20
 v20:=Tryz.zeroValue20
 t31:=Tryz.underlying42
 a31:=Tryz.isAgg42
 z31:=Tryz.sizeOf42
 v31:=Tryz.zeroValue42
 t37:=Tryz.underlying22
 a37:=Tryz.isAgg22
 z37:=Tryz.sizeOf22
 v37:=Tryz.zeroValue22
 t70:=Tryz.underlying66
 a70:=Tryz.isAgg66
 z70:=Tryz.sizeOf66
 v70:=Tryz.zeroValue66
 t72:=Tryz.underlying68
 a72:=Tryz.isAgg68
 z72:=Tryz.sizeOf68
 v72:=Tryz.zeroValue68
 t75:=Tryz.underlying25
 a75:=Tryz.isAgg25
 z75:=Tryz.sizeOf25
 v75:=Tryz.zeroValue25
 t76:=Tryz.underlying82
 a76:=Tryz.isAgg82
 z76:=Tryz.sizeOf82
 v76:=Tryz.zeroValue82
 t127:=Tryz.underlying102
 a127:=Tryz.isAgg102
 z127:=Tryz.sizeOf102
 v127:=Tryz.zeroValue102
 t164:=Tryz.underlying86
 a164:=Tryz.isAgg86
 z164:=Tryz.sizeOf86
 v164:=Tryz.zeroValue86 }
theorem Tryz.Builder_Extra_156:Builder.Extra Tryz.prog Tryz.lays156_ren:={
 sizeBuilder:=by kernel_rfl
 liesBuilder:=by kernel_rfl
 t5:=Tryz.underlying5
 a5:=Tryz.isAgg5
 z5:=Tryz.sizeOf5
 v5:=Tryz.zeroValue5
 infoByte:=by kernel_rfl
 cellsByte:=by kernel_rfl
 sizeByte:=by kernel_rfl
 neB5:=by decide }
open Go.RowKit in
theorem Tryz.strings_Join_none (a:Option Addr) (c:Nat) (sep:ByteArray) (w:World) :
  Calls Tryz.prog 17 #[.slice a 0 c,.string sep] w fun e w'=>e = .returned (.string ⟨#[]⟩)∧w'=w:=Any.strings_Join_none Tryz.lays156 Tryz.Builder_Extra_156 a c sep w
open Go.RowKit in
theorem Tryz.strings_Join (bk o c:Nat) (xs:List ByteArray) (sep:ByteArray) (w:World) (hcells:∀ (j:Nat) x,xs[j]?=some x→w.cell? ⟨bk,o+j,none⟩=some (.string x)) (hbk:bk<w.heap.size) (hN:xs.length≤140737488355328) (hcap:xs.length≤c) (hlen:(Lib.join (xs.map (·.data.toList)) sep.data.toList).length≤140737488355328) :
  Calls Tryz.prog 17 #[.slice (some ⟨bk,o,none⟩) xs.length c,.string sep] w fun e w'=>e = .returned (.string ⟨(Lib.join (xs.map (·.data.toList)) sep.data.toList).toArray⟩)∧Below w.heap.size w w':=Any.strings_Join Tryz.lays156 Tryz.Builder_Extra_156 bk o c xs sep w hcells hbk hN hcap hlen
def Tryz.lays161_ren:Go.Shelf.Ren:=⟨fun | 161=>62 | 231=>67 | 227=>68 | 233=>69 | 235=>70 | 228=>78 | 197=>79 | 151=>80 | 260=>95 | 152=>96 | 137=>104 | 119=>105 | 224=>88 | 225=>87 | 217=>86 | 266=>100 | n=>n,fun | 9=>9 | 4=>4 | 3=>3 | 5=>5 | 117=>137 | 116=>136 | 0=>0 | 124=>140 | 105=>150 | 21=>21 | 119=>178 | 46=>161 | 139=>181 | 138=>180 | n=>n,fun | 3=>6 | 4=>7 | n=>n⟩
theorem Tryz.lays161:Go.Proofs.Lays.n161 Tryz.prog Tryz.lays161_ren:={
 mixed:=by kernel_rfl
 f119:=Tryz.func105.trans (congrArg some (by kernel_rfl))
 f137:=Tryz.func104.trans (congrArg some (by kernel_rfl))
 f151:=Tryz.func80.trans (congrArg some (by kernel_rfl))
 f152:=Tryz.func96.trans (congrArg some (by kernel_rfl))
 f161:=Tryz.func62.trans (congrArg some (by kernel_rfl))
 f197:=Tryz.func79.trans (congrArg some (by kernel_rfl))
 f217:=Tryz.func86.trans (congrArg some (by kernel_rfl))
 f224:=Tryz.func88.trans (congrArg some (by kernel_rfl))
 f225:=Tryz.func87.trans (congrArg some (by kernel_rfl))
 f227:=Tryz.func68.trans (congrArg some (by kernel_rfl))
 f228:=Tryz.func78.trans (congrArg some (by kernel_rfl))
 f231:=Tryz.func67.trans (congrArg some (by kernel_rfl))
 f233:=Tryz.func69.trans (congrArg some (by kernel_rfl))
 f235:=Tryz.func70.trans (congrArg some (by kernel_rfl))
 f260:=Tryz.func95.trans (congrArg some (by kernel_rfl))
 f266:=Tryz.func100.trans (congrArg some (by kernel_rfl))
 t0:=Tryz.underlying0
 a0:=Tryz.isAgg0
 z0:=Tryz.sizeOf0
 v0:=Tryz.zeroValue0
 t3:=Tryz.underlying3
 a3:=Tryz.isAgg3
 z3:=Tryz.sizeOf3
 v3:=Tryz.zeroValue3
 t4:=Tryz.underlying4
 a4:=Tryz.isAgg4
 z4:=Tryz.sizeOf4
 v4:=Tryz.zeroValue4
 t5:=Tryz.underlying5
 a5:=Tryz.isAgg5
 z5:=Tryz.sizeOf5
 v5:=Tryz.zeroValue5
 t9:=Tryz.underlying9
 a9:=Tryz.isAgg9
 z9:=Tryz.sizeOf9
 v9:=Tryz.zeroValue9
 t21:=Tryz.underlying21
 a21:=Tryz.isAgg21
 z21:=Tryz.sizeOf21
 v21:=Tryz.zeroValue21
 t46:=Tryz.underlying161
 a46:=Tryz.isAgg161
 z46:=Tryz.sizeOf161
 v46:=Tryz.zeroValue161
 t105:=Tryz.underlying150
 a105:=Tryz.isAgg150
 z105:=Tryz.sizeOf150
 v105:=Tryz.zeroValue150
 t116:=Tryz.underlying136
 a116:=Tryz.isAgg136
 z116:=Tryz.sizeOf136
 t117:=Tryz.underlying137
 a117:=Tryz.isAgg137
 z117:=Tryz.sizeOf137
 v117:=Tryz.zeroValue137
 t119:=Tryz.underlying178
 a119:=Tryz.isAgg178
 z119:=Tryz.sizeOf178
 t124:=Tryz.underlying140
 a124:=Tryz.isAgg140
 z124:=Tryz.sizeOf140
 v124:=Tryz.zeroValue140
 t138:=Tryz.underlying180
 a138:=Tryz.isAgg180
 z138:=Tryz.sizeOf180
 v138:=Tryz.zeroValue180
 t139:=Tryz.underlying181
 a139:=Tryz.isAgg181
 z139:=Tryz.sizeOf181
 v139:=Tryz.zeroValue181
 g3:=by kernel_rfl
 g4:=by kernel_rfl }
def Tryz.lays103_ren:Go.Shelf.Ren:=⟨fun | 103=>53 | 210=>61 | 206=>66 | n=>n,fun | 9=>9 | 4=>4 | 24=>107 | 3=>3 | n=>n,fun | n=>n⟩
theorem Tryz.lays103:Go.Proofs.Lays.n103 Tryz.prog Tryz.lays103_ren:={
 mixed:=by kernel_rfl
 f103:=Tryz.func53.trans (congrArg some (by kernel_rfl))
 f206:=Tryz.func66.trans (congrArg some (by kernel_rfl))
 f210:=Tryz.func61.trans (congrArg some (by kernel_rfl))
 t3:=Tryz.underlying3
 a3:=Tryz.isAgg3
 z3:=Tryz.sizeOf3
 v3:=Tryz.zeroValue3
 t4:=Tryz.underlying4
 a4:=Tryz.isAgg4
 z4:=Tryz.sizeOf4
 v4:=Tryz.zeroValue4
 t9:=Tryz.underlying9
 a9:=Tryz.isAgg9
 z9:=Tryz.sizeOf9
 v9:=Tryz.zeroValue9
 t24:=Tryz.underlying107
 a24:=Tryz.isAgg107
 z24:=Tryz.sizeOf107
 v24:=Tryz.zeroValue107 }
open Go.RowKit in
theorem Tryz.strings_CutPrefix (s p:ByteArray) (w:World) :
  Calls Tryz.prog 53 #[.string s,.string p] w fun e w'=>e = .returned (.tuple #[.string ⟨(Lib.trimPrefix s.data.toList p.data.toList).toArray⟩,.bool (Lib.hasPrefix s.data.toList p.data.toList)])∧w'=w:=Any.strings_CutPrefix Tryz.lays103 s p w
def Tryz.laysM171_ren:Go.Shelf.Ren:=⟨fun | 171=>52 | 243=>60 | 246=>65 | 283=>74 | 284=>75 | 285=>76 | 286=>77 | 129=>91 | 317=>90 | 318=>92 | 319=>93 | 320=>94 | 337=>102 | 338=>103 | n=>n,fun | 3=>3 | 9=>9 | 2=>2 | 4=>4 | 171=>143 | 0=>0 | 53=>144 | 37=>22 | 5=>5 | 173=>147 | 212=>163 | 51=>164 | 20=>20 | 213=>165 | 46=>161 | 232=>188 | 233=>189 | n=>n,fun | 17=>3 | 18=>8 | 19=>9 | n=>n⟩
theorem Tryz.laysM171:Go.Proofs.LaysM.n171 Tryz.prog Tryz.laysM171_ren:={
 mixed:=by kernel_rfl
 f129:=Tryz.func91.trans (congrArg some (by kernel_rfl))
 f171:=Tryz.func52.trans (congrArg some (by kernel_rfl))
 f243:=Tryz.func60.trans (congrArg some (by kernel_rfl))
 f246:=Tryz.func65.trans (congrArg some (by kernel_rfl))
 f283:=Tryz.func74.trans (congrArg some (by kernel_rfl))
 f284:=Tryz.func75.trans (congrArg some (by kernel_rfl))
 f285:=Tryz.func76.trans (congrArg some (by kernel_rfl))
 f286:=Tryz.func77.trans (congrArg some (by kernel_rfl))
 f317:=Tryz.func90.trans (congrArg some (by kernel_rfl))
 f318:=Tryz.func92.trans (congrArg some (by kernel_rfl))
 f319:=Tryz.func93.trans (congrArg some (by kernel_rfl))
 f320:=Tryz.func94.trans (congrArg some (by kernel_rfl))
 f337:=Tryz.func102.trans (congrArg some (by kernel_rfl))
 f338:=Tryz.func103.trans (congrArg some (by kernel_rfl))
 t0:=Tryz.underlying0
 a0:=Tryz.isAgg0
 z0:=Tryz.sizeOf0
 v0:=Tryz.zeroValue0
 t2:=Tryz.underlying2
 a2:=Tryz.isAgg2
 z2:=Tryz.sizeOf2
 v2:=Tryz.zeroValue2
 t3:=Tryz.underlying3
 a3:=Tryz.isAgg3
 z3:=Tryz.sizeOf3
 v3:=Tryz.zeroValue3
 t4:=Tryz.underlying4
 a4:=Tryz.isAgg4
 z4:=Tryz.sizeOf4
 v4:=Tryz.zeroValue4
 t5:=Tryz.underlying5
 a5:=Tryz.isAgg5
 z5:=Tryz.sizeOf5
 v5:=Tryz.zeroValue5
 t9:=Tryz.underlying9
 a9:=Tryz.isAgg9
 z9:=Tryz.sizeOf9
 v9:=Tryz.zeroValue9
 t20:=Tryz.underlying20
 a20:=Tryz.isAgg20
 z20:=Tryz.sizeOf20
 v20:=Tryz.zeroValue20
 t37:=Tryz.underlying22
 a37:=Tryz.isAgg22
 z37:=Tryz.sizeOf22
 v37:=Tryz.zeroValue22
 t46:=Tryz.underlying161
 a46:=Tryz.isAgg161
 z46:=Tryz.sizeOf161
 v46:=Tryz.zeroValue161
 t51:=Tryz.underlying164
 a51:=Tryz.isAgg164
 z51:=Tryz.sizeOf164
 v51:=Tryz.zeroValue164
 t53:=Tryz.underlying144
 a53:=Tryz.isAgg144
 z53:=Tryz.sizeOf144
 v53:=Tryz.zeroValue144
 t171:=Tryz.underlying143
 a171:=Tryz.isAgg143
 z171:=Tryz.sizeOf143
 v171:=Tryz.zeroValue143
 t173:=Tryz.underlying147
 a173:=Tryz.isAgg147
 z173:=Tryz.sizeOf147
 v173:=Tryz.zeroValue147
 t212:=Tryz.underlying163
 a212:=Tryz.isAgg163
 z212:=Tryz.sizeOf163
 v212:=Tryz.zeroValue163
 t213:=Tryz.underlying165
 a213:=Tryz.isAgg165
 z213:=Tryz.sizeOf165
 t232:=Tryz.underlying188
 a232:=Tryz.isAgg188
 z232:=Tryz.sizeOf188
 v232:=Tryz.zeroValue188
 t233:=Tryz.underlying189
 a233:=Tryz.isAgg189
 z233:=Tryz.sizeOf189
 v233:=Tryz.zeroValue189
 g17:=by kernel_rfl
 g18:=by kernel_rfl
 g19:=by kernel_rfl
 i0:=by kernel_rfl
 i2:=by kernel_rfl
 i3:=by kernel_rfl
 i4:=by kernel_rfl
 i5:=by kernel_rfl
 i9:=by kernel_rfl
 i20:=by kernel_rfl
 i37:=by kernel_rfl
 i46:=by kernel_rfl
 i51:=by kernel_rfl
 i53:=by kernel_rfl
 i171:=by kernel_rfl
 i173:=by kernel_rfl
 i212:=by kernel_rfl
 i232:=by kernel_rfl
 i233:=by kernel_rfl
 m17:=by kernel_rfl
 m18:=by kernel_rfl
 m19:=by kernel_rfl }
open Go.RowKit Go.Sort Go.Lib in
theorem Tryz.strconv_Itoa (n:Int) (h0 : -9223372036854775808≤n) (h1:n≤9223372036854775807) (w:World) (htab:Lib.TabIs Tryz.prog w "internal/strconv.uint64pow10" .u64 Lib.pow10Tab) :
  Calls Tryz.prog 52 #[.int .i64 n] w fun e w'=>e = .returned (.string ⟨(Lib.itoa n).toArray⟩)∧∃ k os,w'=grow (w.drewN k) os:=Any.strconv_Itoa Tryz.laysM171 n h0 h1 w htab
def Tryz.laysC172_ren:Go.Shelf.Ren:=⟨fun | 172=>63 | 244=>71 | 245=>72 | 247=>81 | 279=>82 | 280=>83 | 281=>84 | 282=>85 | 287=>97 | 316=>98 | 171=>52 | 205=>99 | 321=>106 | 322=>107 | 243=>60 | 246=>65 | 283=>74 | 284=>75 | 285=>76 | 286=>77 | 129=>91 | 317=>90 | 318=>92 | 319=>93 | 320=>94 | 337=>102 | 338=>103 | n=>n,fun | 9=>9 | 3=>3 | 75=>25 | 76=>82 | 4=>4 | 5=>5 | 167=>153 | 37=>22 | 0=>0 | 85=>154 | 2=>2 | 168=>156 | 53=>144 | 175=>169 | 46=>161 | 210=>173 | 127=>102 | 145=>187 | 143=>185 | 21=>21 | 171=>143 | 173=>147 | 212=>163 | 51=>164 | 20=>20 | 213=>165 | 232=>188 | 233=>189 | 80=>71 | n=>n,fun | 15=>4 | 16=>5 | 17=>3 | 18=>8 | 19=>9 | n=>n⟩
theorem Tryz.laysC172:Go.Proofs.LaysC.n172 Tryz.prog Tryz.laysC172_ren:={
 mixed:=by kernel_rfl
 f129:=Tryz.func91.trans (congrArg some (by kernel_rfl))
 f171:=Tryz.func52.trans (congrArg some (by kernel_rfl))
 f172:=Tryz.func63.trans (congrArg some (by kernel_rfl))
 f205:=Tryz.func99.trans (congrArg some (by kernel_rfl))
 f243:=Tryz.func60.trans (congrArg some (by kernel_rfl))
 f244:=Tryz.func71.trans (congrArg some (by kernel_rfl))
 f245:=Tryz.func72.trans (congrArg some (by kernel_rfl))
 f246:=Tryz.func65.trans (congrArg some (by kernel_rfl))
 f247:=Tryz.func81.trans (congrArg some (by kernel_rfl))
 f279:=Tryz.func82.trans (congrArg some (by kernel_rfl))
 f280:=Tryz.func83.trans (congrArg some (by kernel_rfl))
 f281:=Tryz.func84.trans (congrArg some (by kernel_rfl))
 f282:=Tryz.func85.trans (congrArg some (by kernel_rfl))
 f283:=Tryz.func74.trans (congrArg some (by kernel_rfl))
 f284:=Tryz.func75.trans (congrArg some (by kernel_rfl))
 f285:=Tryz.func76.trans (congrArg some (by kernel_rfl))
 f286:=Tryz.func77.trans (congrArg some (by kernel_rfl))
 f287:=Tryz.func97.trans (congrArg some (by kernel_rfl))
 f316:=Tryz.func98.trans (congrArg some (by kernel_rfl))
 f317:=Tryz.func90.trans (congrArg some (by kernel_rfl))
 f318:=Tryz.func92.trans (congrArg some (by kernel_rfl))
 f319:=Tryz.func93.trans (congrArg some (by kernel_rfl))
 f320:=Tryz.func94.trans (congrArg some (by kernel_rfl))
 f321:=Tryz.func106.trans (congrArg some (by kernel_rfl))
 f322:=Tryz.func107.trans (congrArg some (by kernel_rfl))
 f337:=Tryz.func102.trans (congrArg some (by kernel_rfl))
 f338:=Tryz.func103.trans (congrArg some (by kernel_rfl))
 t0:=Tryz.underlying0
 a0:=Tryz.isAgg0
 z0:=Tryz.sizeOf0
 v0:=Tryz.zeroValue0
 t2:=Tryz.underlying2
 a2:=Tryz.isAgg2
 z2:=Tryz.sizeOf2
 v2:=Tryz.zeroValue2
 t3:=Tryz.underlying3
 a3:=Tryz.isAgg3
 z3:=Tryz.sizeOf3
 v3:=Tryz.zeroValue3
 t4:=Tryz.underlying4
 a4:=Tryz.isAgg4
 z4:=Tryz.sizeOf4
 v4:=Tryz.zeroValue4
 t5:=Tryz.underlying5
 a5:=Tryz.isAgg5
 z5:=Tryz.sizeOf5
 v5:=Tryz.zeroValue5
 t9:=Tryz.underlying9
 a9:=Tryz.isAgg9
 z9:=Tryz.sizeOf9
 v9:=Tryz.zeroValue9
 t20:=Tryz.underlying20
 a20:=Tryz.isAgg20
 z20:=Tryz.sizeOf20
 v20:=Tryz.zeroValue20
 t21:=Tryz.underlying21
 a21:=Tryz.isAgg21
 z21:=Tryz.sizeOf21
 v21:=Tryz.zeroValue21
 t37:=Tryz.underlying22
 a37:=Tryz.isAgg22
 z37:=Tryz.sizeOf22
 v37:=Tryz.zeroValue22
 t46:=Tryz.underlying161
 a46:=Tryz.isAgg161
 z46:=Tryz.sizeOf161
 v46:=Tryz.zeroValue161
 t51:=Tryz.underlying164
 a51:=Tryz.isAgg164
 z51:=Tryz.sizeOf164
 v51:=Tryz.zeroValue164
 t53:=Tryz.underlying144
 a53:=Tryz.isAgg144
 z53:=Tryz.sizeOf144
 v53:=Tryz.zeroValue144
 t75:=Tryz.underlying25
 a75:=Tryz.isAgg25
 z75:=Tryz.sizeOf25
 v75:=Tryz.zeroValue25
 t76:=Tryz.underlying82
 a76:=Tryz.isAgg82
 z76:=Tryz.sizeOf82
 v76:=Tryz.zeroValue82
 t85:=Tryz.underlying154
 a85:=Tryz.isAgg154
 z85:=Tryz.sizeOf154
 v85:=Tryz.zeroValue154
 t127:=Tryz.underlying102
 a127:=Tryz.isAgg102
 z127:=Tryz.sizeOf102
 v127:=Tryz.zeroValue102
 t143:=Tryz.underlying185
 a143:=Tryz.isAgg185
 z143:=Tryz.sizeOf185
 v143:=Tryz.zeroValue185
 t145:=Tryz.underlying187
 a145:=Tryz.isAgg187
 z145:=Tryz.sizeOf187
 v145:=Tryz.zeroValue187
 t167:=Tryz.underlying153
 a167:=Tryz.isAgg153
 z167:=Tryz.sizeOf153
 v167:=Tryz.zeroValue153
 t168:=Tryz.underlying156
 a168:=Tryz.isAgg156
 z168:=Tryz.sizeOf156
 v168:=Tryz.zeroValue156
 t171:=Tryz.underlying143
 a171:=Tryz.isAgg143
 z171:=Tryz.sizeOf143
 v171:=Tryz.zeroValue143
 t173:=Tryz.underlying147
 a173:=Tryz.isAgg147
 z173:=Tryz.sizeOf147
 v173:=Tryz.zeroValue147
 t175:=Tryz.underlying169
 a175:=Tryz.isAgg169
 z175:=Tryz.sizeOf169
 v175:=Tryz.zeroValue169
 t210:=Tryz.underlying173
 a210:=Tryz.isAgg173
 z210:=Tryz.sizeOf173
 v210:=Tryz.zeroValue173
 t212:=Tryz.underlying163
 a212:=Tryz.isAgg163
 z212:=Tryz.sizeOf163
 v212:=Tryz.zeroValue163
 t213:=Tryz.underlying165
 a213:=Tryz.isAgg165
 z213:=Tryz.sizeOf165
 t232:=Tryz.underlying188
 a232:=Tryz.isAgg188
 z232:=Tryz.sizeOf188
 v232:=Tryz.zeroValue188
 t233:=Tryz.underlying189
 a233:=Tryz.isAgg189
 z233:=Tryz.sizeOf189
 v233:=Tryz.zeroValue189
 g15:=by kernel_rfl
 g16:=by kernel_rfl
 g17:=by kernel_rfl
 g18:=by kernel_rfl
 g19:=by kernel_rfl
 t80:=Tryz.underlying71
 a80:=Tryz.isAgg71
 z80:=Tryz.sizeOf71
 v80:=Tryz.zeroValue71
 i0:=by kernel_rfl
 i2:=by kernel_rfl
 i3:=by kernel_rfl
 i4:=by kernel_rfl
 i5:=by kernel_rfl
 i9:=by kernel_rfl
 i20:=by kernel_rfl
 i21:=by kernel_rfl
 i37:=by kernel_rfl
 i46:=by kernel_rfl
 i51:=by kernel_rfl
 i53:=by kernel_rfl
 i75:=by kernel_rfl
 i76:=by kernel_rfl
 i80:=by kernel_rfl
 i85:=by kernel_rfl
 i127:=by kernel_rfl
 i143:=by kernel_rfl
 i145:=by kernel_rfl
 i167:=by kernel_rfl
 i168:=by kernel_rfl
 i171:=by kernel_rfl
 i173:=by kernel_rfl
 i175:=by kernel_rfl
 i210:=by kernel_rfl
 i212:=by kernel_rfl
 i232:=by kernel_rfl
 i233:=by kernel_rfl
 m15:=by kernel_rfl
 m16:=by kernel_rfl
 m17:=by kernel_rfl
 m18:=by kernel_rfl
 m19:=by kernel_rfl
 c0:=by kernel_rfl
 c2:=by kernel_rfl
 c3:=by kernel_rfl
 c4:=by kernel_rfl
 c5:=by kernel_rfl
 c9:=by kernel_rfl
 c20:=by kernel_rfl
 c21:=by kernel_rfl
 c37:=by kernel_rfl
 c46:=by kernel_rfl
 c51:=by kernel_rfl
 c53:=by kernel_rfl
 c75:=by kernel_rfl
 c76:=by kernel_rfl
 c80:=by kernel_rfl
 c85:=by kernel_rfl
 c127:=by kernel_rfl
 c143:=by kernel_rfl
 c145:=by kernel_rfl
 c167:=by kernel_rfl
 c168:=by kernel_rfl
 c171:=by kernel_rfl
 c173:=by kernel_rfl
 c175:=by kernel_rfl
 c210:=by kernel_rfl
 c212:=by kernel_rfl
 c213:=by kernel_rfl
 c232:=by kernel_rfl
 c233:=by kernel_rfl }
open Go.RowKit in
theorem Tryz.strconv_Atoi_ok (s:ByteArray) (hmax:s.size≤9223372036854775806) (v:Int) (h:Lib.atoiAll s.data.toList = .ok v) (w:World) :
  Calls Tryz.prog 63 #[.string s] w fun e w'=>e = .returned (.tuple #[.int .i64 v,.nilIface])∧(w'=w∨∃ t,w'=Lib.bytesWorld w 5 t):=Any.strconv_Atoi_ok Tryz.laysC172 s hmax v h w
open Go.RowKit in
theorem Tryz.strconv_Atoi_syntax (s:ByteArray) (hlim:s.size≤281474976710656) (h:Lib.atoiAll s.data.toList = .«syntax») (ev:Value) (w:World) (hv:w.cell? ⟨4,0,none⟩=some ev) (hev:ev = .nilIface∨∃ te pe,ev = .iface te pe) :
  Calls Tryz.prog 63 #[.string s] w fun e w'=>∃ N,e = .returned (.tuple #[.int .i64 (0),.iface 156 (.pointer (some ⟨N,0,none⟩))])∧w.heap.size≤N∧w'.heap[N]?=some (.cells #[.string ⟨#[65,116,111,105]⟩,.string s,ev] 173 (0,0))∧Below w.heap.size w w':=Any.strconv_Atoi_syntax Tryz.laysC172 s hlim h ev w hv hev
open Go.RowKit in
theorem Tryz.strconv_Atoi_range (s:ByteArray) (hlim:s.size≤281474976710656) (h:Lib.atoiAll s.data.toList = .range) (ev:Value) (w:World) (hv:w.cell? ⟨5,0,none⟩=some ev) (hev:ev = .nilIface∨∃ te pe,ev = .iface te pe) :
  Calls Tryz.prog 63 #[.string s] w fun e w'=>∃ N,e = .returned (.tuple #[.int .i64 (Lib.atoiSat s.data.toList),.iface 156 (.pointer (some ⟨N,0,none⟩))])∧w.heap.size≤N∧w'.heap[N]?=some (.cells #[.string ⟨#[65,116,111,105]⟩,.string s,ev] 173 (0,0))∧Below w.heap.size w w':=Any.strconv_Atoi_range Tryz.laysC172 s hlim h ev w hv hev
def Tryz.lays145_ren:Go.Shelf.Ren:=⟨fun | 145=>55 | 220=>64 | 219=>73 | 217=>86 | 225=>87 | 224=>88 | 267=>89 | 266=>100 | 314=>101 | n=>n,fun | 9=>9 | 4=>4 | 59=>127 | 3=>3 | 5=>5 | 46=>161 | 146=>175 | 51=>164 | n=>n,fun | 1=>2 | n=>n⟩
theorem Tryz.lays145:Go.Proofs.Lays.n145 Tryz.prog Tryz.lays145_ren:={
 mixed:=by kernel_rfl
 f145:=Tryz.func55.trans (congrArg some (by kernel_rfl))
 f217:=Tryz.func86.trans (congrArg some (by kernel_rfl))
 f219:=Tryz.func73.trans (congrArg some (by kernel_rfl))
 f220:=Tryz.func64.trans (congrArg some (by kernel_rfl))
 f224:=Tryz.func88.trans (congrArg some (by kernel_rfl))
 f225:=Tryz.func87.trans (congrArg some (by kernel_rfl))
 f266:=Tryz.func100.trans (congrArg some (by kernel_rfl))
 f267:=Tryz.func89.trans (congrArg some (by kernel_rfl))
 f314:=Tryz.func101.trans (congrArg some (by kernel_rfl))
 t3:=Tryz.underlying3
 a3:=Tryz.isAgg3
 z3:=Tryz.sizeOf3
 v3:=Tryz.zeroValue3
 t4:=Tryz.underlying4
 a4:=Tryz.isAgg4
 z4:=Tryz.sizeOf4
 v4:=Tryz.zeroValue4
 t5:=Tryz.underlying5
 a5:=Tryz.isAgg5
 z5:=Tryz.sizeOf5
 v5:=Tryz.zeroValue5
 t9:=Tryz.underlying9
 a9:=Tryz.isAgg9
 z9:=Tryz.sizeOf9
 v9:=Tryz.zeroValue9
 t46:=Tryz.underlying161
 a46:=Tryz.isAgg161
 z46:=Tryz.sizeOf161
 v46:=Tryz.zeroValue161
 t51:=Tryz.underlying164
 a51:=Tryz.isAgg164
 z51:=Tryz.sizeOf164
 v51:=Tryz.zeroValue164
 t59:=Tryz.underlying127
 a59:=Tryz.isAgg127
 z59:=Tryz.sizeOf127
 v59:=Tryz.zeroValue127
 t146:=Tryz.underlying175
 a146:=Tryz.isAgg175
 z146:=Tryz.sizeOf175
 v146:=Tryz.zeroValue175
 g1:=by kernel_rfl }
open Go.RowKit Go.Lib in
theorem Tryz.strings_Cut (s sep:ByteArray) (m:Int) (w:World) (hs:s.size<4294967281) (hm:w.cell? ⟨2,0,none⟩=some (.int .i64 m)) :
  Calls Tryz.prog 55 #[.string s,.string sep] w fun e w'=>e = .returned (.tuple #[.string ⟨(Lib.cut s.data.toList sep.data.toList).1.toArray⟩,.string ⟨(Lib.cut s.data.toList sep.data.toList).2.1.toArray⟩,.bool (Lib.cut s.data.toList sep.data.toList).2.2])∧∃ n,w'=w.drewN n:=Any.strings_Cut Tryz.lays145 s sep m w hs hm
def Tryz.lays100_ren:Go.Shelf.Ren:=⟨fun | 100=>16 | 207=>30 | n=>n,fun | 9=>9 | 4=>4 | 3=>3 | n=>n,fun | n=>n⟩
theorem Tryz.lays100:Go.Proofs.Lays.n100 Tryz.prog Tryz.lays100_ren:={
 mixed:=by kernel_rfl
 f100:=Tryz.func16.trans (congrArg some (by kernel_rfl))
 f207:=Tryz.func30.trans (congrArg some (by kernel_rfl))
 t3:=Tryz.underlying3
 a3:=Tryz.isAgg3
 z3:=Tryz.sizeOf3
 v3:=Tryz.zeroValue3
 t4:=Tryz.underlying4
 a4:=Tryz.isAgg4
 z4:=Tryz.sizeOf4
 v4:=Tryz.zeroValue4
 t9:=Tryz.underlying9
 a9:=Tryz.isAgg9
 z9:=Tryz.sizeOf9
 v9:=Tryz.zeroValue9 }
open Go.RowKit Go.Lib in
theorem Tryz.strings_HasSuffix (s p:ByteArray) (w:World) (hs:s.size≤9223372036854775807) :
  Calls Tryz.prog 16 #[.string s,.string p] w fun e w'=>e = .returned (.bool (Lib.hasSuffix s.data.toList p.data.toList))∧w'=w:=Any.strings_HasSuffix Tryz.lays100 s p w hs
end Go.Proofs
namespace Go.Proofs.YtkoilgokgaigbaaGreatDoor
section
open Go.RowKit
variable [Bq]
theorem CJ.ofBelow {f:FuncId} {args:List Value} {r:Value} (h:∀ (F:Nat→Prop) w,EO F w→Calls Tryz.prog f args.toArray w fun e w'=>e = .returned r∧Below w.heap.size w w'):CJ Tryz.prog f (args.map .val) (fun x=>x = .val r):=by
 intro β F w vs hF hv
 have hvs:vs=args:=by
  clear h hF
  induction args generalizing vs with
  | nil=>rw [List.map_nil,Bo.nil] at hv; exact hv
  | cons a args ih =>
   rw [List.map_cons] at hv
   obtain ⟨v,us,rfl,h1,h2⟩:=Bo.cons.1 hv
   have:=Rep.val.1 (Or.inl h1:Rep _ _ _ _)
   rw [this,ih us h2]
 subst hvs
 refine (h F w hF.2).mono ?_
 rintro e w' ⟨rfl,hb⟩
 exact ⟨_,_,F,rfl,rfl,Rep.of_val,⟨hb.os,hb.tape,hb.output,hb.size,hb.block,fun _ h=>h,fun _ _ h=>h,fun b hb'=>Nat.lt_of_lt_of_le (hF.1 b hb') hb.size⟩⟩
theorem Vk {B:Nat} (w:World):Below B w w:=⟨rfl,rfl,rfl,Nat.le_refl _,fun _ _=>rfl⟩
theorem AcZ (w:World) (k:Nat) (os:Array Obj):Below w.heap.size w (Sort.grow (w.drewN k) os):=⟨rfl,rfl,rfl,by simp [Sort.grow,World.drewN],fun i hi=>by simp [Sort.grow,World.drewN,Array.getElem?_append_left hi]⟩
theorem AdO (l:List UInt8):(str l).data.toList=l:=by simp [str]
end
section
open Go.RowKit
class EE [Bq]:Prop where
 k:∃ m,EU 2=some (.one (.int .i64 m))
variable [Bq]
theorem CJ.ofBelowT {f:FuncId} {args rs:List Value} (h:∀ (F:Nat→Prop) w,EO F w→Calls Tryz.prog f args.toArray w fun e w'=>e = .returned (.tuple rs.toArray)∧Below w.heap.size w w'):CJ Tryz.prog f (args.map .val) (fun x=>x = .tup (rs.map .val)):=by
 intro β F w vs hF hv
 have hvs:vs=args:=by
  clear h hF
  induction args generalizing vs with
  | nil=>rw [List.map_nil,Bo.nil] at hv; exact hv
  | cons a args ih =>
   rw [List.map_cons] at hv
   obtain ⟨v,us,rfl,h1,h2⟩:=Bo.cons.1 hv
   have:=Rep.val.1 (Or.inl h1:Rep _ _ _ _)
   rw [this,ih us h2]
 subst hvs
 refine (h F w hF.2).mono ?_
 rintro e w' ⟨rfl,hb⟩
 have hr:∀ l:List Value,Bo ⟨β,[],F⟩ w' (l.map .val) l:=by
  intro l
  induction l with
  | nil=>rw [List.map_nil,Bo.nil]
  | cons a l ih=>exact Bo.cons.2 ⟨a,l,rfl,.inr (.inl rfl),ih⟩
 exact ⟨_,_,F,rfl,rfl,.inr ⟨_,_,rfl,rfl,hr rs⟩,⟨hb.os,hb.tape,hb.output,hb.size,hb.block,fun _ h=>h,fun _ _ h=>h,fun b hb'=>Nat.lt_of_lt_of_le (hF.1 b hb') hb.size⟩⟩
theorem Adj {B:Nat} (w:World) (n:Nat):Below B w (w.drewN n):=⟨rfl,rfl,rfl,Nat.le_refl _,fun _ _=>rfl⟩
theorem Am6 (l:List UInt8):(str l).size=l.length:=by show l.toArray.size=_; simp
theorem Agm [EE] {F:Nat→Prop} {w:World} (hg:EO F w):∃ m,w.cell? ⟨2,0,none⟩=some (.int .i64 m):=by
 obtain ⟨m,hm⟩:=EE.k
 obtain ⟨_,t,fr,hh⟩:=hg _ _ hm
 exact ⟨m,by simp [World.cell?,hh,GV.cells]⟩
theorem Aqz [EE] (s p:List UInt8) (hs:s.length≤1000000):CJ Tryz.prog 55 [ts s,ts p] (fun x=>x = .tup [ts (Lib.cut s p).1,ts (Lib.cut s p).2.1,tb (Lib.cut s p).2.2]):=by
 have h:=CJ.ofBelowT (f:=55) (args:=[.string (str s),.string (str p)]) (rs:=[.string (str (Lib.cut s p).1),.string (str (Lib.cut s p).2.1),.bool (Lib.cut s p).2.2]) (fun F w hg=>by
  obtain ⟨m,hm⟩:=Agm hg
  have h1:=Tryz.strings_Cut (str s) (str p) m w (by rw [Am6]; omega) hm
  rw [AdO,AdO] at h1
  refine h1.mono ?_
  rintro e w' ⟨rfl,n,rfl⟩
  exact ⟨rfl,Adj _ _⟩)
 exact h
theorem YL (s p:List UInt8):CJ Tryz.prog 53 [ts s,ts p] (fun x=>x = .tup [ts (Lib.trimPrefix s p),tb (Lib.hasPrefix s p)]):=by
 have h:=CJ.ofBelowT (f:=53) (args:=[.string (str s),.string (str p)]) (rs:=[.string (str (Lib.trimPrefix s p)),.bool (Lib.hasPrefix s p)]) (fun F w hg=>by
  have h1:=Tryz.strings_CutPrefix (str s) (str p) w
  rw [AdO,AdO] at h1
  refine h1.mono ?_
  rintro e w' ⟨rfl,rfl⟩
  exact ⟨rfl,Vk _⟩)
 exact h
end
section
open Go.RowKit
variable [Bq]
section
variable [Am]
theorem Aec {F:Nat→Prop} {w:World} (h:EO F w):Lib.TabIs Tryz.prog w "internal/strconv.uint64pow10" .u64 Lib.pow10Tab:=by
 obtain ⟨_,t,fr,h1⟩:=h 3 _ Am.k
 have h2:Tryz.prog.globalNamed "internal/strconv.uint64pow10" = some 3:=by kernel_rfl
 have h3:AL.cells.toArray=(Lib.pow10Tab.map fun z=>Value.int .u64 z).toArray:=by kernel_rfl
 unfold Lib.TabIs World.var?
 rw [h2,Option.bind_some,h1,h3]
theorem Aqb (n:Int) (h0 : -9223372036854775808≤n) (h1:n≤9223372036854775807):CJ Tryz.prog 52 [i64 n] (fun x=>x=ts (Lib.itoa n)):=by
 have h:=CJ.ofBelow (f:=52) (args:=[.int .i64 n]) (r := .string (str (Lib.itoa n))) (fun F w hg=>by
  refine (Tryz.strconv_Itoa n h0 h1 w (Aec hg)).mono ?_
  rintro e w' ⟨rfl,k,os,rfl⟩
  exact ⟨rfl,AcZ _ _ _⟩)
 exact h
end
end
section
open Go.RowKit
variable [Bq]
class AQ [Bq]:Prop where
 k:∃ t a,EU 4=some (.one (.iface t (.pointer (some a))))
class AV [Bq]:Prop where
 k:∃ t a,EU 5=some (.one (.iface t (.pointer (some a))))
theorem ZW {F:Nat→Prop} {w:World} (h:EO F w) {g:Nat} {v:Value} (e:EU g=some (.one v)):w.cell? ⟨g,0,none⟩=some v:=by
 have:=h.at e 0 v rfl
 simpa using this
end
section
open Go.RowKit
variable [Bq]
end
section
open Go.RowKit
variable [Bq]
theorem Ads (s p:List UInt8) (hs:s.length≤9223372036854775807):CJ Tryz.prog 16 [ts s,ts p] (fun x=>x=tb (Lib.hasSuffix s p)):=by
 have h:=CJ.ofBelow (f:=16) (args:=[.string (str s),.string (str p)]) (r := .bool (Lib.hasSuffix s p)) (fun F w _=>by
  have h1:=Tryz.strings_HasSuffix (str s) (str p) w (by simpa [str,ByteArray.size] using hs)
  rw [AdO,AdO] at h1
  refine h1.mono ?_
  rintro e w' ⟨rfl,rfl⟩
  exact ⟨rfl,Vk _⟩)
 exact h
end
section
open Go.RowKit
variable [Bq]
def Amz:List UInt8:=[48,49,50,51,52,53,54,55,56,57]
theorem Amf:∀ n:Nat,n<256→Amz.contains (UInt8.ofNat n)=Bj (UInt8.ofNat n):=by decide +kernel
theorem Ang (b:UInt8):Amz.contains b=Bj b:=by
 have:=Amf b.toNat (by have:=b.toNat_lt; omega)
 simpa using this
theorem Aeg (s:List UInt8):Lib.trimLeftS s Amz=s.dropWhile Bj:=by
 unfold Lib.trimLeftS
 congr 1
 funext b
 exact Ang b
theorem Af5 (s:List UInt8) (hs:s.length≤1000000):CJ Tryz.prog 62 [ts s,ts Amz] (fun x=>x=ts (s.dropWhile Bj)):=by
 have h:=CJ.ofBelow (f:=62) (args:=[.string (str s),.string (str Amz)]) (r := .string (str (s.dropWhile Bj))) (fun F w _=>by
  have h1:=Any.strings_TrimLeft_laid Tryz.lays161 (by kernel_rfl) (str s) (str Amz) w (by rw [Am6]; decide) (by rw [AdO]; exact ascii_of_all (by decide))
  rw [AdO,AdO,Aeg] at h1
  exact h1)
 exact h
variable [AQ] [AV]
def Vu (s:List UInt8):TV:=match Lib.atoiAll s with
 | .ok _ => .val .nilIface
 | _ => .ifc 156 .any
def Q8 (s:List UInt8):Int:=match Lib.atoiAll s with
 | .ok v=>v
 | .«syntax» => 0
 | .range=>Lib.atoiSat s
theorem Am2 (s:List UInt8) (hs:s.length≤1000000):CJ Tryz.prog 63 [ts s] (fun r=>r = .tup [i64 (Q8 s),Vu s]):=by
 intro β F w vs hF hv
 obtain ⟨v1,us,rfl,h1,hv⟩:=Bo.cons.1 hv
 rw [Bo.nil] at hv; subst hv
 obtain rfl:=Rep.val.1 (Or.inl h1:Rep _ _ _ _)
 have hsz:(str s).size≤281474976710656:=by simp [str,ByteArray.size]; omega
 have hsd:(str s).data.toList=s:=AdO s
 have fin:∀ (e:Ending) (w':World) (x:Value) (y:TV),e = .returned (.tuple #[.int .i64 (Q8 s),x])→AcJ ⟨β,[],F⟩ w' y x→y=Vu s→Below w.heap.size w w'→∃ v x F',e = .returned v∧x = .tup [i64 (Q8 s),Vu s]∧Rep ⟨β,[],F'⟩ w' x v∧Md F w F' w':=by
  rintro e w' x y rfl hx rfl hb
  refine ⟨_,_,F,rfl,rfl,.inr ⟨_,[_,_],rfl,rfl,Bo.cons.2 ⟨_,_,rfl,.inr (.inl rfl),Bo.cons.2 ⟨_,_,rfl,hx,Bo.nil.2 rfl⟩⟩⟩,⟨hb.os,hb.tape,hb.output,hb.size,hb.block,fun _ h=>h,fun _ _ h=>h,fun b hb'=>Nat.lt_of_lt_of_le (hF.1 b hb') hb.size⟩⟩
 have err:∀ (w':World) (N:Nat),AcJ ⟨β,[],F⟩ w' (.ifc 156 .any) (.iface 156 (.pointer (some ⟨N,0,none⟩))):=fun w' N=>by
  refine .inr (.inr ⟨[.iface 156 (.pointer (some ⟨N,0,none⟩))],?_,rfl⟩)
  rw [Aj]
  refine ⟨_,rfl,[.pointer (some ⟨N,0,none⟩)],?_,rfl⟩
  rw [Aj]
  exact ⟨_,rfl,rfl⟩
 cases h:Lib.atoiAll s with
 | ok v =>
  have e:Q8 s=v:=by unfold Q8; rw [h]
  have e2:(TV.val .nilIface)=Vu s:=by unfold Vu; rw [h]
  refine (Tryz.strconv_Atoi_ok (str s) (by omega) v (by rw [hsd]; exact h) w).mono ?_
  rintro e' w' ⟨rfl,hw⟩
  refine fin _ _ _ _ (by rw [e]) (.inr (.inl rfl)) e2 ?_
  rcases hw with rfl | ⟨t,rfl⟩
  ·exact Below.refl _ _
  ·exact Lib.bytesWorld_below _ _ _
 | «syntax» =>
  have e:Q8 s=0:=by unfold Q8; rw [h]
  have e2:(TV.ifc 156 .any)=Vu s:=by unfold Vu; rw [h]
  obtain ⟨t,a,hk⟩:=AQ.k
  refine (Tryz.strconv_Atoi_syntax (str s) hsz (by rw [hsd]; exact h) _ w (ZW hF.2 hk) (.inr ⟨_,_,rfl⟩)).mono ?_
  rintro e' w' ⟨N,rfl,_,_,hb⟩
  exact fin _ _ _ _ (by rw [e]) (err _ _) e2 hb
 | range =>
  have e:Q8 s=Lib.atoiSat s:=by unfold Q8; rw [h]
  have e2:(TV.ifc 156 .any)=Vu s:=by unfold Vu; rw [h]
  obtain ⟨t,a,hk⟩:=AV.k
  refine (Tryz.strconv_Atoi_range (str s) hsz (by rw [hsd]; exact h) _ w (ZW hF.2 hk) (.inr ⟨_,_,rfl⟩)).mono ?_
  rintro e' w' ⟨N,rfl,_,_,hb⟩
  exact fin _ _ _ _ (by rw [e,hsd]) (err _ _) e2 hb
end
end Go.Proofs.YtkoilgokgaigbaaGreatDoor
