/- What the proof of WireWantsCard stands on (texts merged; names shortened by a program): part 5. -/
import Derived.Test.YtnikbdnebdmmiaaGreatDoorQD
import Derived.ProofKit
import Derived.Lib.LaidTab
import Derived.LaidHandle
import Derived.OpenShut
import Derived.ShutString
import Derived.ChangeOld
import Derived.Below
import Derived.Carry
import Derived.SizedLaws
import Derived.Lib.ItoaNum
import Derived.Lib.ItoaLen
import Derived.Test.YtnikbdnebdmmiaaGreatDoorProg
import Derived.KernelRfl
import Derived.Shelf.Strings.Builder1
import Derived.Shelf.Strings.Builder2
import Derived.Shelf.Strings.OnBuilder
import Derived.Shelf.Small.Utf8
import Derived.Shelf.Small.Strs
import Derived.Shelf.Strconv.Atoi
import Derived.Shelf.Strconv.Itoa0
import Derived.Shelf.Strconv.Itoa1
import Derived.Shelf.LaysM
import Derived.Shelf.Strconv.Itoa2
import Derived.Shelf.Strconv.Itoa3
import Derived.Shelf.Strconv.AtoiErrFast
import Derived.Shelf.Strconv.ParseIntEmpty
import Derived.Shelf.Strconv.AtoiFail
import Derived.Shelf.Strconv.Clone
import Derived.Shelf.Strconv.SyntaxError
import Derived.Shelf.LaysC
import Derived.Shelf.Strconv.ToError
import Derived.Shelf.Strconv.Lower
import Derived.Shelf.Strconv.ParseUint10
import Derived.Shelf.Strconv.ParseUint10Empty
import Derived.Shelf.Strconv.ParseUint10Any
import Derived.Shelf.Strconv.ParseInt10
import Derived.Shelf.Strconv.AtoiLong
import Derived.Shelf.Strconv.AtoiInnerAll
import Derived.Shelf.Strconv.RangeError
import Derived.Shelf.Strconv.ToErrorRange
import Derived.Shelf.Strconv.AtoiAll
import Derived.Shelf.Strings.Search1
import Derived.Shelf.Strings.Search2
import Derived.Shelf.Strings.Search3
import Derived.Shelf.Strings.Count
import Derived.Shelf.Strings.Shaped
import Derived.Shelf.Strings.Prefix
import Derived.Shelf.Strings.Runes
import Derived.Shelf.Unicode.DecodeSlow
import Derived.Shelf.Bytes.Small
import Derived.WalkKit
import Derived.Lib.Builder
import Derived.Lib.UnsafeStr
import Derived.Laws.Externs
import Derived.Shelf.RegionOpenPlain
import Derived.Shelf.Lay
import Derived.Lib.Bytealg
import Derived.LaidEql
import Derived.Stop.Asserts
import Derived.RowKitTokens
set_option linter.defProp false
set_option linter.unusedSectionVars false
set_option linter.unusedSimpArgs false
set_option linter.unusedVariables false
namespace Go.Proofs.YtnikbdnebdmmiaaGreatDoor
section
open Go.RowKit
variable [AyZ]
theorem AWi {g:Nat} {x:GV} (h:ACY g=some x):(g,x)∈AyZ.l:=by
 unfold ACY at h
 obtain ⟨p,hp,rfl⟩:=Option.map_eq_some_iff.1 h
 have h1:=List.mem_of_find?_eq_some hp
 have h2:=List.find?_some hp
 have h3:p.1=g:=by simpa using h2
 obtain ⟨a,b⟩:=p
 simp only at h3; subst h3; exact h1
section
omit [AyZ]
theorem ASc {P:Program} {w:World} {name:String} {g:Nat} {cs:Array Value} (hg:P.globalNamed name=some g) (h:w.var? P name=some cs):∃ t fr,w.heap[g]?=some (.cells cs t fr):=by
 unfold World.var? at h
 rw [hg,Option.bind_some] at h
 split at h
 ·rename_i c t fr hh; cases h; exact ⟨t,fr,hh⟩
 ·cases h
def A19 (P:Program) (t:TypeId):Bool:=match P.underlying t with
 | some (.int _)=>true
 | some .string=>true
 | _=>false
def A8X:DataW Unit→Option Value
 | .lit (.int k n)=>some (.int k n)
 | .lit (.string l)=>some (.string ⟨l.toArray⟩)
 | _=>none
variable {P:Program} {w:World} {fuel:Nat} {cs:List Value}
theorem AUp {t:TypeId} {x:DataW Unit×List MemPlace} (ht:A19 P t=true) (h:DataW.trod (fun _=>()) P w 0 (fun _=>true) false fuel t cs=some x):∃ v,A8X x.1=some v∧cs=[v]:=by
 unfold A19 at ht
 split at ht
 ·rename_i k hk
  obtain ⟨n,rfl,rfl,_⟩:=DataW.trod_int hk h
  exact ⟨_,rfl,rfl⟩
 ·rename_i hk
  obtain ⟨s,rfl,rfl,_⟩:=DataW.trod_string hk h
  exact ⟨_,rfl,by simp⟩
 ·cases ht
theorem AUl {t e:TypeId} {n:Nat} {ds:List (DataW Unit)} {p:List MemPlace} {vs:List Value} (ht:P.underlying t=some (.array n e)) (he:A19 P e=true) (hce:P.cellsOf e=1) (hct:P.cellsOf t=n) (hv:ds.map A8X=vs.map some)
  (h:DataW.trod (fun _=>()) P w 0 (fun _=>true) false fuel t cs=some (.agg ds,p)):cs=vs:=by
 cases fuel with
 | zero=>simp [DataW.trod] at h
 | succ fuel =>
  simp only [DataW.trod,ht,hce,hct,Nat.mul_one] at h
  split at h
  ·rename_i hl
   obtain ⟨xs,hm,hx⟩:=Option.map_eq_some_iff.1 h
   have hxs:xs.map (·.1)=ds:=by
    have:=congrArg Prod.fst hx
    simpa using this
   have hxl:xs.length=n:=by simpa using Lib.mapM_length hm
   have hvl:vs.length=n:=by
    have h1:=congrArg List.length hxs
    have h2:=congrArg List.length hv
    simp at h1 h2
    omega
   apply List.ext_getElem?
   intro i
   by_cases hi:i<n
   ·obtain ⟨b,hb,hf⟩:=Lib.mapM_at hm i i (by simp [hi])
    obtain ⟨v,hv1,hv2⟩:=AUp he hf
    have h1:cs[i]?=some v:=by
     have:=congrArg (·[0]?) hv2
     simpa [List.getElem?_take,List.getElem?_drop] using this
    have h2:ds[i]?=some b.1:=by rw [←hxs]; simp [hb]
    have h3:(ds.map A8X)[i]?=some (some v):=by simp [h2,hv1]
    rw [hv] at h3
    simp only [List.getElem?_map,Option.map_eq_some_iff,Option.some.injEq] at h3
    obtain ⟨u,hu,rfl⟩:=h3
    rw [h1,hu]
   ·rw [List.getElem?_eq_none (by omega),List.getElem?_eq_none (by omega)]
  ·cases h
theorem AUQ {name:String} {d:DataW Unit}:∀ {laid:List (String×DataW Unit)} {ps:List MemPlace},DataW.LaidVars P w laid ps→(name,d)∈laid →
  ∃ g t cs fuel p,P.globalNamed name=some g∧(P.globals[g]?).map (·.type)=some t∧w.var? P name=some cs∧DataW.trod (fun _=>()) P w 0 (fun _=>true) false fuel t cs.toList=some (d,p)
 | [],ps,_,hm=>by simp at hm
 | (n,d')::r,ps,h,hm=>by
  obtain ⟨g,t,cs,fuel,p,q,h1,h2,h3,h4,h5,_⟩:=h
  rcases List.mem_cons.1 hm with e | hm
  ·cases e; exact ⟨g,t,cs,fuel,p,h1,h2,h3,h4⟩
  ·exact AUQ h5 hm
theorem ARs {laid:List (String×DataW Unit)} (h:laidMet P laid w) {name:String} {ds:List (DataW Unit)} (hm:(name,DataW.agg ds)∈laid) {g:Nat} {t e:TypeId} {n:Nat} {vs:List Value} (hg:P.globalNamed name=some g) (hty:(P.globals[g]?).map (·.type)=some t)
  (ht:P.underlying t=some (.array n e)) (he:A19 P e=true) (hce:P.cellsOf e=1) (hct:P.cellsOf t=n) (hv:ds.map A8X=vs.map some):∃ tt fr,w.heap[g]?=some (.cells vs.toArray tt fr):=by
 obtain ⟨ps,h,_⟩:=h
 obtain ⟨g',t',cs,fuel,p,h1,h2,h3,h4⟩:=AUQ h hm
 obtain rfl:=Option.some.inj (hg.symm.trans h1)
 obtain rfl:=Option.some.inj (hty.symm.trans h2)
 have:=AUl ht he hce hct hv h4
 have e:cs=vs.toArray:=by rw [←this,Array.toArray_toList]
 rw [e] at h3
 exact ASc hg h3
end
end
section
open Go.RowKit Go.WideShapes Go.ChangeShapes
variable [AyZ]
set_option autoImplicit false
def came (w:World):Ctx:=⟨fun _ _=>none,[],fun b=>b<w.heap.size⟩
def AHd (P:Program) (t:TypeId) {α:Type} (f:α→TV) (ok:α→Prop):Prop :=
 ∀ {H:Type} (enc:TypeId×Value→H) (w:World) (fuel:Nat) (cs:List Value) (d:DataW H) (ps:List MemPlace),DataW.trod enc P w 0 (fun _=>true) true fuel t cs=some (d,ps)→(d.weights P t).all (· ≤ reachBytes)=true→∃ a,AyG (came w) w (f a) cs∧ok a
theorem ASy {α β:Type} {f:α→Option β}:∀ {l:List α} {xs:List β},l.mapM f=some xs→xs.length=l.length∧∀ (i:Nat) a,l[i]?=some a→∃ x,xs[i]?=some x∧f a=some x
 | [],xs,h=>by simp at h; subst h; simp
 | a::l,xs,h=>by
  rw [List.mapM_cons] at h
  cases hf:f a with
  | none=>rw [hf] at h; cases h
  | some y =>
   rw [hf] at h
   cases hl:l.mapM f with
   | none=>rw [hl] at h; cases h
   | some ys =>
    rw [hl] at h
    have e:xs=y::ys:=by simpa using h.symm
    subst e
    obtain ⟨h1,h2⟩:=ASy hl
    refine ⟨by simp [h1],fun i b hb => ?_⟩
    cases i with
    | zero=>simp at hb; subst hb; exact ⟨y,by simp,hf⟩
    | succ i=>simpa using h2 i b (by simpa using hb)
theorem AJD {β:Type} {f:Nat→Option β} {n:Nat} {xs:List β} (h:(List.range n).mapM f=some xs):xs.length=n∧∀ i,i<n→∃ x,xs[i]?=some x∧f i=some x:=by
 obtain ⟨h1,h2⟩:=ASy h
 exact ⟨by simpa using h1,fun i hi=>h2 i i (by simp [hi])⟩
section
variable {P:Program} {t e:TypeId}
theorem ARz {H:Type} {enc:TypeId×Value→H} {w:World} {fuel:Nat} {cs:List Value} {x:DataW H×List MemPlace} (h:DataW.trod enc P w 0 (fun _=>true) true fuel t cs=some x):∃ n,fuel=n+1:=by
 cases fuel with
 | zero=>simp [DataW.trod] at h
 | succ n=>exact ⟨n,rfl⟩
theorem AVO {k:IntKind} (ht:P.underlying t=some (.int k)):AHd P t (fun n => .val (.int k n)) (fun n=>(Lit.int k n).wf=true):=by
 intro H enc w fuel cs d ps h _
 obtain ⟨n,rfl⟩:=ARz h
 unfold DataW.trod at h; rw [ht] at h
 split at h<;>rename_i h1<;>try (simp at h1; done)
 all_goals try (cases h; done)
 all_goals try (simp only [Option.some.injEq,TypeDesc.int.injEq] at h1)
 all_goals first
  | (subst h1; split at h; (rename_i hc; obtain ⟨rfl,hw⟩:=hc; cases h; exact ⟨_,by rw [AyG]; exact ⟨rfl,rfl⟩,hw⟩); cases h)
  | (simp at h1; done)
  | (simp at h; done)
end
theorem AFA {H:Type} {P:Program} {e:TypeId} {d:DataW H} {n:Nat} (hn:n∈d.weights P e):∀ {ds:List (DataW H)},d∈ds→n∈DataW.weightsAll P e ds
 | d0::ds,h=>by
  simp only [DataW.weightsAll,List.mem_append]
  rcases List.mem_cons.1 h with rfl | h
  ·exact Or.inl hn
  ·exact Or.inr (AFA hn h)
theorem AGb {l m:List Nat} (h:m.all (· ≤ reachBytes)=true) (hs:∀ n∈l,n∈m):l.all (· ≤ reachBytes)=true:=List.all_eq_true.2 fun n hn=>List.all_eq_true.1 h n (hs n hn)
theorem A4a (a:Addr) (i j:Nat):(a.add i).add j=a.add (i+j):=by
 unfold Addr.add
 by_cases h1:i=0<;>by_cases h2:j=0<;>simp [h1,h2,Nat.add_assoc]
theorem A03 (b off i:Nat):(⟨b,off,none⟩:Addr).add i=⟨b,off+i,none⟩:=by
 unfold Addr.add
 by_cases h1:i=0<;>simp [h1]
theorem AWe {w:World} {a:Addr} {n:Nat} {us:List Value} (h:w.cells? 0 a n=some us):us.length=n∧∀ i,i<n→∃ u,us[i]?=some u∧w.cell? (a.add i)=some u:=by
 unfold World.cells? at h
 rw [if_pos (Nat.zero_le _)] at h
 exact AJD h
theorem ATx {α:Type} {f:α→TV} {ok:α→Prop} {k:Nat} (hw:∀ a,ok a→AyK (f a)=k) {w:World} {b off:Nat}:∀ (n i0:Nat),(∀ i,i<n→∃ us a,AyG (came w) w (f a) us∧ok a∧us.length=k∧AzI w b (off+(i0+i)*k) us) →
  ∃ (l:List α) (us:List Value),l.length=n∧(∀ a∈l,ok a)∧AyH (came w) w (l.map f) us∧us.length=n*k∧AzI w b (off+i0*k) us
 | 0,i0,_=>⟨[],[],rfl,by simp,by rw [List.map_nil,AyH],by simp,fun j u h=>by simp at h⟩
 | n+1,i0,h=>by
  obtain ⟨us,a,h1,h2,h3,h4⟩:=h 0 (by omega)
  obtain ⟨l,vs,k1,k2,k3,k4,k5⟩:=ATx hw n (i0+1) (fun i hi=>by
   obtain ⟨us,a,h1,h2,h3,h4⟩:=h (i+1) (by omega)
   exact ⟨us,a,h1,h2,h3,by rw [show i0+1+i=i0+(i+1) from by omega]; exact h4⟩)
  refine ⟨a::l,us++vs,by simp [k1],fun c hc => ?_,?_,?_,?_⟩
  ·rcases List.mem_cons.1 hc with rfl | hc
   ·exact h2
   ·exact k2 c hc
  ·rw [List.map_cons,AyH]; exact ⟨us,vs,rfl,h1,k3⟩
  ·rw [List.length_append,h3,k4,Nat.succ_mul,Nat.add_comm]
  ·intro j u hj
   by_cases hjk:j<k
   ·rw [List.getElem?_append_left (by omega)] at hj
    have:=h4 j u hj
    rwa [Nat.add_zero] at this
   ·rw [List.getElem?_append_right (by omega),h3] at hj
    have:=k5 (j - k) u hj
    rw [show off+(i0+1)*k+(j - k)=off+i0*k+j from by rw [Nat.succ_mul]; omega] at this
    exact this
section
variable {P:Program} {t e:TypeId} {α:Type} {f:α→TV} {ok:α→Prop} {k B:Nat}
theorem AN9 (ht:P.underlying t=some (.slice e)) (hk:P.cellsOf e=k) (hB:P.bytesOf e=B) (hc:AHd P e f ok) (hw:∀ a,ok a→AyK (f a)=k) (h0:k≠0) :
  AHd P t (fun l:List α => .sl k (l.map f)) (fun l=>(∀ a∈l,ok a)∧l.length*B≤140737488351232∧l.length≤9223372036854775807):=by
 intro H enc w fuel cs d ps h hwt
 obtain ⟨n,rfl⟩:=ARz h
 unfold DataW.trod at h; rw [ht] at h
 split at h<;>rename_i h1<;>try (simp at h1; done)
 all_goals first
  | (simp at h; done)
  | skip
 ·cases h
  refine ⟨[],?_,by simp,by simp,by simp⟩
  rw [AyG]; exact ⟨by simp,.inl ⟨rfl,none,0,rfl,by omega⟩⟩
 ·rename_i a len cap
  simp only [Option.some.injEq,TypeDesc.slice.injEq] at h1
  subst h1
  split at h
  ·rename_i hcond
   obtain ⟨-,hlc,hcm⟩:=hcond
   rw [Option.bind_eq_some_iff] at h
   obtain ⟨elems,he,h⟩:=h
   rw [if_pos rfl,Option.map_eq_some_iff] at h
   obtain ⟨rest,hr,h⟩:=h
   simp only [Prod.mk.injEq] at h
   obtain ⟨rfl,rfl⟩:=h
   obtain ⟨e1,e2⟩:=AJD he
   obtain ⟨r1,_⟩:=AJD hr
   unfold maxLen at hcm
   simp only [DataW.weights,ht,List.all_cons,Bool.and_eq_true,decide_eq_true_eq,reachBytes,List.length_map,e1,r1,hB] at hwt
   have hcapB:cap*B≤140737488351232:=by have:=of_decide_eq_true hwt.1; rwa [Nat.add_sub_cancel' hlc] at this
   have hlen:len*B≤140737488351232:=Nat.le_trans (Nat.mul_le_mul_right _ hlc) hcapB
   have hwe:(DataW.weightsAll P e (elems.map (·.1))).all (· ≤ reachBytes)=true:=AGb (m:=DataW.weightsAll P e (elems.map (·.1))++DataW.weightsAll P e (rest.map (·.1))) hwt.2 (fun n hn=>List.mem_append_left _ hn)
   obtain ⟨b,off,spot⟩:=a
   have key:∀ i,i<len→∃ us a,AyG (came w) w (f a) us∧ok a∧us.length=k∧(∀ j u,us[j]?=some u→w.cell? ((⟨b,off,spot⟩:Addr).add (i*k+j))=some u):=by
    intro i hi
    obtain ⟨x,hx,hxe⟩:=e2 i hi
    rw [Option.bind_eq_some_iff] at hxe
    obtain ⟨us,hus,htr⟩:=hxe
    rw [hk] at hus
    obtain ⟨c1,c2⟩:=AWe hus
    obtain ⟨a,ha,hok⟩:=hc enc w n us x.1 x.2 htr (AGb hwe fun m hm=>AFA hm (List.mem_map.2 ⟨x,List.mem_of_getElem? hx,rfl⟩))
    refine ⟨us,a,ha,hok,c1,fun j u hj => ?_⟩
    have hjk:j<k:=by rw [←c1]; exact (List.getElem?_eq_some_iff.1 hj).1
    obtain ⟨u',hu',hcu⟩:=c2 j hjk
    rw [hj] at hu'; cases hu'
    rw [A4a] at hcu
    exact hcu
   by_cases hl0:len=0
   ·subst hl0
    refine ⟨[],?_,by simp,by simp,by simp⟩
    rw [AyG]; exact ⟨by simp,.inl ⟨rfl,_,cap,rfl,hcm⟩⟩
   ·have hsp:spot=none:=by
     obtain ⟨us,a,_,_,c1,c2⟩:=key 0 (by omega)
     have hu:us[0]?=some us[0]:=List.getElem?_eq_getElem (by omega)
     have:=c2 0 _ hu
     simpa [Addr.add] using World.cell?_spot this
    subst hsp
    obtain ⟨l,us,l1,l2,l3,l4,l5⟩:=ATx (f:=f) (ok:=ok) hw (w:=w) (b:=b) (off:=off) len 0 (fun i hi=>by
     obtain ⟨us,a,h1,h2,h3,h4⟩:=key i hi
     refine ⟨us,a,h1,h2,h3,fun j u hj => ?_⟩
     have:=h4 j u hj
     rw [A03] at this
     rw [Nat.zero_add,Nat.add_assoc]; exact this)
    refine ⟨l,?_,l2,by rw [l1]; exact hlen,by omega⟩
    rw [AyG]
    refine ⟨fun x hx => ?_,.inr ⟨b,off,cap,us,by rw [List.length_map,l1],by rw [List.length_map,l1]; exact hlc,hcm,?_,l3,by simpa using l5⟩⟩
    ·obtain ⟨a,ha,rfl⟩:=List.mem_map.1 hx; exact hw a (l2 a ha)
    ·have hus:0<us.length:=by rw [l4]; exact Nat.mul_pos (by omega) (by omega)
     exact A4w (l5 0 us[0] (List.getElem?_eq_getElem hus))
  ·cases h
end
section
variable {P:Program} {t e:TypeId} {α:Type} {f:α→TV} {ok:α→Prop} {k:Nat}
theorem AJE {β:Type} {g:β→TV} {ok':β→Prop} (h:AHd P t f ok) (hm:∀ a,ok a→∃ b,f a=g b∧ok' b):AHd P t g ok':=by
 intro H enc w fuel cs d ps h1 h2
 obtain ⟨a,h3,h4⟩:=h enc w fuel cs d ps h1 h2
 obtain ⟨b,h5,h6⟩:=hm a h4
 exact ⟨b,by rw [←h5]; exact h3,h6⟩
theorem ASM (ht:P.underlying t=some (.int .u8)):AHd P t by8 (fun _=>True) :=
 AJE (AVO ht) fun n h=>by
  have:=bounds_u8 h
  refine ⟨UInt8.ofNat n.toNat,?_,trivial⟩
  rw [by8,UInt8.toNat_ofNat',Nat.mod_eq_of_lt (by omega)]
  congr 2; omega
theorem ASx (ht:P.underlying t=some (.slice e)) (he:P.underlying e=some (.int .u8)) (hk:P.cellsOf e=1) (hB:P.bytesOf e=1):AHd P t slB (fun l=>l.length≤140737488351232) :=
 AJE (AN9 ht hk hB (ASM he) (fun _ _=>rfl) (by omega)) fun l h=>⟨l,rfl,by have:=h.2; omega⟩
theorem A4T {H:Type} {P:Program} {e:TypeId} {parts:List (DataW H)} (h:(DataW.weightsAll P e parts).all (· ≤ reachBytes)=true) {d:DataW H} (hd:d∈parts):(d.weights P e).all (· ≤ reachBytes)=true :=
 AGb h fun n hn=>AFA hn hd
theorem AVp {w:World} (hw:∀ a,ok a→AyK (f a)=k):∀ (n i0:Nat) (cs:List Value),cs.length=n*k→(∀ i,i<n→∃ a,AyG (came w) w (f a) ((cs.drop (i*k)).take k)∧ok a) →
  ∃ l:List α,l.length=n∧(∀ a∈l,ok a)∧AyH (came w) w (l.map f) cs
 | 0,i0,cs,hl,_=>⟨[],rfl,by simp,by rw [List.map_nil,AyH]; exact List.length_eq_zero_iff.1 (by simpa using hl)⟩
 | n+1,i0,cs,hl,h=>by
  obtain ⟨a,h1,h2⟩:=h 0 (by omega)
  rw [Nat.zero_mul,List.drop_zero] at h1
  rw [Nat.succ_mul] at hl
  obtain ⟨l,k1,k2,k3⟩:=AVp hw n 0 (cs.drop k) (by rw [List.length_drop]; omega) (fun i hi=>by
   obtain ⟨a,h1,h2⟩:=h (i+1) (by omega)
   exact ⟨a,by rw [List.drop_drop]; rw [Nat.succ_mul,Nat.add_comm] at h1; exact h1,h2⟩)
  refine ⟨a::l,by simp [k1],fun c hc => ?_,?_⟩
  ·rcases List.mem_cons.1 hc with rfl | hc
   ·exact h2
   ·exact k2 c hc
  ·rw [List.map_cons,AyH]
   exact ⟨cs.take k,cs.drop k,(List.take_append_drop k cs).symm,h1,k3⟩
theorem AS5 {n:Nat} (ht:P.underlying t=some (.array n e)) (hk:P.cellsOf e=k) (hn:P.cellsOf t=n*k) (hc:AHd P e f ok) (hw:∀ a,ok a→AyK (f a)=k) :
  AHd P t (fun l:List α => .arr n k (l.map f)) (fun l=>l.length=n∧∀ a∈l,ok a):=by
 intro H enc w fuel cs d ps h hwt
 obtain ⟨m,rfl⟩:=ARz h
 unfold DataW.trod at h; rw [ht] at h
 split at h<;>rename_i h1<;>try (simp at h1; done)
 all_goals first
  | (simp at h; done)
  | exact ((‹∀ (n_1:Nat) (e_1:TypeId),some (TypeDesc.array n e)=some (TypeDesc.array n_1 e_1)→False› : ∀ (n_1:Nat) (e_1:TypeId),some (TypeDesc.array n e)=some (TypeDesc.array n_1 e_1)→False) n e rfl).elim
  | skip
 cases h1
 split at h
 ·rename_i hlen
  rw [Option.map_eq_some_iff] at h
  obtain ⟨xs,hx,h⟩:=h
  simp only [Prod.mk.injEq] at h
  obtain ⟨rfl,rfl⟩:=h
  obtain ⟨e1,e2⟩:=AJD hx
  simp only [DataW.weights,ht] at hwt
  rw [hn] at hlen
  obtain ⟨l,l1,l2,l3⟩:=AVp (f:=f) (ok:=ok) (w:=w) hw _ 0 _ hlen (fun i hi=>by
   obtain ⟨x,hx,hxe⟩:=e2 i hi
   rw [hk] at hxe
   obtain ⟨a,ha,hok⟩:=hc enc w m _ x.1 x.2 hxe (A4T hwt (List.mem_map.2 ⟨x,List.mem_of_getElem? hx,rfl⟩))
   exact ⟨a,ha,hok⟩)
  refine ⟨l,?_,l1,l2⟩
  rw [AyG]
  refine ⟨by rw [List.length_map,l1],fun x hx => ?_,l3⟩
  obtain ⟨a,ha,rfl⟩:=List.mem_map.1 hx; exact hw a (l2 a ha)
 ·cases h
end
def ALR (P:Program) (ts:List TypeId) {α:Type} (f:α→List TV) (ok:α→Prop):Prop :=
 ∀ {H:Type} (enc:TypeId×Value→H) (w:World) (vs:List Value) (ds:List (DataW H)) (ps:List MemPlace),DataW.TrodAll enc P w 0 (fun _=>true) true ts vs ds ps→(∀ (j:Nat) t v,ts[j]?=some t→vs[j]?=some v→∃ base,Value.okWide P w .any base t v)→(DataW.weightsEach P ts ds).all (· ≤ reachBytes)=true→∃ a,Azd (came w) w (f a) vs∧ok a
theorem ARf {P:Program}:ALR P [] (fun _:Unit=>[]) (fun _=>True):=by
 intro H enc w vs ds ps h _ _
 obtain ⟨rfl,rfl,rfl⟩:=trodAll_nil h
 exact ⟨(),by rw [Azd],trivial⟩
def AXA (P:Program) (t:TypeId) (b:Bool):Prop:=∀ w base v,Value.okWide P w .any base t v→if b then ∃ cs,v = .agg cs else v.cells = #[v]
theorem AJq {P:Program} {t e:TypeId} (ht:P.underlying t=some (.slice e)):AXA P t false:=fun w _ v h=>by obtain ⟨_,_,_,rfl⟩:=okWide_slice ht h; rfl
theorem AXr {c:Ctx} {P:Program} {w:World} {t:TypeId} {v:Value} {x:TV} {b:Bool} (hf:AXA P t b) {base:Nat} (hv:Value.okWide P w .any base t v) (hx:AKX x=b):v=mkV x v.cells.toList:=by
 have h:=hf w base v hv
 cases b with
 | true =>
  simp only [if_true] at h
  obtain ⟨cs,rfl⟩:=h
  rw [AU7 hx]; simp [Value.cells]
 | false =>
  simp only [Bool.false_eq_true,if_false] at h
  rw [h]
  exact (AON hx).symm
theorem AFC {P:Program} {t:TypeId} {ts:List TypeId} {α β:Type} {f:α→TV} {ok:α→Prop} {g:β→List TV} {ok':β→Prop} {b:Bool} (hc:AHd P t f ok) (hf:AXA P t b) (hm:∀ a,AKX (f a)=b) (hr:ALR P ts g ok') :
  ALR P (t::ts) (fun x:α×β=>f x.1::g x.2) (fun x=>ok x.1∧ok' x.2):=by
 intro H enc w vs ds ps h hv hw
 obtain ⟨v,vs',d,ds',p,q,rfl,rfl,rfl,h0,r0⟩:=trodAll_cons h
 simp only [DataW.weightsEach] at hw
 obtain ⟨fuel,hfu⟩:=h0
 obtain ⟨a,ha,hoka⟩:=hc enc w fuel _ d p hfu (AGb hw fun n hn=>List.mem_append_left _ hn)
 obtain ⟨b,hb,hokb⟩:=hr enc w vs' ds' q r0 (fun j t v h1 h2=>hv (j+1) t v (by simpa using h1) (by simpa using h2)) (AGb hw fun n hn=>List.mem_append_right _ hn)
 refine ⟨(a,b),Azd.cons.2 ⟨v,vs',rfl,.inr (.inr ⟨v.cells.toList,ha,AXr (c:=came w) hf (hv 0 t v rfl rfl).choose_spec (hm a)⟩),hb⟩,hoka,hokb⟩
theorem AMm {H:Type} {enc:TypeId×Value→H} {P:Program} (hl:laidOutB P=true) {W W':World} (hb:Below W.heap.size W W'):∀ {ts:List TypeId} {vs:List Value} {ds:List (DataW H)} {ps:List MemPlace},(ts.all fun t=>P.readableRec t && decide (t<P.types.size))=true →
  DataW.TrodAll enc P W 0 (fun _=>true) true ts vs ds ps→DataW.TrodAll enc P W' 0 (fun b=>decide (b<W.heap.size)) true ts vs ds ps
 | [],vs,ds,ps,_,h=>by
  obtain ⟨rfl,rfl,rfl⟩:=trodAll_nil h
  exact trodAll_mk0
 | t::ts,vs,ds,ps,hr,h=>by
  obtain ⟨v,vs',d,ds',p,q,rfl,rfl,rfl,h0,r0⟩:=trodAll_cons h
  simp only [List.all_cons,Bool.and_eq_true,decide_eq_true_eq] at hr
  refine trodAll_cons_mk (Below.trod hl hr.1.1 hr.1.2 h0 hb ?_) (AMm hl hb (by simpa using hr.2) r0)
  obtain ⟨m,hm⟩:=h0
  exact DataW.trod_lt m _ _ _ hm
theorem AHR.below {F F':Nat→Prop} {w w':World} (h:AHR F w F' w'):Below w.heap.size w w':=⟨h.os,h.tape,h.output,h.size,fun k hk=>h.same k hk⟩
theorem A63 {P:Program} {f:FuncId} {ts:List TypeId} {α:Type} {g:α→List TV} {ok:α→Prop} (hc:ALR P ts g ok) (hlaw:∀ a,ok a→Azk P f (g a) (fun x=>x=tb true)) {H:Type} {enc:TypeId×Value→H} {w:World} {args:Array Value} {ds:List (DataW H)} {ps:List MemPlace}
  (h:DataW.TrodAll enc P w 0 (fun _=>true) true ts args.toList ds ps) (hv:∀ (j:Nat) t v,ts[j]?=some t→args.toList[j]?=some v→∃ base,Value.okWide P w .any base t v) (hw:(DataW.weightsEach P ts ds).all (· ≤ reachBytes)=true) (hg:ADv (fun b=>b<w.heap.size) w) :
  Calls P f args w fun e w'=>e = .returned (.bool true)∧Below w.heap.size w w':=by
 obtain ⟨a,ha,hok⟩:=hc enc w args.toList ds ps h hv hw
 have:=hlaw a hok (fun _ _=>none) (fun b=>b<w.heap.size) w args.toList ⟨fun b h=>h,hg⟩ ha
 rw [Array.toArray_toList] at this
 refine this.mono ?_
 rintro e w' ⟨v,x,F',rfl,rfl,hx,hst⟩
 rw [Rep.val] at hx
 exact ⟨by rw [hx],hst.below⟩
end
section
open Go.RowKit
variable [AyZ]
set_option autoImplicit false
end
section
open Go.RowKit
variable [AyZ]
section
variable {t:TypeId} {a b:Nat} {k2:IntKind}
end
end
section
open Go.RowKit
variable [AyZ]
section
variable {t:TypeId} {a b:Nat} {k2:IntKind}
theorem AMS {n:Nat} (h:n<18446744073709551616):IntKind.u64.wrap (n:Int)=n:=by rw [IntKind.wrap_u64]; omega
theorem AU1 (h1:a*b<18446744073709551616):AAD t .mul (.int .u64 (a:Int)) (.int .u64 (b:Int))=some (.int .u64 ((a*b:Nat):Int)):=by
 rw [show AAD t .mul (.int .u64 (a:Int)) (.int .u64 (b:Int))=some (.int .u64 (IntKind.u64.wrap ((a:Int)*(b:Int)))) from rfl,show (a:Int)*(b:Int)=((a*b:Nat):Int) from rfl,AMS h1]
theorem A1A (h1:b≤a) (h2:a<18446744073709551616):AAD t .sub (.int .u64 (a:Int)) (.int .u64 (b:Int))=some (.int .u64 ((a - b:Nat):Int)):=by
 rw [show AAD t .sub (.int .u64 (a:Int)) (.int .u64 (b:Int))=some (.int .u64 (IntKind.u64.wrap ((a:Int) - (b:Int)))) from rfl,show (a:Int) - (b:Int)=((a - b:Nat):Int) from by omega,AMS (by omega)]
theorem A0B (h2:b≤63) (h4:a*2 ^ b<18446744073709551616):AAD t .shl (.int .u64 (a:Int)) (.int k2 (b:Int))=some (.int .u64 ((a*2 ^ b:Nat):Int)):=by
 have e:binOp .shl t (.int .u64 (a:Int)) (.int k2 (b:Int))=pure (.int .u64 ((a*2 ^ b:Nat):Int)):=by
  show Op.shift .shl .u64 a k2 b=_
  unfold Op.shift
  rw [if_neg (by omega)]
  have hm:min ((b:Int)).toNat IntKind.u64.bits=b:=by
   have:IntKind.u64.bits=64:=rfl
   omega
  simp only [hm]
  have e2:(a:Int)*2 ^ b=((a*2 ^ b:Nat):Int):=by rw [Int.natCast_mul,Int.natCast_pow]; rfl
  rw [e2,AMS h4]
 unfold AAD; rw [e]; rfl
end
end
section
open Go.RowKit
variable [AyZ]
set_option autoImplicit false
section
variable {t:TypeId} {a b:Nat} {k2:IntKind}
theorem A3R {n:Nat} (h:n<256):IntKind.u8.wrap (n:Int)=n:=by rw [IntKind.wrap_u8]; omega
theorem bv8 {n:Nat}:(BitVec.ofInt 8 (n:Int)).toNat=n % 256:=by
 rw [BitVec.toNat_ofInt]; omega
theorem AQR:AAD t .add (.int .u8 (a:Int)) (.int .u8 (b:Int))=some (.int .u8 (((a+b) % 256:Nat):Int)):=by
 rw [show AAD t .add (.int .u8 (a:Int)) (.int .u8 (b:Int))=some (.int .u8 (IntKind.u8.wrap ((a:Int)+b))) from rfl,IntKind.wrap_u8]
 congr 2
theorem A2U:AAD t .mul (.int .u8 (a:Int)) (.int .u8 (b:Int))=some (.int .u8 (((a*b) % 256:Nat):Int)):=by
 rw [show AAD t .mul (.int .u8 (a:Int)) (.int .u8 (b:Int))=some (.int .u8 (IntKind.u8.wrap ((a:Int)*b))) from rfl,IntKind.wrap_u8]
 congr 2
theorem AQ1 (h:b≤a) (h2:a<256):AAD t .sub (.int .u8 (a:Int)) (.int .u8 (b:Int))=some (.int .u8 ((a - b:Nat):Int)):=by
 rw [show AAD t .sub (.int .u8 (a:Int)) (.int .u8 (b:Int))=some (.int .u8 (IntKind.u8.wrap ((a:Int) - b))) from rfl,IntKind.wrap_u8]
 congr 2; omega
theorem A5U (h1:a<256) (h2:b<256):AAD t .and (.int .u8 (a:Int)) (.int .u8 (b:Int))=some (.int .u8 ((a &&& b:Nat):Int)):=by
 rw [show AAD t .and (.int .u8 (a:Int)) (.int .u8 (b:Int))=some (.int .u8 (IntKind.u8.wrap ((BitVec.ofInt 8 a &&& BitVec.ofInt 8 b).toNat:Int))) from rfl,BitVec.toNat_and,bv8,bv8,Nat.mod_eq_of_lt (by omega),Nat.mod_eq_of_lt (by omega)]
 have:=Nat.and_le_left (n:=a) (m:=b)
 rw [A3R (by omega)]
theorem A90 (h1:a<256) (h2:b<256):AAD t .or (.int .u8 (a:Int)) (.int .u8 (b:Int))=some (.int .u8 ((a ||| b:Nat):Int)):=by
 rw [show AAD t .or (.int .u8 (a:Int)) (.int .u8 (b:Int))=some (.int .u8 (IntKind.u8.wrap ((BitVec.ofInt 8 a ||| BitVec.ofInt 8 b).toNat:Int))) from rfl,BitVec.toNat_or,bv8,bv8,Nat.mod_eq_of_lt (by omega),Nat.mod_eq_of_lt (by omega)]
 have:=Nat.or_lt_two_pow (n:=8) (x:=a) (y:=b) (by omega) (by omega)
 rw [A3R (by omega)]
theorem A7a (h1:a<256) (h2:b≤8):AAD t .shr (.int .u8 (a:Int)) (.int k2 (b:Int))=some (.int .u8 ((a / 2 ^ b:Nat):Int)):=by
 have e:binOp .shr t (.int .u8 (a:Int)) (.int k2 (b:Int))=pure (.int .u8 ((a / 2 ^ b:Nat):Int)):=by
  show Op.shift .shr .u8 a k2 b=_
  unfold Op.shift
  rw [if_neg (by omega)]
  have hm:min ((b:Int)).toNat IntKind.u8.bits=b:=by
   have:IntKind.u8.bits=8:=rfl
   omega
  simp only [hm]
  rw [Int.fdiv_eq_ediv_of_nonneg _ (by exact Int.le_of_lt (Int.pow_pos (by omega)))]
  have hle:a / 2 ^ b≤a:=Nat.div_le_self _ _
  have e2:(a:Int) / 2 ^ b=((a / 2 ^ b:Nat):Int):=by rw [Int.natCast_ediv,Int.natCast_pow]; rfl
  rw [e2]
 unfold AAD; rw [e]; rfl
theorem A6l (h:b≠0) (h1:a<256):AAD t .quo (.int .u8 (a:Int)) (.int .u8 (b:Int))=some (.int .u8 ((a / b:Nat):Int)):=by
 have hz:¬ (b:Int)=0:=by omega
 have hle:a / b≤a:=Nat.div_le_self _ _
 have e2:(a:Int).tdiv (b:Int)=((a / b:Nat):Int):=by rw [Int.tdiv_eq_ediv_of_nonneg (by omega)]; rfl
 have e:binOp .quo t (.int .u8 (a:Int)) (.int .u8 (b:Int))=pure (.int .u8 ((a / b:Nat):Int)):=by
  unfold binOp
  simp only [ne_eq,not_true_eq_false,if_false,Op.intDiv,hz,e2,A3R (show a / b<256 by omega)]
 unfold AAD; rw [e]; rfl
end
theorem AVi {n:Nat} (h:n<256):TV.val (.int .u8 (n:Int))=by8 (UInt8.ofNat n):=by
 show TV.val (.int .u8 (n:Int))=TV.val (.int .u8 ((UInt8.ofNat n).toNat:Int))
 rw [UInt8.toNat_ofNat',Nat.mod_eq_of_lt (by omega)]
theorem ADh {l:List UInt8}:bl (str l)=l:=by simp [bl,str]
theorem A4J {l m:List UInt8}:str l++str m=str (l++m):=by
 apply ByteArray.ext
 simp [str]
theorem AWu {t:TypeId} {l m:List UInt8} (h:l.length+m.length≤9223372036854775807):AAD t .add (.string (str l)) (.string (str m))=some (.string (str (l++m))):=by
 have e1:(str l).size=l.length:=by show l.toArray.size=_; simp
 have e2:(str m).size=m.length:=by show m.toArray.size=_; simp
 rw [←A4J,AAD,binOp_string_add,Op.stringOp]
 simp only [e1,e2]
 rw [if_neg (by show ¬ ((l.length+m.length:Nat):Int) > 9223372036854775807; omega)]
 rfl
end
section
variable [AyZ]
set_option maxRecDepth 100000
def ACo:AyC := .seq (.ops [mv_ 65 0,po_ 66 (.lenS (.t 65)),po_ 67 (.bin 3 .geq (.t 66) (ci_ 3)),mv_ 68 67,⟨some 69,.p (.mov (.t 0)),some ⟨68,true⟩⟩,⟨some 70,.p (.idxS (.t 69) (ci_ 1)),some ⟨68,true⟩⟩,⟨some 71,.s (.call 135 [.t 70]),some ⟨68,true⟩⟩,⟨some 72,.p (.bin 5 .eql (.t 71) (.c (.int .u8 ((120:Nat):Int)))),some ⟨68,true⟩⟩,po_ 73 (.pick (.t 68) (.t 72) (.c (.bool false))),mv_ 64 73] [0,2,8,9,64])
 (.cond (.t 64)
 (.seq (.ops [po_ 1 (.mov (ci_ 16))] [0,1,2,8,9])
  (.ops [mv_ 74 0,po_ 75 (.slS (.t 74) (some (ci_ 2)) none),mv_ 0 75] [0,1,2,8,9]))
 (.seq (.ops [po_ 1 (.mov (ci_ 8))] [0,1,2,8,9])
  (.ops [mv_ 38 0,po_ 39 (.slS (.t 38) (some (ci_ 1)) none),mv_ 0 39] [0,1,2,8,9])))
def ACl:AyC := .cond (.t 52)
 (.seq (.ops [po_ 1 (.mov (ci_ 8))] [0,1,2,8,9])
  (.ops [mv_ 62 0,po_ 63 (.slS (.t 62) (some (ci_ 2)) none),mv_ 0 63] [0,1,2,8,9]))
 ACo
def ACF:AyC := .seq (.ops [mv_ 53 0,po_ 54 (.lenS (.t 53)),po_ 55 (.bin 3 .geq (.t 54) (ci_ 3)),mv_ 56 55,⟨some 57,.p (.mov (.t 0)),some ⟨56,true⟩⟩,⟨some 58,.p (.idxS (.t 57) (ci_ 1)),some ⟨56,true⟩⟩,⟨some 59,.s (.call 135 [.t 58]),some ⟨56,true⟩⟩,⟨some 60,.p (.bin 5 .eql (.t 59) (.c (.int .u8 ((111:Nat):Int)))),some ⟨56,true⟩⟩,po_ 61 (.pick (.t 56) (.t 60) (.c (.bool false))),mv_ 52 61] [0,2,8,9,52])
 ACl
def ACv:AyC := .cond (.t 40)
 (.seq (.ops [po_ 1 (.mov (ci_ 2))] [0,1,2,8,9])
  (.ops [mv_ 50 0,po_ 51 (.slS (.t 50) (some (ci_ 2)) none),mv_ 0 51] [0,1,2,8,9]))
 ACF
def ACh:AyC := .block 1 (.seq (.ops [mv_ 41 0,po_ 42 (.lenS (.t 41)),po_ 43 (.bin 3 .geq (.t 42) (ci_ 3)),mv_ 44 43,⟨some 45,.p (.mov (.t 0)),some ⟨44,true⟩⟩,⟨some 46,.p (.idxS (.t 45) (ci_ 1)),some ⟨44,true⟩⟩,⟨some 47,.s (.call 135 [.t 46]),some ⟨44,true⟩⟩,⟨some 48,.p (.bin 5 .eql (.t 47) (.c (.int .u8 ((98:Nat):Int)))),some ⟨44,true⟩⟩,po_ 49 (.pick (.t 44) (.t 48) (.c (.bool false))),mv_ 40 49] [0,2,8,9,40])
 ACv)
def ACi:AyC := .cond (.t 37)
 ACh
 (.skip)
def ACA:AyC := .seq (.ops [mv_ 35 0,po_ 36 (.idxS (.t 35) (ci_ 0)),po_ 37 (.bin 5 .eql (.t 36) (.c (.int .u8 ((48:Nat):Int))))] [0,1,2,8,9,37])
 ACi
def ACx:AyC := .seq (.ops [po_ 1 (.mov (ci_ 10))] [0,1,2,8,9])
 ACA
def ACk:AyC := .cond (.t 32)
 ACx
 (.seq (.ops [po_ 24 (.iface 207 (ci_ 3)),po_ 6 (.mov (.c (.int .u64 ((0:Nat):Int)))),mv_ 7 24] [6,7])
  (.ret))
def ABZ:AyC := .seq (.ops [mv_ 33 1,po_ 34 (.bin 3 .eql (.t 33) (ci_ 0)),mv_ 32 34] [0,2,8,9,32])
 ACk
def Az7:AyC := .cond (.t 25)
 (.skip)
 ABZ
def AAv:AyC := .seq (.ops [mv_ 78 2,po_ 79 (.bin 3 .lss (.t 78) (ci_ 0)),mv_ 80 79,⟨some 81,.p (.mov (.t 2)),some ⟨80,false⟩⟩,⟨some 82,.p (.bin 3 .gtr (.t 81) (ci_ 64)),some ⟨80,false⟩⟩,po_ 83 (.pick (.t 80) (.c (.bool true)) (.t 82))] [0,1,2,8,9,83])
 (.cond (.t 83)
 (.seq (.ops [po_ 84 (.iface 207 (ci_ 4)),po_ 6 (.mov (.c (.int .u64 ((0:Nat):Int)))),mv_ 7 84] [6,7])
  (.ret))
 (.skip))
def Az8:AyC := .seq (.ops [po_ 93 (.bin 3 .eql (.t 85) (ci_ 16)),mv_ 92 93] [0,1,2,8,9,92])
 (.cond (.t 92)
 (.ops [po_ 10 (.mov (.c (.int .u64 ((1152921504606846976:Nat):Int))))] [0,1,2,8,9,10])
 (.ops [mv_ 86 1,po_ 87 (.conv .u64 (.t 86)),po_ 88 (.bin 190 .quo (.c (.int .u64 ((18446744073709551615:Nat):Int))) (.t 87)),po_ 89 (.bin 190 .add (.t 88) (.c (.int .u64 ((1:Nat):Int)))),mv_ 10 89] [0,1,2,8,9,10]))
def AAo:AyC := .seq (.ops [mv_ 122 15,so_ 123 (.call 135 [.t 122]),po_ 124 (.bin 5 .leq (.c (.int .u8 ((97:Nat):Int))) (.t 123)),mv_ 125 124,⟨some 126,.p (.mov (.t 15)),some ⟨125,true⟩⟩,⟨some 127,.s (.call 135 [.t 126]),some ⟨125,true⟩⟩,⟨some 128,.p (.bin 5 .leq (.t 127) (.c (.int .u8 ((122:Nat):Int)))),some ⟨125,true⟩⟩,po_ 129 (.pick (.t 125) (.t 128) (.c (.bool false))),mv_ 121 129] [1,8,9,10,11,12,13,15,99,100,101,121])
 (.cond (.t 121)
 (.ops [mv_ 130 15,so_ 131 (.call 135 [.t 130]),po_ 132 (.bin 5 .sub (.t 131) (.c (.int .u8 ((97:Nat):Int)))),po_ 133 (.bin 5 .add (.t 132) (.c (.int .u8 ((10:Nat):Int)))),mv_ 16 133] [1,8,9,10,11,12,13,16,99,100,101])
 (.seq (.ops [po_ 105 (.iface 207 (ci_ 2)),po_ 6 (.mov (.c (.int .u64 ((0:Nat):Int)))),mv_ 7 105] [6,7])
  (.ret)))
def AAg:AyC := .cond (.t 112)
 (.ops [mv_ 119 15,po_ 120 (.bin 5 .sub (.t 119) (.c (.int .u8 ((48:Nat):Int)))),mv_ 16 120] [1,8,9,10,11,12,13,16,99,100,101])
 AAo
def AAl:AyC := .seq (.ops [mv_ 113 15,po_ 114 (.bin 5 .leq (.c (.int .u8 ((48:Nat):Int))) (.t 113)),mv_ 115 114,⟨some 116,.p (.mov (.t 15)),some ⟨115,true⟩⟩,⟨some 117,.p (.bin 5 .leq (.t 116) (.c (.int .u8 ((57:Nat):Int)))),some ⟨115,true⟩⟩,po_ 118 (.pick (.t 115) (.t 117) (.c (.bool false))),mv_ 112 118] [1,8,9,10,11,12,13,15,99,100,101,112])
 AAg
def Az6:AyC := .cond (.t 106)
 (.seq (.ops [po_ 12 (.mov (.c (.bool true)))] [1,8,9,10,11,12,13,99,100,101])
  (.exit 4))
 AAl
def AAj:AyC := .seq (.seq (.ops [mv_ 152 17,mv_ 153 13,po_ 154 (.bin 190 .lss (.t 152) (.t 153)),mv_ 155 154,⟨some 156,.p (.mov (.t 17)),some ⟨155,false⟩⟩,⟨some 157,.p (.mov (.t 11)),some ⟨155,false⟩⟩,⟨some 158,.p (.bin 190 .gtr (.t 156) (.t 157)),some ⟨155,false⟩⟩,po_ 159 (.pick (.t 155) (.c (.bool true)) (.t 158))] [1,8,9,10,11,12,17,99,100,101,159])
 (.cond (.t 159)
 (.seq (.ops [mv_ 160 11,po_ 161 (.iface 207 (ci_ 1)),mv_ 6 160,mv_ 7 161] [6,7])
  (.ret))
 (.skip)))
 (.ops [mv_ 162 17,mv_ 13 162] [1,8,9,10,11,12,13,99,100,101])
def AAy:AyC := .seq (.ops [mv_ 148 13,mv_ 149 16,po_ 150 (.conv .u64 (.t 149)),po_ 151 (.bin 190 .add (.t 148) (.t 150)),mv_ 17 151] [1,8,9,10,11,12,13,17,99,100,101])
 AAj
def AAq:AyC := .seq (.ops [mv_ 144 13,mv_ 145 1,po_ 146 (.conv .u64 (.t 145)),po_ 147 (.bin 190 .mul (.t 144) (.t 146)),mv_ 13 147] [1,8,9,10,11,12,13,16,99,100,101])
 AAy
def AAt:AyC := .seq (.seq (.ops [mv_ 139 13,mv_ 140 10,po_ 141 (.bin 190 .geq (.t 139) (.t 140))] [1,8,9,10,11,12,13,16,99,100,101,141])
 (.cond (.t 141)
 (.seq (.ops [mv_ 142 11,po_ 143 (.iface 207 (ci_ 1)),mv_ 6 142,mv_ 7 143] [6,7])
  (.ret))
 (.skip)))
 AAq
def Azw:AyC := .seq (.seq (.ops [mv_ 134 16,mv_ 135 1,po_ 136 (.conv .u8 (.t 135)),po_ 137 (.bin 5 .geq (.t 134) (.t 136))] [1,8,9,10,11,12,13,16,99,100,101,137])
 (.cond (.t 137)
 (.seq (.ops [po_ 138 (.iface 207 (ci_ 2)),po_ 6 (.mov (.c (.int .u64 ((0:Nat):Int)))),mv_ 7 138] [6,7])
  (.ret))
 (.skip)))
 AAt
def AAf:AyC := .seq (.block 5 (.seq (.ops [mv_ 107 15,po_ 108 (.bin 5 .eql (.t 107) (.c (.int .u8 ((95:Nat):Int)))),mv_ 109 108,⟨some 110,.p (.mov (.t 8)),some ⟨109,true⟩⟩,po_ 111 (.pick (.t 109) (.t 110) (.c (.bool false))),mv_ 106 111] [1,8,9,10,11,12,13,15,99,100,101,106])
 Az6))
 Azw
def AAu:AyC := .seq (.ops [po_ 16 (.mov (.c (.int .u8 ((0:Nat):Int))))] [1,8,9,10,11,12,13,15,99,100,101])
 AAf
def AAe:AyC := .seq (.block 4 (.seq (.ops [po_ 103 (.idxA 1 (.t 99) (.t 101)),po_ 104 (.load false 1 (.t 103)),mv_ 15 104] [1,8,9,10,11,12,13,15,99,100,101])
 AAu))
 (.ops [po_ 163 (.bin 3 .add (.t 101) (ci_ 1)),mv_ 101 163] [1,8,9,10,11,12,13,99,100,101])
def AAk:AyC := .seq (.cond (.t 102)
 (.skip)
 (.exit 3))
 AAe
def AAr:AyC := .seq (.ops [po_ 102 (.bin 3 .lss (.t 101) (.t 100))] [1,8,9,10,11,12,13,99,100,101,102])
 AAk
def AAd:AyC := .block 3 (.loop [1,8,9,10,11,12,13,99,100,101] AAr)
def AAn:AyC := .seq (.seq (.ops [mv_ 164 12,mv_ 165 164,⟨some 166,.p (.mov (.t 9)),some ⟨165,true⟩⟩,⟨some 167,.s (.call 136 [.t 166]),some ⟨165,true⟩⟩,⟨some 168,.p (.un .not (.t 167)),some ⟨165,true⟩⟩,po_ 169 (.pick (.t 165) (.t 168) (.c (.bool false)))] [13,169])
 (.cond (.t 169)
 (.seq (.ops [po_ 170 (.iface 207 (ci_ 2)),po_ 6 (.mov (.c (.int .u64 ((0:Nat):Int)))),mv_ 7 170] [6,7])
  (.ret))
 (.skip)))
 (.seq (.ops [mv_ 171 13,mv_ 6 171,po_ 7 (.mov (.c .nilIface))] [6,7])
 (.ret))
def AAm:AyC := .seq (.seq (.ops [mv_ 98 0,so_ 99 (.s2b (.t 98)),po_ 100 (.lenV (.t 99)),po_ 101 (.mov (ci_ 0))] [1,8,9,10,11,12,13,99,100,101])
 AAd)
 AAn
def AAw:AyC := .seq (.ops [po_ 13 (.mov (.c (.int .u64 ((0:Nat):Int))))] [0,1,8,9,10,11,12,13])
 AAm
def AAa:AyC := .seq (.ops [po_ 12 (.mov (.c (.bool false)))] [0,1,8,9,10,11,12])
 AAw
def AAx:AyC := .seq (.ops [mv_ 94 2,po_ 95 (.conv .u64 (.t 94)),po_ 96 (.bin 190 .shl (.c (.int .u64 ((1:Nat):Int))) (.t 95)),po_ 97 (.bin 190 .sub (.t 96) (.c (.int .u64 ((1:Nat):Int)))),mv_ 11 97] [0,1,8,9,10,11])
 AAa
def AAs:AyC := .seq (.seq (.ops [mv_ 85 1] [0,1,2,8,9,85])
 (.block 2 (.seq (.ops [po_ 91 (.bin 3 .eql (.t 85) (ci_ 10)),mv_ 90 91] [0,1,2,8,9,85,90])
 (.cond (.t 90)
 (.ops [po_ 10 (.mov (.c (.int .u64 ((1844674407370955162:Nat):Int))))] [0,1,2,8,9,10])
 Az8))))
 AAx
def AAi:AyC := .seq (.ops [po_ 10 (.mov (.c (.int .u64 ((0:Nat):Int))))] [0,1,2,8,9])
 AAs
def AAb:AyC := .seq (.seq (.ops [mv_ 76 2,po_ 77 (.bin 3 .eql (.t 76) (ci_ 0))] [0,1,2,8,9,77])
 (.cond (.t 77)
 (.ops [po_ 2 (.mov (ci_ 64))] [0,1,2,8,9])
 AAv))
 AAi
def AAh:AyC := .seq (.block 0 (.seq (.ops [mv_ 26 1,po_ 27 (.bin 3 .leq (ci_ 2) (.t 26)),mv_ 28 27,⟨some 29,.p (.mov (.t 1)),some ⟨28,true⟩⟩,⟨some 30,.p (.bin 3 .leq (.t 29) (ci_ 36)),some ⟨28,true⟩⟩,po_ 31 (.pick (.t 28) (.t 30) (.c (.bool false))),mv_ 25 31] [0,1,2,8,9,25])
 Az7))
 AAb
def AAz:AyC := .seq (.ops [mv_ 23 0,mv_ 9 23] [0,1,2,8,9])
 AAh
def Az9:AyC := .seq (.ops [mv_ 21 1,po_ 22 (.bin 3 .eql (.t 21) (ci_ 0)),mv_ 8 22] [0,1,2,8])
 AAz
def AAp:AyC := .seq (.seq (.ops [mv_ 18 0,po_ 19 (.bin 9 .eql (.t 18) (.c (.string (str []))))] [0,1,2,19])
 (.cond (.t 19)
 (.seq (.ops [po_ 20 (.iface 207 (ci_ 2)),po_ 6 (.mov (.c (.int .u64 ((0:Nat):Int)))),mv_ 7 20] [6,7])
  (.ret))
 (.skip)))
 Az9
def AAS:AyC := .seq (.ops [po_ 6 (.mov (.c (.int .u64 ((0:Nat):Int)))),po_ 7 (.mov (.c .nilIface))] [0,1,2])
 AAp
def AA2:List VR:=[.tmp 6,.tmp 7]
theorem ADR:Tryz.f119.body.bind (trC Tryz.prog Tryz.f119.ntmps)=some (er AAS):=by kernel_rfl
theorem ADZ:trR Tryz.prog Tryz.f119.results.toList=some AA2:=by kernel_rfl
def ABE:=Ayz Az7.eq_1
def ABL:=Ayz AAv.eq_1
def ABF:=Ayz Az8.eq_1
def Azn:=Ayz AAo.eq_1
def Ay5:=Ayz AAg.eq_1
def Ay4:=Ayz AAl.eq_1
def Ay9:=Ayz Az6.eq_1
def AzS:=Ayz AAj.eq_1
def AzR:=Ayz AAy.eq_1
def AzT:=Ayz AAq.eq_1
def AzV:=Ayz AAt.eq_1
def Azo:=Ayz Azw.eq_1
def Ay7:=Ayz AAf.eq_1
def Ay6:=Ayz AAu.eq_1
def Ay8:=Ayz AAe.eq_1
def AyU:=Ayz AAk.eq_1
def AyT:=Ayz AAr.eq_1
def ABA:=Ayz AAd.eq_1
def ABy:=Ayz AAn.eq_1
def ABw:=Ayz AAm.eq_1
def ABz:=Ayz AAw.eq_1
def ABx:=Ayz AAa.eq_1
def ABJ:=Ayz AAx.eq_1
def ABD:=Ayz AAs.eq_1
def ABG:=Ayz AAi.eq_1
def ABC:=Ayz AAb.eq_1
def ABH:=Ayz AAh.eq_1
def ABB:=Ayz AAz.eq_1
def ABK:=Ayz Az9.eq_1
def AzU:=Ayz AAp.eq_1
def AAH:=Ayz AAS.eq_1
theorem AyJ {K:TV→Prop} {e:Env} {H:List Ob}:res AA2 e H K=res [.tmp 6,.tmp 7] e H K:=FI rfl
def ADj:=AzX 172 Tryz.func119 ADR ADZ rfl
def ABu:AyC := .seq (.ops [po_ 2 (.mov (.c (.int .u8 ((0:Nat):Int))))] [0])
 (.seq (.ops [mv_ 3 0,po_ 4 (.bin 5 .or (.t 3) (.c (.int .u8 ((32:Nat):Int)))),mv_ 2 4] [2])
 (.ret))
def ABr:List VR:=[.tmp 2]
theorem AFT:Tryz.f135.body.bind (trC Tryz.prog Tryz.f135.ntmps)=some (er ABu):=by kernel_rfl
theorem AGm:trR Tryz.prog Tryz.f135.results.toList=some ABr:=by kernel_rfl
def AEL:=Ayz ABu.eq_1
theorem AEJ {K:TV→Prop} {e:Env} {H:List Ob}:res ABr e H K=res [.tmp 2] e H K:=FI rfl
def AGq:=(aI_ @AEL @AEJ)
def AFy:=AzX 5 Tryz.func135 AFT AGm rfl
def ACg:AyC := .seq (.ops [mv_ 19 8,mv_ 20 0,mv_ 21 1,mv_ 22 2,mv_ 23 9,so_ 24 (.call 108 [.c (.string (str [80,97,114,115,101,85,105,110,116])),.t 20,.t 21,.t 22,.t 23]),mv_ 6 19,mv_ 7 24] [6,7])
 (.ret)
def AB1:AyC := .seq (.seq (.ops [mv_ 17 9,po_ 18 (.eqN 1 (.t 17) (.c .nilIface) true)] [0,1,2,8,9,18])
 (.cond (.t 18)
 ACg
 (.skip)))
 (.seq (.ops [mv_ 25 8,mv_ 6 25,po_ 7 (.mov (.c .nilIface))] [6,7])
 (.ret))
def ACd:AyC := .seq (.ops [mv_ 11 0,mv_ 12 1,mv_ 13 2,so_ 14 (.call 119 [.t 11,.t 12,.t 13]),mv_ 10 14,po_ 15 (.ext 0 (.t 10)),po_ 16 (.ext 1 (.t 10)),mv_ 8 15,mv_ 9 16] [0,1,2,8,9])
 AB1
def AD4:AyC := .seq (.ops [po_ 6 (.mov (.c (.int .u64 ((0:Nat):Int)))),po_ 7 (.mov (.c .nilIface))] [0,1,2])
 ACd
def AEc:List VR:=[.tmp 6,.tmp 7]
theorem AKB:Tryz.f103.body.bind (trC Tryz.prog Tryz.f103.ntmps)=some (er AD4):=by kernel_rfl
theorem AKO:trR Tryz.prog Tryz.f103.results.toList=some AEc:=by kernel_rfl
def AF9:=Ayz ACg.eq_1
def AFP:=Ayz AB1.eq_1
def AFV:=Ayz ACd.eq_1
def AIG:=Ayz AD4.eq_1
theorem AIO {K:TV→Prop} {e:Env} {H:List Ob}:res AEc e H K=res [.tmp 6,.tmp 7] e H K:=FI rfl
def AAM:=(aI_ (aI_ (aI_ @AF9 @AFP) (aI_ @AFV @AIG)) @AIO)
def AJX:=AzX 26 Tryz.func103 AKB AKO rfl
end
section
open Go.RowKit
variable [AyZ]
end
end Go.Proofs.YtnikbdnebdmmiaaGreatDoor
namespace Go.Proofs
open Go.Shelf
def Tryz.lays156_ren:Go.Shelf.Ren:=⟨fun | 156=>55 | 165=>87 | 166=>88 | 169=>57 | 240=>89 | 241=>109 | 276=>110 | 277=>131 | n=>n,fun | 31=>111 | 9=>9 | 3=>3 | 4=>4 | 0=>0 | 20=>20 | 72=>116 | 76=>164 | 70=>114 | 37=>23 | 75=>25 | 127=>168 | 164=>121 | 5=>5 | 80=>119 | n=>n,fun | n=>n⟩
theorem Tryz.lays156:Go.Proofs.Lays.n156 Tryz.prog Tryz.lays156_ren:={
 mixed:=by kernel_rfl
 f156:=Tryz.func55.trans (congrArg some (by kernel_rfl))
 f165:=Tryz.func87.trans (congrArg some (by kernel_rfl))
 f166:=Tryz.func88.trans (congrArg some (by kernel_rfl))
 f169:=Tryz.func57.trans (congrArg some (by kernel_rfl))
 f240:=Tryz.func89.trans (congrArg some (by kernel_rfl))
 f241:=Tryz.func109.trans (congrArg some (by kernel_rfl))
 f276:=Tryz.func110.trans (congrArg some (by kernel_rfl))
 f277:=Tryz.func131.trans (congrArg some (by kernel_rfl))
 t0:=Tryz.underlying0
 a0:=Tryz.isAgg0
 z0:=Tryz.sizeOf0
 v0:=Tryz.zeroValue0
 t3:=Tryz.underlying3
 a3:=Tryz.isAgg3
 z3:=Tryz.sizeOf3
 v3:=Tryz.zeroValue3
 t4:=Tryz.underlying4
 a4:=Tryz.isAgg4
 z4:=Tryz.sizeOf4
 v4:=Tryz.zeroValue4
 t9:=Tryz.underlying9
 a9:=Tryz.isAgg9
 z9:=Tryz.sizeOf9
 v9:=Tryz.zeroValue9
 t20:=Tryz.underlying20
 a20:=Tryz.isAgg20
 z20:=Tryz.sizeOf20
 v20:=Tryz.zeroValue20
 t31:=Tryz.underlying111
 a31:=Tryz.isAgg111
 z31:=Tryz.sizeOf111
 v31:=Tryz.zeroValue111
 t37:=Tryz.underlying23
 a37:=Tryz.isAgg23
 z37:=Tryz.sizeOf23
 v37:=Tryz.zeroValue23
 t70:=Tryz.underlying114
 a70:=Tryz.isAgg114
 z70:=Tryz.sizeOf114
 v70:=Tryz.zeroValue114
 t72:=Tryz.underlying116
 a72:=Tryz.isAgg116
 z72:=Tryz.sizeOf116
 v72:=Tryz.zeroValue116
 t75:=Tryz.underlying25
 a75:=Tryz.isAgg25
 z75:=Tryz.sizeOf25
 v75:=Tryz.zeroValue25
 t76:=Tryz.underlying164
 a76:=Tryz.isAgg164
 z76:=Tryz.sizeOf164
 v76:=Tryz.zeroValue164
 t127:=Tryz.underlying168
 a127:=Tryz.isAgg168
 z127:=Tryz.sizeOf168
 v127:=Tryz.zeroValue168
 t164:=Tryz.underlying121
 a164:=Tryz.isAgg121
 z164:=Tryz.sizeOf121
 v164:=Tryz.zeroValue121 }
theorem Tryz.Builder_Extra_156:Builder.Extra Tryz.prog Tryz.lays156_ren:={
 sizeBuilder:=by kernel_rfl
 liesBuilder:=by kernel_rfl
 t5:=Tryz.underlying5
 a5:=Tryz.isAgg5
 z5:=Tryz.sizeOf5
 v5:=Tryz.zeroValue5
 infoByte:=by kernel_rfl
 cellsByte:=by kernel_rfl
 sizeByte:=by kernel_rfl
 neB5:=by decide }
open Go.RowKit in
theorem Tryz.strings_Join (bk o c:Nat) (xs:List ByteArray) (sep:ByteArray) (w:World) (hcells:∀ (j:Nat) x,xs[j]?=some x→w.cell? ⟨bk,o+j,none⟩=some (.string x)) (hbk:bk<w.heap.size) (hN:xs.length≤140737488355328) (hcap:xs.length≤c) (hlen:(Lib.join (xs.map (·.data.toList)) sep.data.toList).length≤140737488355328) :
  Calls Tryz.prog 55 #[.slice (some ⟨bk,o,none⟩) xs.length c,.string sep] w fun e w'=>e = .returned (.string ⟨(Lib.join (xs.map (·.data.toList)) sep.data.toList).toArray⟩)∧Below w.heap.size w w':=Any.strings_Join Tryz.lays156 Tryz.Builder_Extra_156 bk o c xs sep w hcells hbk hN hcap hlen
def Tryz.laysC245_ren:Go.Shelf.Ren:=⟨fun | 245=>108 | 279=>127 | 280=>128 | 281=>129 | 282=>130 | 316=>144 | 171=>50 | 205=>145 | 243=>83 | 246=>106 | 283=>122 | 284=>123 | 285=>124 | 286=>125 | 129=>140 | 317=>139 | 318=>141 | 319=>142 | 320=>143 | 337=>147 | 338=>148 | n=>n,fun | 9=>9 | 3=>3 | 75=>25 | 167=>207 | 4=>4 | 168=>210 | 210=>223 | 37=>23 | 0=>0 | 127=>168 | 145=>234 | 143=>232 | 2=>2 | 171=>202 | 53=>190 | 5=>5 | 173=>205 | 212=>216 | 51=>217 | 20=>20 | 213=>218 | 46=>118 | 232=>235 | 233=>236 | 80=>119 | n=>n,fun | 15=>3 | 16=>4 | 17=>2 | 18=>7 | 19=>8 | n=>n⟩
theorem Tryz.laysC245:Go.Proofs.LaysC.n245 Tryz.prog Tryz.laysC245_ren:={
 mixed:=by kernel_rfl
 f129:=Tryz.func140.trans (congrArg some (by kernel_rfl))
 f171:=Tryz.func50.trans (congrArg some (by kernel_rfl))
 f205:=Tryz.func145.trans (congrArg some (by kernel_rfl))
 f243:=Tryz.func83.trans (congrArg some (by kernel_rfl))
 f245:=Tryz.func108.trans (congrArg some (by kernel_rfl))
 f246:=Tryz.func106.trans (congrArg some (by kernel_rfl))
 f279:=Tryz.func127.trans (congrArg some (by kernel_rfl))
 f280:=Tryz.func128.trans (congrArg some (by kernel_rfl))
 f281:=Tryz.func129.trans (congrArg some (by kernel_rfl))
 f282:=Tryz.func130.trans (congrArg some (by kernel_rfl))
 f283:=Tryz.func122.trans (congrArg some (by kernel_rfl))
 f284:=Tryz.func123.trans (congrArg some (by kernel_rfl))
 f285:=Tryz.func124.trans (congrArg some (by kernel_rfl))
 f286:=Tryz.func125.trans (congrArg some (by kernel_rfl))
 f316:=Tryz.func144.trans (congrArg some (by kernel_rfl))
 f317:=Tryz.func139.trans (congrArg some (by kernel_rfl))
 f318:=Tryz.func141.trans (congrArg some (by kernel_rfl))
 f319:=Tryz.func142.trans (congrArg some (by kernel_rfl))
 f320:=Tryz.func143.trans (congrArg some (by kernel_rfl))
 f337:=Tryz.func147.trans (congrArg some (by kernel_rfl))
 f338:=Tryz.func148.trans (congrArg some (by kernel_rfl))
 t0:=Tryz.underlying0
 a0:=Tryz.isAgg0
 z0:=Tryz.sizeOf0
 v0:=Tryz.zeroValue0
 t2:=Tryz.underlying2
 a2:=Tryz.isAgg2
 z2:=Tryz.sizeOf2
 v2:=Tryz.zeroValue2
 t3:=Tryz.underlying3
 a3:=Tryz.isAgg3
 z3:=Tryz.sizeOf3
 v3:=Tryz.zeroValue3
 t4:=Tryz.underlying4
 a4:=Tryz.isAgg4
 z4:=Tryz.sizeOf4
 v4:=Tryz.zeroValue4
 t5:=Tryz.underlying5
 a5:=Tryz.isAgg5
 z5:=Tryz.sizeOf5
 v5:=Tryz.zeroValue5
 t9:=Tryz.underlying9
 a9:=Tryz.isAgg9
 z9:=Tryz.sizeOf9
 v9:=Tryz.zeroValue9
 t20:=Tryz.underlying20
 a20:=Tryz.isAgg20
 z20:=Tryz.sizeOf20
 v20:=Tryz.zeroValue20
 t37:=Tryz.underlying23
 a37:=Tryz.isAgg23
 z37:=Tryz.sizeOf23
 v37:=Tryz.zeroValue23
 t46:=Tryz.underlying118
 a46:=Tryz.isAgg118
 z46:=Tryz.sizeOf118
 v46:=Tryz.zeroValue118
 t51:=Tryz.underlying217
 a51:=Tryz.isAgg217
 z51:=Tryz.sizeOf217
 v51:=Tryz.zeroValue217
 t53:=Tryz.underlying190
 a53:=Tryz.isAgg190
 z53:=Tryz.sizeOf190
 v53:=Tryz.zeroValue190
 t75:=Tryz.underlying25
 a75:=Tryz.isAgg25
 z75:=Tryz.sizeOf25
 v75:=Tryz.zeroValue25
 t127:=Tryz.underlying168
 a127:=Tryz.isAgg168
 z127:=Tryz.sizeOf168
 v127:=Tryz.zeroValue168
 t143:=Tryz.underlying232
 a143:=Tryz.isAgg232
 z143:=Tryz.sizeOf232
 v143:=Tryz.zeroValue232
 t145:=Tryz.underlying234
 a145:=Tryz.isAgg234
 z145:=Tryz.sizeOf234
 v145:=Tryz.zeroValue234
 t167:=Tryz.underlying207
 a167:=Tryz.isAgg207
 z167:=Tryz.sizeOf207
 v167:=Tryz.zeroValue207
 t168:=Tryz.underlying210
 a168:=Tryz.isAgg210
 z168:=Tryz.sizeOf210
 v168:=Tryz.zeroValue210
 t171:=Tryz.underlying202
 a171:=Tryz.isAgg202
 z171:=Tryz.sizeOf202
 v171:=Tryz.zeroValue202
 t173:=Tryz.underlying205
 a173:=Tryz.isAgg205
 z173:=Tryz.sizeOf205
 v173:=Tryz.zeroValue205
 t210:=Tryz.underlying223
 a210:=Tryz.isAgg223
 z210:=Tryz.sizeOf223
 v210:=Tryz.zeroValue223
 t212:=Tryz.underlying216
 a212:=Tryz.isAgg216
 z212:=Tryz.sizeOf216
 v212:=Tryz.zeroValue216
 t213:=Tryz.underlying218
 a213:=Tryz.isAgg218
 z213:=Tryz.sizeOf218
 t232:=Tryz.underlying235
 a232:=Tryz.isAgg235
 z232:=Tryz.sizeOf235
 v232:=Tryz.zeroValue235
 t233:=Tryz.underlying236
 a233:=Tryz.isAgg236
 z233:=Tryz.sizeOf236
 v233:=Tryz.zeroValue236
 g15:=by kernel_rfl
 g16:=by kernel_rfl
 g17:=by kernel_rfl
 g18:=by kernel_rfl
 g19:=by kernel_rfl
 t80:=Tryz.underlying119
 a80:=Tryz.isAgg119
 z80:=Tryz.sizeOf119
 v80:=Tryz.zeroValue119
 i0:=by kernel_rfl
 i2:=by kernel_rfl
 i3:=by kernel_rfl
 i4:=by kernel_rfl
 i5:=by kernel_rfl
 i9:=by kernel_rfl
 i20:=by kernel_rfl
 i37:=by kernel_rfl
 i46:=by kernel_rfl
 i51:=by kernel_rfl
 i53:=by kernel_rfl
 i75:=by kernel_rfl
 i80:=by kernel_rfl
 i127:=by kernel_rfl
 i143:=by kernel_rfl
 i145:=by kernel_rfl
 i167:=by kernel_rfl
 i168:=by kernel_rfl
 i171:=by kernel_rfl
 i173:=by kernel_rfl
 i210:=by kernel_rfl
 i212:=by kernel_rfl
 i232:=by kernel_rfl
 i233:=by kernel_rfl
 m15:=by kernel_rfl
 m16:=by kernel_rfl
 m17:=by kernel_rfl
 m18:=by kernel_rfl
 m19:=by kernel_rfl
 c0:=by kernel_rfl
 c2:=by kernel_rfl
 c3:=by kernel_rfl
 c4:=by kernel_rfl
 c5:=by kernel_rfl
 c9:=by kernel_rfl
 c20:=by kernel_rfl
 c37:=by kernel_rfl
 c46:=by kernel_rfl
 c51:=by kernel_rfl
 c53:=by kernel_rfl
 c75:=by kernel_rfl
 c80:=by kernel_rfl
 c127:=by kernel_rfl
 c143:=by kernel_rfl
 c145:=by kernel_rfl
 c167:=by kernel_rfl
 c168:=by kernel_rfl
 c171:=by kernel_rfl
 c173:=by kernel_rfl
 c210:=by kernel_rfl
 c212:=by kernel_rfl
 c213:=by kernel_rfl
 c232:=by kernel_rfl
 c233:=by kernel_rfl }
open Go.RowKit in
theorem Tryz.strconv_toError_syntax (fn s:ByteArray) (base bits:Int) (ev:Value) (w:World) (hlim:s.size≤281474976710656) (hv:w.cell? ⟨3,0,none⟩=some ev) (hev:ev = .nilIface∨∃ te pe,ev = .iface te pe) :
  Calls Tryz.prog 108 #[.string fn,.string s,.int .i64 base,.int .i64 bits,.iface 207 (.int .i64 2)] w fun e w'=>∃ N,e = .returned (.iface 210 (.pointer (some ⟨N,0,none⟩)))∧w.heap.size≤N∧w'.heap[N]?=some (.cells #[.string fn,.string s,ev] 223 (0,0))∧Below w.heap.size w w':=Any.strconv_toError_syntax Tryz.laysC245 fn s base bits ev w hlim hv hev
open Go.RowKit in
theorem Tryz.strconv_toError_range (fn s:ByteArray) (base bits:Int) (ev:Value) (w:World) (hlim:s.size≤281474976710656) (hv:w.cell? ⟨4,0,none⟩=some ev) (hev:ev = .nilIface∨∃ te pe,ev = .iface te pe) :
  Calls Tryz.prog 108 #[.string fn,.string s,.int .i64 base,.int .i64 bits,.iface 207 (.int .i64 1)] w fun e w'=>∃ N,e = .returned (.iface 210 (.pointer (some ⟨N,0,none⟩)))∧w.heap.size≤N∧w'.heap[N]?=some (.cells #[.string fn,.string s,ev] 223 (0,0))∧Below w.heap.size w w':=Any.strconv_toError_range Tryz.laysC245 fn s base bits ev w hlim hv hev
def Tryz.lays143_ren:Go.Shelf.Ren:=⟨fun | 143=>99 | 219=>112 | 217=>111 | 225=>116 | 224=>115 | 267=>133 | 266=>132 | 314=>146 | n=>n,fun | 9=>9 | 3=>3 | 4=>4 | 5=>5 | 46=>118 | 146=>225 | 51=>217 | n=>n,fun | 1=>1 | n=>n⟩
theorem Tryz.lays143:Go.Proofs.Lays.n143 Tryz.prog Tryz.lays143_ren:={
 mixed:=by kernel_rfl
 f143:=Tryz.func99.trans (congrArg some (by kernel_rfl))
 f217:=Tryz.func111.trans (congrArg some (by kernel_rfl))
 f219:=Tryz.func112.trans (congrArg some (by kernel_rfl))
 f224:=Tryz.func115.trans (congrArg some (by kernel_rfl))
 f225:=Tryz.func116.trans (congrArg some (by kernel_rfl))
 f266:=Tryz.func132.trans (congrArg some (by kernel_rfl))
 f267:=Tryz.func133.trans (congrArg some (by kernel_rfl))
 f314:=Tryz.func146.trans (congrArg some (by kernel_rfl))
 t3:=Tryz.underlying3
 a3:=Tryz.isAgg3
 z3:=Tryz.sizeOf3
 v3:=Tryz.zeroValue3
 t4:=Tryz.underlying4
 a4:=Tryz.isAgg4
 z4:=Tryz.sizeOf4
 v4:=Tryz.zeroValue4
 t5:=Tryz.underlying5
 a5:=Tryz.isAgg5
 z5:=Tryz.sizeOf5
 v5:=Tryz.zeroValue5
 t9:=Tryz.underlying9
 a9:=Tryz.isAgg9
 z9:=Tryz.sizeOf9
 v9:=Tryz.zeroValue9
 t46:=Tryz.underlying118
 a46:=Tryz.isAgg118
 z46:=Tryz.sizeOf118
 v46:=Tryz.zeroValue118
 t51:=Tryz.underlying217
 a51:=Tryz.isAgg217
 z51:=Tryz.sizeOf217
 v51:=Tryz.zeroValue217
 t146:=Tryz.underlying225
 a146:=Tryz.isAgg225
 z146:=Tryz.sizeOf225
 v146:=Tryz.zeroValue225
 g1:=by kernel_rfl }
open Go.RowKit Go.Lib in
theorem Tryz.strings_Index_one (s:ByteArray) (c:UInt8) (w:World) :
  Calls Tryz.prog 99 #[.string s,.string ⟨#[c]⟩] w fun e w'=>e = .returned (.int .i64 (Lib.indexByte s.data.toList c))∧w'=w:=Any.strings_Index_one Tryz.lays143 s c w
def Tryz.lays138_ren:Go.Shelf.Ren:=⟨fun | 138=>121 | 195=>137 | 218=>138 | 143=>99 | 219=>112 | 217=>111 | 225=>116 | 224=>115 | 267=>133 | 266=>132 | 314=>146 | n=>n,fun | 9=>9 | 3=>3 | 4=>4 | 5=>5 | 0=>0 | 46=>118 | 146=>225 | 51=>217 | n=>n,fun | 1=>1 | n=>n⟩
theorem Tryz.lays138:Go.Proofs.Lays.n138 Tryz.prog Tryz.lays138_ren:={
 mixed:=by kernel_rfl
 f138:=Tryz.func121.trans (congrArg some (by kernel_rfl))
 f143:=Tryz.func99.trans (congrArg some (by kernel_rfl))
 f195:=Tryz.func137.trans (congrArg some (by kernel_rfl))
 f217:=Tryz.func111.trans (congrArg some (by kernel_rfl))
 f218:=Tryz.func138.trans (congrArg some (by kernel_rfl))
 f219:=Tryz.func112.trans (congrArg some (by kernel_rfl))
 f224:=Tryz.func115.trans (congrArg some (by kernel_rfl))
 f225:=Tryz.func116.trans (congrArg some (by kernel_rfl))
 f266:=Tryz.func132.trans (congrArg some (by kernel_rfl))
 f267:=Tryz.func133.trans (congrArg some (by kernel_rfl))
 f314:=Tryz.func146.trans (congrArg some (by kernel_rfl))
 t0:=Tryz.underlying0
 a0:=Tryz.isAgg0
 z0:=Tryz.sizeOf0
 v0:=Tryz.zeroValue0
 t3:=Tryz.underlying3
 a3:=Tryz.isAgg3
 z3:=Tryz.sizeOf3
 v3:=Tryz.zeroValue3
 t4:=Tryz.underlying4
 a4:=Tryz.isAgg4
 z4:=Tryz.sizeOf4
 v4:=Tryz.zeroValue4
 t5:=Tryz.underlying5
 a5:=Tryz.isAgg5
 z5:=Tryz.sizeOf5
 v5:=Tryz.zeroValue5
 t9:=Tryz.underlying9
 a9:=Tryz.isAgg9
 z9:=Tryz.sizeOf9
 v9:=Tryz.zeroValue9
 t46:=Tryz.underlying118
 a46:=Tryz.isAgg118
 z46:=Tryz.sizeOf118
 v46:=Tryz.zeroValue118
 t51:=Tryz.underlying217
 a51:=Tryz.isAgg217
 z51:=Tryz.sizeOf217
 v51:=Tryz.zeroValue217
 t146:=Tryz.underlying225
 a146:=Tryz.isAgg225
 z146:=Tryz.sizeOf225
 v146:=Tryz.zeroValue225
 g1:=by kernel_rfl }
open Go.RowKit Go.Lib in
theorem Tryz.strings_Count_one (s:ByteArray) (c:UInt8) (w:World) :
  Calls Tryz.prog 121 #[.string s,.string ⟨#[c]⟩] w fun e w'=>e = .returned (.int .i64 (Lib.countByte s.data.toList c))∧w'=w:=Any.strings_Count_one Tryz.lays138 s c w
def Tryz.lays102_ren:Go.Shelf.Ren:=⟨fun | 102=>79 | 209=>105 | 207=>98 | n=>n,fun | 9=>9 | 4=>4 | 3=>3 | n=>n,fun | n=>n⟩
theorem Tryz.lays102:Go.Proofs.Lays.n102 Tryz.prog Tryz.lays102_ren:={
 mixed:=by kernel_rfl
 f102:=Tryz.func79.trans (congrArg some (by kernel_rfl))
 f207:=Tryz.func98.trans (congrArg some (by kernel_rfl))
 f209:=Tryz.func105.trans (congrArg some (by kernel_rfl))
 t3:=Tryz.underlying3
 a3:=Tryz.isAgg3
 z3:=Tryz.sizeOf3
 v3:=Tryz.zeroValue3
 t4:=Tryz.underlying4
 a4:=Tryz.isAgg4
 z4:=Tryz.sizeOf4
 v4:=Tryz.zeroValue4
 t9:=Tryz.underlying9
 a9:=Tryz.isAgg9
 z9:=Tryz.sizeOf9
 v9:=Tryz.zeroValue9 }
open Go.RowKit Go.Lib in
theorem Tryz.strings_TrimSuffix (s p:ByteArray) (w:World) (hs:s.size≤9223372036854775807) :
  Calls Tryz.prog 79 #[.string s,.string p] w fun e w'=>e = .returned (.string ⟨(Lib.trimSuffix s.data.toList p.data.toList).toArray⟩)∧w'=w:=Any.strings_TrimSuffix Tryz.lays102 s p w hs
end Go.Proofs
namespace Go.Proofs.YtnikbdnebdmmiaaGreatDoor
section
open Go.RowKit
variable [AyZ]
theorem AQO (b:UInt8):Azk Tryz.prog 135 [by8 b] (fun r=>r = .val (.int .u8 ((b.toNat ||| 32:Nat):Int))):=by
 refine AyI.toPureV (AFy (by simp) ?_)
 have hb:=b.toNat_lt
 simp -dsimp (disch:=first | assumption | omega | (simp only [AyA];try omega)) only [↓AyF,AyB,AyE,AyD,eq_self,↓reduceIte,reduceCtorEq,↓AGq,A90]
class AyO [AyZ]:Prop where
 k:∃ t a,ACY 3=some (.one (.iface t (.pointer (some a))))
class AyR [AyZ]:Prop where
 k:∃ t a,ACY 4=some (.one (.iface t (.pointer (some a))))
theorem ASF {F:Nat→Prop} {w:World} (h:ADv F w) {g:Nat} {v:Value} (e:ACY g=some (.one v)):w.cell? ⟨g,0,none⟩=some v:=by
 have:=h.at e 0 v rfl
 simpa using this
variable [AyO] [AyR]
theorem A6R (fn s:List UInt8) (base bits:Int) (hs:s.length≤1000000) (c:Nat) (hc:c=1∨c=2):Azk Tryz.prog 108 [ts fn,ts s,i64 base,i64 bits,.ifc 207 (i64 (c:Int))] (fun r=>r = .ifc 210 .any):=by
 intro β F w vs hF hv
 obtain ⟨v1,us,rfl,h1,hv⟩:=Azd.cons.1 hv
 obtain ⟨v2,us,rfl,h2,hv⟩:=Azd.cons.1 hv
 obtain ⟨v3,us,rfl,h3,hv⟩:=Azd.cons.1 hv
 obtain ⟨v4,us,rfl,h4,hv⟩:=Azd.cons.1 hv
 obtain ⟨v5,us,rfl,h5,hv⟩:=Azd.cons.1 hv
 rw [Azd.nil] at hv; subst hv
 obtain rfl:=Rep.val.1 (Or.inl h1:Rep _ _ _ _)
 obtain rfl:=Rep.val.1 (Or.inl h2:Rep _ _ _ _)
 obtain rfl:=Rep.val.1 (Or.inl h3:Rep _ _ _ _)
 obtain rfl:=Rep.val.1 (Or.inl h4:Rep _ _ _ _)
 have e5:v5 = .iface 207 (.int .i64 (c:Int)):=by
  rcases h5 with h5 | h5 | ⟨us,h5,rfl⟩
  ·cases h5
  ·cases h5
  ·rw [AyG] at h5
   obtain ⟨u,rfl,vs,h6,rfl⟩:=h5
   rw [AyG] at h6
   rw [h6.1]; rfl
 subst e5
 have hsz:(str s).size≤281474976710656:=by simp [str,ByteArray.size]; omega
 have fin:∀ e w',(∃ N,e=Ending.returned (.iface 210 (.pointer (some ⟨N,0,none⟩)))∧Below w.heap.size w w')→∃ v x F',e = .returned v∧x = .ifc 210 .any∧Rep ⟨β,[],F'⟩ w' x v∧AHR F w F' w':=by
  rintro e w' ⟨N,rfl,hb⟩
  refine ⟨_,_,F,rfl,rfl,Rep.of_cells (us:=[.iface 210 (.pointer (some ⟨N,0,none⟩))]) ?_,⟨hb.os,hb.tape,hb.output,hb.size,hb.block,fun _ h=>h,fun _ _ h=>h,fun b hb'=>Nat.lt_of_lt_of_le (hF.1 b hb') hb.size⟩⟩
  rw [AyG]
  refine ⟨_,rfl,[.pointer (some ⟨N,0,none⟩)],?_,rfl⟩
  rw [AyG]
  exact ⟨_,rfl,rfl⟩
 rcases hc with rfl | rfl
 ·obtain ⟨t,a,hk⟩:=AyR.k
  refine (Tryz.strconv_toError_range (str fn) (str s) base bits _ w hsz (ASF hF.2 hk) (.inr ⟨_,_,rfl⟩)).mono ?_
  rintro e w' ⟨N,rfl,_,_,hb⟩
  exact fin _ _ ⟨N,rfl,hb⟩
 ·obtain ⟨t,a,hk⟩:=AyO.k
  refine (Tryz.strconv_toError_syntax (str fn) (str s) base bits _ w hsz (ASF hF.2 hk) (.inr ⟨_,_,rfl⟩)).mono ?_
  rintro e w' ⟨N,rfl,_,_,hb⟩
  exact fin _ _ ⟨N,rfl,hb⟩
end
section
open Go.RowKit
variable [AyZ]
def xv (b:UInt8):Nat:=if 48≤b.toNat∧b.toNat≤57 then b.toNat - 48 else if 97≤b.toNat ||| 32∧b.toNat ||| 32≤102 then (b.toNat ||| 32) - 97+10 else 16
def ATM:Nat→List UInt8→Nat
 | n,[]=>n
 | n,b::l=>ATM (n*16+xv b) l
theorem ASj:∀ (l m:List UInt8) (n:Nat),ATM n (l++m)=ATM (ATM n l) m
 | [],_,_=>rfl
 | b::l,m,n=>ASj l m _
theorem AZb:∀ (l:List UInt8) (n:Nat),n≤ATM n l
 | [],n=>Nat.le_refl _
 | b::l,n=>Nat.le_trans (by omega) (AZb l _)
def isX (b:UInt8):Bool:=decide (xv b<16)
def pX (s:List UInt8):Option Nat:=if s≠[]∧s.all isX∧ATM 0 s<65536 then some (ATM 0 s) else none
def AT4 (s:List UInt8) (r:TV):Prop:=(∀ n,pX s=some n→r = .tup [.val (.int .u64 (n:Int)),.val .nilIface])∧(pX s=none→∃ m c:Nat,m≤65535∧(c=1∨c=2)∧r = .tup [.val (.int .u64 (m:Int)),.ifc 207 (i64 (c:Int))])
theorem AT4.no {s:List UInt8} (h:pX s=none) {m c:Nat} (hc:c=1∨c=2) (hm:m≤65535):AT4 s (.tup [.val (.int .u64 (m:Int)),.ifc 207 (i64 (c:Int))]) :=
 ⟨fun n hn=>(by rw [h] at hn; cases hn),fun _=>⟨m,c,hm,hc,rfl⟩⟩
theorem AT4.yes {s:List UInt8} {n:Nat} (h:pX s=some n):AT4 s (.tup [.val (.int .u64 (n:Int)),.val .nilIface]) :=
 ⟨fun m hm=>(by rw [h] at hm; cases hm; rfl),fun hn=>(by rw [h] at hn; cases hn)⟩
theorem AQW {s:List UInt8} {i:Nat} {b:UInt8} (h:s[i]?=some b) (hb:16≤xv b):pX s=none:=by
 unfold pX
 rw [if_neg]
 rintro ⟨_,h2,_⟩
 have:=List.all_eq_true.1 h2 b (List.mem_of_getElem? h)
 unfold isX at this
 simp at this; omega
theorem A6H {s:List UInt8} {i:Nat} (h:65536≤ATM 0 (s.take i)):pX s=none:=by
 unfold pX
 rw [if_neg]
 rintro ⟨_,_,h3⟩
 have:ATM 0 s=ATM (ATM 0 (s.take i)) (s.drop i):=by rw [←ASj,List.take_append_drop]
 have h4:=AZb (s.drop i) (ATM 0 (s.take i))
 omega
abbrev A47 (n:Nat):TV := .val (.int .u64 (n:Int))
abbrev pxE (s:List UInt8) (n i:Nat):Env:=[(1,i64 ((16:Nat):Int)),(8,tb false),(9,ts s),(10,A47 1152921504606846976),(11,A47 65535),(12,tb false),(13,A47 n),(99,.os 1 0 0 [] 0 s.length s.length),(100,i64 (s.length:Int)),(101,i64 (i:Int))]
theorem AW4 {s:List UInt8} {i n d:Nat} {H:List Ob} {Q:VEx→Env→List Ob→Prop} (hn:n<65536) (hd:d<256)
  (hE:∀ m c:Nat,m≤65535→(c=1∨c=2)→(16≤d∨65536≤n*16+d)→Q .ret [(6,A47 m),(7,.ifc 207 (i64 (c:Int)))] H)
  (hN:d<16→n*16+d<65536→Q .nor (pxE s (n*16+d) i) H) :
  vwp Tryz.prog Azw Q [(1,i64 ((16:Nat):Int)),(8,tb false),(9,ts s),(10,A47 1152921504606846976),(11,A47 65535),(12,tb false),(13,A47 n),(16,.val (.int .u8 (d:Int))),(99,.os 1 0 0 [] 0 s.length s.length),(100,i64 (s.length:Int)),(101,i64 (i:Int))] H:=by
 have hw8:IntKind.u8.wrap ((16:Nat):Int)=((16:Nat):Int):=by decide
 have hw8':IntKind.u64.wrap ((16:Nat):Int)=((16:Nat):Int):=by decide
 by_cases h16:16≤d
 ·simp -dsimp (disch:=first | assumption | omega | (simp only [AyA];try omega)) only [↓AyF,AyB,AyE,AyD,eq_self,Nat.reduceEqDiff,↓reduceIte,↓Azo,hw8]
  exact hE 0 2 (by omega) (.inr rfl) (.inl h16)
 have hwd:IntKind.u64.wrap ((d:Nat):Int)=((d:Nat):Int):=AMS (by omega)
 have hn8:n*16<18446744073709551616:=by omega
 have hadd:∀ t,AAD t .add (.int .u64 ((n*16:Nat):Int)) (.int .u64 ((d:Nat):Int))=some (.int .u64 ((n*16+d:Nat):Int)):=fun t=>by
  rw [show AAD t .add (.int .u64 ((n*16:Nat):Int)) (.int .u64 ((d:Nat):Int))=some (.int .u64 (IntKind.u64.wrap (((n*16:Nat):Int)+((d:Nat):Int)))) from rfl,IntKind.wrap_u64]
  congr 2
  omega
 by_cases hbig:65536≤n*16+d
 ·simp -dsimp (disch:=first | assumption | omega | (simp only [AyA];try omega)) only [↓AyF,AyB,AyE,AyD,eq_self,Nat.reduceEqDiff,↓reduceIte,↓Azo,hw8,↓AzV,↓AzT,↓AzR,↓AzS,hw8',AU1,hwd,hadd]
  exact hE 65535 1 (by omega) (.inl rfl) (.inr hbig)
 ·simp -dsimp (disch:=first | assumption | omega | (simp only [AyA];try omega)) only [↓AyF,AyB,AyE,AyD,eq_self,Nat.reduceEqDiff,↓reduceIte,↓Azo,hw8,↓AzV,↓AzT,↓AzR,↓AzS,hw8',AU1,hwd,hadd]
  exact hN (by omega) (by omega)
theorem A7d (s:List UInt8) (hs:s.length≤1000000):Azk Tryz.prog 119 [ts s,i64 ((16:Nat):Int),i64 ((16:Nat):Int)] (AT4 s):=by
 refine AyI.toPureV (ADj (by simp) ?_)
 by_cases h0:s=[]
 ·subst h0
  have hn:pX []=none:=by unfold pX; simp
  simp -dsimp (disch:=first | assumption | omega | (simp only [AyA];try omega)) only [↓AyF,AyB,AyE,AyD,eq_self,Nat.reduceEqDiff,↓reduceIte,Nat.reduceAdd,reduceCtorEq,↓AAH,↓AzU,↓AyJ]
  exact AT4.no hn (.inr rfl) (by omega)
 have hw1:IntKind.u64.wrap ((16:Nat):Int)=((16:Nat):Int):=AMS (by omega)
 simp -dsimp (disch:=first | assumption | omega | (simp only [AyA];try omega)) only [↓AyF,AyB,AyE,AyD,eq_self,Nat.reduceLT,Nat.reduceEqDiff,↓reduceIte,Nat.reduceAdd,reduceCtorEq,Nat.reduceLeDiff,↓AAH,↓AzU,h0,↓ABK,↓ABB,↓ABH,↓ABE,↓ABC,↓ABL]
 simp -dsimp (disch:=first | assumption | omega | (simp only [AyA];try omega)) only [↓AyF,AyB,AyE,AyD,eq_self,Nat.reduceEqDiff,Nat.reduceSub,Nat.reduceMul,Nat.reducePow,↓reduceIte,reduceCtorEq,↓ABG,↓ABD,↓ABF,↓ABJ,↓ABx,↓ABz,↓ABw,↓ABA,hw1,A0B,A1A,ADh]
 refine AAW (fun q e H=>∃ (i n:Nat),q=s.length - i∧i≤s.length∧(s.take i).all isX=true∧n=ATM 0 (s.take i)∧n<65536∧H=[.obj 0 (.arr s.length 1 (s.map by8))]∧e=pxE s n i) s.length ?_ ?_
 ·refine ⟨0,0,?_,Nat.zero_le _,?_,?_,?_,?_,?_⟩
  ·simp
  ·rw [List.take_zero]; rfl
  ·rw [List.take_zero]; rfl
  ·omega
  ·simp
  ·simp [forget,get]
 rintro q e H ⟨i,n,rfl,hi,hall,hn,hnl,rfl,rfl⟩
 by_cases c:i<s.length
 case neg =>
  have hi2:i=s.length:=by omega
  subst hi2
  rw [List.take_length] at hn hall
  have hyes:pX s=some n:=by unfold pX; rw [if_pos ⟨h0,hall,by rw [←hn]; exact hnl⟩,hn]
  simp -dsimp (disch:=first | assumption | omega | (simp only [AyA];try omega)) only [↓AyF,AyB,AyE,AyD,eq_self,Nat.reduceEqDiff,↓reduceIte,↓AyT,↓AyU,↓ABy,↓AyJ]
  exact AT4.yes hyes
 have hg:s[i]?=some s[i]:=List.getElem?_eq_getElem c
 have hsucc:=List.take_succ_eq_append_getElem c
 generalize s[i]=b at *
 have hb:=b.toNat_lt
 have hnum:ATM 0 (s.take (i+1))=n*16+xv b:=by rw [hsucc,ASj,←hn]; rfl
 have hno:∀ d,(d<16→xv b=d)→(16≤d→16≤xv b)→16≤d∨65536≤n*16+d→pX s=none:=fun d h1 h2 h3=>by
  rcases Nat.lt_or_ge d 16 with h | h
  ·rcases h3 with h3 | h3
   ·omega
   ·exact A6H (s:=s) (i:=i+1) (by rw [hnum,h1 h]; exact h3)
  ·exact AQW hg (h2 h)
 have hnext:∀ d,xv b=d→d<16→n*16+d<65536→(s.take (i+1)).all isX=true∧n*16+d=ATM 0 (s.take (i+1)):=fun d h1 h2 h3=>by
  refine ⟨?_,by rw [hnum,h1]⟩
  rw [hsucc,List.all_append,hall]
  simp [isX,h1,h2]
 by_cases hd:48≤b.toNat∧b.toNat≤57
 ·have hx:xv b=b.toNat - 48:=by unfold xv; rw [if_pos hd]
  have h95:¬ b.toNat=95:=by omega
  obtain ⟨hd1,hd2⟩:=hd
  simp -dsimp (disch:=first | assumption | omega | (simp only [AyA];try omega)) only [↓AyF,AyB,AyE,AyD,eq_self,Nat.reduceEqDiff,↓reduceIte,↓AyT,↓AyU,↓Ay8,hg,↓Ay6,↓Ay7,h95,↓Ay9,↓Ay4,↓Ay5,AQ1]
  refine AW4 hnl (by omega) (fun m c' h1 h2 h3 => ?_) (fun h1 h2 => ?_)
  ·simp -dsimp (disch:=first | assumption | omega | (simp only [AyA];try omega)) only [↓AyF,AyB,AyE,AyD,eq_self,Nat.reduceEqDiff,↓reduceIte,↓AyJ]
   exact AT4.no (hno _ (fun _=>hx) (fun h=>by omega) h3) h2 h1
  ·obtain ⟨g1,g2⟩:=hnext _ hx h1 h2
   simp -dsimp (disch:=first | assumption | omega | (simp only [AyA];try omega)) only [↓AyF,AyB,AyE,AyD,eq_self,Nat.reduceEqDiff,↓reduceIte]
   exact AyP (s.length - (i+1)) (by omega) (by simp) ⟨i+1,n*16+(b.toNat - 48),rfl,by omega,g1,g2,h2,rfl,by simp [forget,get]⟩
 by_cases h95:b.toNat=95
 ·have hor:(b.toNat ||| 32)=127:=by rw [h95]; rfl
  have hb16:16≤xv b:=by unfold xv; rw [if_neg hd,if_neg (by rw [hor]; omega)]; omega
  simp -dsimp (disch:=first | assumption | omega | (simp only [AyA];try omega)) only [↓AyF,AyB,AyE,AyD,eq_self,Nat.reduceEqDiff,↓reduceIte,Nat.reduceLeDiff,↓AyT,↓AyU,↓Ay8,hg,↓Ay6,↓Ay7,h95,↓Ay9,↓Ay4,↓Ay5,↓Azn]
  refine (AQO b).calls rfl fun r hr => ?_
  subst hr
  rw [hor]
  simp -dsimp (disch:=first | assumption | omega | (simp only [AyA];try omega)) only [↓AyF,AyB,AyE,AyD,eq_self,Nat.reduceEqDiff,↓reduceIte,Nat.reduceLeDiff]
  refine (AQO b).calls rfl fun r hr => ?_
  subst hr
  rw [hor]
  simp -dsimp (disch:=first | assumption | omega | (simp only [AyA];try omega)) only [↓AyF,AyB,AyE,AyD,eq_self,Nat.reduceEqDiff,↓reduceIte,Nat.reduceLeDiff,↓AyJ]
  exact AT4.no (AQW hg hb16) (.inr rfl) (by omega)
 have rest:∀ x,x=b.toNat ||| 32→97≤x→x≤122→(x - 97+10<16→xv b=x - 97+10)∧(16≤x - 97+10→16≤xv b):=fun x hx h1 h2=>by
  subst hx
  constructor
  ·intro h; unfold xv; rw [if_neg hd,if_pos ⟨h1,by omega⟩]
  ·intro h; unfold xv; rw [if_neg hd,if_neg (by omega)]; omega
 have lows:¬ 97≤b.toNat ||| 32∨¬ b.toNat ||| 32≤122→16≤xv b:=fun h=>by
  unfold xv; rw [if_neg hd,if_neg (by omega)]; omega
 by_cases c48:48≤b.toNat
 ·have c57:¬ b.toNat≤57:=by omega
  simp -dsimp (disch:=first | assumption | omega | (simp only [AyA];try omega)) only [↓AyF,AyB,AyE,AyD,eq_self,Nat.reduceEqDiff,↓reduceIte,↓AyT,↓AyU,↓Ay8,hg,↓Ay6,↓Ay7,h95,↓Ay9,↓Ay4,↓Ay5,↓Azn]
  refine (AQO b).calls rfl fun r hr => ?_
  subst hr
  have hlw:=AQO b
  generalize hxx:b.toNat ||| 32=x at *
  by_cases c97:97≤x
  ·simp -dsimp (disch:=first | assumption | omega | (simp only [AyA];try omega)) only [↓AyF,AyB,AyE,AyD,eq_self,Nat.reduceEqDiff,↓reduceIte]
   refine hlw.calls rfl fun r hr => ?_
   subst hr
   by_cases c122:x≤122
   ·obtain ⟨r1,r2⟩:=rest x rfl c97 c122
    have hmod:(x - 97+10) % 256=x - 97+10:=Nat.mod_eq_of_lt (by omega)
    simp -dsimp (disch:=first | assumption | omega | (simp only [AyA];try omega)) only [↓AyF,AyB,AyE,AyD,eq_self,Nat.reduceEqDiff,↓reduceIte]
    refine hlw.calls rfl fun r hr => ?_
    subst hr
    simp -dsimp (disch:=first | assumption | omega | (simp only [AyA];try omega)) only [↓AyF,AyB,AyE,AyD,eq_self,Nat.reduceEqDiff,↓reduceIte,AQ1,AQR,hmod]
    refine AW4 hnl (by omega) (fun m c' h1 h2 h3 => ?_) (fun h1 h2 => ?_)
    ·simp -dsimp (disch:=first | assumption | omega | (simp only [AyA];try omega)) only [↓AyF,AyB,AyE,AyD,eq_self,Nat.reduceEqDiff,↓reduceIte,↓AyJ]
     exact AT4.no (hno _ r1 r2 h3) h2 h1
    ·obtain ⟨g1,g2⟩:=hnext _ (r1 h1) h1 h2
     simp -dsimp (disch:=first | assumption | omega | (simp only [AyA];try omega)) only [↓AyF,AyB,AyE,AyD,eq_self,Nat.reduceEqDiff,↓reduceIte]
     exact AyP (s.length - (i+1)) (by omega) (by simp) ⟨i+1,_,rfl,by omega,g1,g2,h2,rfl,by simp [forget,get]⟩
   ·simp -dsimp (disch:=first | assumption | omega | (simp only [AyA];try omega)) only [↓AyF,AyB,AyE,AyD,eq_self,Nat.reduceEqDiff,↓reduceIte,↓AyJ]
    exact AT4.no (AQW hg (lows (.inr c122))) (.inr rfl) (by omega)
  ·simp -dsimp (disch:=first | assumption | omega | (simp only [AyA];try omega)) only [↓AyF,AyB,AyE,AyD,eq_self,Nat.reduceEqDiff,↓reduceIte,↓AyJ]
   exact AT4.no (AQW hg (lows (.inl c97))) (.inr rfl) (by omega)
 ·simp -dsimp (disch:=first | assumption | omega | (simp only [AyA];try omega)) only [↓AyF,AyB,AyE,AyD,eq_self,Nat.reduceEqDiff,↓reduceIte,↓AyT,↓AyU,↓Ay8,hg,↓Ay6,↓Ay7,h95,↓Ay9,↓Ay4,↓Ay5,↓Azn]
  refine (AQO b).calls rfl fun r hr => ?_
  subst hr
  have hlw:=AQO b
  generalize hxx:b.toNat ||| 32=x at *
  by_cases c97:97≤x
  ·simp -dsimp (disch:=first | assumption | omega | (simp only [AyA];try omega)) only [↓AyF,AyB,AyE,AyD,eq_self,Nat.reduceEqDiff,↓reduceIte]
   refine hlw.calls rfl fun r hr => ?_
   subst hr
   by_cases c122:x≤122
   ·obtain ⟨r1,r2⟩:=rest x rfl c97 c122
    have hmod:(x - 97+10) % 256=x - 97+10:=Nat.mod_eq_of_lt (by omega)
    simp -dsimp (disch:=first | assumption | omega | (simp only [AyA];try omega)) only [↓AyF,AyB,AyE,AyD,eq_self,Nat.reduceEqDiff,↓reduceIte]
    refine hlw.calls rfl fun r hr => ?_
    subst hr
    simp -dsimp (disch:=first | assumption | omega | (simp only [AyA];try omega)) only [↓AyF,AyB,AyE,AyD,eq_self,Nat.reduceEqDiff,↓reduceIte,AQ1,AQR,hmod]
    refine AW4 hnl (by omega) (fun m c' h1 h2 h3 => ?_) (fun h1 h2 => ?_)
    ·simp -dsimp (disch:=first | assumption | omega | (simp only [AyA];try omega)) only [↓AyF,AyB,AyE,AyD,eq_self,Nat.reduceEqDiff,↓reduceIte,↓AyJ]
     exact AT4.no (hno _ r1 r2 h3) h2 h1
    ·obtain ⟨g1,g2⟩:=hnext _ (r1 h1) h1 h2
     simp -dsimp (disch:=first | assumption | omega | (simp only [AyA];try omega)) only [↓AyF,AyB,AyE,AyD,eq_self,Nat.reduceEqDiff,↓reduceIte]
     exact AyP (s.length - (i+1)) (by omega) (by simp) ⟨i+1,_,rfl,by omega,g1,g2,h2,rfl,by simp [forget,get]⟩
   ·simp -dsimp (disch:=first | assumption | omega | (simp only [AyA];try omega)) only [↓AyF,AyB,AyE,AyD,eq_self,Nat.reduceEqDiff,↓reduceIte,↓AyJ]
    exact AT4.no (AQW hg (lows (.inr c122))) (.inr rfl) (by omega)
  ·simp -dsimp (disch:=first | assumption | omega | (simp only [AyA];try omega)) only [↓AyF,AyB,AyE,AyD,eq_self,Nat.reduceEqDiff,↓reduceIte,↓AyJ]
   exact AT4.no (AQW hg (lows (.inl c97))) (.inr rfl) (by omega)
variable [AyO] [AyR]
theorem AUs (s:List UInt8) (hs:s.length≤1000000):Azk Tryz.prog 103 [ts s,i64 ((16:Nat):Int),i64 ((16:Nat):Int)] (fun r=>(∀ n,pX s=some n→r = .tup [.val (.int .u64 (n:Int)),.val .nilIface])∧(pX s=none→∃ m:Nat,m≤65535∧r = .tup [.val (.int .u64 (m:Int)),.ifc 210 .any])):=by
 refine AyI.toPureV (AJX (by simp) ?_)
 simp -dsimp (disch:=first | assumption | omega | (simp only [AyA];try omega)) only [↓AyF,AyB,AyE,AyD,eq_self,Nat.reduceEqDiff,↓reduceIte,Nat.reduceAdd,reduceCtorEq,↓AAM]
 refine (A7d s hs).calls rfl fun r hr => ?_
 cases hp:pX s with
 | some n =>
  rw [hr.1 n hp]
  simp -dsimp (disch:=first | assumption | omega | (simp only [AyA];try omega)) only [↓AyF,AyB,AyE,AyD,eq_self,Nat.reduceEqDiff,↓reduceIte,reduceCtorEq,↓AAM]
  exact ⟨fun m hm=>(by cases hm; rfl),fun h=>(by cases h)⟩
 | none =>
  obtain ⟨m,c,hm,hc,rfl⟩:=hr.2 hp
  simp -dsimp (disch:=first | assumption | omega | (simp only [AyA];try omega)) only [↓AyF,AyB,AyE,AyD,eq_self,Nat.reduceEqDiff,↓reduceIte,reduceCtorEq,↓AAM]
  refine (A6R _ s _ _ hs c hc).calls rfl fun r hr => ?_
  subst hr
  simp -dsimp (disch:=first | assumption | omega | (simp only [AyA];try omega)) only [↓AyF,AyB,AyE,AyD,eq_self,forall_const,Nat.reduceEqDiff,↓reduceIte,reduceCtorEq,↓AAM]
  exact ⟨fun n h=>h.elim,m,hm,rfl⟩
end
section
variable [AyZ]
set_option maxRecDepth 100000
def AI8:AyC := .seq (.ops [po_ 8 (.bin 3 .lss (.t 7) (ci_ 20))] [3,6,7,8])
 (.seq (.cond (.t 8)
 (.skip)
 (.exit 0))
 (.seq (.block 1 (.seq (.ops [po_ 9 (.idx false 20 1 (.t 6) (.t 7)),mv_ 5 9] [3,5,6,7])
 (.seq (.ops [mv_ 10 5,po_ 11 (.bin 5 .shr (.t 10) (.c (.int .u64 ((4:Nat):Int)))),po_ 12 (.idxS (.c (.string (str [48,49,50,51,52,53,54,55,56,57,97,98,99,100,101,102]))) (.t 11)),so_ 13 (.call 56 [.t 3,.t 12])] [3,5,6,7])
 (.ops [mv_ 14 5,po_ 15 (.bin 5 .and (.t 14) (.c (.int .u8 ((15:Nat):Int)))),po_ 16 (.idxS (.c (.string (str [48,49,50,51,52,53,54,55,56,57,97,98,99,100,101,102]))) (.t 15)),so_ 17 (.call 56 [.t 3,.t 16])] [3,6,7]))))
 (.ops [po_ 18 (.bin 3 .add (.t 7) (ci_ 1)),mv_ 7 18] [3,6,7])))
def AII:AyC := .block 0 (.ownT 3 [(1,1)] 5 (.loop [3,6,7] AI8))
def AI2:AyC := .seq (.ops [so_ 19 (.bstr 57 (.t 3)),mv_ 2 19] [2])
 (.ret)
def AJc:AyC := .seq (.seq (.ops [po_ 6 (.load true 20 (.t 1)),po_ 7 (.mov (ci_ 0))] [3,6,7])
 AII)
 AI2
def AIC:AyC := .seq (.ops [so_ 3 (.allocT (.agg [.val (.pointer none),.val (.slice none 0 0)]) 116)] [1,3])
 AJc
def AOg:AyC := .seq (.ops [so_ 1 (.box (.t 0)),po_ 2 (.mov (.c (.string (str []))))] [1])
 AIC
def AOa:List VR:=[.tmp 2]
theorem ASW:Tryz.f30.body.bind (trC Tryz.prog Tryz.f30.ntmps)=some (er AOg):=by kernel_rfl
theorem ASX:trR Tryz.prog Tryz.f30.results.toList=some AOa:=by kernel_rfl
def ANG:=Ayz AI8.eq_1
def AM4:=Ayz AII.eq_1
def ANf:=Ayz AI2.eq_1
def AMZ:=Ayz AJc.eq_1
def ANi:=Ayz AIC.eq_1
def AQv:=Ayz AOg.eq_1
theorem AP0 {K:TV→Prop} {e:Env} {H:List Ob}:res AOa e H K=res [.tmp 2] e H K:=FI rfl
def AIe:=(aI_ (aI_ (aI_ @ANG @AM4) (aI_ @ANf @AMZ)) (aI_ (aI_ @ANi @AQv) @AP0))
def ASe:=AzX 20 Tryz.func30 ASW ASX rfl
def ALQ:AyC := .seq (.block 1 (.draw 10 [mv_ 9 3,mv_ 10 4,po_ 11 (.idxAA 20 1 (.t 1) (.t 10)),po_ 12 (.load false 1 (.t 11)),po_ 13 (.bin 5 .quo (.t 12) (.c (.int .u8 ((16:Nat):Int)))),so_ 14 (.call 59 [.t 13]),mv_ 15 4,po_ 16 (.idxAA 20 1 (.t 1) (.t 15)),po_ 17 (.load false 1 (.t 16)),po_ 18 (.bin 5 .rem (.t 17) (.c (.int .u8 ((16:Nat):Int)))),so_ 19 (.call 59 [.t 18]),⟨some 20,.s (.bslice 1 2 (.val (.int .u8 ((0:Nat):Int))) [⟨0,.t 14⟩,⟨1,.t 19⟩]),none⟩,so_ 21 (.app 1 1 5 (.t 9) (.t 20)),mv_ 3 21] [1,3,4]))
 (.ops [mv_ 7 4,po_ 8 (.bin 3 .add (.t 7) (ci_ 1)),mv_ 4 8] [1,3,4])
def ALb:AyC := .seq (.seq (.ops [mv_ 5 4,po_ 6 (.bin 3 .lss (.t 5) (ci_ 20))] [1,3,4,6])
 (.cond (.t 6)
 (.skip)
 (.exit 0)))
 ALQ
def AK9:AyC := .block 0 (.own 3 1 (.loop [1,3,4] ALb))
def ALO:AyC := .seq (.ops [mv_ 22 3,po_ 23 (.b2s (.t 22)),mv_ 2 23] [2])
 (.ret)
def AMg:AyC := .seq (.seq (.ops [po_ 4 (.mov (ci_ 0))] [1,3,4])
 AK9)
 ALO
def ALh:AyC := .seq (.ops [po_ 3 (.mov (.c (.slice none 0 0)))] [1,3])
 AMg
def AQF:AyC := .seq (.ops [so_ 1 (.box (.t 0)),po_ 2 (.mov (.c (.string (str []))))] [1])
 ALh
def AQ4:List VR:=[.tmp 2]
theorem AWd:Tryz.f35.body.bind (trC Tryz.prog Tryz.f35.ntmps)=some (er AQF):=by kernel_rfl
theorem AWg:trR Tryz.prog Tryz.f35.results.toList=some AQ4:=by kernel_rfl
def APQ:=Ayz ALQ.eq_1
def APU:=Ayz ALb.eq_1
def AO8:=Ayz AK9.eq_1
def APx:=Ayz ALO.eq_1
def APH:=Ayz AMg.eq_1
def APD:=Ayz ALh.eq_1
def ATv:=Ayz AQF.eq_1
theorem ATE {K:TV→Prop} {e:Env} {H:List Ob}:res AQ4 e H K=res [.tmp 2] e H K:=FI rfl
def AMG:=(aI_ (aI_ (aI_ @APQ @APU) (aI_ @AO8 @APx)) (aI_ (aI_ @APH @APD) (aI_ @ATv @ATE)))
def AT2:=AzX 24 Tryz.func35 AWd AWg rfl
def ANJ:AyC := .seq (.ops [po_ 2 (.mov (.c (.int .u8 ((0:Nat):Int))))] [0])
 (.seq (.seq (.ops [mv_ 3 0,po_ 4 (.bin 5 .lss (.t 3) (.c (.int .u8 ((10:Nat):Int))))] [0,4])
 (.cond (.t 4)
 (.seq (.ops [mv_ 5 0,po_ 6 (.bin 5 .add (.c (.int .u8 ((48:Nat):Int))) (.t 5)),mv_ 2 6] [2])
  (.ret))
 (.skip)))
 (.seq (.ops [mv_ 7 0,po_ 8 (.bin 5 .add (.c (.int .u8 ((97:Nat):Int))) (.t 7)),po_ 9 (.bin 5 .sub (.t 8) (.c (.int .u8 ((10:Nat):Int)))),mv_ 2 9] [2])
 (.ret)))
def ANR:List VR:=[.tmp 2]
theorem AST:Tryz.f59.body.bind (trC Tryz.prog Tryz.f59.ntmps)=some (er ANJ):=by kernel_rfl
theorem ASC:trR Tryz.prog Tryz.f59.results.toList=some ANR:=by kernel_rfl
def AQb:=Ayz ANJ.eq_1
theorem AQo {K:TV→Prop} {e:Env} {H:List Ob}:res ANR e H K=res [.tmp 2] e H K:=FI rfl
def AJA:=(aI_ @AQb @AQo)
def AQ9:=AzX 10 Tryz.func59 AST ASC rfl
def AF7:AyC := .seq (.seq (.ops [mv_ 27 6,po_ 28 (.bin 3 .lss (.t 27) (ci_ 0)),mv_ 29 28,⟨some 30,.p (.mov (.t 7)),some ⟨29,false⟩⟩,⟨some 31,.p (.bin 3 .lss (.t 30) (ci_ 0)),some ⟨29,false⟩⟩,po_ 32 (.pick (.t 29) (.c (.bool true)) (.t 31))] [0,2,4,5,6,7,13,32])
 (.cond (.t 32)
 (.seq (.ops [po_ 33 (.buildA 20 1 [.val (.int .u8 ((0:Nat):Int)),.val (.int .u8 ((0:Nat):Int)),.val (.int .u8 ((0:Nat):Int)),.val (.int .u8 ((0:Nat):Int)),.val (.int .u8 ((0:Nat):Int)),.val (.int .u8 ((0:Nat):Int)),.val (.int .u8 ((0:Nat):Int)),.val (.int .u8 ((0:Nat):Int)),.val (.int .u8 ((0:Nat):Int)),.val (.int .u8 ((0:Nat):Int)),.val (.int .u8 ((0:Nat):Int)),.val (.int .u8 ((0:Nat):Int)),.val (.int .u8 ((0:Nat):Int)),.val (.int .u8 ((0:Nat):Int)),.val (.int .u8 ((0:Nat):Int)),.val (.int .u8 ((0:Nat):Int)),.val (.int .u8 ((0:Nat):Int)),.val (.int .u8 ((0:Nat):Int)),.val (.int .u8 ((0:Nat):Int)),.val (.int .u8 ((0:Nat):Int))] []),po_ 34 (.iface 33 (ci_ 12)),⟨none,.s (.store 20 (.t 2) (.t 33)),none⟩,mv_ 3 34] [2,3])
  (.ret))
 (.skip)))
 (.ops [mv_ 35 5,mv_ 36 6,po_ 37 (.bin 3 .shl (.t 36) (.c (.int .u64 ((4:Nat):Int)))),mv_ 38 7,po_ 39 (.bin 3 .or (.t 37) (.t 38)),po_ 40 (.conv .u8 (.t 39)),po_ 41 (.idxAA 20 1 (.t 4) (.t 35)),⟨none,.s (.store 1 (.t 41) (.t 40)),none⟩] [0,2,4,13])
def AF3:AyC := .seq (.draw 10 [mv_ 16 0,mv_ 17 5,po_ 18 (.bin 3 .mul (ci_ 2) (.t 17)),po_ 19 (.idxS (.t 16) (.t 18)),so_ 20 (.call 95 [.c (.string (str [48,49,50,51,52,53,54,55,56,57,97,98,99,100,101,102])),.t 19]),mv_ 21 0,mv_ 22 5,po_ 23 (.bin 3 .mul (ci_ 2) (.t 22)),po_ 24 (.bin 3 .add (.t 23) (ci_ 1)),po_ 25 (.idxS (.t 21) (.t 24)),so_ 26 (.call 95 [.c (.string (str [48,49,50,51,52,53,54,55,56,57,97,98,99,100,101,102])),.t 25]),mv_ 6 20,mv_ 7 26] [0,2,4,5,6,7,13])
 AF7
def AGf:AyC := .seq (.block 1 (.seq (.ops [mv_ 15 13,mv_ 5 15] [0,2,4,5,13])
 AF3))
 (.ops [po_ 42 (.bin 3 .add (.t 13) (ci_ 1)),mv_ 13 42] [0,2,4,13])
def AF0:AyC := .seq (.cond (.t 14)
 (.skip)
 (.exit 0))
 AGf
def AFL:AyC := .seq (.ops [po_ 14 (.bin 3 .lss (.t 13) (ci_ 20))] [0,2,4,13,14])
 AF0
def AGa:AyC := .block 0 (.loop [0,2,4,13] AFL)
def AGh:AyC := .seq (.ops [po_ 43 (.load true 20 (.t 4)),⟨none,.s (.store 20 (.t 2) (.t 43)),none⟩,po_ 3 (.mov (.c .nilIface))] [2,3])
 (.ret)
def AGg:AyC := .seq (.seq (.ops [po_ 13 (.mov (ci_ 0))] [0,2,4,13])
 AGa)
 AGh
def AF1:AyC := .seq (.seq (.ops [mv_ 8 0,po_ 9 (.lenS (.t 8)),po_ 10 (.bin 3 .neq (.t 9) (ci_ 40))] [0,2,4,10])
 (.cond (.t 10)
 (.seq (.ops [po_ 11 (.load true 20 (.t 4)),po_ 12 (.iface 33 (ci_ 12)),⟨none,.s (.store 20 (.t 2) (.t 11)),none⟩,mv_ 3 12] [2,3])
  (.ret))
 (.skip)))
 AGg
def AFn:AyC := .seq (.ops [so_ 4 (.alloc (.arr 20 1 [.val (.int .u8 ((0:Nat):Int)),.val (.int .u8 ((0:Nat):Int)),.val (.int .u8 ((0:Nat):Int)),.val (.int .u8 ((0:Nat):Int)),.val (.int .u8 ((0:Nat):Int)),.val (.int .u8 ((0:Nat):Int)),.val (.int .u8 ((0:Nat):Int)),.val (.int .u8 ((0:Nat):Int)),.val (.int .u8 ((0:Nat):Int)),.val (.int .u8 ((0:Nat):Int)),.val (.int .u8 ((0:Nat):Int)),.val (.int .u8 ((0:Nat):Int)),.val (.int .u8 ((0:Nat):Int)),.val (.int .u8 ((0:Nat):Int)),.val (.int .u8 ((0:Nat):Int)),.val (.int .u8 ((0:Nat):Int)),.val (.int .u8 ((0:Nat):Int)),.val (.int .u8 ((0:Nat):Int)),.val (.int .u8 ((0:Nat):Int)),.val (.int .u8 ((0:Nat):Int))]))] [0,2,4])
 AF1
def AKr:AyC := .seq (.ops [so_ 2 (.alloc (.arr 20 1 [.val (.int .u8 ((0:Nat):Int)),.val (.int .u8 ((0:Nat):Int)),.val (.int .u8 ((0:Nat):Int)),.val (.int .u8 ((0:Nat):Int)),.val (.int .u8 ((0:Nat):Int)),.val (.int .u8 ((0:Nat):Int)),.val (.int .u8 ((0:Nat):Int)),.val (.int .u8 ((0:Nat):Int)),.val (.int .u8 ((0:Nat):Int)),.val (.int .u8 ((0:Nat):Int)),.val (.int .u8 ((0:Nat):Int)),.val (.int .u8 ((0:Nat):Int)),.val (.int .u8 ((0:Nat):Int)),.val (.int .u8 ((0:Nat):Int)),.val (.int .u8 ((0:Nat):Int)),.val (.int .u8 ((0:Nat):Int)),.val (.int .u8 ((0:Nat):Int)),.val (.int .u8 ((0:Nat):Int)),.val (.int .u8 ((0:Nat):Int)),.val (.int .u8 ((0:Nat):Int))])),po_ 3 (.mov (.c .nilIface))] [0,2])
 AFn
def AKo:List VR:=[.cell 2 true 20,.tmp 3]
theorem AQg:Tryz.f65.body.bind (trC Tryz.prog Tryz.f65.ntmps)=some (er AKr):=by kernel_rfl
theorem AQm:trR Tryz.prog Tryz.f65.results.toList=some AKo:=by kernel_rfl
def AKy:=Ayz AF7.eq_1
def AKV:=Ayz AF3.eq_1
def AK0:=Ayz AGf.eq_1
def AKS:=Ayz AF0.eq_1
def AKH:=Ayz AFL.eq_1
def AKJ:=Ayz AGa.eq_1
def AKU:=Ayz AGh.eq_1
def AKQ:=Ayz AGg.eq_1
def AKD:=Ayz AF1.eq_1
def AJT:=Ayz AFn.eq_1
def AOu:=Ayz AKr.eq_1
theorem AOx {K:TV→Prop} {e:Env} {H:List Ob}:res AKo e H K=res [.cell 2 true 20,.tmp 3] e H K:=FI rfl
def AAQ:=(aI_ (aI_ (aI_ (aI_ @AKy @AKV) (aI_ @AK0 @AKS)) (aI_ (aI_ @AKH @AKJ) (aI_ @AKU @AKQ))) (aI_ (aI_ @AKD @AJT) (aI_ @AOu @AOx)))
def APk:=AzX 44 Tryz.func65 AQg AQm rfl
def AIu:AyC := .seq (.ops [mv_ 30 6,po_ 31 (.bin 5 .geq (.t 30) (.c (.int .u8 ((97:Nat):Int)))),mv_ 32 31,⟨some 33,.p (.mov (.t 6)),some ⟨32,true⟩⟩,⟨some 34,.p (.bin 5 .leq (.t 33) (.c (.int .u8 ((102:Nat):Int)))),some ⟨32,true⟩⟩,po_ 35 (.pick (.t 32) (.t 34) (.c (.bool false))),mv_ 29 35] [0,2,4,5,6,29])
 (.cond (.t 29)
 (.ops [mv_ 36 6,po_ 37 (.bin 5 .sub (.t 36) (.c (.int .u8 ((97:Nat):Int)))),po_ 38 (.bin 5 .add (.t 37) (.c (.int .u8 ((10:Nat):Int)))),mv_ 7 38] [0,2,4,5,7])
 (.seq (.ops [po_ 19 (.buildA 20 1 [.val (.int .u8 ((0:Nat):Int)),.val (.int .u8 ((0:Nat):Int)),.val (.int .u8 ((0:Nat):Int)),.val (.int .u8 ((0:Nat):Int)),.val (.int .u8 ((0:Nat):Int)),.val (.int .u8 ((0:Nat):Int)),.val (.int .u8 ((0:Nat):Int)),.val (.int .u8 ((0:Nat):Int)),.val (.int .u8 ((0:Nat):Int)),.val (.int .u8 ((0:Nat):Int)),.val (.int .u8 ((0:Nat):Int)),.val (.int .u8 ((0:Nat):Int)),.val (.int .u8 ((0:Nat):Int)),.val (.int .u8 ((0:Nat):Int)),.val (.int .u8 ((0:Nat):Int)),.val (.int .u8 ((0:Nat):Int)),.val (.int .u8 ((0:Nat):Int)),.val (.int .u8 ((0:Nat):Int)),.val (.int .u8 ((0:Nat):Int)),.val (.int .u8 ((0:Nat):Int))] []),⟨none,.s (.store 20 (.t 2) (.t 19)),none⟩,po_ 3 (.mov (.c (.bool false)))] [2,3])
  (.ret)))
def AIk:AyC := .cond (.t 20)
 (.ops [mv_ 27 6,po_ 28 (.bin 5 .sub (.t 27) (.c (.int .u8 ((48:Nat):Int)))),mv_ 7 28] [0,2,4,5,7])
 AIu
def AIc:AyC := .seq (.block 2 (.seq (.ops [mv_ 21 6,po_ 22 (.bin 5 .geq (.t 21) (.c (.int .u8 ((48:Nat):Int)))),mv_ 23 22,⟨some 24,.p (.mov (.t 6)),some ⟨23,true⟩⟩,⟨some 25,.p (.bin 5 .leq (.t 24) (.c (.int .u8 ((57:Nat):Int)))),some ⟨23,true⟩⟩,po_ 26 (.pick (.t 23) (.t 25) (.c (.bool false))),mv_ 20 26] [0,2,4,5,6,20])
 AIk))
 (.ops [mv_ 39 5,po_ 40 (.bin 3 .quo (.t 39) (ci_ 2)),mv_ 41 5,po_ 42 (.bin 3 .quo (.t 41) (ci_ 2)),po_ 43 (.idxAA 20 1 (.t 4) (.t 42)),po_ 44 (.load false 1 (.t 43)),po_ 45 (.bin 5 .mul (.t 44) (.c (.int .u8 ((16:Nat):Int)))),mv_ 46 7,po_ 47 (.bin 5 .add (.t 45) (.t 46)),po_ 48 (.idxAA 20 1 (.t 4) (.t 40)),⟨none,.s (.store 1 (.t 48) (.t 47)),none⟩] [0,2,4,5])
def AIB:AyC := .seq (.ops [po_ 7 (.mov (.c (.int .u8 ((0:Nat):Int))))] [0,2,4,5,6])
 AIc
def AIw:AyC := .seq (.block 1 (.seq (.ops [mv_ 16 0,mv_ 17 5,po_ 18 (.idxS (.t 16) (.t 17)),mv_ 6 18] [0,2,4,5,6])
 AIB))
 (.ops [mv_ 14 5,po_ 15 (.bin 3 .add (.t 14) (ci_ 1)),mv_ 5 15] [0,2,4,5])
def AJz:AyC := .seq (.seq (.ops [mv_ 12 5,po_ 13 (.bin 3 .lss (.t 12) (ci_ 40))] [0,2,4,5,13])
 (.cond (.t 13)
 (.skip)
 (.exit 0)))
 AIw
def AH4:AyC := .block 0 (.loop [0,2,4,5] AJz)
def AJd:AyC := .seq (.ops [po_ 49 (.load true 20 (.t 4)),⟨none,.s (.store 20 (.t 2) (.t 49)),none⟩,po_ 3 (.mov (.c (.bool true)))] [2,3])
 (.ret)
def AJo:AyC := .seq (.seq (.ops [po_ 5 (.mov (ci_ 0))] [0,2,4,5])
 AH4)
 AJd
def AHs:AyC := .seq (.seq (.ops [mv_ 8 0,po_ 9 (.lenS (.t 8)),po_ 10 (.bin 3 .neq (.t 9) (ci_ 40))] [0,2,4,10])
 (.cond (.t 10)
 (.seq (.ops [po_ 11 (.load true 20 (.t 4)),⟨none,.s (.store 20 (.t 2) (.t 11)),none⟩,po_ 3 (.mov (.c (.bool false)))] [2,3])
  (.ret))
 (.skip)))
 AJo
def AHB:AyC := .seq (.ops [so_ 4 (.alloc (.arr 20 1 [.val (.int .u8 ((0:Nat):Int)),.val (.int .u8 ((0:Nat):Int)),.val (.int .u8 ((0:Nat):Int)),.val (.int .u8 ((0:Nat):Int)),.val (.int .u8 ((0:Nat):Int)),.val (.int .u8 ((0:Nat):Int)),.val (.int .u8 ((0:Nat):Int)),.val (.int .u8 ((0:Nat):Int)),.val (.int .u8 ((0:Nat):Int)),.val (.int .u8 ((0:Nat):Int)),.val (.int .u8 ((0:Nat):Int)),.val (.int .u8 ((0:Nat):Int)),.val (.int .u8 ((0:Nat):Int)),.val (.int .u8 ((0:Nat):Int)),.val (.int .u8 ((0:Nat):Int)),.val (.int .u8 ((0:Nat):Int)),.val (.int .u8 ((0:Nat):Int)),.val (.int .u8 ((0:Nat):Int)),.val (.int .u8 ((0:Nat):Int)),.val (.int .u8 ((0:Nat):Int))]))] [0,2,4])
 AHs
def ANM:AyC := .seq (.ops [so_ 2 (.alloc (.arr 20 1 [.val (.int .u8 ((0:Nat):Int)),.val (.int .u8 ((0:Nat):Int)),.val (.int .u8 ((0:Nat):Int)),.val (.int .u8 ((0:Nat):Int)),.val (.int .u8 ((0:Nat):Int)),.val (.int .u8 ((0:Nat):Int)),.val (.int .u8 ((0:Nat):Int)),.val (.int .u8 ((0:Nat):Int)),.val (.int .u8 ((0:Nat):Int)),.val (.int .u8 ((0:Nat):Int)),.val (.int .u8 ((0:Nat):Int)),.val (.int .u8 ((0:Nat):Int)),.val (.int .u8 ((0:Nat):Int)),.val (.int .u8 ((0:Nat):Int)),.val (.int .u8 ((0:Nat):Int)),.val (.int .u8 ((0:Nat):Int)),.val (.int .u8 ((0:Nat):Int)),.val (.int .u8 ((0:Nat):Int)),.val (.int .u8 ((0:Nat):Int)),.val (.int .u8 ((0:Nat):Int))])),po_ 3 (.mov (.c (.bool false)))] [0,2])
 AHB
def AOf:List VR:=[.cell 2 true 20,.tmp 3]
theorem ATD:Tryz.f69.body.bind (trC Tryz.prog Tryz.f69.ntmps)=some (er ANM):=by kernel_rfl
theorem ASv:trR Tryz.prog Tryz.f69.results.toList=some AOf:=by kernel_rfl
def ANj:=Ayz AIu.eq_1
def AM7:=Ayz AIk.eq_1
def ANs:=Ayz AIc.eq_1
def AMX:=Ayz AIB.eq_1
def AML:=Ayz AIw.eq_1
def ANz:=Ayz AJz.eq_1
def ANx:=Ayz AH4.eq_1
def AMV:=Ayz AJd.eq_1
def AMW:=Ayz AJo.eq_1
def ALK:=Ayz AHs.eq_1
def ALX:=Ayz AHB.eq_1
def AQp:=Ayz ANM.eq_1
theorem APZ {K:TV→Prop} {e:Env} {H:List Ob}:res AOf e H K=res [.cell 2 true 20,.tmp 3] e H K:=FI rfl
def AAE:=(aI_ (aI_ (aI_ (aI_ @ANj @AM7) (aI_ @ANs @AMX)) (aI_ (aI_ @AML @ANz) (aI_ @ANx @AMV))) (aI_ (aI_ (aI_ @AMW @ALK) (aI_ @ALX @AQp)) @APZ))
def ASk:=AzX 50 Tryz.func69 ATD ASv rfl
def AEf:AyC := .seq (.ops [po_ 4 (.mov (ci_ 0))] [0,1])
 (.seq (.ops [mv_ 5 0,mv_ 6 1,so_ 7 (.call 111 [.t 5,.t 6]),mv_ 4 7] [4])
 (.ret))
def AD7:List VR:=[.tmp 4]
theorem AKT:Tryz.f95.body.bind (trC Tryz.prog Tryz.f95.ntmps)=some (er AEf):=by kernel_rfl
theorem AK2:trR Tryz.prog Tryz.f95.results.toList=some AD7:=by kernel_rfl
def AJj:=Ayz AEf.eq_1
theorem AIi {K:TV→Prop} {e:Env} {H:List Ob}:res AD7 e H K=res [.tmp 4] e H K:=FI rfl
def AEq:=(aI_ @AJj @AIi)
def AJP:=AzX 8 Tryz.func95 AKT AK2 rfl
end
section
open Go.RowKit
variable [AyZ]
theorem AOh:∃ j,Tryz.prog.info? 116=some j∧j.size≠0:=by
 have h:((Tryz.prog.info? 116).map fun j=>decide (j.size≠0))=some true:=by kernel_rfl
 obtain ⟨j,h1,h2⟩:=Option.map_eq_some_iff.1 h
 exact ⟨j,h1,by simpa using h2⟩
set_option maxHeartbeats 2000000 in
set_option maxRecDepth 100000 in
theorem AQy (b o:Nat) (w:World) (h0:w.cell? ⟨b,o,none⟩=some (.pointer (some ⟨b,o,none⟩))) :
  Calls Tryz.prog 89 #[.pointer (some ⟨b,o,none⟩)] w fun e w'=>e = .returned (.tuple #[])∧w'=w:=by
 obtain ⟨j,hj,_⟩:=AOh
 go_enter Tryz.func89,Tryz.ntmps89
 go_wp2
 rw [Lib.run_neq_ptr_same w _ Tryz.underlying114 hj]
 go_wp2
 go_end0
 exact ⟨rfl,rfl⟩
set_option maxHeartbeats 2000000 in
set_option maxRecDepth 100000 in
theorem AO0 (b o:Nat) (T:TypeId) (m:Nat) (w:World) (h0:w.cell? ⟨b,o,none⟩=some (.pointer none)) (hsh:w.shape? b=some (T,m)) (hom:o<m) (hlies:liesAt Tryz.prog Tryz.prog.depth T (m / Tryz.prog.cellsOf T) o 116 1=true) (hfz:w.frozen? ⟨b,o,none⟩=false) :
  Calls Tryz.prog 89 #[.pointer (some ⟨b,o,none⟩)] w fun e w'=>e = .returned (.tuple #[])∧w'=w.setCell ⟨b,o,none⟩ (.pointer (some ⟨b,o,none⟩)):=by
 obtain ⟨j,hj,hj0⟩:=AOh
 go_enter Tryz.func89,Tryz.ntmps89
 go_wp2
 rw [Lib.run_to_unsafe w ⟨b,o,none⟩ Tryz.underlying114 Tryz.underlying121 hj hj0 hsh hom]
 simp only [Result.andThen]
 rw [Oper.upon_value]
 go_wp2
 rw [run_callFunc_extern Tryz.func110 (by kernel_rfl) (by kernel_rfl) (by kernel_rfl) (e:=Extern.AbiNoEscape.same) (by kernel_rfl)]
 rw [Lib.run_noEscape]
 simp only [Result.andThen]
 rw [Oper.upon_value]
 go_wp2
 rw [Lib.run_from_unsafe w ⟨b,o,none⟩ Tryz.underlying121 Tryz.underlying114 hj hsh hlies]
 simp only [Result.andThen]
 rw [Oper.upon_value]
 go_wp2
 go_end0
 exact ⟨rfl,rfl⟩
end
section
open Go.RowKit
variable [AyZ]
theorem AUS {c:Ctx} {w:World}:Rep c w (.tup []) (.tuple #[]) := .inr ⟨[],[],rfl,rfl,by rw [Azd]⟩
theorem A2W {c:Ctx} {w:World} {id ver:Nat} {p:List (Nat×Nat)} {vs:List Value} (h:Azd c w [.op id ver p] vs):c.has id ver∧∃ b o,c.β id ver=some (b,o)∧vs=[.pointer (some ⟨b,o+AzJ p,none⟩)]:=by
 obtain ⟨u,us,rfl,h1,h2⟩:=Azd.cons.1 h
 rw [Azd.nil] at h2; subst h2
 obtain ⟨g1,b,o,g2,g3⟩:=Rep.op (Or.inl h1:Rep c w (.op id ver p) u)
 exact ⟨g1,b,o,g2,by rw [g3]⟩
theorem ASt {β:Nat→Nat→Option (Nat×Nat)} {H:List Ob} {F:Nat→Prop} {w:World} (hs:Sim ⟨β,H,F⟩ w) {id ver b o:Nat} {p:List (Nat×Nat)} {x u v:TV} (ho:H[id]?=some (.obj ver x)) (hb:β id ver=some (b,o)) (hg:ADP p x=some (.agg [u,v])) (hu:AyK u=1) (hv:AyK v=1) :
  ∃ u' v',AyG ⟨β,H,F⟩ w u [u']∧AyG ⟨β,H,F⟩ w v [v']∧w.cell? ⟨b,o+AzJ p,none⟩=some u'∧w.cell? ⟨b,o+AzJ p+1,none⟩=some v':=by
 obtain ⟨us,h1,h2⟩:=ASf hs ho hb hg
 rw [AyG,AyH] at h1
 obtain ⟨a,r,rfl,h3,h4⟩:=h1
 rw [AyH] at h4
 obtain ⟨a2,r2,rfl,h5,h6⟩:=h4
 rw [AyH] at h6; subst h6
 have l1:=h3.length; rw [hu] at l1
 have l2:=h5.length; rw [hv] at l2
 obtain ⟨u',rfl⟩:=List.length_eq_one_iff.1 l1
 obtain ⟨v',rfl⟩:=List.length_eq_one_iff.1 l2
 exact ⟨u',v',h3,h5,by simpa using h2 0 u' rfl,h2 1 v' rfl⟩
def AO6 (id ver:Nat) (p:List (Nat×Nat)) (a:TV):Prop:=a = .val (.pointer none)∨a = .op id ver p
def AVa (T:TypeId) (m o:Nat):Prop:=o<m∧liesAt Tryz.prog Tryz.prog.depth T (m / Tryz.prog.cellsOf T) o 116 1=true
set_option maxRecDepth 100000 in
theorem AWk {id ver q m:Nat} {T:TypeId} {p:List (Nat×Nat)} {x x' a v:TV} {H:List Ob} {K:TV→List Ob→Prop} (ho:H[id]?=some (.obj ver x)) (hg:ADP p x=some (.agg [a,v])) (hv1:AyK v=1) (ha:AO6 id ver p a)
  (hq:H[q]?=some (.fact id ver T m)) (hT:AVa T m (AzJ p)) (hp1:AFF p x (.agg [.op id ver p,v])=some x') (hlv:lays v=true) (hk:K (.tup []) (H.set id (.obj ver x'))) :
  AyI Tryz.prog 89 [.op id ver p] H K:=by
 intro β F w vs hs hv
 obtain ⟨g1,b,o,hb,rfl⟩:=A2W hv
 have hb':β id ver=some (b,o):=hb
 obtain ⟨_,hfact⟩:=hs.ob q _ hq
 obtain ⟨rfl,hsh⟩:=hfact b o hb
 obtain ⟨hom,hlies⟩:=hT
 have ha1:AyK a=1:=by rcases ha with rfl | rfl<;>rfl
 obtain ⟨u',v',r1,r2,c0,c1⟩:=ASt hs ho hb hg ha1 hv1
 simp only [Nat.zero_add] at c0 c1
 have hrow:AyG ⟨β,H,F⟩ w (.agg [.op id ver p,v]) [.pointer (some ⟨b,AzJ p,none⟩),v']:=by
  rw [AyG,AyH]
  refine ⟨[_],[v'],rfl,?_,?_⟩
  ·rw [AyG]; exact ⟨g1,b,0,hb,by simp⟩
  ·rw [AyH]; exact ⟨[v'],[],rfl,r2,by rw [AyH]⟩
 obtain ⟨k1,k2,ht⟩:=hs.store ho hb hp1 hrow
 simp only [Nat.zero_add] at k1 k2 ht
 -- what AVa there behind
 have hsets:w.setCells b (AzJ p) [.pointer (some ⟨b,AzJ p,none⟩),v']=w.setCell ⟨b,AzJ p,none⟩ (.pointer (some ⟨b,AzJ p,none⟩)):=by
  have h1:=ABO b [.pointer (some ⟨b,AzJ p,none⟩)] [v'] (AzJ p) w
  refine h1.trans ?_
  have hc:AzI w b (AzJ p+1) [v']:=fun j u hj=>by
   cases j with
   | zero=>simp at hj; subst hj; exact c1
   | succ j=>simp at hj
  exact ADX (AGT hc (Nat.le_refl _))
 rw [hsets] at k1 k2
 rcases ha with rfl | rfl
 ·rw [AyG] at r1
  have hu:u' = .pointer none:=by simpa using r1.1
  subst hu
  have hfz:w.frozen? ⟨b,AzJ p,none⟩=false:=(ht 0 (by simp)).2
  have hc:=AO0 b (AzJ p) T m w c0 hsh hom hlies hfz
  have ea:([Value.pointer (some ⟨b,0+AzJ p,none⟩)]).toArray = #[.pointer (some ⟨b,AzJ p,none⟩)]:=by rw [Nat.zero_add]
  rw [ea]
  refine hc.mono ?_
  rintro e w' ⟨rfl,rfl⟩
  exact ⟨_,_,β,_,F,rfl,hk,k1,k2,AUS⟩
 ·rw [AyG] at r1
  obtain ⟨_,b',o',hb2,hu⟩:=r1
  have hb2':β id ver=some (b',o'):=hb2
  rw [hb'] at hb2'; cases hb2'
  have hu:u' = .pointer (some ⟨b,AzJ p,none⟩):=by simpa using hu
  subst hu
  have hc:=AQy b (AzJ p) w c0
  have ea:([Value.pointer (some ⟨b,0+AzJ p,none⟩)]).toArray = #[.pointer (some ⟨b,AzJ p,none⟩)]:=by rw [Nat.zero_add]
  rw [ea]
  refine hc.mono ?_
  rintro e w' ⟨rfl,rfl⟩
  rw [ANW c0] at k1 k2
  exact ⟨_,_,β,_,F,rfl,hk,k1,k2,AUS⟩
end
section
open Go.RowKit
variable [AyZ]
set_option maxHeartbeats 4000000 in
set_option maxRecDepth 100000 in
theorem APu {b o:Nat} {w W:World} {v:Value} {n:Nat} {ad q:Option Addr} {cap:Nat} {s:ByteArray} {w1 w2:World} (hv:v = .slice ad n cap) (c1:w.cell? ⟨b,o+1,none⟩=some v)
  (hSD:(Builtin.unsafeSliceData_ #[23] 168 #[v]).run Tryz.prog w.drew = .ok (.pointer q) w1) (c2:w1.cell? ⟨b,o+1,none⟩=some v)
  (hUS:(Builtin.unsafeString_ #[168,3] 9 #[.pointer q,.int .i64 n]).run Tryz.prog w1 = .ok (.string s) w2) :
  Calls Tryz.prog 57 #[.pointer (some ⟨b,o,none⟩)] w fun e w'=>e = .returned (.string s)∧w'=w2:=by
 subst hv
 have c1':w.drew.cell? ⟨b,o+1,none⟩=some (.slice ad n cap):=c1
 have mixed:Tryz.prog.follows .mixedOrders=true:=by kernel_rfl
 go_enter Tryz.func57,Tryz.ntmps57
 go_wp2
 go_region_o
 all_goals (go_wp2; go_ret; exact ⟨rfl,rfl⟩)
theorem Sim.die {β:Nat→Nat→Option (Nat×Nat)} {H:List Ob} {F:Nat→Prop} {w w':World} (hs:Sim ⟨β,H,F⟩ w) {j:Nat} {o:Ob} (ho:H[j]?=some o) (hl:o.live=true)
  (h1:w'.os=w.os) (h2:w'.tape=w.tape) (h3:w'.output=w.output) (hz:w.heap.size≤w'.heap.size) (hsh:∀ b,b<w.heap.size→w'.shape? b=w.shape? b)
  (hb:∀ b,b<w.heap.size→(∀ off,β j o.ver≠some (b,off))→w'.heap[b]?=w.heap[b]?):Sim ⟨β,H.set j (.gone o.ver),F⟩ w'∧AyN ⟨β,H,F⟩ w ⟨β,H.set j (.gone o.ver),F⟩ w' :=
 hs.turnG ho hl (Nat.le_refl _) (fun _ _ _=>rfl) (fun b off e => .inl ⟨off,e⟩) h1 h2 h3 hz hsh hb fun _=>trivial
theorem AS4 (w:World) (a:Addr) (n b:Nat):(w.freeze a n).shape? b=w.shape? b:=by
 unfold World.freeze
 split
 ·rfl
 ·simp only [World.shape?,Array.getElem?_modify]
  by_cases hb:a.block=b
  ·rw [if_pos hb]
   cases hh:w.heap[b]? with
   | none=>simp
   | some x=>cases x<;>simp
  ·rw [if_neg hb]
theorem AUH (w:World) (a:Addr) (n b:Nat) (h:b≠a.block):(w.freeze a n).heap[b]?=w.heap[b]?:=by
 unfold World.freeze
 split
 ·rfl
 ·simp only [Array.getElem?_modify]
  rw [if_neg (fun e=>h e.symm)]
theorem AUi (w:World) (a:Addr) (n:Nat):(w.freeze a n).heap.size=w.heap.size:=by
 unfold World.freeze
 split<;>simp
theorem AYR (w:World) (a:Addr) (n:Nat):(w.freeze a n).os=w.os∧(w.freeze a n).tape=w.tape∧(w.freeze a n).output=w.output:=by
 unfold World.freeze
 split<;>exact ⟨rfl,rfl,rfl⟩
set_option maxRecDepth 100000 in
theorem cellsByte:Tryz.prog.cellsOf 5=1:=by kernel_rfl
set_option maxRecDepth 100000 in
theorem A4b {id ver j v cp:Nat} {p:List (Nat×Nat)} {x a:TV} {l:List UInt8} {H:List Ob} {K:TV→List Ob→Prop} (ho:H[id]?=some (.obj ver x)) (hg:ADP p x=some (.agg [a,.os 1 j v [] 0 l.length cp])) (ha:AyK a=1)
  (hj:H[j]?=some (.bld v 5 l)) (h63:l.length≤9223372036854775807) (hk:K (.val (.string (str l))) (H.set j (.gone v))):AyI Tryz.prog 57 [.op id ver p] H K:=by
 intro β F w vs hs hv
 obtain ⟨g1,b,o,hb,rfl⟩:=A2W hv
 obtain ⟨u',v',r1,r2,c0,c1⟩:=ASt hs ho hb hg ha rfl
 have hjl:j<H.length:=(List.getElem?_eq_some_iff.1 hj).1
 rw [AyG] at r2
 obtain ⟨g2,r2⟩:=r2
 have ea:([Value.pointer (some ⟨b,o+AzJ p,none⟩)]).toArray = #[.pointer (some ⟨b,o+AzJ p,none⟩)]:=rfl
 rw [ea]
 -- what is empty
 have emp:∀ {ad q:Option Addr} {cap:Nat} {w1:World},v' = .slice ad 0 cap→l=[]→(Builtin.unsafeSliceData_ #[23] 168 #[v']).run Tryz.prog w.drew = .ok (.pointer q) w1→w1.cell? ⟨b,o+AzJ p+1,none⟩=some v'→Sim ⟨β,H,F⟩ w1→AyN ⟨β,H,F⟩ w ⟨β,H,F⟩ w1 →
   Calls Tryz.prog 57 #[.pointer (some ⟨b,o+AzJ p,none⟩)] w fun e w'=>∃ v x β' H' F',e = .returned v∧K x H'∧Sim ⟨β',H',F'⟩ w'∧AyN ⟨β,H,F⟩ w ⟨β',H',F'⟩ w'∧Rep ⟨β',H',F'⟩ w' x v:=by
  intro ad q cap w1 hv' hl hSD c2 hs1 hl1
  have hUS:=Lib.run_unsafeString_none (P:=Tryz.prog) w1 168 3 9 q
  refine (APu (W:=w) (n:=0) hv' c1 hSD c2 hUS).mono ?_
  rintro e w' ⟨rfl,rfl⟩
  obtain ⟨k1,k2⟩:=hs1.die (w':=w') hj rfl rfl rfl rfl (Nat.le_refl _) (fun _ _=>rfl) (fun _ _ _=>rfl)
  subst hl
  exact ⟨_,_,β,_,F,rfl,hk,k1,hl1.trans k2,Rep.of_val⟩
 rcases r2 with ⟨hl0,ad,hv',_,han⟩ | ⟨b2,o2,cap,t,m,hb2,hv',hn,hcap,hsh,hroom,_⟩
 ·have hl:l=[]:=List.length_eq_zero_iff.1 hl0
  have hv':v' = .slice ad 0 0:=by simpa using hv'
  cases ad with
  | none =>
   refine emp hv' hl (q:=none) (w1:=w.drew) ?_ c1 (hs.heap rfl) (AyN.heap rfl rfl rfl rfl)
   rw [hv']; exact Lib.run_unsafeSliceData_nil w.drew _ _ _ _
  | some ad =>
   obtain ⟨s,hs2⟩:=Option.isSome_iff_exists.1 (han ad rfl)
   obtain ⟨k1,k2⟩:=(hs.heap (w':=w.drew) rfl).extra (.view ad 5)
   refine emp hv' hl (q:=some ⟨w.drew.heap.size,0,none⟩) (w1:=w.drew.alloc (.view ad 5)) ?_ ?_ k1 ((AyN.heap (w:=w) (w':=w.drew) rfl rfl rfl rfl).trans k2)
   ·rw [hv']; exact Lib.run_unsafeSliceData_zero w.drew _ _ _ Tryz.underlying168 ad 0 s hs2
   ·rw [World.cell?_of_block (w:=w.drew) (AzG _ _ (World.block_lt_of_cell? w _ c1))]; exact c1
 ·have hv':v' = .slice (some ⟨b2,o2,none⟩) l.length cap:=by simpa [AzJ] using hv'
  rcases hs.ob j _ hj with ⟨q1,_⟩ | ⟨b3,post,fr,q1,q2,q3⟩
  ·have q1':β j v=none:=q1
   have hb2':β j v=some (b2,o2):=hb2
   rw [q1'] at hb2'; cases hb2'
  have q1':β j v=some (b3,0):=q1
  have hb2':β j v=some (b2,o2):=hb2
  rw [q1'] at hb2'; cases hb2'
  by_cases hl:l=[]
  ·subst hl
   by_cases hc0:cap=0
   ·subst hc0
    obtain ⟨k1,k2⟩:=(hs.heap (w':=w.drew) rfl).extra (.view ⟨b2,0,none⟩ 5)
    refine emp hv' rfl (q:=some ⟨w.drew.heap.size,0,none⟩) (w1:=w.drew.alloc (.view ⟨b2,0,none⟩ 5)) ?_ ?_ k1 ((AyN.heap (w:=w) (w':=w.drew) rfl rfl rfl rfl).trans k2)
    ·rw [hv']; exact Lib.run_unsafeSliceData_zero w.drew _ _ _ Tryz.underlying168 ⟨b2,0,none⟩ 0 _ hsh
    ·rw [World.cell?_of_block (w:=w.drew) (AzG _ _ (World.block_lt_of_cell? w _ c1))]; exact c1
   ·refine emp hv' rfl (q:=some ⟨b2,0,none⟩) (w1:=w.drew) ?_ c1 (hs.heap rfl) (AyN.heap rfl rfl rfl rfl)
    rw [hv']; exact Lib.run_unsafeSliceData_row w.drew _ _ _ _ _ hc0
  ·have hlp:0<l.length:=List.length_pos_iff.2 hl
   have hSD:(Builtin.unsafeSliceData_ #[23] 168 #[v']).run Tryz.prog w.drew = .ok (.pointer (some ⟨b2,0,none⟩)) w.drew:=by
    rw [hv']; exact Lib.run_unsafeSliceData_row w.drew _ _ _ _ _ (by omega)
   have hsh':w.drew.shape? b2=some (5,((l.map fun x:UInt8=>Value.int .u8 x.toNat)++post).length):=by
    have q2':w.drew.heap[b2]?=_:=q2
    simp only [World.shape?,q2',List.size_toArray]
   have hcell:∀ i y,l[i]?=some y→w.drew.cell? ((⟨b2,0,none⟩:Addr).add i)=some (.int .u8 y.toNat):=by
    intro i y hy
    rw [Az0,Nat.zero_add]
    have q2':w.drew.heap[b2]?=_:=q2
    rw [cell_of_row w.drew b2 i _ _ _ q2']
    have hil:i<l.length:=(List.getElem?_eq_some_iff.1 hy).1
    simp only [List.getElem?_toArray]
    rw [List.getElem?_append_left (by simpa using hil),List.getElem?_map,hy]; rfl
   have hUS:=Lib.run_unsafeString_row (P:=Tryz.prog) w.drew 168 3 9 5 Tryz.underlying168 cellsByte b2 _ hsh' l hl (by simp) h63 hcell
   refine (APu (W:=w) hv' c1 hSD c1 hUS).mono ?_
   rintro e w' ⟨rfl,rfl⟩
   obtain ⟨f1,f2,f3⟩:=AYR w.drew ⟨b2,0,none⟩ l.length
   obtain ⟨k1,k2⟩:=hs.die (w':=w.drew.freeze ⟨b2,0,none⟩ l.length) hj rfl f1 f2 f3 (by rw [AUi]; exact Nat.le_refl _) (fun b _=>AS4 w.drew _ _ b) (fun b _ hne=>AUH w.drew _ _ b fun e=>hne 0 (by rw [e]; exact q1'))
   exact ⟨_,_,β,_,F,rfl,hk,k1,k2,Rep.of_val⟩
theorem A3v:A8G Tryz.prog 57:=fun id ver j v cp p x a l H K ho hg ha hj h63 hk=>A4b ho hg ha hj h63 hk
end
section
open Go.RowKit
variable [AyZ]
theorem AVe {a a' b b':TV} (ha:AyK a=1) (ha':AyK a'=1) (hb:AyK b=1) (hb':AyK b'=1) (hn:AAL a'=false):∀ {p:List (Nat×Nat)} {x x':TV},ADP p x=some (.agg [a,b])→AFF p x (.agg [a',b])=some x' →
  ADP (p++[(1,1)]) x'=some b∧∃ x'',AFF (p++[(1,1)]) x' b'=some x''∧AFF p x (.agg [a',b'])=some x''
 | [],x,x',hg,hs=>by
  rw [ARa] at hg; cases hg
  have w1:AyK (.agg [a',b])=AyK (.agg [a,b]):=by simp [AyK,Azg,ha,ha',hb]
  have w2:AyK (.agg [a',b'])=AyK (.agg [a,b]):=by simp [AyK,Azg,ha,ha',hb,hb']
  rw [AJN,if_pos w1] at hs; cases hs
  rw [AJN,if_pos w2,List.nil_append,AOS,ALY]
  have h1:Azg ([a',b].take 1)=1:=by simp [Azg,ha']
  rw [if_pos h1,if_pos h1]
  refine ⟨by simp [ARa],_,?_,rfl⟩
  simp [AJN,hb,hb']
 | (i,d)::p,x,x',hg,hs=>by
  cases x with
  | agg cs =>
   rw [AOS] at hg
   rw [ALY] at hs
   split at hg
   ·rename_i hw
    rw [if_pos hw] at hs
    cases hc:cs[i]? with
    | none=>rw [hc] at hg; cases hg
    | some c =>
     rw [hc] at hg hs
     have hg':ADP p c=some (.agg [a,b]):=hg
     have hs':((AFF p c (.agg [a',b])).map fun c'=>TV.agg (cs.set i c'))=some x':=hs
     obtain ⟨c',h1,rfl⟩:=Option.map_eq_some_iff.1 hs'
     obtain ⟨g1,c'',g2,g3⟩:=AVe ha ha' hb hb' hn hg' h1
     have hi:i<cs.length:=(List.getElem?_eq_some_iff.1 hc).1
     have hti:(cs.set i c').take i=cs.take i:=by rw [List.take_set_of_le (Nat.le_refl _)]
     refine ⟨?_,.agg (cs.set i c''),?_,?_⟩
     ·rw [List.cons_append,AOS,hti,if_pos hw,List.getElem?_set_self hi]; exact g1
     ·rw [List.cons_append,ALY,hti,if_pos hw,List.getElem?_set_self hi]
      show (AFF (p++[(1,1)]) c' b').map _=_
      rw [g2]; simp
     ·rw [ALY,if_pos hw,hc]
      show (AFF p c (.agg [a',b'])).map _=_
      rw [g3]; rfl
   ·cases hg
  | arr n k cs =>
   rw [AU5] at hs
   split at hs
   ·rename_i h
    have:=h.2
    simp [AAL,AzQ,hn] at this
   ·cases hs
  | _=>cases hg
structure Bld (H:List Ob) (id ver:Nat) (p:List (Nat×Nat)) (j v:Nat) (x:TV) (l:List UInt8):Prop where
 ob:H[id]?=some (.obj ver x)
 fields:∃ a,AO6 id ver p a∧ADP p x=some (.agg [a,.os 1 j v [] 0 l.length l.length])
 row:H[j]?=some (.bld v 5 l)
 ne:id≠j
 fact:∃ (q:Nat) (T:TypeId) (m:Nat),H[q]?=some (Ob.fact id ver T m)∧AVa T m (AzJ p)
theorem AJM {id ver:Nat} {p:List (Nat×Nat)} {a:TV} (h:AO6 id ver p a):AyK a=1:=by rcases h with rfl | rfl<;>rfl
end
section
variable [AyZ]
set_option maxRecDepth 100000
def AAG:AyC := .seq (.ops [mv_ 5 0,so_ 6 (.call 89 [.t 5])] [0,1])
 (.seq (.ops [mv_ 7 0,mv_ 8 0,po_ 9 (.nilc (.t 8)),po_ 10 (.fieldA 1 1 (.t 9)),po_ 11 (.load false 1 (.t 10)),mv_ 12 1,⟨some 13,.s (.bslice 1 1 (.val (.int .u8 ((0:Nat):Int))) [⟨0,.t 12⟩]),none⟩,so_ 14 (.app 1 1 5 (.t 11) (.t 13)),po_ 15 (.nilc (.t 7)),po_ 16 (.fieldA 1 1 (.t 15)),⟨none,.s (.store 1 (.t 16) (.t 14)),none⟩] [])
 (.seq (.ops [po_ 4 (.mov (.c .nilIface))] [4])
 (.ret)))
def AA6:AyC := .seq (.ops [po_ 4 (.mov (.c .nilIface))] [0,1])
 AAG
def ABa:List VR:=[.tmp 4]
theorem AEg:Tryz.f56.body.bind (trC Tryz.prog Tryz.f56.ntmps)=some (er AA6):=by kernel_rfl
theorem AEy:trR Tryz.prog Tryz.f56.results.toList=some ABa:=by kernel_rfl
def ABY:=Ayz AAG.eq_1
def ADk:=Ayz AA6.eq_1
theorem ADl {K:TV→Prop} {e:Env} {H:List Ob}:res ABa e H K=res [.tmp 4] e H K:=FI rfl
def ABb:=(aI_ (aI_ @ABY @ADk) @ADl)
def ADU:=AzX 17 Tryz.func56 AEg AEy rfl
end
section
open Go.RowKit
variable [AyZ]
theorem AQE {id ver j v:Nat} {p:List (Nat×Nat)} {x x':TV} {l:List UInt8} {c:UInt8} {H:List Ob} {K:TV→List Ob→Prop} (hB:Bld H id ver p j v x l) (hlen:l.length+1≤140737488355328)
  (hs:AFF p x (.agg [.op id ver p,.os 1 j v [] 0 l.length l.length])=some x') (hk:∀ x'',AFF p x (.agg [.op id ver p,.os 1 j (v+1) [] 0 (l++[c]).length (l++[c]).length])=some x''→K (.val .nilIface) ((H.set id (.obj ver x'')).set j (.bld (v+1) 5 (l++[c]))++[.obj 0 (.arr 1 1 [by8 c])])) :
  AyI Tryz.prog 56 [.op id ver p,by8 c] H K:=by
 obtain ⟨ho,⟨a,ha,hg⟩,hj,hne,q,T,m,hq,hT⟩:=hB
 refine ADU (by simp) ?_
 simp -dsimp (disch:=first | assumption | omega) only [↓AyF,AyB,AyE,AyD,eq_self,Nat.reduceEqDiff,↓reduceIte,Nat.reduceAdd,reduceCtorEq,↓ABb]
 refine AWk ho hg rfl ha hq hT hs rfl ?_
 have hid:id<H.length:=(List.getElem?_eq_some_iff.1 ho).1
 have hjl:j<H.length:=(List.getElem?_eq_some_iff.1 hj).1
 obtain ⟨g1,x'',g2,g3⟩:=AVe (b' := .os 1 j (v+1) [] 0 (l++[c]).length (l++[c]).length) (AJM ha) (by rfl) (by rfl) (by rfl) (by rfl) hg hs
 have hll:(H.set id (.obj ver x')).length=H.length:=by simp
 have b1:∀ {G:List Ob} {o g:Ob} {i:Nat},G[i]?=some o→(G++[g])[i]?=some o:=fun h=>by rw [List.getElem?_append_left (List.getElem?_eq_some_iff.1 h).1]; exact h
 have f0:(H.set id (.obj ver x')++[Ob.obj 0 (.arr 1 1 [by8 c])])[H.length]?=some (.obj 0 (.arr 1 1 [by8 c])):=by
  rw [←hll,List.getElem?_append_right (Nat.le_refl _)]; simp
 have f1:(H.set id (.obj ver x'))[id]?=some (.obj ver x'):=by simp [hid]
 have f2:(H.set id (.obj ver x')++[Ob.obj 0 (.arr 1 1 [by8 c])])[j]?=some (.bld v 5 l):=b1 (by rw [List.getElem?_set_ne hne]; exact hj)
 have f5:(H.set id (.obj ver x')++[Ob.obj 0 (.arr 1 1 [by8 c])]).set j (.bld (v+1) 5 (l++[c]))=(H.set id (.obj ver x')).set j (.bld (v+1) 5 (l++[c]))++[Ob.obj 0 (.arr 1 1 [by8 c])]:=by
  rw [List.set_append_left _ _ (by rw [hll]; exact hjl)]
 have f3:((H.set id (.obj ver x')).set j (.bld (v+1) 5 (l++[c]))++[Ob.obj 0 (.arr 1 1 [by8 c])])[id]?=some (.obj ver x'):=b1 (by rw [List.getElem?_set_ne (Ne.symm hne)]; exact f1)
 have f4:((H.set id (.obj ver x')).set j (.bld (v+1) 5 (l++[c]))++[Ob.obj 0 (.arr 1 1 [by8 c])]).set id (.obj ver x'')=(H.set id (.obj ver x'')).set j (.bld (v+1) 5 (l++[c]))++[Ob.obj 0 (.arr 1 1 [by8 c])]:=by
  rw [List.set_append_left _ _ (by simpa using hid),List.set_comm _ _ hne,List.set_set,List.set_comm _ _ hne.symm]
 have one:(List.replicate 1 (TV.val (Value.int IntKind.u8 ((0:Nat):Int)))).set 0 (by8 c)=[by8 c]:=by simp
 have tk1:[by8 c].take 1=[by8 c]:=by simp
 have tkl:l.take l.length=l:=List.take_length
 have e1:(l++[c]).length=l.length+1:=by simp
 rw [e1] at g2
 have hk':=hk x'' g3
 simp -dsimp (disch:=first | assumption | omega) only [↓AyF,AyB,AyE,AyD,eq_self,Nat.reduceEqDiff,↓reduceIte,reduceCtorEq,Nat.reduceLeDiff,↓ABb,f0,f1,f2,f3,f4,f5,g1,g2,one,tk1]
 exact hk'
end
section
open Go.RowKit
variable [AyZ]
set_option maxHeartbeats 2000000 in
set_option maxRecDepth 100000 in
theorem ARj (s:ByteArray) (cv:Int) (w:World) :
  Calls Tryz.prog 111 #[.string s,.int .u8 cv] w fun e w'=>e = .returned (.int .i64 (Lib.indexByte s.data.toList cv.toNat.toUInt8))∧w'=w:=by
 go_enter Tryz.func111,Tryz.ntmps111
 go_wp2
 rw [run_callFunc_extern Tryz.func132 (by kernel_rfl) (by kernel_rfl) (by kernel_rfl) (e:=Extern.BytealgIndexByte.indexByte) (by kernel_rfl),Lib.run_indexByteString s cv w]
 simp only [Result.andThen]
 rw [Oper.upon_value]
 go_wp2
 go_ret
 exact ⟨rfl,rfl⟩
theorem Azk.ofCalls {f:FuncId} {args:List Value} {r:Value} (h:∀ w,Calls Tryz.prog f args.toArray w fun e w'=>e = .returned r∧w'=w):Azk Tryz.prog f (args.map .val) (fun x=>x = .val r):=by
 intro β F w vs hF hv
 have hvs:vs=args:=by
  clear h hF
  induction args generalizing vs with
  | nil=>rw [List.map_nil,Azd.nil] at hv; exact hv
  | cons a args ih =>
   rw [List.map_cons] at hv
   obtain ⟨v,us,rfl,h1,h2⟩:=Azd.cons.1 hv
   have:=Rep.val.1 (Or.inl h1:Rep _ _ _ _)
   rw [this,ih us h2]
 subst hvs
 refine (h w).mono ?_
 rintro e w' ⟨rfl,rfl⟩
 exact ⟨_,_,F,rfl,rfl,Rep.of_val,⟨rfl,rfl,rfl,Nat.le_refl _,fun _ _=>rfl,fun _ h=>h,fun _ _ h=>h,hF.1⟩⟩
theorem ATU (l:List UInt8) (c:UInt8):Azk Tryz.prog 111 [.val (.string (str l)),by8 c] (fun x=>x = .val (.int .i64 (Lib.indexByte l c))):=by
 have h:=Azk.ofCalls (f:=111) (args:=[.string (str l),.int .u8 c.toNat]) (r := .int .i64 (Lib.indexByte l c)) (fun w=>by
  have h1:=ARj (str l) c.toNat w
  have e1:(str l).data.toList=l:=by simp [str]
  have e2:((c.toNat:Int)).toNat.toUInt8=c:=by rw [Int.toNat_natCast]; simp
  rw [e1,e2] at h1; exact h1)
 exact h
end
section
open Go.RowKit
variable [AyZ]
def dig (n:Nat):UInt8:=UInt8.ofNat (if n<10 then 48+n else 87+n)
def Azq (l:List UInt8):List UInt8:=l.flatMap fun x=>[dig (x.toNat / 16),dig (x.toNat % 16)]
def AO3:List UInt8:=[48,49,50,51,52,53,54,55,56,57,97,98,99,100,101,102]
theorem ABh:∀ n,n<16→AO3[n]?=some (dig n):=by decide
theorem A6M (n:Nat):n &&& 15=n % 16:=Nat.and_two_pow_sub_one_eq_mod n 4
theorem AA5 (l:List UInt8):(Azq l).length=2*l.length:=by
 induction l with
 | nil=>rfl
 | cons x l ih =>
  have e:Azq (x::l)=dig (x.toNat / 16)::dig (x.toNat % 16)::Azq l:=rfl
  rw [e,List.length_cons,List.length_cons,List.length_cons,ih]; omega
theorem AQX (l:List UInt8) (x:UInt8):Azq (l++[x])=Azq l++[dig (x.toNat / 16)]++[dig (x.toNat % 16)]:=by simp [Azq]
theorem AUm:AO3=[48,49,50,51,52,53,54,55,56,57,97,98,99,100,101,102]:=rfl
set_option maxRecDepth 100000 in
theorem Bbf:AVa 116 2 0:=⟨by decide,by kernel_rfl⟩
theorem ACj {l:List UInt8}:bl (str l)=l:=by simp [bl,str]
theorem BbM {l:List UInt8} {n:Nat} {arr a:TV} {v:Nat} {G:List Ob} (hn:n=l.length) (ha:AO6 1 0 [] a):Bld ([.obj 0 arr,.obj 0 (.agg [a,.os 1 3 v [] 0 n n]),.fact 1 0 116 2,.bld v 5 l]++G) 1 0 [] 3 v (.agg [a,.os 1 3 v [] 0 n n]) l :=
 hn ▸   ⟨rfl,⟨a,ha,rfl⟩,rfl,by decide,⟨2,_,_,rfl,Bbf⟩⟩
theorem A8B {a b c:TV} (ha:AyK a=1) (hb:AyK b=1):AFF [] (.agg [a,b]) (.agg [.op 1 0 [],c])=if AyK c=1 then some (.agg [.op 1 0 [],c]) else none:=by
 rw [AJN]
 have e:AyK (.agg [a,b])=2:=by simp [AyK,Azg,ha,hb]
 have e2:AyK (.agg [.op 1 0 [],c])=1+AyK c:=by simp [AyK,Azg]
 rw [e,e2]
 by_cases h:AyK c=1
 ·rw [if_pos h,if_pos (by omega)]
 ·rw [if_neg h,if_neg (by omega)]
theorem Bb6 {x:UInt8}:AAD 5 .shr (.int .u8 (x.toNat:Int)) (.int .u64 ((4:Nat):Int))=some (.int .u8 ((x.toNat / 16:Nat):Int)):=A7a (by have:=x.toNat_lt; omega) (by omega)
theorem Bcm {x:UInt8}:AAD 5 .and (.int .u8 (x.toNat:Int)) (.int .u8 ((15:Nat):Int))=some (.int .u8 ((x.toNat % 16:Nat):Int)):=by rw [A5U (by have:=x.toNat_lt; omega) (by omega),A6M]
theorem BbI (l:List UInt8) (hl:l.length=20):Azk Tryz.prog 30 [.arr 20 1 (l.map by8)] (fun r=>r = .val (.string (str (Azq l)))):=by
 refine AyI.toPureV (ASe (by simp) ?_)
 simp -dsimp (disch:=first | assumption | omega) only [↓AyF,AyB,AyE,AyD,eq_self,Nat.reduceEqDiff,↓reduceIte,Nat.reduceAdd,↓AIe]
 refine AAW (fun q e H=>∃ (i v:Nat) (a:TV),q=20 - i∧i≤20∧AO6 1 0 [] a∧e=[(3,.op 1 0 []),(6,.arr 20 1 (l.map by8)),(7,i64 (i:Int))] ∧
  H=[.obj 0 (.arr 20 1 (l.map by8)),.obj 0 (.agg [a,.os 1 3 v [] 0 (Azq (l.take i)).length (Azq (l.take i)).length]),.fact 1 0 116 2,.bld v 5 (Azq (l.take i))]) 20 ?_ ?_
 ·exact ⟨0,0,_,by simp,by simp,.inl rfl,rfl,by simp [Azq]⟩
 ·rintro q e H ⟨i,v,a,rfl,hi,ha,rfl,rfl⟩
  by_cases h:i<20
  ·have hg:l[i]?=some l[i]:=List.getElem?_eq_getElem (by omega)
   have hsucc:=List.take_succ_eq_append_getElem (l:=l) (i:=i) (by omega)
   have hsn:=AQX (l.take i) l[i]
   rw [←hsucc] at hsn
   have hlen:(Azq (l.take i)).length=2*i:=by rw [AA5,List.length_take]; omega
   generalize hr2:Azq (l.take (i+1))=r2 at *
   generalize Azq (l.take i)=r at *
   generalize l[i]=c at *
   have hc:=c.toNat_lt
   have t1:=ABh (c.toNat / 16) (by omega)
   have t2:=ABh (c.toNat % 16) (by omega)
   rw [AUm] at t1 t2
   simp -dsimp (disch:=first | assumption | omega) only [↓AyF,AyB,AyE,AyD,eq_self,Nat.reduceEqDiff,↓reduceIte,↓AIe,hg,Bb6,t1,ACj]
   refine AQE (BbM (l:=r) (G:=[]) rfl ha) (by omega) (by rw [A8B (AJM ha) rfl]; rfl) (fun x2 h2 => ?_)
   rw [A8B (AJM ha) rfl] at h2
   obtain rfl:=Option.some.inj h2
   simp -dsimp (disch:=first | assumption | omega) only [↓AyF,AyB,AyE,AyD,eq_self,Nat.reduceEqDiff,↓reduceIte,Bcm,t2,ACj]
   refine AQE (BbM (l:=r++[dig (c.toNat / 16)]) (G:=[_]) (by simp) (.inr rfl)) (by simp; omega) (by rw [A8B rfl rfl]; rfl) (fun x2 h2 => ?_)
   rw [A8B rfl rfl] at h2
   obtain rfl:=Option.some.inj h2
   simp -dsimp (disch:=first | assumption | omega) only [↓AyF,AyB,AyE,AyD,eq_self,Nat.reduceEqDiff,↓reduceIte,Nat.reduceAdd]
   rw [←hsn]
   exact AZe (20 - (i+1)) 4 (by omega) (by simp) rfl rfl ⟨i+1,v+1+1,_,rfl,by omega,.inr rfl,rfl,by rw [hr2,hsn]; simp⟩
  ·have hi2:i=20:=by omega
   subst hi2
   have htl:l.take 20=l:=List.take_of_length_le (by omega)
   rw [htl]
   have hl2:(Azq l).length=40:=by rw [AA5]; omega
   have hw:=AJM ha
   have hb:=A3v
   simp -dsimp (disch:=first | assumption | omega) only [↓AyF,AyB,AyE,AyD,eq_self,Nat.reduceLT,Nat.reduceEqDiff,↓reduceIte,↓AIe,hb]
end
section
open Go.RowKit
variable [AyZ]
section
omit [AyZ]
def AMs (n:Nat):List UInt8:=[dig (n / 4096 % 16),dig (n / 256 % 16),dig (n / 16 % 16),dig (n % 16)]
def ABT:List UInt8:=[48,48,48,48]
def Azb (l:List UInt8):List UInt8:=if l.length=0 then ABT else AMs (l.length+4)++l
theorem ANP:∀ n,n<16→xv (dig n)=n:=by decide
theorem AVC (n:Nat):(AMs n).length=4:=rfl
theorem ARk {n:Nat} (h:n<65536):ATM 0 (AMs n)=n:=by
 unfold AMs
 simp only [ATM]
 rw [ANP _ (by omega),ANP _ (by omega),ANP _ (by omega),ANP _ (by omega)]
 omega
theorem AX4 {n:Nat} (h:n<65536):pX (AMs n)=some n:=by
 unfold pX
 have ha:(AMs n).all isX=true:=by
  unfold AMs isX
  simp [ANP _ (show n / 4096 % 16<16 by omega),ANP _ (show n / 256 % 16<16 by omega),ANP _ (show n / 16 % 16<16 by omega),ANP _ (show n % 16<16 by omega)]
  omega
 rw [ARk h,if_pos ⟨by simp [AMs],ha,h⟩]
theorem ARv {n m:Nat} (hn:n<65536) (hm:m<65536) (e:AMs n=AMs m):n=m:=by
 rw [←ARk hn,e,ARk hm]
def AOm (l:List UInt8):Nat:=if l.length=0 then 0 else l.length+4
theorem ARV (l:List UInt8):Azb l=AMs (AOm l)++l:=by
 unfold Azb AOm
 split
 ·rename_i h
  rw [List.eq_nil_of_length_eq_zero h]; rfl
 ·rfl
theorem AA9 (l:List UInt8):(Azb l).length=4+l.length:=by rw [ARV,List.length_append]; rfl
theorem AzP {x s b:List UInt8} (h:Azb x++s=b):b.take 4=AMs (AOm x)∧b.drop 4=x++s∧b.length=4+x.length+s.length:=by
 subst h
 rw [ARV,List.append_assoc]
 exact ⟨List.take_left' rfl,List.drop_left' rfl,by simp [AVC]; omega⟩
theorem AR5 {x:List UInt8} (h:x.length≤1000):AOm x<65536:=by unfold AOm; split<;>omega
theorem AL1 {x y r s:List UInt8} (hx:x.length≤1000) (hy:y.length≤1000) (h:Azb x++r=Azb y++s):x=y∧r=s:=by
 obtain ⟨a1,a2,a3⟩:=AzP h
 obtain ⟨b1,b2,b3⟩:=AzP (rfl:Azb y++s=Azb y++s)
 rw [a1] at b1
 have e:=ARv (AR5 hx) (AR5 hy) b1
 have hl:x.length=y.length:=by unfold AOm at e; split at e<;>split at e<;>omega
 rw [a2] at b2
 exact List.append_inj b2 hl
theorem A43 {b:List UInt8} {n:Nat} (h4:4≤b.length) (hn:4<n) (hn2:n≤1004) (hl:n≤b.length) (ht:b.take 4=AMs n):Azb ((b.take n).drop 4)++b.drop n=b:=by
 have hln:((b.take n).drop 4).length=n - 4:=by simp; omega
 unfold Azb
 rw [if_neg (by omega),hln,show n - 4+4=n by omega,←ht,List.append_assoc]
 have e1:(b.take n).take 4=b.take 4:=by rw [List.take_take,Nat.min_eq_left (by omega)]
 rw [←List.append_assoc,←e1,List.take_append_drop,List.take_append_drop]
theorem ATn {b:List UInt8} (ht:b.take 4=ABT):Azb []++b.drop 4=b:=by
 have:Azb []=ABT:=rfl
 rw [this,←ht,List.take_append_drop]
def AyV (ls:List (List UInt8)) (b:List UInt8):Prop:=(∀ x∈ls,x.length≤1000)∧ls.flatMap Azb=b
theorem AIg:∀ {ls ms:List (List UInt8)} {b:List UInt8},AyV ls b→AyV ms b→ls=ms
 | [],[],_,_,_=>rfl
 | [],y::ms,b,h,k=>by
  have:=congrArg List.length (h.2.trans k.2.symm)
  rw [List.flatMap_cons,List.length_append,AA9] at this
  simp only [List.flatMap_nil,List.length_nil] at this
  omega
 | x::ls,[],b,h,k=>by
  have:=congrArg List.length (h.2.trans k.2.symm)
  rw [List.flatMap_cons,List.length_append,AA9] at this
  simp only [List.flatMap_nil,List.length_nil] at this
  omega
 | x::ls,y::ms,b,h,k=>by
  have e:=h.2.trans k.2.symm
  rw [List.flatMap_cons,List.flatMap_cons] at e
  obtain ⟨rfl,e2⟩:=AL1 (h.1 x (by simp)) (k.1 y (by simp)) e
  rw [AIg (b:=ls.flatMap Azb) ⟨fun z hz=>h.1 z (by simp [hz]),rfl⟩ ⟨fun z hz=>k.1 z (by simp [hz]),e2.symm⟩]
structure LI (b:List UInt8) (ls:List (List UInt8)) (rest:List UInt8):Prop where
 ok:∀ x∈ls,x.length≤1000
 eq:ls.flatMap Azb++rest=b
theorem LI.step {b rest r x:List UInt8} {ls:List (List UInt8)} (h:LI b ls rest) (hx:x.length≤1000) (e:Azb x++r=rest):LI b (ls++[x]) r:=by
 refine ⟨fun y hy => ?_,?_⟩
 ·rcases List.mem_append.1 hy with hy | hy
  ·exact h.ok y hy
  ·rw [List.mem_singleton] at hy; subst hy; exact hx
 ·rw [List.flatMap_append,List.append_assoc,←h.eq,←e]; simp
theorem LI.pre:∀ {ls ms:List (List UInt8)} {b rest:List UInt8},LI b ls rest→AyV ms b→∃ l',ms=ls++l'∧AyV l' rest
 | [],ms,b,rest,h,k=>⟨ms,rfl,k.1,by rw [k.2,←h.eq]; rfl⟩
 | x::ls,[],b,rest,h,k=>by
  have:=congrArg List.length (h.eq.trans k.2.symm)
  rw [List.flatMap_cons,List.length_append,List.length_append,AA9] at this
  simp only [List.flatMap_nil,List.length_nil] at this
  omega
 | x::ls,y::ms,b,rest,h,k=>by
  have e:=h.eq.trans k.2.symm
  rw [List.flatMap_cons,List.flatMap_cons,List.append_assoc] at e
  obtain ⟨rfl,e2⟩:=AL1 (h.ok x (by simp)) (k.1 y (by simp)) e
  obtain ⟨l',rfl,h2⟩:=LI.pre (ls:=ls) (ms:=ms) (b:=ms.flatMap Azb) (rest:=rest) ⟨fun z hz=>h.ok z (by simp [hz]),e2⟩ ⟨fun z hz=>k.1 z (by simp [hz]),rfl⟩
  exact ⟨l',rfl,h2⟩
theorem LI.no {b rest:List UInt8} {ls:List (List UInt8)} (h:LI b ls rest) (hne:rest≠[]) (hno:∀ x s,x.length≤1000→Azb x++s≠rest):∀ ms,¬ AyV ms b:=fun ms k=>by
 obtain ⟨l',rfl,h2⟩:=h.pre k
 cases l' with
 | nil=>exact hne h2.2.symm
 | cons x l''=>exact hno x _ (h2.1 x (by simp)) (by rw [←h2.2]; rfl)
end
end
section
open Go.RowKit Go.Extern.Stop Go.Stop Go.Extern
variable [AyZ]
theorem AUq (t:Addr) (w:World):(ReflectliteValue.unpack (.iface 78 (.pointer (some t)))).run Tryz.prog w
  = .ok (.agg #[.pointer (some ⟨9,78,none⟩),.pointer (some ⟨w.heap.size,0,none⟩),.int .u64 150]) (w.alloc (.cells #[.pointer (some t)] 78)):=by kernel_rfl
theorem A07 (a:Addr) (w:World):(ReflectliteValue.methodAny (ReflectliteValue.valueError "reflectlite.Value.Type" 0) (fun t _ _ _=>ReflectliteType.toType t) #[.agg #[.pointer (some ⟨9,78,none⟩),.pointer (some a),.int .u64 150]]).run Tryz.prog w
  = .ok (.iface 170 (.agg #[.pointer (some ⟨9,78,none⟩)])) w:=by kernel_rfl
theorem ATF (h:Value) (w:World):(Go.method 364 170 (.agg #[h]) "Kind").run Tryz.prog w = .ok (163,h) w:=by kernel_rfl
theorem AZZ (w:World):((ReflectliteType.abiMethod fun t=>(fun a:Nat=>Value.int IntKind.u8 (a:Int)) <$> Rtype.kind t) #[.pointer (some ⟨9,78,none⟩)]).run Tryz.prog w = .ok (.int .u8 22) w:=by kernel_rfl
theorem A2j (w:World):((ReflectliteType.abiMethod fun t=>(fun a:Nat=>Value.int IntKind.u8 (a:Int)) <$> Rtype.kind t) #[.pointer (some ⟨9,33,none⟩)]).run Tryz.prog w = .ok (.int .u8 2) w:=by kernel_rfl
theorem rlm (z:Sem Value) (f:TypeId→Addr→Nat→Nat→Sem Value) (v:Value) :
  ReflectliteValue.method z f #[v]=(do match ← ReflectliteValue.parts v with | none=>z | some (t,a,fl)=>f t a fl (fl % 32)):=rfl
theorem ATN (a:Addr) (w:World):(ReflectliteValue.parts (.agg #[.pointer (some ⟨9,78,none⟩),.pointer (some a),.int .u64 150])).run Tryz.prog w = .ok (some (78,a,150)) w:=by kernel_rfl
theorem AY7 (a p:Addr) (W:World) (ha:W.cell? a=some (.pointer (some p))) :
  (ReflectliteValue.method (ReflectliteValue.valueError "reflectlite.Value.IsNil" 0) ReflectliteValue.isNil #[.agg #[.pointer (some ⟨9,78,none⟩),.pointer (some a),.int .u64 150]]).run Tryz.prog W = .ok (.bool false) W:=by
 rw [rlm]
 simp only [Sem.run_bind,ATN,Result.andThen]
 simp [ReflectliteValue.isNil,loadVar,isAgg,underlying,Tryz.underlying78,ha,Result.andThen]
theorem AS6 (h:Value) (w:World):(Go.method 364 170 (.agg #[h]) "Elem").run Tryz.prog w = .ok (174,.agg #[h]) w:=by kernel_rfl
theorem AL4 (h:Value) (w:World):(Go.method 364 170 (.agg #[h]) "Implements").run Tryz.prog w = .ok (175,.agg #[h]) w:=by kernel_rfl
theorem AJS (h:Value) (w:World):(Go.method 364 170 (.agg #[h]) "AssignableTo").run Tryz.prog w = .ok (172,.agg #[h]) w:=by kernel_rfl
theorem AZI (w:World):(ReflectliteType.method ReflectliteType.elem #[.agg #[.pointer (some ⟨9,78,none⟩)]]).run Tryz.prog w = .ok (.iface 170 (.agg #[.pointer (some ⟨9,33,none⟩)])) w:=by kernel_rfl
theorem AP2 (w:World):(ReflectliteType.relation "Implements" ReflectliteType.implements_ #[.agg #[.pointer (some ⟨9,33,none⟩)],.iface 170 (.agg #[.pointer (some ⟨9,25,none⟩)])]).run Tryz.prog w = .ok (.bool true) w:=by kernel_rfl
theorem AV0 (v:Value) (w:World):(ReflectliteType.typeOf #[.iface 33 v]).run Tryz.prog w = .ok (.iface 170 (.agg #[.pointer (some ⟨9,33,none⟩)])) w:=by kernel_rfl
theorem AP9 (w:World):(ReflectliteType.relation "AssignableTo" ReflectliteType.assignableTo #[.agg #[.pointer (some ⟨9,33,none⟩)],.iface 170 (.agg #[.pointer (some ⟨9,33,none⟩)])]).run Tryz.prog w = .ok (.bool true) w:=by kernel_rfl
theorem AUa (e:Int) (w:World):(ReflectliteValue.unpack (.iface 33 (.int .i64 e))).run Tryz.prog w
  = .ok (.agg #[.pointer (some ⟨9,33,none⟩),.pointer (some ⟨w.heap.size,0,none⟩),.int .u64 130]) (w.alloc (.cells #[.int .i64 e] 33)):=by kernel_rfl
theorem AVQ (w:World):(Rtype.elem? 78).run Tryz.prog w = .ok (some 33) w:=by kernel_rfl
theorem A7C (p:Addr) (w:World):(ReflectliteValue.mk 33 p ReflectliteValue.flagAddr).run Tryz.prog w = .ok (.agg #[.pointer (some ⟨9,33,none⟩),.pointer (some p),.int .u64 386]) w:=by kernel_rfl
theorem AY1 (a p:Addr) (W:World) (ha:W.cell? a=some (.pointer (some p))) :
  (ReflectliteValue.method (ReflectliteValue.valueError "reflectlite.Value.Elem" 0) ReflectliteValue.elem #[.agg #[.pointer (some ⟨9,78,none⟩),.pointer (some a),.int .u64 150]]).run Tryz.prog W
   = .ok (.agg #[.pointer (some ⟨9,33,none⟩),.pointer (some p),.int .u64 386]) W:=by
 rw [rlm]
 simp only [Sem.run_bind,ATN,Result.andThen]
 simp [ReflectliteValue.elem,loadVar,isAgg,underlying,Tryz.underlying78,ha,Result.andThen,AVQ,A7C]
theorem rls (v x:Value):ReflectliteValue.set #[v,x]=(do
  let (some (dst,a,fl),some (src,b,_)):=(←ReflectliteValue.parts v,←ReflectliteValue.parts x)
   | unsupported (.noEntry "extern/(internal/reflectlite.Value).Set.zeroValue")
  if fl / ReflectliteValue.flagAddr % 2 == 0 then unsupported (.noEntry "extern/(internal/reflectlite.Value).Set.unaddressable")
  let val ← loadVar src b
  if ← Rtype.directlyAssignable dst src then storeVar dst a val
  else if ← Rtype.implements dst src then
   if (←Rtype.kind src) == 20 then
    match val with
    | .nilIface=>unsupported (.noEntry "extern/reflectlite: a nil value of one interface type handed on as a value of another")
    | _=>storeVar dst a val
   else storeVar dst a (.iface src val)
  else panicString ("reflectlite.Set: value of type " ++ (←Rtype.spelt src) ++ " is not assignable to type " ++ (←Rtype.spelt dst))
  pure (.tuple #[])):=rfl
theorem AV1 (a:Addr) (w:World):(ReflectliteValue.parts (.agg #[.pointer (some ⟨9,33,none⟩),.pointer (some a),.int .u64 386])).run Tryz.prog w = .ok (some (33,a,386)) w:=by kernel_rfl
theorem AYE (a:Addr) (w:World):(ReflectliteValue.parts (.agg #[.pointer (some ⟨9,33,none⟩),.pointer (some a),.int .u64 130])).run Tryz.prog w = .ok (some (33,a,130)) w:=by kernel_rfl
theorem AVS (w:World):(Rtype.directlyAssignable 33 33).run Tryz.prog w = .ok true w:=by kernel_rfl
theorem A3K (ta b:Addr) (e:Int) (old:Value) (W:World) (hb:W.cell? b=some (.int .i64 e)) (ht:W.cell? ta=some old) (hf:W.frozen? ta=false) :
  (ReflectliteValue.set #[.agg #[.pointer (some ⟨9,33,none⟩),.pointer (some ta),.int .u64 386],.agg #[.pointer (some ⟨9,33,none⟩),.pointer (some b),.int .u64 130]]).run Tryz.prog W
   = .ok (.tuple #[]) (W.setCell ta (.int .i64 e)):=by
 rw [rls]
 simp only [Sem.run_bind,AV1,AYE,Result.andThen]
 simp [ReflectliteValue.flagAddr,loadVar,isAgg,underlying,Tryz.underlying33,hb,Result.andThen,AVS,storeVar,Value.cells,storeCells,Addr.add]
 rw [run_store Tryz.prog W ta _ _ (by rfl)]
 simp [ht,hf]
set_option maxHeartbeats 4000000 in
theorem A71 (e:Int) (t:Addr) (old:Value) (w:World) (hg:w.cell? ⟨0,0,none⟩=some (.iface 170 (.agg #[.pointer (some ⟨9,25,none⟩)]))) (ht0:w.cell? t=some old) (hf0:w.frozen? t=false) :
  Calls Tryz.prog 36 #[.iface 33 (.int .i64 e),.iface 78 (.pointer (some t))] w fun ev w'=>ev = .returned (.bool true)∧w'=((((w.alloc (.cells #[.pointer (some t)] 78)).alloc (.cells #[.pointer (some ⟨9,78,none⟩),.pointer (some ⟨w.heap.size,0,none⟩),.int .u64 150] 124)).alloc (.cells #[.pointer (some ⟨9,78,none⟩),.pointer (some ⟨w.heap.size,0,none⟩),.int .u64 150] 124)).alloc (.cells #[.int .i64 e] 33)).setCell t (.int .i64 e):=by
 have h6:=@run_callFunc_extern Tryz.prog 60 _ (fun args=>ReflectliteValue.unpack (args.getD 0 (.tuple #[]))) Tryz.func60 (by kernel_rfl) (by kernel_rfl) (by kernel_rfl) (by kernel_rfl)
 have h7:=@run_callFunc_extern Tryz.prog 61 _ (ReflectliteValue.methodAny (ReflectliteValue.valueError "reflectlite.Value.Type" 0) (fun t _ _ _=>ReflectliteType.toType t)) Tryz.func61 (by kernel_rfl) (by kernel_rfl) (by kernel_rfl) (by kernel_rfl)
 have h8:=@run_callFunc_extern Tryz.prog 62 _ (ReflectliteValue.method (ReflectliteValue.valueError "reflectlite.Value.IsNil" 0) ReflectliteValue.isNil) Tryz.func62 (by kernel_rfl) (by kernel_rfl) (by kernel_rfl) (by kernel_rfl)
 have h27:=@run_callFunc_extern Tryz.prog 163 _ (ReflectliteType.abiMethod fun t=>do pure (.int .u8 (←Rtype.kind t))) Tryz.func163 (by kernel_rfl) (by kernel_rfl) (by kernel_rfl) (by kernel_rfl)
 have h37:=@run_callFunc_extern Tryz.prog 174 _ (ReflectliteType.method ReflectliteType.elem) Tryz.func174 (by kernel_rfl) (by kernel_rfl) (by kernel_rfl) (by kernel_rfl)
 have h38:=@run_callFunc_extern Tryz.prog 175 _ (ReflectliteType.relation "Implements" ReflectliteType.implements_) Tryz.func175 (by kernel_rfl) (by kernel_rfl) (by kernel_rfl) (by kernel_rfl)
 have h10:=@run_callFunc_extern Tryz.prog 91 _ ReflectliteType.typeOf Tryz.func91 (by kernel_rfl) (by kernel_rfl) (by kernel_rfl) (by kernel_rfl)
 have h35:=@run_callFunc_extern Tryz.prog 172 _ (ReflectliteType.relation "AssignableTo" ReflectliteType.assignableTo) Tryz.func172 (by kernel_rfl) (by kernel_rfl) (by kernel_rfl) (by kernel_rfl)
 have h11:=@run_callFunc_extern Tryz.prog 92 _ (ReflectliteValue.method (ReflectliteValue.valueError "reflectlite.Value.Elem" 0) ReflectliteValue.elem) Tryz.func92 (by kernel_rfl) (by kernel_rfl) (by kernel_rfl) (by kernel_rfl)
 have h12:=@run_callFunc_extern Tryz.prog 93 _ ReflectliteValue.set Tryz.func93 (by kernel_rfl) (by kernel_rfl) (by kernel_rfl) (by kernel_rfl)
 have tO:=AV0
 have mA:=AJS
 have a25:=AP9
 have v25:=AUa
 have f6:=AUq
 have f7:=A07
 have mK:=ATF
 have mE:=AS6
 have mI:=AL4
 have k27:=AZZ
 have k25:=A2j
 have e27:=AZI
 have i25:=AP2
 have n8:=AY7 ⟨w.heap.size,0,none⟩ t ((w.alloc (.cells #[.pointer (some t)] 78)).alloc (.cells #[.pointer (some ⟨9,78,none⟩),.pointer (some ⟨w.heap.size,0,none⟩),.int .u64 150] 124)) (by simp)
 have hlt:0<w.heap.size:=by
  rcases Nat.lt_or_ge 0 w.heap.size with h | h
  ·exact h
  ·simp [World.cell?,Array.getElem?_eq_none h] at hg
 have hg2:((w.alloc (.cells #[.pointer (some t)] 78)).alloc (.cells #[.pointer (some ⟨9,78,none⟩),.pointer (some ⟨w.heap.size,0,none⟩),.int .u64 150] 124)).cell? ⟨0,0,none⟩=some (.iface 170 (.agg #[.pointer (some ⟨9,25,none⟩)])):=by
  rw [World.cell?_alloc_lt _ _ ⟨0,0,none⟩ (Nat.lt_of_lt_of_le hlt (by simp)),World.cell?_alloc_lt _ _ ⟨0,0,none⟩ hlt]; exact hg
 have htl:t.block<w.heap.size:=by
  rcases Nat.lt_or_ge t.block w.heap.size with h | h
  ·exact h
  ·simp [World.cell?,Array.getElem?_eq_none h] at ht0
 have el:=AY1 ⟨w.heap.size,0,none⟩ t (((w.alloc (.cells #[.pointer (some t)] 78)).alloc (.cells #[.pointer (some ⟨9,78,none⟩),.pointer (some ⟨w.heap.size,0,none⟩),.int .u64 150] 124)).alloc (.cells #[.pointer (some ⟨9,78,none⟩),.pointer (some ⟨w.heap.size,0,none⟩),.int .u64 150] 124)) (by rw [World.cell?_alloc_lt _ _ ⟨w.heap.size,0,none⟩ (by simp; omega)]; simp)
 have st:=A3K t ⟨w.heap.size+1+1+1,0,none⟩ e old ((((w.alloc (.cells #[.pointer (some t)] 78)).alloc (.cells #[.pointer (some ⟨9,78,none⟩),.pointer (some ⟨w.heap.size,0,none⟩),.int .u64 150] 124)).alloc (.cells #[.pointer (some ⟨9,78,none⟩),.pointer (some ⟨w.heap.size,0,none⟩),.int .u64 150] 124)).alloc (.cells #[.int .i64 e] 33))
  (by rw [World.cell?_alloc_at _ _ _ _ (by simp)]; rfl)
  (by rw [World.cell?_alloc_lt _ _ t (by simp; omega),World.cell?_alloc_lt _ _ t (by simp; omega),World.cell?_alloc_lt _ _ t (by simp; omega),World.cell?_alloc_lt _ _ t htl]; exact ht0)
  (by rw [World.frozen?_alloc_old _ _ t (by simp; omega),World.frozen?_alloc_old _ _ t (by simp; omega),World.frozen?_alloc_old _ _ t (by simp; omega),World.frozen?_alloc_old _ _ t (Nat.ne_of_lt htl)]; exact hf0)
 go_enter Tryz.func36,Tryz.ntmps36
 go_wp2
 refine wp_loop_rounds 1 ?_
 rw [rounds_succ]
 go_wp2
 go_ret
 exact ⟨rfl,rfl⟩
end
section
variable [AyZ]
set_option maxRecDepth 100000
def AQZ:AyC := .seq (.ops [po_ 2 (.mov (ci_ 0))] [0])
 (.seq (.ops [so_ 3 (.alloc (.val (.int .i64 ((0:Nat):Int))))] [0,3])
 (.seq (.block 0 (.seq (.ops [mv_ 5 0,po_ 6 (.eqN 1 (.t 5) (.c .nilIface) false),mv_ 4 6] [0,3,4])
 (.cond (.t 4)
 (.seq (.ops [po_ 2 (.mov (ci_ 0))] [2])
  (.ret))
 (.seq (.ops [mv_ 8 0,po_ 9 (.iface 78 (.t 3)),so_ 10 (.call 36 [.t 8,.t 9]),mv_ 7 10] [3,7])
  (.cond (.t 7)
  (.seq (.ops [po_ 11 (.load false 1 (.t 3)),mv_ 2 11] [2])
   (.ret))
  (.skip))))))
 (.seq (.ops [po_ 2 (.mov (.c (.int .i64 (-1))))] [2])
 (.ret))))
def AQG:List VR:=[.tmp 2]
theorem AVZ:Tryz.f11.body.bind (trC Tryz.prog Tryz.f11.ntmps)=some (er AQZ):=by kernel_rfl
theorem AWG:trR Tryz.prog Tryz.f11.results.toList=some AQG:=by kernel_rfl
def ASD:=Ayz AQZ.eq_1
theorem ASL {K:TV→Prop} {e:Env} {H:List Ob}:res AQG e H K=res [.tmp 2] e H K:=FI rfl
def ANv:=(aI_ @ASD @ASL)
def APv:=AzX 12 Tryz.func11 AVZ AWG rfl
def AI9:AyC := .seq (.ops [mv_ 13 4,mv_ 14 3,po_ 15 (.idxA 1 (.t 13) (.t 14)),⟨none,.s (.store 1 (.t 15) (.c (.int .u8 ((71:Nat):Int)))),none⟩] [3,4])
 (.seq (.ops [mv_ 16 4,mv_ 17 3,po_ 18 (.bin 3 .add (.t 17) (ci_ 1)),po_ 19 (.idxA 1 (.t 16) (.t 18)),⟨none,.s (.store 1 (.t 19) (.c (.int .u8 ((72:Nat):Int)))),none⟩] [3,4])
 (.seq (.ops [mv_ 20 4,mv_ 21 3,po_ 22 (.slV 1 (.t 20) none (some (.t 21))),mv_ 2 22] [2])
 (.ret)))
def AIS:AyC := .seq (.ops [mv_ 10 4,mv_ 11 0,so_ 12 (.copy 1 (.t 10) (.t 11))] [3,4])
 AI9
def AIW:AyC := .seq (.ops [mv_ 7 3,po_ 8 (.bin 3 .add (.t 7) (ci_ 2)),so_ 9 (.mks 1 1 (.val (.int .u8 ((0:Nat):Int))) (.t 8) (.t 8)),mv_ 4 9] [0,3,4])
 AIS
def AH3:AyC := .seq (.ops [mv_ 5 0,po_ 6 (.lenV (.t 5)),mv_ 3 6] [0,3])
 AIW
def AN0:AyC := .seq (.ops [po_ 2 (.mov (.c (.slice none 0 0)))] [0])
 AH3
def AN7:List VR:=[.tmp 2]
theorem ASA:Tryz.f17.body.bind (trC Tryz.prog Tryz.f17.ntmps)=some (er AN0):=by kernel_rfl
theorem AS1:trR Tryz.prog Tryz.f17.results.toList=some AN7:=by kernel_rfl
def ANe:=Ayz AI9.eq_1
def AM1:=Ayz AIS.eq_1
def AMM:=Ayz AIW.eq_1
def ANh:=Ayz AH3.eq_1
def AQz:=Ayz AN0.eq_1
theorem AP6 {K:TV→Prop} {e:Env} {H:List Ob}:res AN7 e H K=res [.tmp 2] e H K:=FI rfl
def ATO:=(aI_ (aI_ (aI_ @ANe @AM1) (aI_ @AMM @ANh)) (aI_ @AQz @AP6))
def AR8:=AzX 23 Tryz.func17 ASA AS1 rfl
def AIL:AyC := .seq (.seq (.ops [mv_ 36 8,mv_ 37 6,po_ 38 (.lenV (.t 37)),po_ 39 (.bin 3 .lss (.t 36) (.t 38))] [6,7,8,39])
 (.cond (.t 39)
 (.skip)
 (.exit 0)))
 (.seq (.block 1 (.ops [mv_ 42 6,mv_ 43 8,mv_ 44 6,mv_ 45 8,po_ 46 (.idxA 1 (.t 44) (.t 45)),po_ 47 (.load false 1 (.t 46)),po_ 48 (.bin 5 .xor (.t 47) (.c (.int .u8 ((85:Nat):Int)))),po_ 49 (.idxA 1 (.t 42) (.t 43)),⟨none,.s (.store 1 (.t 49) (.t 48)),none⟩] [6,7,8]))
 (.ops [mv_ 40 8,po_ 41 (.bin 3 .add (.t 40) (ci_ 1)),mv_ 8 41] [6,7,8]))
def AJe:AyC := .block 0 (.loop [6,7,8] AIL)
def AIp:AyC := .seq (.ops [mv_ 50 7,mv_ 4 50] [4])
 (.ret)
def AH1:AyC := .seq (.seq (.ops [po_ 8 (.mov (ci_ 0))] [6,7,8])
 AJe)
 AIp
def AI5:AyC := .seq (.ops [mv_ 20 7,mv_ 21 20,⟨some 22,.p (.mov (.t 6)),some ⟨21,true⟩⟩,⟨some 23,.p (.mov (.t 5)),some ⟨21,true⟩⟩,⟨some 24,.p (.idxA 1 (.t 22) (.t 23)),some ⟨21,true⟩⟩,⟨some 25,.p (.load false 1 (.t 24)),some ⟨21,true⟩⟩,⟨some 26,.p (.bin 5 .eql (.t 25) (.c (.int .u8 ((71:Nat):Int)))),some ⟨21,true⟩⟩,po_ 27 (.pick (.t 21) (.t 26) (.c (.bool false))),mv_ 28 27,⟨some 29,.p (.mov (.t 6)),some ⟨28,true⟩⟩,⟨some 30,.p (.mov (.t 5)),some ⟨28,true⟩⟩,⟨some 31,.p (.bin 3 .add (.t 30) (ci_ 1)),some ⟨28,true⟩⟩,⟨some 32,.p (.idxA 1 (.t 29) (.t 31)),some ⟨28,true⟩⟩,⟨some 33,.p (.load false 1 (.t 32)),some ⟨28,true⟩⟩,⟨some 34,.p (.bin 5 .eql (.t 33) (.c (.int .u8 ((72:Nat):Int)))),some ⟨28,true⟩⟩,po_ 35 (.pick (.t 28) (.t 34) (.c (.bool false))),mv_ 7 35] [6,7])
 AH1
def AI7:AyC := .seq (.ops [mv_ 15 6,mv_ 16 5,po_ 17 (.slV 1 (.t 15) none (some (.t 16))),mv_ 18 1,so_ 19 (.call 10 [.t 17,.t 18]),mv_ 7 19] [5,6,7])
 AI5
def AIx:AyC := .seq (.ops [mv_ 11 0,mv_ 12 5,po_ 13 (.bin 3 .add (.t 12) (ci_ 2)),po_ 14 (.slV 1 (.t 11) none (some (.t 13))),mv_ 6 14] [1,5,6])
 AI7
def AJg:AyC := .seq (.ops [mv_ 9 1,po_ 10 (.lenV (.t 9)),mv_ 5 10] [0,1,5])
 AIx
def AN1:AyC := .seq (.ops [po_ 4 (.mov (.c (.bool false)))] [0,1])
 AJg
def AN4:List VR:=[.tmp 4]
theorem ATK:Tryz.f19.body.bind (trC Tryz.prog Tryz.f19.ntmps)=some (er AN1):=by kernel_rfl
theorem ATm:trR Tryz.prog Tryz.f19.results.toList=some AN4:=by kernel_rfl
def AMy:=Ayz AIL.eq_1
def ANq:=Ayz AJe.eq_1
def AMC:=Ayz AIp.eq_1
def AMK:=Ayz AH1.eq_1
def AMI:=Ayz AI5.eq_1
def ANy:=Ayz AI7.eq_1
def AMR:=Ayz AIx.eq_1
def ANE:=Ayz AJg.eq_1
def AQl:=Ayz AN1.eq_1
theorem AQs {K:TV→Prop} {e:Env} {H:List Ob}:res AN4 e H K=res [.tmp 4] e H K:=FI rfl
def AFj:=(aI_ (aI_ (aI_ (aI_ @AMy @ANq) (aI_ @AMC @AMK)) (aI_ (aI_ @AMI @ANy) (aI_ @AMR @ANE))) (aI_ @AQl @AQs))
def AR3:=AzX 51 Tryz.func19 ATK ATm rfl
def AKf:AyC := .seq (.block 1 (.seq (.draw 4 [mv_ 17 0,mv_ 18 5,po_ 19 (.idxA 1 (.t 17) (.t 18)),po_ 20 (.load false 1 (.t 19)),mv_ 21 1,mv_ 22 5,po_ 23 (.idxA 1 (.t 21) (.t 22)),po_ 24 (.load false 1 (.t 23)),po_ 25 (.bin 5 .neq (.t 20) (.t 24))] [0,1,5,25])
 (.cond (.t 25)
 (.seq (.ops [po_ 4 (.mov (.c (.bool false)))] [4])
  (.ret))
 (.skip))))
 (.ops [mv_ 15 5,po_ 16 (.bin 3 .add (.t 15) (ci_ 1)),mv_ 5 16] [0,1,5])
def AJ9:AyC := .seq (.seq (.ops [mv_ 11 5,mv_ 12 0,po_ 13 (.lenV (.t 12)),po_ 14 (.bin 3 .lss (.t 11) (.t 13))] [0,1,5,14])
 (.cond (.t 14)
 (.skip)
 (.exit 0)))
 AKf
def AKq:AyC := .block 0 (.loop [0,1,5] AJ9)
def AKn:AyC := .seq (.ops [po_ 4 (.mov (.c (.bool true)))] [4])
 (.ret)
def AKp:AyC := .seq (.seq (.ops [po_ 5 (.mov (ci_ 0))] [0,1,5])
 AKq)
 AKn
def AKx:AyC := .seq (.seq (.ops [mv_ 6 0,po_ 7 (.lenV (.t 6)),mv_ 8 1,po_ 9 (.lenV (.t 8)),po_ 10 (.bin 3 .neq (.t 7) (.t 9))] [0,1,10])
 (.cond (.t 10)
 (.seq (.ops [po_ 4 (.mov (.c (.bool false)))] [4])
  (.ret))
 (.skip)))
 AKp
def APS:AyC := .seq (.ops [po_ 4 (.mov (.c (.bool false)))] [0,1])
 AKx
def APf:List VR:=[.tmp 4]
theorem AUA:Tryz.f10.body.bind (trC Tryz.prog Tryz.f10.ntmps)=some (er APS):=by kernel_rfl
theorem AUE:trR Tryz.prog Tryz.f10.results.toList=some APf:=by kernel_rfl
def AOI:=Ayz AKf.eq_1
def AOw:=Ayz AJ9.eq_1
def AOH:=Ayz AKq.eq_1
def AOG:=Ayz AKn.eq_1
def AOi:=Ayz AKp.eq_1
def AOp:=Ayz AKx.eq_1
def ARt:=Ayz APS.eq_1
theorem ARb {K:TV→Prop} {e:Env} {H:List Ob}:res APf e H K=res [.tmp 4] e H K:=FI rfl
def AEC:=(aI_ (aI_ (aI_ @AOI @AOw) (aI_ @AOH @AOG)) (aI_ (aI_ @AOi @AOp) (aI_ @ARt @ARb)))
def ATo:=AzX 26 Tryz.func10 AUA AUE rfl
end
section
open Go.RowKit
variable [AyZ] [AzC]
theorem AHR.refl {F:Nat→Prop} {w:World} (h:∀ b,F b→b<w.heap.size):AHR F w F w:=⟨rfl,rfl,rfl,Nat.le_refl _,fun _ _=>rfl,fun _ h=>h,fun _ _ h=>h,h⟩
theorem AHR.alloc {F F':Nat→Prop} {w w':World} (h:AHR F w F' w') (o:Obj):AHR F w F' (w'.alloc o) :=
 ⟨h.os,h.tape,h.output,by have:=h.size; simp; omega,fun b hb=>(AzG w' o (Nat.lt_of_lt_of_le hb h.size)).trans (h.same b hb),h.keepF,h.oldF,fun b hb=>by have:=h.ltF b hb; simp; omega⟩
abbrev eno (n:Int):TV := .ifc 33 (i64 n)
theorem A0j {n:Int} {id ver:Nat} {p:List (Nat×Nat)} {x x':TV} {H:List Ob} {K:TV→List Ob→Prop} (ho:H[id]?=some (.obj ver x)) (hs2:AFF p x (i64 n)=some x') (hk:K (tb true) (H.set id (.obj ver x'))) :
  AyI Tryz.prog 36 [eno n,.ifc 78 (.op id ver p)] H K:=by
 intro β F w vs hs hv
 obtain ⟨u,us,rfl,h1,h2⟩:=Azd.cons.1 hv
 obtain ⟨u2,us2,rfl,h3,h4⟩:=Azd.cons.1 h2
 rw [Azd.nil] at h4; subst h4
 -- the two arguments
 have e1:u = .iface 33 (.int .i64 n):=by
  rcases h1 with h | h | ⟨xs0,h,rfl⟩
  ·cases h
  ·cases h
  ·rw [AyG] at h
   obtain ⟨v,rfl,vs,h,rfl⟩:=h
   rw [AyG] at h
   obtain ⟨rfl,_⟩:=h
   rfl
 obtain ⟨b,o,hbo,rfl⟩:∃ b o,β id ver=some (b,o)∧u2 = .iface 78 (.pointer (some ⟨b,o+AzJ p,none⟩)):=by
  rcases h3 with h | h | ⟨xs0,h,rfl⟩
  ·cases h
  ·cases h
  ·rw [AyG] at h
   obtain ⟨v,rfl,vs,h,rfl⟩:=h
   rw [AyG] at h
   obtain ⟨_,b,o,hb,rfl⟩:=h
   exact ⟨b,o,hb,rfl⟩
 subst e1
 have hgl:=hs.glob.at AzC.k
 have hg:w.cell? ⟨0,0,none⟩=some (.iface 170 (.agg #[.pointer (some ⟨9,25,none⟩)])):=hgl 0 _ rfl
 have hrow:∀ c w,AyG c w (i64 n) [.int .i64 n]:=fun c w=>by rw [AyG]; exact ⟨rfl,rfl⟩
 obtain ⟨_,_,ht⟩:=hs.store ho hbo hs2 (hrow _ _)
 obtain ⟨t1,t2⟩:=ht 0 (by simp)
 obtain ⟨old,hold⟩:=Option.isSome_iff_exists.1 t1
 refine (A71 n ⟨b,o+AzJ p,none⟩ old w hg hold t2).mono ?_
 rintro e w' ⟨rfl,rfl⟩
 have hst:=((((AHR.refl (F:=F) hs.lt).alloc (.cells #[.pointer (some ⟨b,o+AzJ p,none⟩)] 78)).alloc (.cells #[.pointer (some ⟨9,78,none⟩),.pointer (some ⟨w.heap.size,0,none⟩),.int .u64 150] 124)).alloc (.cells #[.pointer (some ⟨9,78,none⟩),.pointer (some ⟨w.heap.size,0,none⟩),.int .u64 150] 124)).alloc (.cells #[.int .i64 n] 33)
 obtain ⟨k1,k2,_⟩:=(hst.sim hs).store ho hbo hs2 (hrow _ _)
 exact ⟨_,tb true,β,_,F,rfl,hk,k1,hst.later.trans k2,Rep.of_val⟩
theorem BbH {n:Int}:Azk Tryz.prog 11 [eno n] (fun x=>x=i64 n):=by
 refine AyI.toPureV (APv (by simp) ?_)
 simp -dsimp (disch:=first | assumption | omega) only [↓AyF,AyB,AyE,AyD,eq_self,Nat.reduceEqDiff,↓reduceIte,reduceCtorEq,↓ANv]
 refine A0j (x:=i64 ((0:Nat):Int)) (x':=i64 n) rfl (by rw [AJN]; rfl) ?_
 simp -dsimp (disch:=first | assumption | omega) only [↓AyF,AyB,AyE,AyD,eq_self,Nat.reduceEqDiff,↓reduceIte,reduceCtorEq,↓ANv]
theorem A7Q:Azk Tryz.prog 11 [.val .nilIface] (fun x=>x=i64 ((0:Nat):Int)):=by
 refine AyI.toPureV (APv (by simp) ?_)
 simp -dsimp (disch:=first | assumption | omega) only [↓AyF,AyB,AyE,AyD,eq_self,Nat.reduceEqDiff,↓reduceIte,reduceCtorEq,↓ANv]
end
section
open Go.RowKit
variable [AyZ]
variable {P:Program}
def AUu (P:Program) (f:FuncId) (args:List TV) (R:TV→Prop) (RP:Value→Prop):Prop :=
 ∀ (β:Nat→Nat→Option (Nat×Nat)) (F:Nat→Prop) (w:World) (vs:List Value),((∀ b,F b→b<w.heap.size)∧ADv F w)→Azd ⟨β,[],F⟩ w args vs →
  Calls P f vs.toArray w fun e w'=>∃ F',AHR F w F' w'∧((∃ v x,e = .returned v∧R x∧Rep ⟨β,[],fun b=>F' b∧w.heap.size≤b⟩ w' x v)∨∃ u,e = .panicked [{ v:=u,recovered:=false }]∧RP u)
theorem AUu.mono {f:FuncId} {args:List TV} {R R':TV→Prop} {RP RP':Value→Prop} (h:AUu P f args R RP) (hr:∀ x,R x→R' x) (hp:∀ u,RP u→RP' u):AUu P f args R' RP' :=
 fun β F w vs hF hv=>(h β F w vs hF hv).mono fun _ _ ⟨F',h1,h2⟩=>⟨F',h1,h2.imp (fun ⟨v,x,k1,k2,k3⟩=>⟨v,x,k1,hr _ k2,k3⟩) fun ⟨u,k1,k2⟩=>⟨u,k1,hp _ k2⟩⟩
def A8e (x x':TV):Prop:=∀ (c:Ctx) (w:World) (v:Value),AWJ c w x v→AWJ c w x' v
inductive ASo:List TV→List TV→Prop
 | nil:ASo [] []
 | cons {x x':TV} {xs xs':List TV}:A8e x x'→ASo xs xs'→ASo (x::xs) (x'::xs')
theorem ASo.rep {c:Ctx} {w:World} {xs xs':List TV} (h:ASo xs xs'):∀ {vs:List Value},Azd c w xs vs→Azd c w xs' vs:=by
 induction h with
 | nil=>exact fun h=>h
 | cons h1 h2 ih =>
  intro vs hv
  rw [Azd.cons] at hv ⊢
  obtain ⟨u,us,rfl,k1,k2⟩:=hv
  exact ⟨u,us,rfl,h1 _ _ _ k1,ih k2⟩
theorem AOQ {k:Nat}:A8e (.val (.slice none 0 0)) (.sl k []):=fun c w v h=>by
 have hv:v = .slice none 0 0:=by
  have h':Rep c w (.val (.slice none 0 0)) v := .inl h
  rw [Rep.val] at h'; exact h'
 subst hv
 refine .inr (.inr ⟨[.slice none 0 0],?_,rfl⟩)
 rw [AyG]
 exact ⟨by simp,.inl ⟨rfl,none,0,rfl,by omega⟩⟩
theorem Azk.argL {f:FuncId} {args args':List TV} {R:TV→Prop} (h:Azk P f args' R) (hc:ASo args args'):Azk P f args R :=
 fun β F w vs hF hv=>h β F w vs hF (hc.rep hv)
theorem ASo.tup {xs xs':List TV} (h:ASo xs xs'):∀ (c:Ctx) (w:World) (v:Value),Rep c w (.tup xs) v→Rep c w (.tup xs') v:=by
 rintro c w v ((h1 | h1 | ⟨us,h1,_⟩) | ⟨ys,vs,h1,h2,h3⟩)
 ·cases h1
 ·cases h1
 ·rw [AyG] at h1; exact h1.elim
 ·cases h1
  exact .inr ⟨xs',vs,rfl,h2,h.rep h3⟩
end
section
variable [AyZ]
set_option maxRecDepth 100000
def ADN:AyC := .seq (.seq (.ops [mv_ 5 1,po_ 6 (.lenV (.t 5)),po_ 7 (.bin 3 .eql (.t 6) (ci_ 0))] [0,1,7])
 (.cond (.t 7)
 (.seq (.ops [mv_ 8 0,so_ 9 (.appS 5 (.t 8) (.c (.string (str [48,48,48,48])))),mv_ 4 9] [4])
  (.ret))
 (.skip)))
 (.seq (.ops [mv_ 10 0,mv_ 11 1,po_ 12 (.lenV (.t 11)),po_ 13 (.bin 3 .add (.t 12) (ci_ 4)),so_ 14 (.call 86 [.t 13]),so_ 15 (.appS 5 (.t 10) (.t 14)),mv_ 16 1,so_ 17 (.app 1 1 5 (.t 15) (.t 16)),mv_ 4 17] [4])
 (.ret))
def AGj:AyC := .seq (.ops [po_ 4 (.mov (.c (.slice none 0 0)))] [0,1])
 ADN
def AGk:List VR:=[.tmp 4]
theorem ANc:Tryz.f54.body.bind (trC Tryz.prog Tryz.f54.ntmps)=some (er AGj):=by kernel_rfl
theorem AMP:trR Tryz.prog Tryz.f54.results.toList=some AGk:=by kernel_rfl
def AHW:=Ayz ADN.eq_1
def AKF:=Ayz AGj.eq_1
theorem AKN {K:TV→Prop} {e:Env} {H:List Ob}:res AGk e H K=res [.tmp 4] e H K:=FI rfl
def AyW:=(aI_ (aI_ @AHW @AKF) @AKN)
def AE6:=AzX 18 Tryz.func54 ANc AMP rfl
def AHz:AyC := .seq (.draw 12 [mv_ 3 0,po_ 4 (.bin 3 .shr (.t 3) (.c (.int .u64 ((12:Nat):Int)))),po_ 5 (.bin 3 .and (.t 4) (ci_ 15)),po_ 6 (.idxS (.c (.string (str [48,49,50,51,52,53,54,55,56,57,97,98,99,100,101,102]))) (.t 5)),mv_ 7 0,po_ 8 (.bin 3 .shr (.t 7) (.c (.int .u64 ((8:Nat):Int)))),po_ 9 (.bin 3 .and (.t 8) (ci_ 15)),po_ 10 (.idxS (.c (.string (str [48,49,50,51,52,53,54,55,56,57,97,98,99,100,101,102]))) (.t 9)),mv_ 11 0,po_ 12 (.bin 3 .shr (.t 11) (.c (.int .u64 ((4:Nat):Int)))),po_ 13 (.bin 3 .and (.t 12) (ci_ 15)),po_ 14 (.idxS (.c (.string (str [48,49,50,51,52,53,54,55,56,57,97,98,99,100,101,102]))) (.t 13)),mv_ 15 0,po_ 16 (.bin 3 .and (.t 15) (ci_ 15)),po_ 17 (.idxS (.c (.string (str [48,49,50,51,52,53,54,55,56,57,97,98,99,100,101,102]))) (.t 16)),⟨some 18,.s (.bslice 1 4 (.val (.int .u8 ((0:Nat):Int))) [⟨0,.t 6⟩,⟨1,.t 10⟩,⟨2,.t 14⟩,⟨3,.t 17⟩]),none⟩,po_ 19 (.b2s (.t 18)),mv_ 2 19] [2])
 (.ret)
def AMe:AyC := .seq (.ops [po_ 2 (.mov (.c (.string (str []))))] [0])
 AHz
def AL8:List VR:=[.tmp 2]
theorem ARJ:Tryz.f86.body.bind (trC Tryz.prog Tryz.f86.ntmps)=some (er AMe):=by kernel_rfl
theorem AR7:trR Tryz.prog Tryz.f86.results.toList=some AL8:=by kernel_rfl
def ALB:=Ayz AHz.eq_1
def AO9:=Ayz AMe.eq_1
theorem APm {K:TV→Prop} {e:Env} {H:List Ob}:res AL8 e H K=res [.tmp 2] e H K:=FI rfl
def AR6:=(aI_ (aI_ @ALB @AO9) @APm)
def AQi:=AzX 20 Tryz.func86 ARJ AR7 rfl
def AKk:AyC := .seq (.seq (.ops [mv_ 23 4,po_ 24 (.eqN 1 (.t 23) (.c .nilIface) true),mv_ 25 24,⟨some 26,.p (.mov (.t 6)),some ⟨25,false⟩⟩,⟨some 27,.p (.conv .i64 (.t 26)),some ⟨25,false⟩⟩,⟨some 28,.s (.call 86 [.t 27]),some ⟨25,false⟩⟩,⟨some 29,.p (.mov (.t 5)),some ⟨25,false⟩⟩,⟨some 30,.p (.bin 9 .neq (.t 28) (.t 29)),some ⟨25,false⟩⟩,po_ 31 (.pick (.t 25) (.c (.bool true)) (.t 30)),mv_ 32 31,⟨some 33,.p (.mov (.t 6)),some ⟨32,false⟩⟩,⟨some 34,.p (.bin 190 .leq (.t 33) (.c (.int .u64 ((4:Nat):Int)))),some ⟨32,false⟩⟩,po_ 35 (.pick (.t 32) (.c (.bool true)) (.t 34)),mv_ 36 35,⟨some 37,.p (.mov (.t 6)),some ⟨36,false⟩⟩,⟨some 38,.p (.bin 190 .gtr (.t 37) (.c (.int .u64 ((1004:Nat):Int)))),some ⟨36,false⟩⟩,po_ 39 (.pick (.t 36) (.c (.bool true)) (.t 38)),mv_ 40 39,⟨some 41,.p (.mov (.t 6)),some ⟨40,false⟩⟩,⟨some 42,.p (.mov (.t 0)),some ⟨40,false⟩⟩,⟨some 43,.p (.lenV (.t 42)),some ⟨40,false⟩⟩,⟨some 44,.p (.conv .u64 (.t 43)),some ⟨40,false⟩⟩,⟨some 45,.p (.bin 190 .gtr (.t 41) (.t 44)),some ⟨40,false⟩⟩,po_ 46 (.pick (.t 40) (.c (.bool true)) (.t 45))] [0,6,46])
 (.cond (.t 46)
 (.seq (.ops [po_ 47 (.iface 33 (ci_ 110)),po_ 2 (.mov (.c (.slice none 0 0))),po_ 3 (.mov (.c (.slice none 0 0))),mv_ 4 47] [2,3,4])
  (.ret))
 (.skip)))
 (.seq (.draw 3 [mv_ 48 0,mv_ 49 6,po_ 50 (.slV 1 (.t 48) (some (ci_ 4)) (some (.t 49))),mv_ 51 0,mv_ 52 6,po_ 53 (.slV 1 (.t 51) (some (.t 52)) none),mv_ 2 50,mv_ 3 53,po_ 4 (.mov (.c .nilIface))] [2,3,4])
 (.ret))
def AKc:AyC := .seq (.ops [mv_ 19 5,so_ 20 (.call 103 [.t 19,.c (.int .i64 ((16:Nat):Int)),.c (.int .i64 ((16:Nat):Int))]),mv_ 18 20,po_ 21 (.ext 0 (.t 18)),po_ 22 (.ext 1 (.t 18)),mv_ 6 21,mv_ 4 22] [0,4,5,6])
 AKk
def AKm:AyC := .seq (.seq (.ops [mv_ 14 5,po_ 15 (.bin 9 .eql (.t 14) (.c (.string (str [48,48,48,48]))))] [0,5,15])
 (.cond (.t 15)
 (.seq (.draw 2 [mv_ 16 0,po_ 17 (.slV 1 (.t 16) (some (ci_ 4)) none),po_ 2 (.mov (.c (.slice none 0 0))),mv_ 3 17,po_ 4 (.mov (.c .nilIface))] [2,3,4])
  (.ret))
 (.skip)))
 AKc
def AKe:AyC := .seq (.ops [mv_ 11 0,po_ 12 (.slV 1 (.t 11) none (some (ci_ 4))),po_ 13 (.b2s (.t 12)),mv_ 5 13] [0,5])
 AKm
def AKv:AyC := .seq (.seq (.ops [mv_ 7 0,po_ 8 (.lenV (.t 7)),po_ 9 (.bin 3 .lss (.t 8) (ci_ 4))] [0,9])
 (.cond (.t 9)
 (.seq (.ops [po_ 10 (.iface 33 (ci_ 110)),po_ 2 (.mov (.c (.slice none 0 0))),po_ 3 (.mov (.c (.slice none 0 0))),mv_ 4 10] [2,3,4])
  (.ret))
 (.skip)))
 AKe
def APg:AyC := .seq (.ops [po_ 2 (.mov (.c (.slice none 0 0))),po_ 3 (.mov (.c (.slice none 0 0))),po_ 4 (.mov (.c .nilIface))] [0])
 AKv
def APn:List VR:=[.tmp 2,.tmp 3,.tmp 4]
theorem AUC:Tryz.f77.body.bind (trC Tryz.prog Tryz.f77.ntmps)=some (er APg):=by kernel_rfl
theorem AUw:trR Tryz.prog Tryz.f77.results.toList=some APn:=by kernel_rfl
def AHJ:=Ayz AKk.eq_1
def AOz:=Ayz AKc.eq_1
def AG2:=Ayz AKm.eq_1
def AHw:=Ayz AKe.eq_1
def ADi:=Ayz AKv.eq_1
def AGL:=Ayz APg.eq_1
theorem Az1 {K:TV→Prop} {e:Env} {H:List Ob}:res APn e H K=res [.tmp 2,.tmp 3,.tmp 4] e H K:=FI rfl
def ASu:=AzX 54 Tryz.func77 AUC AUw rfl
def AIh:AyC := .seq (.seq (.ops [mv_ 17 7,po_ 18 (.eqN 1 (.t 17) (.c .nilIface) true)] [4,5,6,7,18])
 (.cond (.t 18)
 (.seq (.ops [mv_ 19 7,po_ 2 (.mov (.c (.slice none 0 0))),mv_ 3 19] [2,3])
  (.ret))
 (.skip)))
 (.seq (.ops [mv_ 20 4,mv_ 21 5,so_ 22 (.call 81 [.t 21]),⟨some 23,.s (.bslice 1 1 (.val (.slice none 0 0)) [⟨0,.t 22⟩]),none⟩,so_ 24 (.app 1 24 23 (.t 20) (.t 23)),mv_ 4 24] [4,6])
 (.ops [mv_ 25 6,mv_ 0 25] [0,4]))
def AIq:AyC := .block 1 (.seq (.ops [mv_ 12 0,so_ 13 (.call 77 [.t 12]),mv_ 11 13,po_ 14 (.ext 0 (.t 11)),po_ 15 (.ext 1 (.t 11)),po_ 16 (.ext 2 (.t 11)),mv_ 5 14,mv_ 6 15,mv_ 7 16] [4,5,6,7])
 AIh)
def AIs:AyC := .seq (.seq (.ops [mv_ 8 0,po_ 9 (.lenV (.t 8)),po_ 10 (.bin 3 .gtr (.t 9) (ci_ 0))] [0,4,10])
 (.cond (.t 10)
 (.skip)
 (.exit 0)))
 AIq
def AIF:AyC := .seq (.ops [mv_ 26 4,mv_ 2 26,po_ 3 (.mov (.c .nilIface))] [2,3])
 (.ret)
def AIE:AyC := .seq (.block 0 (.own 4 1 (.loop [0,4] AIs)))
 AIF
def AI3:AyC := .seq (.ops [po_ 4 (.mov (.c (.slice none 0 0)))] [0,4])
 AIE
def ANL:AyC := .seq (.ops [po_ 2 (.mov (.c (.slice none 0 0))),po_ 3 (.mov (.c .nilIface))] [0])
 AI3
def ANX:List VR:=[.tmp 2,.tmp 3]
theorem ATs:Tryz.f94.body.bind (trC Tryz.prog Tryz.f94.ntmps)=some (er ANL):=by kernel_rfl
theorem ATf:trR Tryz.prog Tryz.f94.results.toList=some ANX:=by kernel_rfl
def AFN:=Ayz AIh.eq_1
def AM3:=Ayz AIq.eq_1
def AF4:=Ayz AIs.eq_1
def AMQ:=Ayz AIF.eq_1
def ANn:=Ayz AIE.eq_1
def AMA:=Ayz AI3.eq_1
def AQa:=Ayz ANL.eq_1
theorem AKh {K:TV→Prop} {e:Env} {H:List Ob}:res ANX e H K=res [.tmp 2,.tmp 3] e H K:=FI rfl
def ARD:=AzX 27 Tryz.func94 ATs ATf rfl
def AJh:AyC := .seq (.block 1 (.seq (.ops [po_ 21 (.idxA 1 (.t 17) (.t 19)),po_ 22 (.load false 1 (.t 21)),mv_ 8 22] [6,8,17,18,19])
 (.ops [mv_ 23 6,mv_ 24 8,po_ 25 (.b2s (.t 24)),so_ 26 (.call 79 [.t 25,.c (.string (str [10]))]),so_ 27 (.call 78 [.t 26,.c (.string (str [32]))]),⟨some 28,.s (.bslice 1 1 (.val (.slice none 0 0)) [⟨0,.t 27⟩]),none⟩,so_ 29 (.app 1 24 111 (.t 23) (.t 28)),mv_ 6 29] [6,17,18,19])))
 (.ops [po_ 30 (.bin 3 .add (.t 19) (ci_ 1)),mv_ 19 30] [6,17,18,19])
def AH9:AyC := .seq (.cond (.t 20)
 (.skip)
 (.exit 0))
 AJh
def AIb:AyC := .seq (.ops [po_ 20 (.bin 3 .lss (.t 19) (.t 18))] [6,17,18,19,20])
 AH9
def AIA:AyC := .block 0 (.own 6 1 (.loop [6,17,18,19] AIb))
def AJw:AyC := .seq (.ops [mv_ 31 6,mv_ 2 31,po_ 3 (.mov (.c .nilIface))] [2,3])
 (.ret)
def AJr:AyC := .seq (.seq (.ops [mv_ 17 4,po_ 18 (.lenV (.t 17)),po_ 19 (.mov (ci_ 0))] [6,17,18,19])
 AIA)
 AJw
def AIr:AyC := .seq (.ops [po_ 6 (.mov (.c (.slice none 0 0)))] [4,6])
 AJr
def AI1:AyC := .seq (.seq (.ops [mv_ 14 5,po_ 15 (.eqN 1 (.t 14) (.c .nilIface) true)] [4,5,15])
 (.cond (.t 15)
 (.seq (.ops [mv_ 16 5,po_ 2 (.mov (.c (.slice none 0 0))),mv_ 3 16] [2,3])
  (.ret))
 (.skip)))
 AIr
def AJa:AyC := .seq (.ops [mv_ 10 0,so_ 11 (.call 94 [.t 10]),mv_ 9 11,po_ 12 (.ext 0 (.t 9)),po_ 13 (.ext 1 (.t 9)),mv_ 4 12,mv_ 5 13] [4,5])
 AI1
def ANQ:AyC := .seq (.ops [po_ 2 (.mov (.c (.slice none 0 0))),po_ 3 (.mov (.c .nilIface))] [0])
 AJa
def AN2:List VR:=[.tmp 2,.tmp 3]
theorem ASs:Tryz.f64.body.bind (trC Tryz.prog Tryz.f64.ntmps)=some (er ANQ):=by kernel_rfl
theorem ASY:trR Tryz.prog Tryz.f64.results.toList=some AN2:=by kernel_rfl
def AF8:=Ayz AJh.eq_1
def ACs:=Ayz AH9.eq_1
def ACC:=Ayz AIb.eq_1
def AMu:=Ayz AIA.eq_1
def AMB:=Ayz AJw.eq_1
def AM5:=Ayz AJr.eq_1
def AMz:=Ayz AIr.eq_1
def AF2:=Ayz AI1.eq_1
def AMJ:=Ayz AJa.eq_1
def AQt:=Ayz ANQ.eq_1
theorem AKd {K:TV→Prop} {e:Env} {H:List Ob}:res AN2 e H K=res [.tmp 2,.tmp 3] e H K:=FI rfl
def AR2:=AzX 32 Tryz.func64 ASs ASY rfl
def ANV:AyC := .seq (.ops [po_ 6 (.mov (.c .nilIface))] [0,1,2])
 (.seq (.seq (.ops [mv_ 7 2,po_ 8 (.eqN 1 (.t 7) (.c .nilIface) true),mv_ 9 8,⟨some 10,.p (.mov (.t 0)),some ⟨9,false⟩⟩,⟨some 11,.p (.mov (.t 1)),some ⟨9,false⟩⟩,⟨some 12,.s (.call 96 [.t 10,.t 11]),some ⟨9,false⟩⟩,⟨some 13,.p (.un .not (.t 12)),some ⟨9,false⟩⟩,po_ 14 (.pick (.t 9) (.c (.bool true)) (.t 13))] [14])
 (.cond (.t 14)
 (.seq (.ops [po_ 15 (.iface 33 (ci_ 111)),mv_ 6 15] [6])
  (.ret))
 (.skip)))
 (.seq (.ops [po_ 6 (.mov (.c .nilIface))] [6])
 (.ret)))
def AN8:List VR:=[.tmp 6]
theorem ASE:Tryz.f66.body.bind (trC Tryz.prog Tryz.f66.ntmps)=some (er ANV):=by kernel_rfl
theorem ASR:trR Tryz.prog Tryz.f66.results.toList=some AN8:=by kernel_rfl
def AKj:=Ayz ANV.eq_1
theorem AFt {K:TV→Prop} {e:Env} {H:List Ob}:res AN8 e H K=res [.tmp 6] e H K:=FI rfl
def AMn:=AzX 16 Tryz.func66 ASE ASR rfl
def AGS:AyC := .ops [mv_ 4 0,mv_ 5 0,po_ 6 (.nilc (.t 5)),po_ 7 (.fieldA 1 1 (.t 6)),po_ 8 (.load false 1 (.t 7)),mv_ 9 8,⟨some 10,.p (.mov (.t 1)),some ⟨9,false⟩⟩,⟨some 11,.p (.un .not (.t 10)),some ⟨9,false⟩⟩,po_ 12 (.pick (.t 9) (.c (.bool true)) (.t 11)),po_ 13 (.nilc (.t 4)),po_ 14 (.fieldA 1 1 (.t 13)),⟨none,.s (.store 1 (.t 14) (.t 12)),none⟩] []
def AG5:List VR:=[]
theorem AOF:Tryz.f27.body.bind (trC Tryz.prog Tryz.f27.ntmps)=some (er AGS):=by kernel_rfl
theorem AOs:trR Tryz.prog Tryz.f27.results.toList=some AG5:=by kernel_rfl
def AMr:=Ayz AGS.eq_1
theorem ALP {K:TV→Prop} {e:Env} {H:List Ob}:res AG5 e H K=res [] e H K:=FI rfl
def AHm:=(aI_ @AMr @ALP)
def ANr:=AzX 15 Tryz.func27 AOF AOs rfl
def AJb:AyC := .sdraw 5 [mv_ 4 0,mv_ 5 0,po_ 6 (.nilc (.t 5)),po_ 7 (.fieldA 0 0 (.t 6)),po_ 8 (.load false 1 (.t 7)),mv_ 9 1,so_ 10 (.call 55 [.t 9,.c (.string (str [32]))]),po_ 11 (.bin 9 .add (.t 10) (.c (.string (str [10])))),so_ 12 (.s2b (.t 11)),so_ 13 (.call 54 [.t 8,.t 12]),po_ 14 (.nilc (.t 4)),po_ 15 (.fieldA 0 0 (.t 14)),⟨none,.s (.store 1 (.t 15) (.t 13)),none⟩] []
def AIl:List VR:=[]
theorem APe:Tryz.f29.body.bind (trC Tryz.prog Tryz.f29.ntmps)=some (er AJb):=by kernel_rfl
theorem APL:trR Tryz.prog Tryz.f29.results.toList=some AIl:=by kernel_rfl
def ANo:=Ayz AJb.eq_1
theorem ANd {K:TV→Prop} {e:Env} {H:List Ob}:res AIl e H K=res [] e H K:=FI rfl
def APy:=(aI_ @ANo @ANd)
def AOl:=AzX 16 Tryz.func29 APe APL rfl
def AGi:AyC := .ops [mv_ 2 0,mv_ 3 0,po_ 4 (.nilc (.t 3)),po_ 5 (.fieldA 0 0 (.t 4)),po_ 6 (.load false 1 (.t 5)),so_ 7 (.appS 5 (.t 6) (.c (.string (str [48,48,48,48])))),po_ 8 (.nilc (.t 2)),po_ 9 (.fieldA 0 0 (.t 8)),⟨none,.s (.store 1 (.t 9) (.t 7)),none⟩] []
def AGr:List VR:=[]
theorem ANu:Tryz.f31.body.bind (trC Tryz.prog Tryz.f31.ntmps)=some (er AGi):=by kernel_rfl
theorem AM9:trR Tryz.prog Tryz.f31.results.toList=some AGr:=by kernel_rfl
def AKG:=Ayz AGi.eq_1
theorem AK5 {K:TV→Prop} {e:Env} {H:List Ob}:res AGr e H K=res [] e H K:=FI rfl
def AFR:=(aI_ @AKG @AK5)
def ALe:=AzX 10 Tryz.func31 ANu AM9 rfl
def AEb:AyC := .seq (.seq (.ops [mv_ 4 0,po_ 5 (.nilc (.t 4)),po_ 6 (.fieldA 1 1 (.t 5)),po_ 7 (.load false 1 (.t 6))] [0,7])
 (.cond (.t 7)
 (.seq (.ops [po_ 8 (.iface 33 (ci_ 111)),po_ 2 (.mov (.c (.slice none 0 0))),mv_ 3 8] [2,3])
  (.ret))
 (.skip)))
 (.seq (.ops [mv_ 9 0,po_ 10 (.nilc (.t 9)),po_ 11 (.fieldA 0 0 (.t 10)),po_ 12 (.load false 1 (.t 11)),mv_ 2 12,po_ 3 (.mov (.c .nilIface))] [2,3])
 (.ret))
def AHE:AyC := .seq (.ops [po_ 2 (.mov (.c (.slice none 0 0))),po_ 3 (.mov (.c .nilIface))] [0])
 AEb
def AHx:List VR:=[.tmp 2,.tmp 3]
theorem AOD:Tryz.f32.body.bind (trC Tryz.prog Tryz.f32.ntmps)=some (er AHE):=by kernel_rfl
theorem AOj:trR Tryz.prog Tryz.f32.results.toList=some AHx:=by kernel_rfl
def AIT:=Ayz AEb.eq_1
def AMh:=Ayz AHE.eq_1
theorem ALr {K:TV→Prop} {e:Env} {H:List Ob}:res AHx e H K=res [.tmp 2,.tmp 3] e H K:=FI rfl
def AGR:=(aI_ (aI_ @AIT @AMh) @ALr)
def ANb:=AzX 13 Tryz.func32 AOD AOj rfl
def AGl:AyC := .seq (.draw 12 [mv_ 3 0,po_ 4 (.bin 3 .quo (.t 3) (ci_ 4096)),po_ 5 (.bin 3 .rem (.t 4) (ci_ 16)),po_ 6 (.idxS (.c (.string (str [48,49,50,51,52,53,54,55,56,57,97,98,99,100,101,102]))) (.t 5)),mv_ 7 0,po_ 8 (.bin 3 .quo (.t 7) (ci_ 256)),po_ 9 (.bin 3 .rem (.t 8) (ci_ 16)),po_ 10 (.idxS (.c (.string (str [48,49,50,51,52,53,54,55,56,57,97,98,99,100,101,102]))) (.t 9)),mv_ 11 0,po_ 12 (.bin 3 .quo (.t 11) (ci_ 16)),po_ 13 (.bin 3 .rem (.t 12) (ci_ 16)),po_ 14 (.idxS (.c (.string (str [48,49,50,51,52,53,54,55,56,57,97,98,99,100,101,102]))) (.t 13)),mv_ 15 0,po_ 16 (.bin 3 .rem (.t 15) (ci_ 16)),po_ 17 (.idxS (.c (.string (str [48,49,50,51,52,53,54,55,56,57,97,98,99,100,101,102]))) (.t 16)),⟨some 18,.s (.bslice 1 4 (.val (.int .u8 ((0:Nat):Int))) [⟨0,.t 6⟩,⟨1,.t 10⟩,⟨2,.t 14⟩,⟨3,.t 17⟩]),none⟩,po_ 19 (.b2s (.t 18)),mv_ 2 19] [2])
 (.ret)
def AKw:AyC := .seq (.ops [po_ 2 (.mov (.c (.string (str []))))] [0])
 AGl
def AJ8:List VR:=[.tmp 2]
theorem AQk:Tryz.f90.body.bind (trC Tryz.prog Tryz.f90.ntmps)=some (er AKw):=by kernel_rfl
theorem AQw:trR Tryz.prog Tryz.f90.results.toList=some AJ8:=by kernel_rfl
def AKM:=Ayz AGl.eq_1
def AOt:=Ayz AKw.eq_1
theorem AOn {K:TV→Prop} {e:Env} {H:List Ob}:res AJ8 e H K=res [.tmp 2] e H K:=FI rfl
def AP8:=(aI_ (aI_ @AKM @AOt) @AOn)
def APr:=AzX 20 Tryz.func90 AQk AQw rfl
def AId:AyC := .seq (.seq (.ops [mv_ 3 0,po_ 4 (.lenV (.t 3)),po_ 5 (.bin 3 .eql (.t 4) (ci_ 0))] [0,5])
 (.cond (.t 5)
 (.seq (.ops [⟨some 6,.s (.bslice 1 4 (.val (.int .u8 ((0:Nat):Int))) [⟨0,.c (.int .u8 ((48:Nat):Int))⟩,⟨1,.c (.int .u8 ((48:Nat):Int))⟩,⟨2,.c (.int .u8 ((48:Nat):Int))⟩,⟨3,.c (.int .u8 ((48:Nat):Int))⟩]),none⟩,so_ 7 (.cvS (.t 6)),mv_ 2 7] [2])
  (.ret))
 (.skip)))
 (.seq (.ops [mv_ 8 0,po_ 9 (.lenV (.t 8)),po_ 10 (.bin 3 .add (.t 9) (ci_ 4)),so_ 11 (.call 90 [.t 10]),so_ 12 (.s2b (.t 11)),mv_ 13 0,so_ 14 (.app 1 1 5 (.t 12) (.t 13)),mv_ 2 14] [2])
 (.ret))
def AOc:AyC := .seq (.ops [po_ 2 (.mov (.c (.slice none 0 0)))] [0])
 AId
def ANZ:List VR:=[.tmp 2]
theorem ATH:Tryz.f58.body.bind (trC Tryz.prog Tryz.f58.ntmps)=some (er AOc):=by kernel_rfl
theorem ASV:trR Tryz.prog Tryz.f58.results.toList=some ANZ:=by kernel_rfl
def AFI:=Ayz AId.eq_1
def AKt:=Ayz AOc.eq_1
theorem AKa {K:TV→Prop} {e:Env} {H:List Ob}:res ANZ e H K=res [.tmp 2] e H K:=FI rfl
def ARB:=AzX 15 Tryz.func58 ATH ASV rfl
def AIm:AyC := .seq (.seq (.ops [mv_ 25 0,po_ 26 (.lenV (.t 25)),mv_ 27 5,po_ 28 (.bin 3 .add (ci_ 4) (.t 27)),po_ 29 (.bin 3 .lss (.t 26) (.t 28))] [0,5,29])
 (.cond (.t 29)
 (.seq (.ops [mv_ 30 0,po_ 2 (.mov (.c (.slice none 0 0))),mv_ 3 30,po_ 4 (.mov (.c (.bool false)))] [2,3,4])
  (.ret))
 (.skip)))
 (.seq (.draw 5 [mv_ 31 0,mv_ 32 5,po_ 33 (.bin 3 .add (ci_ 4) (.t 32)),po_ 34 (.slV 1 (.t 31) (some (ci_ 4)) (some (.t 33))),mv_ 35 0,mv_ 36 5,po_ 37 (.bin 3 .add (ci_ 4) (.t 36)),po_ 38 (.slV 1 (.t 35) (some (.t 37)) none),mv_ 2 34,mv_ 3 38,po_ 4 (.mov (.c (.bool true)))] [2,3,4])
 (.ret))
def AI4:AyC := .cond (.t 24)
 AIm
 (.skip)
def AEe:AyC := .seq (.ops [mv_ 20 0,po_ 21 (.slV 1 (.t 20) none (some (ci_ 4))),po_ 22 (.b2s (.t 21)),mv_ 23 6,po_ 24 (.bin 9 .eql (.t 22) (.t 23))] [0,5,24])
 AI4
def AH5:AyC := .seq (.seq (.ops [mv_ 18 5,po_ 19 (.bin 3 .eql (.t 18) (ci_ 0))] [0,5,6,19])
 (.cond (.t 19)
 (.ops [po_ 6 (.mov (.c (.string (str [48,48,48,48]))))] [0,5,6])
 (.skip)))
 AEe
def AIo:AyC := .seq (.block 1 (.seq (.ops [mv_ 15 5,po_ 16 (.bin 3 .add (.t 15) (ci_ 4)),so_ 17 (.call 90 [.t 16]),mv_ 6 17] [0,5,6])
 AH5))
 (.ops [mv_ 13 5,po_ 14 (.bin 3 .add (.t 13) (ci_ 1)),mv_ 5 14] [0,5])
def AIQ:AyC := .seq (.seq (.ops [mv_ 11 5,po_ 12 (.bin 3 .leq (.t 11) (ci_ 1000))] [0,5,12])
 (.cond (.t 12)
 (.skip)
 (.exit 0)))
 AIo
def AIv:AyC := .block 0 (.loop [0,5] AIQ)
def AIz:AyC := .seq (.ops [mv_ 39 0,po_ 2 (.mov (.c (.slice none 0 0))),mv_ 3 39,po_ 4 (.mov (.c (.bool false)))] [2,3,4])
 (.ret)
def AIN:AyC := .seq (.seq (.ops [po_ 5 (.mov (ci_ 0))] [0,5])
 AIv)
 AIz
def AG4:AyC := .seq (.seq (.ops [mv_ 7 0,po_ 8 (.lenV (.t 7)),po_ 9 (.bin 3 .lss (.t 8) (ci_ 4))] [0,9])
 (.cond (.t 9)
 (.seq (.ops [mv_ 10 0,po_ 2 (.mov (.c (.slice none 0 0))),mv_ 3 10,po_ 4 (.mov (.c (.bool false)))] [2,3,4])
  (.ret))
 (.skip)))
 AIN
def AOe:AyC := .seq (.ops [po_ 2 (.mov (.c (.slice none 0 0))),po_ 3 (.mov (.c (.slice none 0 0))),po_ 4 (.mov (.c (.bool false)))] [0])
 AG4
def ANT:List VR:=[.tmp 2,.tmp 3,.tmp 4]
theorem ATq:Tryz.f82.body.bind (trC Tryz.prog Tryz.f82.ntmps)=some (er AOe):=by kernel_rfl
theorem ATc:trR Tryz.prog Tryz.f82.results.toList=some ANT:=by kernel_rfl
def AFX:=Ayz AIm.eq_1
def ACm:=Ayz AI4.eq_1
def ACr:=Ayz AEe.eq_1
def AGe:=Ayz AH5.eq_1
def AFU:=Ayz AIo.eq_1
def ACz:=Ayz AIQ.eq_1
def AM8:=Ayz AIv.eq_1
def ANB:=Ayz AIz.eq_1
def ANk:=Ayz AIN.eq_1
def AEX:=Ayz AG4.eq_1
def AKl:=Ayz AOe.eq_1
theorem AAP {K:TV→Prop} {e:Env} {H:List Ob}:res ANT e H K=res [.tmp 2,.tmp 3,.tmp 4] e H K:=FI rfl
def ARr:=AzX 40 Tryz.func82 ATq ATc rfl
def AHq:AyC := .block 1 (.seq (.ops [mv_ 12 0,so_ 13 (.call 82 [.t 12]),mv_ 11 13,po_ 14 (.ext 0 (.t 11)),po_ 15 (.ext 1 (.t 11)),po_ 16 (.ext 2 (.t 11)),mv_ 5 14,mv_ 6 15,mv_ 7 16] [4,5,6,7])
 (.seq (.seq (.ops [mv_ 17 7,po_ 18 (.un .not (.t 17))] [4,5,6,18])
 (.cond (.t 18)
 (.seq (.ops [po_ 2 (.mov (.c (.slice none 0 0))),po_ 3 (.mov (.c (.bool false)))] [2,3])
  (.ret))
 (.skip)))
 (.seq (.ops [mv_ 19 4,mv_ 20 5,⟨some 21,.s (.bslice 1 1 (.val (.slice none 0 0)) [⟨0,.t 20⟩]),none⟩,so_ 22 (.app 1 24 23 (.t 19) (.t 21)),mv_ 4 22] [4,6])
 (.ops [mv_ 23 6,mv_ 0 23] [0,4]))))
def AHr:AyC := .seq (.seq (.ops [mv_ 8 0,po_ 9 (.lenV (.t 8)),po_ 10 (.bin 3 .gtr (.t 9) (ci_ 0))] [0,4,10])
 (.cond (.t 10)
 (.skip)
 (.exit 0)))
 AHq
def AHj:AyC := .seq (.ops [mv_ 24 4,mv_ 2 24,po_ 3 (.mov (.c (.bool true)))] [2,3])
 (.ret)
def AGY:AyC := .seq (.block 0 (.own 4 1 (.loop [0,4] AHr)))
 AHj
def AHb:AyC := .seq (.ops [po_ 4 (.mov (.c (.slice none 0 0)))] [0,4])
 AGY
def ALc:AyC := .seq (.ops [po_ 2 (.mov (.c (.slice none 0 0))),po_ 3 (.mov (.c (.bool false)))] [0])
 AHb
def ALu:List VR:=[.tmp 2,.tmp 3]
theorem ARy:Tryz.f67.body.bind (trC Tryz.prog Tryz.f67.ntmps)=some (er ALc):=by kernel_rfl
theorem ARo:trR Tryz.prog Tryz.f67.results.toList=some ALu:=by kernel_rfl
def ALa:=Ayz AHq.eq_1
def AFc:=Ayz AHr.eq_1
def ALw:=Ayz AHj.eq_1
def AMi:=Ayz AGY.eq_1
def ALI:=Ayz AHb.eq_1
def AOY:=Ayz ALc.eq_1
theorem AIK {K:TV→Prop} {e:Env} {H:List Ob}:res ALu e H K=res [.tmp 2,.tmp 3] e H K:=FI rfl
def AQc:=AzX 25 Tryz.func67 ARy ARo rfl
def ANK:AyC := .seq (.ops [po_ 2 (.mov (.c (.slice none 0 0)))] [0])
 (.seq (.ops [mv_ 3 0,po_ 4 (.bin 9 .add (.t 3) (.c (.string (str [10])))),so_ 5 (.s2b (.t 4)),so_ 6 (.call 58 [.t 5]),mv_ 2 6] [2])
 (.ret))
def ANU:List VR:=[.tmp 2]
theorem ATd:Tryz.f34.body.bind (trC Tryz.prog Tryz.f34.ntmps)=some (er ANK):=by kernel_rfl
theorem AS8:trR Tryz.prog Tryz.f34.results.toList=some ANU:=by kernel_rfl
def AP7:=Ayz ANK.eq_1
theorem AQr {K:TV→Prop} {e:Env} {H:List Ob}:res ANU e H K=res [.tmp 2] e H K:=FI rfl
def ARN:=AzX 7 Tryz.func34 ATd AS8 rfl
def AHe:AyC := .seq (.seq (.ops [mv_ 24 0,mv_ 25 5,po_ 26 (.idxA 1 (.t 24) (.t 25)),po_ 27 (.load false 1 (.t 26)),po_ 28 (.bin 5 .eql (.t 27) (.c (.int .u8 ((32:Nat):Int))))] [0,3,4,5,28])
 (.cond (.t 28)
 (.seq (.ops [mv_ 29 3,mv_ 30 4,⟨some 31,.s (.bslice 1 1 (.val (.string (str []))) [⟨0,.t 30⟩]),none⟩,so_ 32 (.app 1 16 9 (.t 29) (.t 31)),mv_ 3 32] [0,3,5])
  (.seq (.ops [po_ 4 (.mov (.c (.string (str []))))] [0,3,4,5])
  (.exit 1)))
 (.skip)))
 (.ops [mv_ 33 4,mv_ 34 0,mv_ 35 5,po_ 36 (.idxA 1 (.t 34) (.t 35)),po_ 37 (.load false 1 (.t 36)),⟨some 38,.s (.bslice 1 1 (.val (.int .u8 ((0:Nat):Int))) [⟨0,.t 37⟩]),none⟩,po_ 39 (.b2s (.t 38)),po_ 40 (.bin 9 .add (.t 33) (.t 39)),mv_ 4 40] [0,3,4,5])
def AGW:AyC := .seq (.block 1 (.seq (.seq (.ops [mv_ 12 0,mv_ 13 5,po_ 14 (.idxA 1 (.t 12) (.t 13)),po_ 15 (.load false 1 (.t 14)),po_ 16 (.bin 5 .eql (.t 15) (.c (.int .u8 ((10:Nat):Int)))),mv_ 17 16,⟨some 18,.p (.mov (.t 5)),some ⟨17,true⟩⟩,⟨some 19,.p (.bin 3 .add (.t 18) (ci_ 1)),some ⟨17,true⟩⟩,⟨some 20,.p (.mov (.t 0)),some ⟨17,true⟩⟩,⟨some 21,.p (.lenV (.t 20)),some ⟨17,true⟩⟩,⟨some 22,.p (.bin 3 .eql (.t 19) (.t 21)),some ⟨17,true⟩⟩,po_ 23 (.pick (.t 17) (.t 22) (.c (.bool false)))] [0,3,4,5,23])
 (.cond (.t 23)
 (.exit 0)
 (.skip)))
 AHe))
 (.ops [mv_ 10 5,po_ 11 (.bin 3 .add (.t 10) (ci_ 1)),mv_ 5 11] [0,3,4,5])
def AG3:AyC := .seq (.seq (.ops [mv_ 6 5,mv_ 7 0,po_ 8 (.lenV (.t 7)),po_ 9 (.bin 3 .lss (.t 6) (.t 8))] [0,3,4,5,9])
 (.cond (.t 9)
 (.skip)
 (.exit 0)))
 AGW
def AHu:AyC := .block 0 (.own 3 1 (.loop [0,3,4,5] AG3))
def AHI:AyC := .seq (.ops [mv_ 41 3,mv_ 42 4,⟨some 43,.s (.bslice 1 1 (.val (.string (str []))) [⟨0,.t 42⟩]),none⟩,so_ 44 (.app 1 16 9 (.t 41) (.t 43)),mv_ 2 44] [2])
 (.ret)
def AGZ:AyC := .seq (.seq (.ops [po_ 5 (.mov (ci_ 0))] [0,3,4,5])
 AHu)
 AHI
def AHH:AyC := .seq (.ops [po_ 4 (.mov (.c (.string (str []))))] [0,3,4])
 AGZ
def AHy:AyC := .seq (.ops [po_ 3 (.mov (.c (.slice none 0 0)))] [0,3])
 AHH
def ALq:AyC := .seq (.ops [po_ 2 (.mov (.c (.slice none 0 0)))] [0])
 AHy
def AL0:List VR:=[.tmp 2]
theorem ARe:Tryz.f68.body.bind (trC Tryz.prog Tryz.f68.ntmps)=some (er ALq):=by kernel_rfl
theorem ASn:trR Tryz.prog Tryz.f68.results.toList=some AL0:=by kernel_rfl
def ABX:=Ayz AHe.eq_1
def AA0:=Ayz AGW.eq_1
def Az2:=Ayz AG3.eq_1
def AL6:=Ayz AHu.eq_1
def AE9:=Ayz AHI.eq_1
def ALE:=Ayz AGZ.eq_1
def AMl:=Ayz AHH.eq_1
def ALd:=Ayz AHy.eq_1
def APV:=Ayz ALq.eq_1
theorem AIH {K:TV→Prop} {e:Env} {H:List Ob}:res AL0 e H K=res [.tmp 2] e H K:=FI rfl
def AP1:=AzX 45 Tryz.func68 ARe ASn rfl
end
section
open Go.RowKit
variable [AyZ]
abbrev AFl:TV := .val (.slice none 0 0)
theorem BbS {n:Nat}:List.take 4 ((((((List.replicate 4 (TV.val (.int .u8 ((0:Nat):Int)))).set 0 (by8 (dig (n / 4096 % 16)))).set 1 (by8 (dig (n / 256 % 16)))).set 2 (by8 (dig (n / 16 % 16)))).set 3 (by8 (dig (n % 16)))))=(AMs n).map by8:=by simp [AMs]
theorem ALZ (n:Nat) (hn:n≤5000000):Azk Tryz.prog 86 [i64 (n:Int)] (fun x=>x = .val (.string (str (AMs n)))):=by
 refine AyI.toPureV (AQi (by simp) ?_)
 have a1:=ABh (n / 4096 % 16) (by omega)
 have a2:=ABh (n / 256 % 16) (by omega)
 have a3:=ABh (n / 16 % 16) (by omega)
 have a4:=ABh (n % 16) (by omega)
 simp -dsimp (disch:=first | assumption | omega) only [↓AyF,AyB,AyE,AyD,eq_self,Nat.reduceEqDiff,Nat.reducePow,↓reduceIte,reduceCtorEq,Nat.reduceLeDiff,↓AR6,A2X,←AUm,A6M,a1,a2,a3,a4,BbS]
theorem ART (n:Nat) (hn:n≤65535):Azk Tryz.prog 90 [i64 (n:Int)] (fun x=>x = .val (.string (str (AMs n)))):=by
 refine AyI.toPureV (APr (by simp) ?_)
 have a1:=ABh (n / 4096 % 16) (by omega)
 have a2:=ABh (n / 256 % 16) (by omega)
 have a3:=ABh (n / 16 % 16) (by omega)
 have a4:=ABh (n % 16) (by omega)
 simp -dsimp (disch:=first | assumption | omega) only [↓AyF,AyB,AyE,AyD,eq_self,Nat.reduceEqDiff,↓reduceIte,reduceCtorEq,Nat.reduceLeDiff,↓AP8,A2X,←AUm,a1,a2,a3,a4,BbS]
def AD0 (x:List UInt8):TV:=if x=[] then AFl else slB x
def A7Y (b:List UInt8) (r:TV):Prop:=(∀ x s,x.length≤1000→Azb x++s=b→r = .tup [AD0 x,slB s,.val .nilIface])∧((∀ x s,x.length≤1000→Azb x++s≠b)→r = .tup [AFl,AFl,eno 110])
variable [AyO] [AyR]
theorem A95 (b:List UInt8) (hb:b.length≤1000000):Azk Tryz.prog 77 [slB b] (A7Y b):=by
 refine AyI.toPureV (ASu (by simp) ?_)
 have no:(∀ x s,x.length≤1000→Azb x++s≠b)→A7Y b (.tup [AFl,AFl,eno 110]):=fun h=>⟨fun x s hx e=>absurd e (h x s hx),fun _=>rfl⟩
 by_cases h4:4≤b.length
 case neg =>
  simp -dsimp (disch:=first | assumption | omega | (simp only [AyA];try omega)) only [↓AyF,AyB,AyE,AyD,eq_self,Nat.reduceEqDiff,↓reduceIte,reduceCtorEq,↓AGL,↓ADi,↓Az1]
  exact no fun x s hx e=>by have:=(AzP e).2.2; omega
 have ht4:((b.map by8).take 4).length=4:=by simp; omega
 have htl:(b.take 4).length=4:=by simp; omega
 by_cases hz:b.take 4=ABT
 ·have hz':(b.take 4=[48,48,48,48])=True:=eq_true hz
  simp -dsimp (disch:=first | assumption | omega | (simp only [AyA];try omega)) only [↓AyF,AyB,AyE,AyD,eq_self,Nat.reduceEqDiff,↓reduceIte,reduceCtorEq,hz',↓AGL,↓ADi,↓AHw,↓AG2,↓Az1]
  refine ⟨fun x s hx e => ?_,fun h=>absurd (ATn hz) (h [] _ (by simp))⟩
  obtain ⟨rfl,rfl⟩:=AL1 hx (by simp) (e.trans (ATn hz).symm)
  rfl
 have hz':¬ b.take 4=[48,48,48,48]:=hz
 have hne:∀ x s,x.length≤1000→Azb x++s=b→b.take 4=AMs (x.length+4):=fun x s hx e=>by
  have h:=(AzP e).1
  unfold AOm at h
  split at h
  ·exact absurd h hz
  ·exact h
 simp -dsimp (disch:=first | assumption | omega | (simp only [AyA];try omega)) only [↓AyF,AyB,AyE,AyD,eq_self,Nat.reduceEqDiff,↓reduceIte,reduceCtorEq,hz',↓AGL,↓ADi,↓AHw,↓AG2,↓AOz]
 refine (AUs (b.take 4) (by omega)).calls rfl fun r hr => ?_
 cases hp:pX (b.take 4) with
 | none =>
  obtain ⟨m,_,rfl⟩:=hr.2 hp
  clear hr
  simp -dsimp (disch:=first | assumption | omega | (simp only [AyA];try omega)) only [↓AyF,AyB,AyE,AyD,eq_self,Nat.reduceEqDiff,↓reduceIte,reduceCtorEq,↓AHJ,↓Az1]
  exact no fun x s hx e=>by rw [hne x s hx e,AX4 (by omega)] at hp; cases hp
 | some n =>
  rw [hr.1 n hp]
  clear hr
  have hn:n<65536:=by
   unfold pX at hp
   split at hp
   ·rename_i h; rw [←Option.some.inj hp]; exact h.2.2
   ·cases hp
  have key:∀ x s,x.length≤1000→Azb x++s=b→n=x.length+4:=fun x s hx e=>by
   rw [hne x s hx e,AX4 (by omega)] at hp
   exact (Option.some.inj hp).symm
  have hx0:∀ x s,x.length≤1000→Azb x++s=b→x≠[]:=fun x s hx e h0=>by
   subst h0
   exact hz (AzP e).1
  simp -dsimp (disch:=first | assumption | omega | (simp only [AyA];try omega)) only [↓AyF,AyB,AyE,AyD,eq_self,Nat.reduceEqDiff,↓reduceIte,reduceCtorEq,↓AHJ]
  refine (ALZ n (by omega)).calls rfl fun r hr => ?_
  subst hr
  have hwb:IntKind.u64.wrap (b.length:Int)=(b.length:Int):=AMS (by omega)
  by_cases hcan:AMs n=b.take 4
  case neg =>
   simp -dsimp (disch:=first | assumption | omega | (simp only [AyA];try omega)) only [↓AyF,AyB,AyE,AyD,eq_self,Nat.reduceEqDiff,↓reduceIte,reduceCtorEq,hcan,↓Az1]
   exact no fun x s hx e=>hcan (by rw [key x s hx e]; exact (hne x s hx e).symm)
  by_cases hn4:n≤4
  ·simp -dsimp (disch:=first | assumption | omega | (simp only [AyA];try omega)) only [↓AyF,AyB,AyE,AyD,eq_self,Nat.reduceEqDiff,↓reduceIte,reduceCtorEq,hcan,hn4,↓Az1]
   exact no fun x s hx e=>by have:=key x s hx e; have:=hx0 x s hx e; rw [ne_eq,←List.length_eq_zero_iff] at this; omega
  by_cases hnb:1004<n
  ·simp -dsimp (disch:=first | assumption | omega | (simp only [AyA];try omega)) only [↓AyF,AyB,AyE,AyD,eq_self,Nat.reduceEqDiff,↓reduceIte,reduceCtorEq,hcan,hn4,hnb,↓Az1]
   exact no fun x s hx e=>by have:=key x s hx e; omega
  by_cases hnl:b.length<n
  ·simp -dsimp (disch:=first | assumption | omega | (simp only [AyA];try omega)) only [↓AyF,AyB,AyE,AyD,eq_self,Nat.reduceEqDiff,↓reduceIte,reduceCtorEq,hcan,hn4,hnb,hwb,hnl,↓Az1]
   exact no fun x s hx e=>by have:=key x s hx e; have:=(AzP e).2.2; omega
  simp -dsimp (disch:=first | assumption | omega | (simp only [AyA];try omega)) only [↓AyF,AyB,AyE,AyD,eq_self,Nat.reduceEqDiff,↓reduceIte,reduceCtorEq,hcan,hn4,hnb,hwb,hnl,↓Az1]
  have hlo:=A43 h4 (by omega) (by omega) (by omega) hcan.symm
  rw [List.drop_take] at hlo
  have hl4:(List.take (n - 4) (List.drop 4 b)).length=n - 4:=by simp; omega
  refine ⟨fun x s hx e => ?_,fun h=>absurd hlo (h _ _ (by omega))⟩
  obtain ⟨rfl,rfl⟩:=AL1 hx (by omega) (e.trans hlo.symm)
  have hxn:List.take (n - 4) (List.drop 4 b)≠[]:=fun h=>by rw [h] at hl4; simp at hl4; omega
  unfold AD0
  rw [if_neg hxn]
end
section
variable [AyZ]
set_option maxRecDepth 100000
def ALj:AyC := .seq (.ops [po_ 2 (.mov (.c (.slice none 0 0)))] [0])
 (.seq (.seq (.ops [mv_ 3 0,so_ 4 (.eqS (.t 3) false)] [0,4])
 (.cond (.t 4)
 (.seq (.ops [po_ 2 (.mov (.c (.slice none 0 0)))] [2])
  (.ret))
 (.skip)))
 (.seq (.ops [so_ 5 (.bslice 1 0 (.val (.int .u8 ((0:Nat):Int))) []),mv_ 6 0,so_ 7 (.app 1 1 5 (.t 5) (.t 6)),mv_ 2 7] [2])
 (.ret)))
def ALg:List VR:=[.tmp 2]
theorem AQ8:Tryz.f81.body.bind (trC Tryz.prog Tryz.f81.ntmps)=some (er ALj):=by kernel_rfl
theorem ARS:trR Tryz.prog Tryz.f81.results.toList=some ALg:=by kernel_rfl
def APJ:=Ayz ALj.eq_1
theorem APq {K:TV→Prop} {e:Env} {H:List Ob}:res ALg e H K=res [.tmp 2] e H K:=FI rfl
def ALz:=(aI_ @APJ @APq)
def AKi:=AzX 8 Tryz.func81 AQ8 ARS rfl
def ALv:AyC := .seq (.ops [po_ 4 (.mov (.c (.bool false)))] [0,1])
 (.seq (.ops [mv_ 5 0,po_ 6 (.b2s (.t 5)),mv_ 7 1,po_ 8 (.b2s (.t 7)),po_ 9 (.bin 9 .eql (.t 6) (.t 8)),mv_ 4 9] [4])
 (.ret))
def ALU:List VR:=[.tmp 4]
theorem ARh:Tryz.f96.body.bind (trC Tryz.prog Tryz.f96.ntmps)=some (er ALv):=by kernel_rfl
theorem ARY:trR Tryz.prog Tryz.f96.results.toList=some ALU:=by kernel_rfl
def APA:=Ayz ALv.eq_1
theorem APG {K:TV→Prop} {e:Env} {H:List Ob}:res ALU e H K=res [.tmp 4] e H K:=FI rfl
def AR0:=(aI_ @APA @APG)
def AQq:=AzX 10 Tryz.func96 ARh ARY rfl
end
section
open Go.RowKit
variable [AyZ]
theorem A7E (l:List UInt8) (hlen:l.length≤1000000) (hn:l≠[]):AEp Tryz.prog 81 [slB l] (fun r=>r=slB l):=by
 refine AyI.toFreshV (AKi (by simp) ?_)
 have hn0:l.length≠0:=fun e=>hn (List.length_eq_zero_iff.1 e)
 have ht:(l.map by8).take l.length=l.map by8:=List.take_of_length_le (by simp)
 simp -dsimp (disch:=first | assumption | omega | (simp only [AyA];try omega)) only [↓AyF,AyB,AyE,AyD,eq_self,Nat.reduceEqDiff,↓reduceIte,reduceCtorEq,ht,↓ALz]
theorem A5C:Azk Tryz.prog 81 [AFl] (fun r=>r=AFl):=by
 refine AyI.toPureV (AKi (by simp) ?_)
 simp -dsimp (disch:=first | assumption | omega | (simp only [AyA];try omega)) only [↓AyF,AyB,AyE,AyD,eq_self,↓reduceIte,reduceCtorEq,↓ALz,Option.isNone_none]
theorem A6I (x:List UInt8) (hx:x.length≤1000):Azk Tryz.prog 81 [AD0 x] (fun r=>r=AD0 x):=by
 unfold AD0
 by_cases h:x=[]
 ·rw [if_pos h]; exact A5C
 ·rw [if_neg h]; exact (A7E x (by omega) h).pure
def A58 (b:List UInt8) (r:TV):Prop:=(∀ ls,AyV ls b→r = .tup [.sl 1 (ls.map AD0),.val .nilIface])∧((∀ ls,¬ AyV ls b)→r = .tup [AFl,eno 110])
variable [AyO] [AyR]
theorem A7f (b:List UInt8) (hb:b.length≤1000000):Azk Tryz.prog 94 [slB b] (A58 b):=by
 refine AyI.toPureV (ARD (by simp) ?_)
 have no:(∀ ls,¬ AyV ls b)→A58 b (.tup [AFl,eno 110]):=fun h=>⟨fun x hx=>absurd hx (h x),fun _=>rfl⟩
 simp -dsimp (disch:=first | assumption | omega | (simp only [AyA];try omega)) only [↓AyF,AyB,AyE,AyD,eq_self,↓reduceIte,reduceCtorEq,↓AQa,↓AMA,↓ANn]
 refine AAW (fun q e H=>∃ (ls:List (List UInt8)) (rest:List UInt8) (k v cp:Nat),q=rest.length∧ls.length+rest.length≤1000000∧LI b ls rest∧H[k]?=some (.obj v (.arr ls.length 1 (ls.map AD0)))∧e=[(0,slB rest),(4,.os 1 k v [] 0 ls.length cp)]) b.length ?_ ?_
 ·exact ⟨[],b,0,0,0,rfl,by simpa using hb,⟨by simp,rfl⟩,rfl,rfl⟩
 rintro q e H ⟨ls,rest,k,v,cp,rfl,hrl,hI,hk,rfl⟩
 have hkl:=(List.getElem?_eq_some_iff.1 hk).1
 by_cases hr0:rest=[]
 ·subst hr0
  have hL:AyV ls b:=⟨hI.ok,by have:=hI.eq; simpa using this⟩
  have hkt:(ls.map AD0).take ls.length=ls.map AD0:=List.take_of_length_le (by simp)
  simp -dsimp (disch:=first | assumption | omega | (simp only [AyA];try omega)) only [↓AyF,AyB,AyE,AyD,eq_self,Nat.reduceLT,Nat.reduceEqDiff,↓reduceIte,reduceCtorEq,hk,hkt,↓AF4,↓AMQ,↓AKh]
  exact ⟨fun ms hm=>by rw [AIg hm hL],fun h=>absurd hL (h ls)⟩
 have hr1:0<rest.length:=List.length_pos_iff.2 hr0
 simp -dsimp (disch:=first | assumption | omega | (simp only [AyA];try omega)) only [↓AyF,AyB,AyE,AyD,eq_self,Nat.reduceEqDiff,↓reduceIte,reduceCtorEq,↓AF4,↓AM3]
 refine (A95 rest (by omega)).calls rfl fun r hr => ?_
 by_cases hx:∃ x s,x.length≤1000∧Azb x++s=rest
 case neg =>
  have hno:∀ x s,x.length≤1000→Azb x++s≠rest:=fun x s h e=>hx ⟨x,s,h,e⟩
  rw [hr.2 hno]
  simp -dsimp (disch:=first | assumption | omega | (simp only [AyA];try omega)) only [↓AyF,AyB,AyE,AyD,eq_self,Nat.reduceEqDiff,↓reduceIte,reduceCtorEq,↓AFN,↓AKh]
  exact no (hI.no hr0 hno)
 obtain ⟨x,s,hx1,hx2⟩:=hx
 rw [hr.1 x s hx1 hx2]
 clear hr
 have hlen:=(AzP hx2).2.2
 have hct:=A6I x hx1
 have hst:=hI.step hx1 hx2
 have hp:AAL (AD0 x)=true∧AyK (AD0 x)=1∧lays (AD0 x)=true∧AKX (AD0 x)=false∧AzB (AD0 x)=false:=by
  unfold AD0
  by_cases h:x=[]
  ·rw [if_pos h]; exact ⟨rfl,rfl,rfl,rfl,rfl⟩
  ·rw [if_neg h]; exact ⟨rfl,rfl,rfl,rfl,rfl⟩
 obtain ⟨p1,p2,p3,p4,p5⟩:=hp
 simp -dsimp (disch:=first | assumption | omega | (simp only [AyA];try omega)) only [↓AyF,AyB,AyE,AyD,eq_self,Nat.reduceEqDiff,↓reduceIte,reduceCtorEq,p5,↓AFN]
 refine hct.calls (by unfold AD0; split<;>rfl) fun r hr => ?_
 subst hr
 have hA:∀ T:List Ob,(H++T)[k]?=some (.obj v (.arr ls.length 1 (ls.map AD0))):=fun T=>by rw [List.getElem?_append_left hkl]; exact hk
 have hl1:ls.length≤1000000:=by omega
 have hkt:(ls.map AD0).take ls.length=ls.map AD0:=List.take_of_length_le (by simp)
 have h11:∀ y z:TV,List.take 1 ((List.replicate 1 z).set 0 y)=[y]:=fun y z=>rfl
 simp -dsimp (disch:=first | assumption | omega | (simp only [AyA];try omega)) only [↓AyF,AyB,AyE,AyD,eq_self,Nat.reduceEqDiff,↓reduceIte,reduceCtorEq,Nat.reduceLeDiff,p1,p2,p3,hA,hkt,h11]
 have hL:(ls++[x]).length=ls.length+1:=by simp
 refine AyP s.length (by omega) (by simp) ⟨ls++[x],s,k,v+1,ls.length+1,rfl,by omega,hst,?_,by rw [hL]; rfl⟩
 rw [List.getElem?_append_left (by simp; omega),List.getElem?_set_self hkl,hL,List.map_append]; rfl
end
section
open Go.RowKit
variable [AyZ]
def A41 (b:List UInt8) (r:TV):Prop:=(∀ x s,x.length≤1000→Azb x++s=b→r = .tup [slB x,slB s,tb true])∧((∀ x s,x.length≤1000→Azb x++s≠b)→r = .tup [AFl,slB b,tb false])
theorem A5H {b w:List UInt8} {n:Nat} {E:Env} {Q:VEx→Env→List Ob→Prop} (hb:b.length≤1000000) (h4:4≤b.length) (hn:n≤1000)
  (hyes:b.take 4=w→4+n≤b.length→Q .ret [(2,slB ((b.drop 4).take n)),(3,slB (b.drop (4+n))),(4,tb true)] [])
  (hbad:b.take 4=w→¬ 4+n≤b.length→Q .ret [(2,AFl),(3,slB b),(4,tb false)] [])
  (hnext:b.take 4≠w→Q .nor [(0,slB b),(5,i64 (n:Int)),(24,tb false)] []) :
  vwp Tryz.prog AEe Q ((0,slB b)::(5,i64 (n:Int))::(6,ts w)::E) []:=by
 have hs:4+n - 4=n:=by omega
 by_cases hw:b.take 4=w
 ·subst hw
  by_cases hl:4+n≤b.length
  ·have hl':¬ b.length<4+n:=by omega
   simp -dsimp (disch:=first | assumption | omega | (simp only [AyA];try omega)) only [↓AyF,AyB,AyE,AyD,eq_self,Nat.reduceEqDiff,↓reduceIte,reduceCtorEq,hl',hs,↓ACr,↓ACm,↓AFX]
   exact hyes rfl hl
  ·have hl':b.length<4+n:=by omega
   simp -dsimp (disch:=first | assumption | omega | (simp only [AyA];try omega)) only [↓AyF,AyB,AyE,AyD,eq_self,Nat.reduceEqDiff,↓reduceIte,reduceCtorEq,hl',↓ACr,↓ACm,↓AFX]
   exact hbad rfl hl
 ·simp -dsimp (disch:=first | assumption | omega | (simp only [AyA];try omega)) only [↓AyF,AyB,AyE,AyD,eq_self,Nat.reduceEqDiff,↓reduceIte,reduceCtorEq,hw,↓ACr,↓ACm]
  exact hnext hw
theorem A6y (b:List UInt8) (hb:b.length≤1000000):Azk Tryz.prog 82 [slB b] (A41 b):=by
 refine AyI.toPureV (ARr (by simp) ?_)
 have no:(∀ x s,x.length≤1000→Azb x++s≠b)→A41 b (.tup [AFl,slB b,tb false]):=fun h=>⟨fun x s hx e=>absurd e (h x s hx),fun _=>rfl⟩
 by_cases h4:4≤b.length
 case neg =>
  simp -dsimp (disch:=first | assumption | omega | (simp only [AyA];try omega)) only [↓AyF,AyB,AyE,AyD,eq_self,Nat.reduceEqDiff,↓reduceIte,reduceCtorEq,↓AKl,↓AEX,↓AAP]
  exact no fun x s hx e=>by have:=(AzP e).2.2; omega
 simp -dsimp (disch:=first | assumption | omega | (simp only [AyA];try omega)) only [↓AyF,AyB,AyE,AyD,eq_self,↓reduceIte,reduceCtorEq,↓AKl,↓AEX,↓ANk,↓AM8]
 refine AAW (fun q e H=>∃ n:Nat,q=1001 - n∧n≤1001∧(∀ x s,x.length≤1000→Azb x++s=b→n≤x.length)∧H=[]∧e=[(0,slB b),(5,i64 (n:Int))]) 1001 ?_ ?_
 ·exact ⟨0,rfl,by omega,fun _ _ _ _=>Nat.zero_le _,rfl,rfl⟩
 rintro q e H ⟨n,rfl,hn,hle,rfl,rfl⟩
 by_cases h1000:n≤1000
 case neg =>
  simp -dsimp (disch:=first | assumption | omega | (simp only [AyA];try omega)) only [↓AyF,AyB,AyE,AyD,eq_self,Nat.reduceEqDiff,↓reduceIte,reduceCtorEq,↓ACz,↓ANB,↓AAP]
  exact no fun x s hx e=>by have:=hle x s hx e; omega
 have step:(∀ x s,x.length≤1000→Azb x++s=b→x.length≠n)→∀ x s,x.length≤1000→Azb x++s=b→n+1≤x.length:=fun h x s hx e=>by
  have:=hle x s hx e; have:=h x s hx e; omega
 have yes:b.take 4=AMs (if n=0 then 0 else n+4)→4+n≤b.length→A41 b (.tup [slB ((b.drop 4).take n),slB (b.drop (4+n)),tb true]):=fun hw hl=>by
  have hxl:((b.drop 4).take n).length=n:=by simp; omega
  have hE:Azb ((b.drop 4).take n)++b.drop (4+n)=b:=by
   rw [ARV]
   unfold AOm
   rw [hxl,←hw,List.append_assoc,←List.drop_drop,List.take_append_drop,List.take_append_drop]
  refine ⟨fun x s hx e => ?_,fun h=>absurd hE (h _ _ (by omega))⟩
  obtain ⟨rfl,rfl⟩:=AL1 hx (by omega) (e.trans hE.symm)
  rfl
 by_cases h0:n=0
 ·subst h0
  simp -dsimp (disch:=first | assumption | omega | (simp only [AyA];try omega)) only [↓AyF,AyB,AyE,AyD,eq_self,Nat.reduceEqDiff,↓reduceIte,reduceCtorEq,↓ACz,↓AFU]
  refine (ART 4 (by omega)).calls rfl fun r hr => ?_
  subst hr
  simp -dsimp (disch:=first | assumption | omega | (simp only [AyA];try omega)) only [↓AyF,AyB,AyE,AyD,eq_self,Nat.reduceEqDiff,↓reduceIte,reduceCtorEq,↓AGe]
  refine A5H hb h4 h1000 (fun hw hl => ?_) (fun hw hl => ?_) (fun hw => ?_)
  ·simp -dsimp (disch:=first | assumption | omega | (simp only [AyA];try omega)) only [↓AyF,AyB,AyE,AyD,eq_self,Nat.reduceEqDiff,↓reduceIte,Nat.reduceAdd,↓AAP]
   exact yes hw hl
  ·simp -dsimp (disch:=first | assumption | omega | (simp only [AyA];try omega)) only [↓AyF,AyB,AyE,AyD,eq_self,Nat.reduceEqDiff,↓reduceIte,↓AAP]
   exact no fun x s hx e=>by
    have h1:=ARv (AR5 hx) (by omega) ((AzP e).1.symm.trans (show b.take 4=AMs 0 from hw))
    have h2:=(AzP e).2.2
    unfold AOm at h1; split at h1<;>omega
  ·simp -dsimp (disch:=first | assumption | omega | (simp only [AyA];try omega)) only [↓AyF,AyB,AyE,AyD,eq_self,↓reduceIte,reduceCtorEq]
   refine AyP (1001 - (0+1)) (by omega) (by simp) ⟨0+1,by omega,by omega,step fun x s hx e h=>hw ?_,rfl,rfl⟩
   rw [(AzP e).1]
   unfold AOm
   rw [if_pos h]; rfl
 ·rw [if_neg h0] at yes
  simp -dsimp (disch:=first | assumption | omega | (simp only [AyA];try omega)) only [↓AyF,AyB,AyE,AyD,eq_self,Nat.reduceEqDiff,↓reduceIte,reduceCtorEq,↓ACz,↓AFU]
  refine (ART (n+4) (by omega)).calls rfl fun r hr => ?_
  subst hr
  simp -dsimp (disch:=first | assumption | omega | (simp only [AyA];try omega)) only [↓AyF,AyB,AyE,AyD,eq_self,Nat.reduceEqDiff,↓reduceIte,reduceCtorEq,h0,↓AGe]
  refine A5H hb h4 h1000 (fun hw hl => ?_) (fun hw hl => ?_) (fun hw => ?_)
  ·simp -dsimp (disch:=first | assumption | omega | (simp only [AyA];try omega)) only [↓AyF,AyB,AyE,AyD,eq_self,Nat.reduceEqDiff,↓reduceIte,↓AAP]
   exact yes hw hl
  ·simp -dsimp (disch:=first | assumption | omega | (simp only [AyA];try omega)) only [↓AyF,AyB,AyE,AyD,eq_self,Nat.reduceEqDiff,↓reduceIte,↓AAP]
   exact no fun x s hx e=>by
    have h1:=ARv (AR5 hx) (by omega) ((AzP e).1.symm.trans hw)
    have h2:=(AzP e).2.2
    unfold AOm at h1; split at h1<;>omega
  ·simp -dsimp (disch:=first | assumption | omega | (simp only [AyA];try omega)) only [↓AyF,AyB,AyE,AyD,eq_self,↓reduceIte,reduceCtorEq]
   refine AyP (1001 - (n+1)) (by omega) (by simp) ⟨n+1,by omega,by omega,step fun x s hx e h=>hw ?_,rfl,rfl⟩
   rw [(AzP e).1]
   unfold AOm
   rw [if_neg (by omega),h]
def A2Q (b:List UInt8) (r:TV):Prop:=(∀ ls,AyV ls b→r = .tup [.sl 1 (ls.map slB),tb true])∧((∀ ls,¬ AyV ls b)→r = .tup [AFl,tb false])
theorem A48 (b:List UInt8) (hb:b.length≤1000000):Azk Tryz.prog 67 [slB b] (A2Q b):=by
 refine AyI.toPureV (AQc (by simp) ?_)
 have no:(∀ ls,¬ AyV ls b)→A2Q b (.tup [AFl,tb false]):=fun h=>⟨fun x hx=>absurd hx (h x),fun _=>rfl⟩
 simp -dsimp (disch:=first | assumption | omega | (simp only [AyA];try omega)) only [↓AyF,AyB,AyE,AyD,eq_self,↓reduceIte,reduceCtorEq,↓AOY,↓ALI,↓AMi]
 refine AAW (fun q e H=>∃ (ls:List (List UInt8)) (rest:List UInt8) (k v cp:Nat),q=rest.length∧ls.length+rest.length≤1000000∧LI b ls rest∧H[k]?=some (.obj v (.arr ls.length 1 (ls.map slB)))∧e=[(0,slB rest),(4,.os 1 k v [] 0 ls.length cp)]) b.length ?_ ?_
 ·exact ⟨[],b,0,0,0,rfl,by simpa using hb,⟨by simp,rfl⟩,rfl,rfl⟩
 rintro q e H ⟨ls,rest,k,v,cp,rfl,hrl,hI,hk,rfl⟩
 have hkl:=(List.getElem?_eq_some_iff.1 hk).1
 have hkt:(ls.map slB).take ls.length=ls.map slB:=List.take_of_length_le (by simp)
 by_cases hr0:rest=[]
 ·subst hr0
  have hL:AyV ls b:=⟨hI.ok,by have:=hI.eq; simpa using this⟩
  simp -dsimp (disch:=first | assumption | omega | (simp only [AyA];try omega)) only [↓AyF,AyB,AyE,AyD,eq_self,Nat.reduceLT,Nat.reduceEqDiff,↓reduceIte,reduceCtorEq,hk,hkt,↓AFc,↓ALw,↓AIK]
  exact ⟨fun ms hm=>by rw [AIg hm hL],fun h=>absurd hL (h ls)⟩
 have hr1:0<rest.length:=List.length_pos_iff.2 hr0
 simp -dsimp (disch:=first | assumption | omega | (simp only [AyA];try omega)) only [↓AyF,AyB,AyE,AyD,eq_self,Nat.reduceEqDiff,↓reduceIte,reduceCtorEq,↓AFc,↓ALa]
 refine (A6y rest (by omega)).calls rfl fun r hr => ?_
 by_cases hx:∃ x s,x.length≤1000∧Azb x++s=rest
 case neg =>
  have hno:∀ x s,x.length≤1000→Azb x++s≠rest:=fun x s h e=>hx ⟨x,s,h,e⟩
  rw [hr.2 hno]
  simp -dsimp (disch:=first | assumption | omega | (simp only [AyA];try omega)) only [↓AyF,AyB,AyE,AyD,eq_self,Nat.reduceEqDiff,↓reduceIte,reduceCtorEq,↓AIK]
  exact no (hI.no hr0 hno)
 obtain ⟨x,s,hx1,hx2⟩:=hx
 rw [hr.1 x s hx1 hx2]
 clear hr
 have hlen:=(AzP hx2).2.2
 have hst:=hI.step hx1 hx2
 have hA:∀ T:List Ob,(H++T)[k]?=some (.obj v (.arr ls.length 1 (ls.map slB))):=fun T=>by rw [List.getElem?_append_left hkl]; exact hk
 have hl1:ls.length≤1000000:=by omega
 have h11:∀ y z:TV,List.take 1 ((List.replicate 1 z).set 0 y)=[y]:=fun y z=>rfl
 simp -dsimp (disch:=first | assumption | omega | (simp only [AyA];try omega)) only [↓AyF,AyB,AyE,AyD,eq_self,Nat.reduceEqDiff,↓reduceIte,reduceCtorEq,Nat.reduceLeDiff,hA,hkt,h11]
 have hL:(ls++[x]).length=ls.length+1:=by simp
 refine AyP s.length (by omega) (by simp) ⟨ls++[x],s,k,v+1,ls.length+1,rfl,by omega,hst,?_,by rw [hL]; rfl⟩
 rw [List.getElem?_append_left (by simp; omega),List.getElem?_set_self hkl,hL,List.map_append]; rfl
theorem AXQ:∀ l:List UInt8,ADW (l.map by8)=true
 | []=>rfl
 | b::l=>by rw [List.map_cons,ADW,AXQ l]; rfl
end
section
open Go.RowKit
variable [AyZ]
section
omit [AyZ]
def spl:List UInt8→List UInt8→List (List UInt8)
 | w,[]=>[w]
 | w,b::l=>if b=32 then w::spl [] l else spl (w++[b]) l
def ABe (b:List UInt8):List UInt8:=if b.getLast?=some 10 then b.dropLast else b
def ACI (b:List UInt8):List (List UInt8):=spl [] (ABe b)
theorem AW5 {b:List UInt8} {i:Nat} (h:i<b.length) (hno:¬ (b[i]?=some 10∧i+1=b.length)) (hi:i≤(ABe b).length):i<(ABe b).length∧(ABe b)[i]?=b[i]?:=by
 unfold ABe at hi ⊢
 split
 ·rename_i h1
  rw [if_pos h1,List.length_dropLast] at hi
  have hlt:i<b.length - 1:=by
   rcases Nat.lt_or_ge i (b.length - 1) with h2 | h2
   ·exact h2
   ·exfalso
    refine hno ⟨?_,by omega⟩
    rw [List.getLast?_eq_getElem?] at h1
    rw [show i=b.length - 1 by omega]; exact h1
  refine ⟨by rw [List.length_dropLast]; exact hlt,?_⟩
  rw [List.getElem?_dropLast,if_pos hlt]
 ·exact ⟨h,rfl⟩
theorem AWw {b:List UInt8} {i:Nat} (h:b[i]?=some 10) (h1:i+1=b.length):(ABe b).length=i:=by
 unfold ABe
 rw [if_pos (by rw [List.getLast?_eq_getElem?,show b.length - 1=i by omega]; exact h),List.length_dropLast]; omega
theorem AO7 (b:List UInt8):(ABe b).length≤b.length:=by
 unfold ABe
 split
 ·rw [List.length_dropLast]; omega
 ·exact Nat.le_refl _
end
theorem ATa {b:UInt8}:(∀ y:TV,y∈[TV.val (Value.int IntKind.u8 (b.toNat:Int))]→AUU y)=True:=by
 refine eq_true ?_
 intro y hy
 obtain rfl:=List.mem_singleton.1 hy
 exact AU9 b
theorem A6d (b:List UInt8) (hb:b.length≤1000000):Azk Tryz.prog 68 [slB b] (fun r=>r = .sl 1 ((ACI b).map ts)):=by
 refine AyI.toPureV (AP1 (by simp) ?_)
 have h11:∀ y z:TV,(List.replicate 1 z).set 0 y=[y]:=fun y z=>rfl
 have h12:∀ y:TV,List.take 1 [y]=[y]:=fun y=>rfl
 simp -dsimp (disch:=first | assumption | omega | (simp only [AyA];try omega)) only [↓AyF,AyB,AyE,AyD,eq_self,Nat.reduceEqDiff,↓reduceIte,reduceCtorEq,↓APV,↓ALd,↓AMl,↓ALE,↓AL6]
 refine AAW (fun q e H=>∃ (i:Nat) (ws:List (List UInt8)) (w:List UInt8) (k v cp:Nat),q=b.length - i∧i≤(ABe b).length∧i≤b.length∧ws.length≤i∧w.length≤i∧ACI b=ws++spl w ((ABe b).drop i)∧H[k]?=some (.obj v (.arr ws.length 1 (ws.map ts)))∧e=[(0,slB b),(3,.os 1 k v [] 0 ws.length cp),(4,ts w),(5,i64 (i:Int))]) b.length ?_ ?_
 ·exact ⟨0,[],[],0,0,0,rfl,Nat.zero_le _,Nat.zero_le _,Nat.le_refl _,Nat.le_refl _,rfl,rfl,rfl⟩
 rintro q e H ⟨i,ws,w,k,v,cp,rfl,hit,hib,hwi,hwl,hsp,hk,rfl⟩
 have hkl:=(List.getElem?_eq_some_iff.1 hk).1
 have hkt:(ws.map ts).take ws.length=ws.map ts:=List.take_of_length_le (by simp)
 have hA:∀ T:List Ob,(H++T)[k]?=some (.obj v (.arr ws.length 1 (ws.map ts))):=fun T=>by rw [List.getElem?_append_left hkl]; exact hk
 have hws1:ws.length≤1000000:=by omega
 by_cases hil:i<b.length
 case neg =>
  have hd:(ABe b).drop i=[]:=List.drop_eq_nil_of_le (by have:=AO7 b; omega)
  rw [hd] at hsp
  have hfin:ACI b=ws++[w]:=by rw [hsp]; rfl
  simp -dsimp (disch:=first | assumption | omega | (simp only [AyA];try omega)) only [↓AyF,AyB,AyE,AyD,eq_self,Nat.reduceEqDiff,↓reduceIte,reduceCtorEq,Nat.reduceLeDiff,hA,hkt,h11,↓Az2,↓AE9,↓AIH]
  have hLe:List.take (ws.length+1) (ws.map ts++[ts w])=(ws++[w]).map ts:=by rw [List.map_append]; exact List.take_of_length_le (by simp)
  rw [hLe,hfin]
 obtain ⟨c,hc⟩:∃ c,b[i]?=some c:=⟨_,List.getElem?_eq_getElem hil⟩
 have hc8:(b.map by8)[i]?=some (by8 c):=by rw [List.getElem?_map,hc]; rfl
 by_cases hend:c.toNat=10∧i+1=b.length
 ·obtain ⟨h10,hlast⟩:=hend
  have hd:(ABe b).drop i=[]:=List.drop_eq_nil_of_le (by rw [AWw (by rw [hc,show c=10 from UInt8.toNat_inj.1 h10]) hlast]; exact Nat.le_refl _)
  rw [hd] at hsp
  have hfin:ACI b=ws++[w]:=by rw [hsp]; rfl
  simp -dsimp (disch:=first | assumption | omega | (simp only [AyA];try omega)) only [↓AyF,AyB,AyE,AyD,eq_self,Nat.reduceEqDiff,↓reduceIte,reduceCtorEq,Nat.reduceLeDiff,hc8,h10,hlast,hA,hkt,h11,↓Az2,↓AA0,↓AE9,↓AIH]
  have hLe:List.take (ws.length+1) (ws.map ts++[ts w])=(ws++[w]).map ts:=by rw [List.map_append]; exact List.take_of_length_le (by simp)
  rw [hLe,hfin]
 obtain ⟨hti,htc⟩:=AW5 hil (fun h=>hend ⟨by rw [hc] at h; rw [Option.some.inj h.1]; rfl,h.2⟩) hit
 rw [hc] at htc
 have hdr:(ABe b).drop i=c::(ABe b).drop (i+1):=by
  rw [List.drop_eq_getElem_cons hti]
  rw [List.getElem?_eq_getElem hti] at htc
  rw [Option.some.inj htc]
 rw [hdr,spl] at hsp
 by_cases h32:c.toNat=32
 ·have hc32:c=32:=UInt8.toNat_inj.1 h32
  rw [if_pos hc32] at hsp
  have h10:¬ c.toNat=10:=by omega
  simp -dsimp (disch:=first | assumption | omega | (simp only [AyA];try omega)) only [↓AyF,AyB,AyE,AyD,eq_self,Nat.reduceEqDiff,↓reduceIte,reduceCtorEq,Nat.reduceLeDiff,hc8,h32,hA,hkt,h11,↓Az2,↓AA0,↓ABX]
  have hL:(ws++[w]).length=ws.length+1:=by simp
  refine AyP (b.length - (i+1)) (by omega) (by simp) ⟨i+1,ws++[w],[],k,v+1,ws.length+1,rfl,by omega,by omega,by omega,Nat.zero_le _,by rw [hsp]; simp,?_,by rw [hL]; rfl⟩
  rw [List.getElem?_append_left (by simp; omega),List.getElem?_set_self hkl,hL,List.map_append]; rfl
 ·have hc32:¬ c=32:=fun e=>h32 (by rw [e]; rfl)
  rw [if_neg hc32] at hsp
  have hwl2:w.length+[c].length≤9223372036854775807:=by simp; omega
  by_cases h10:c.toNat=10
  ·have hlast:¬ i+1=b.length:=fun e=>hend ⟨h10,e⟩
   simp -dsimp (disch:=first | assumption | omega | (simp only [AyA];try omega)) only [↓AyF,AyB,AyE,AyD,eq_self,Nat.reduceEqDiff,↓reduceIte,reduceCtorEq,Nat.reduceLeDiff,hc8,h10,hlast,h11,AWu,ATa,AVB,↓Az2,↓AA0,↓ABX]
   exact AyP (b.length - (i+1)) (by omega) (by simp) ⟨i+1,ws,w++[c],k,v,cp,rfl,by omega,by omega,by omega,by simp; omega,hsp,by rw [List.getElem?_append_left hkl]; exact hk,rfl⟩
  ·simp -dsimp (disch:=first | assumption | omega | (simp only [AyA];try omega)) only [↓AyF,AyB,AyE,AyD,eq_self,Nat.reduceEqDiff,↓reduceIte,reduceCtorEq,Nat.reduceLeDiff,hc8,h10,h32,h11,AWu,ATa,AVB,↓Az2,↓AA0,↓ABX]
   exact AyP (b.length - (i+1)) (by omega) (by simp) ⟨i+1,ws,w++[c],k,v,cp,rfl,by omega,by omega,by omega,by simp; omega,hsp,by rw [List.getElem?_append_left hkl]; exact hk,rfl⟩
end
section
variable [AyZ]
set_option maxRecDepth 100000
def AIy:AyC := .seq (.ops [po_ 4 (.mov (.c (.slice none 0 0)))] [0,1])
 (.seq (.ops [mv_ 5 0,mv_ 6 1,so_ 7 (.call 104 [.t 5,.t 6,.c (.int .i64 ((0:Nat):Int)),.c (.int .i64 (-1))]),mv_ 4 7] [4])
 (.ret))
def AJv:List VR:=[.tmp 4]
theorem APt:Tryz.f78.body.bind (trC Tryz.prog Tryz.f78.ntmps)=some (er AIy):=by kernel_rfl
theorem APb:trR Tryz.prog Tryz.f78.results.toList=some AJv:=by kernel_rfl
def AMN:=Ayz AIy.eq_1
theorem AMU {K:TV→Prop} {e:Env} {H:List Ob}:res AJv e H K=res [.tmp 4] e H K:=FI rfl
def AH7:=(aI_ @AMN @AMU)
def AOr:=AzX 8 Tryz.func78 APt APb rfl
def ADf:AyC := .seq (.ops [mv_ 42 9,mv_ 43 10,mv_ 44 0,mv_ 45 11,mv_ 46 2,po_ 47 (.bin 3 .add (.t 45) (.t 46)),po_ 48 (.slS (.t 44) none (some (.t 47))),po_ 49 (.idxA 1 (.t 42) (.t 43)),⟨none,.s (.store 1 (.t 49) (.t 48)),none⟩] [0,1,2,3,9,10,11])
 (.seq (.ops [mv_ 50 0,mv_ 51 11,mv_ 52 1,po_ 53 (.lenS (.t 52)),po_ 54 (.bin 3 .add (.t 51) (.t 53)),po_ 55 (.slS (.t 50) (some (.t 54)) none),mv_ 0 55] [0,1,2,3,9,10])
 (.ops [mv_ 56 10,po_ 57 (.bin 3 .add (.t 56) (ci_ 1)),mv_ 10 57] [0,1,2,3,9,10]))
def AC1:AyC := .seq (.seq (.ops [mv_ 40 11,po_ 41 (.bin 3 .lss (.t 40) (ci_ 0))] [0,1,2,3,9,10,11,41])
 (.cond (.t 41)
 (.exit 0)
 (.skip)))
 ADf
def ACP:AyC := .block 1 (.seq (.ops [mv_ 37 0,mv_ 38 1,so_ 39 (.call 99 [.t 37,.t 38]),mv_ 11 39] [0,1,2,3,9,10,11])
 AC1)
def AC5:AyC := .seq (.seq (.ops [mv_ 34 10,mv_ 35 3,po_ 36 (.bin 3 .lss (.t 34) (.t 35))] [0,1,2,3,9,10,36])
 (.cond (.t 36)
 (.skip)
 (.exit 0)))
 ACP
def ACQ:AyC := .seq (.ops [mv_ 58 9,mv_ 59 10,mv_ 60 0,po_ 61 (.idxA 1 (.t 58) (.t 59)),⟨none,.s (.store 1 (.t 61) (.t 60)),none⟩] [9,10])
 (.seq (.ops [mv_ 62 9,mv_ 63 10,po_ 64 (.bin 3 .add (.t 63) (ci_ 1)),po_ 65 (.slV 1 (.t 62) none (some (.t 64))),mv_ 8 65] [8])
 (.ret))
def AC7:AyC := .seq (.block 0 (.loop [0,1,2,3,9,10] AC5))
 ACQ
def ADe:AyC := .seq (.ops [po_ 10 (.mov (ci_ 0))] [0,1,2,3,9,10])
 AC7
def ADd:AyC := .seq (.ops [mv_ 32 3,po_ 33 (.bin 3 .sub (.t 32) (ci_ 1)),mv_ 3 33] [0,1,2,3,9])
 ADe
def ADc:AyC := .seq (.ops [mv_ 30 3,so_ 31 (.mks 1 16 (.val (.string (str []))) (.t 30) (.t 30)),mv_ 9 31] [0,1,2,3,9])
 ADd
def ACf:AyC := .seq (.ops [mv_ 25 3,mv_ 26 0,po_ 27 (.lenS (.t 26)),po_ 28 (.bin 3 .add (.t 27) (ci_ 1)),po_ 29 (.min (.t 25) (.t 28)),mv_ 3 29] [0,1,2,3])
 ADc
def AB2:AyC := .seq (.seq (.ops [mv_ 19 3,po_ 20 (.bin 3 .lss (.t 19) (ci_ 0))] [0,1,2,3,20])
 (.cond (.t 20)
 (.ops [mv_ 21 0,mv_ 22 1,so_ 23 (.call 121 [.t 21,.t 22]),po_ 24 (.bin 3 .add (.t 23) (ci_ 1)),mv_ 3 24] [0,1,2,3])
 (.skip)))
 ACf
def ACa:AyC := .seq (.seq (.ops [mv_ 14 1,po_ 15 (.bin 9 .eql (.t 14) (.c (.string (str []))))] [0,1,2,3,15])
 (.cond (.t 15)
 (.seq (.ops [mv_ 16 0,mv_ 17 3,so_ 18 (.call 120 [.t 16,.t 17]),mv_ 8 18] [8])
  (.ret))
 (.skip)))
 AB2
def AB5:AyC := .seq (.seq (.ops [mv_ 12 3,po_ 13 (.bin 3 .eql (.t 12) (ci_ 0))] [0,1,2,3,13])
 (.cond (.t 13)
 (.seq (.ops [po_ 8 (.mov (.c (.slice none 0 0)))] [8])
  (.ret))
 (.skip)))
 ACa
def AEY:AyC := .seq (.ops [po_ 8 (.mov (.c (.slice none 0 0)))] [0,1,2,3])
 AB5
def AE8:List VR:=[.tmp 8]
theorem ALA:Tryz.f104.body.bind (trC Tryz.prog Tryz.f104.ntmps)=some (er AEY):=by kernel_rfl
theorem ALm:trR Tryz.prog Tryz.f104.results.toList=some AE8:=by kernel_rfl
def AGA:=Ayz ADf.eq_1
def AGB:=Ayz AC1.eq_1
def AGJ:=Ayz ACP.eq_1
def ABV:=Ayz AC5.eq_1
def AGH:=Ayz ACQ.eq_1
def AGv:=Ayz AC7.eq_1
def AGz:=Ayz ADe.eq_1
def AGN:=Ayz ADd.eq_1
def AGu:=Ayz ADc.eq_1
def AFZ:=Ayz ACf.eq_1
def AGn:=Ayz AB2.eq_1
def AFY:=Ayz ACa.eq_1
def AF5:=Ayz AB5.eq_1
def AJ3:=Ayz AEY.eq_1
theorem AJ6 {K:TV→Prop} {e:Env} {H:List Ob}:res AE8 e H K=res [.tmp 8] e H K:=FI rfl
def AKW:=AzX 66 Tryz.func104 ALA ALm rfl
end
end Go.Proofs.YtnikbdnebdmmiaaGreatDoor
