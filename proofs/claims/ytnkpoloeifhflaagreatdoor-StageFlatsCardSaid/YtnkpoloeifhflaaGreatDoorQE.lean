/- What the proof of StageFlatsCard stands on (texts merged; names shortened by a program): part 5. -/
import Derived.Test.YtnkpoloeifhflaaGreatDoorQD
import Derived.ProofKit
import Derived.Lib.LaidTab
import Derived.LaidHandle
import Derived.OpenShut
import Derived.ShutString
import Derived.ChangeOld
import Derived.Below
import Derived.Carry
import Derived.SizedLaws
import Derived.Shelf.Small.Utf8
import Derived.Shelf.Small.Bits
import Derived.Shelf.Small.Strs
import Derived.Shelf.Small.Wraps
import Derived.Shelf.Strconv.Itoa0
import Derived.Shelf.Strconv.Itoa1
import Derived.Shelf.LaysM
import Derived.Shelf.Strconv.Itoa2
import Derived.Shelf.Strconv.Itoa3
import Derived.Shelf.Strconv.Clone
import Derived.Shelf.Strconv.SyntaxError
import Derived.Shelf.LaysC
import Derived.Shelf.Strconv.ToError
import Derived.Shelf.Strconv.Lower
import Derived.Shelf.Strconv.ParseUint10
import Derived.Shelf.Strconv.ParseUint10Empty
import Derived.Shelf.Strconv.ParseUint10Any
import Derived.Shelf.Strconv.RangeError
import Derived.Shelf.Strconv.ToErrorRange
import Derived.Shelf.Strings.Search1
import Derived.Shelf.Strings.Search2
import Derived.Shelf.Strings.Search3
import Derived.Shelf.Strings.Cut
import Derived.Shelf.Strings.Shaped
import Derived.Shelf.Strings.Prefix
import Derived.Shelf.Unicode.Decode
import Derived.Shelf.Strings.Runes
import Derived.Shelf.Strings.IndexAny
import Derived.Shelf.Strings.AsciiSet
import Derived.Shelf.Strings.IndexAnyAll
import Derived.Shelf.Unicode.DecodeSlow
import Derived.Shelf.Unicode.DecodeAny
import Derived.Ground.Names2Prog
import Derived.Shelf.Slices.SearchI
import Derived.Shelf.Bytes.SlIndexSmall
import Derived.Shelf.Bytes.SlIndexAt
import Derived.Shelf.Bytes.Small
import Derived.Shelf.Bytes.IndexByte
import Derived.Test.YtnkpoloeifhflaaGreatDoorProg
import Derived.WalkKit
import Derived.Deep.QuietTactic
import Derived.BigQuiet
import Derived.Sort.Walk0
import Derived.Lib.Bytealg
import Derived.KernelRfl
import Derived.Sort.Grow
import Derived.Laws.RangeAny
import Derived.Lib.TrimU
import Derived.Lib.ItoaNum
import Derived.Lib.ItoaLen
set_option linter.defProp false
set_option linter.unusedSectionVars false
set_option linter.unusedSimpArgs false
set_option linter.unusedVariables false
namespace Go.Proofs.YtnkpoloeifhflaaGreatDoor
section
open Go.RowKit
variable [AL]
theorem Asi {g:Nat} {x:GV} (h:Qx g=some x):(g,x)∈AL.l:=by
 unfold Qx at h
 obtain ⟨p,hp,rfl⟩:=Option.map_eq_some_iff.1 h
 have h1:=List.mem_of_find?_eq_some hp
 have h2:=List.find?_some hp
 have h3:p.1=g:=by simpa using h2
 obtain ⟨a,b⟩:=p
 simp only at h3; subst h3; exact h1
section
omit [AL]
theorem AmN {P:Program} {w:World} {name:String} {g:Nat} {cs:Array Value} (hg:P.globalNamed name=some g) (h:w.var? P name=some cs):∃ t fr,w.heap[g]?=some (.cells cs t fr):=by
 unfold World.var? at h
 rw [hg,Option.bind_some] at h
 split at h
 ·rename_i c t fr hh; cases h; exact ⟨t,fr,hh⟩
 ·cases h
def Bh6 (P:Program) (t:TypeId):Bool:=match P.underlying t with
 | some (.int _)=>true
 | some .string=>true
 | _=>false
def Bpo:DataW Unit→Option Value
 | .lit (.int k n)=>some (.int k n)
 | .lit (.string l)=>some (.string ⟨l.toArray⟩)
 | _=>none
variable {P:Program} {w:World} {fuel:Nat} {cs:List Value}
theorem Ao3 {t:TypeId} {x:DataW Unit×List MemPlace} (ht:Bh6 P t=true) (h:DataW.trod (fun _=>()) P w 0 (fun _=>true) false fuel t cs=some x):∃ v,Bpo x.1=some v∧cs=[v]:=by
 unfold Bh6 at ht
 split at ht
 ·rename_i k hk
  obtain ⟨n,rfl,rfl,_⟩:=DataW.trod_int hk h
  exact ⟨_,rfl,rfl⟩
 ·rename_i hk
  obtain ⟨s,rfl,rfl,_⟩:=DataW.trod_string hk h
  exact ⟨_,rfl,by simp⟩
 ·cases ht
theorem Apa {t e:TypeId} {n:Nat} {ds:List (DataW Unit)} {p:List MemPlace} {vs:List Value} (ht:P.underlying t=some (.array n e)) (he:Bh6 P e=true) (hce:P.cellsOf e=1) (hct:P.cellsOf t=n) (hv:ds.map Bpo=vs.map some)
  (h:DataW.trod (fun _=>()) P w 0 (fun _=>true) false fuel t cs=some (.agg ds,p)):cs=vs:=by
 cases fuel with
 | zero=>simp [DataW.trod] at h
 | succ fuel =>
  simp only [DataW.trod,ht,hce,hct,Nat.mul_one] at h
  split at h
  ·rename_i hl
   obtain ⟨xs,hm,hx⟩:=Option.map_eq_some_iff.1 h
   have hxs:xs.map (·.1)=ds:=by
    have:=congrArg Prod.fst hx
    simpa using this
   have hxl:xs.length=n:=by simpa using Lib.mapM_length hm
   have hvl:vs.length=n:=by
    have h1:=congrArg List.length hxs
    have h2:=congrArg List.length hv
    simp at h1 h2
    omega
   apply List.ext_getElem?
   intro i
   by_cases hi:i<n
   ·obtain ⟨b,hb,hf⟩:=Lib.mapM_at hm i i (by simp [hi])
    obtain ⟨v,hv1,hv2⟩:=Ao3 he hf
    have h1:cs[i]?=some v:=by
     have:=congrArg (·[0]?) hv2
     simpa [List.getElem?_take,List.getElem?_drop] using this
    have h2:ds[i]?=some b.1:=by rw [←hxs]; simp [hb]
    have h3:(ds.map Bpo)[i]?=some (some v):=by simp [h2,hv1]
    rw [hv] at h3
    simp only [List.getElem?_map,Option.map_eq_some_iff,Option.some.injEq] at h3
    obtain ⟨u,hu,rfl⟩:=h3
    rw [h1,hu]
   ·rw [List.getElem?_eq_none (by omega),List.getElem?_eq_none (by omega)]
  ·cases h
theorem AqQ {name:String} {d:DataW Unit}:∀ {laid:List (String×DataW Unit)} {ps:List MemPlace},DataW.LaidVars P w laid ps→(name,d)∈laid →
  ∃ g t cs fuel p,P.globalNamed name=some g∧(P.globals[g]?).map (·.type)=some t∧w.var? P name=some cs∧DataW.trod (fun _=>()) P w 0 (fun _=>true) false fuel t cs.toList=some (d,p)
 | [],ps,_,hm=>by simp at hm
 | (n,d')::r,ps,h,hm=>by
  obtain ⟨g,t,cs,fuel,p,q,h1,h2,h3,h4,h5,_⟩:=h
  rcases List.mem_cons.1 hm with e | hm
  ·cases e; exact ⟨g,t,cs,fuel,p,h1,h2,h3,h4⟩
  ·exact AqQ h5 hm
theorem AjJ {laid:List (String×DataW Unit)} (h:laidMet P laid w) {name:String} {ds:List (DataW Unit)} (hm:(name,DataW.agg ds)∈laid) {g:Nat} {t e:TypeId} {n:Nat} {vs:List Value} (hg:P.globalNamed name=some g) (hty:(P.globals[g]?).map (·.type)=some t)
  (ht:P.underlying t=some (.array n e)) (he:Bh6 P e=true) (hce:P.cellsOf e=1) (hct:P.cellsOf t=n) (hv:ds.map Bpo=vs.map some):∃ tt fr,w.heap[g]?=some (.cells vs.toArray tt fr):=by
 obtain ⟨ps,h,_⟩:=h
 obtain ⟨g',t',cs,fuel,p,h1,h2,h3,h4⟩:=AqQ h hm
 obtain rfl:=Option.some.inj (hg.symm.trans h1)
 obtain rfl:=Option.some.inj (hty.symm.trans h2)
 have:=Apa ht he hce hct hv h4
 have e:cs=vs.toArray:=by rw [←this,Array.toArray_toList]
 rw [e] at h3
 exact AmN hg h3
end
end
section
open Go.RowKit Go.WideShapes Go.ChangeShapes
variable [AL]
set_option autoImplicit false
def came (w:World):Ctx:=⟨fun _ _=>none,[],fun b=>b<w.heap.size⟩
def Ux (P:Program) (t:TypeId) {α:Type} (f:α→TV) (ok:α→Prop):Prop :=
 ∀ {H:Type} (enc:TypeId×Value→H) (w:World) (fuel:Nat) (cs:List Value) (d:DataW H) (ps:List MemPlace),
  DataW.trod enc P w 0 (fun _=>true) true fuel t cs=some (d,ps)→(d.weights P t).all (· ≤ reachBytes)=true→∃ a,Ak (came w) w (f a) cs∧ok a
theorem Anw {α β:Type} {f:α→Option β}:∀ {l:List α} {xs:List β},l.mapM f=some xs→xs.length=l.length∧∀ (i:Nat) a,l[i]?=some a→∃ x,xs[i]?=some x∧f a=some x
 | [],xs,h=>by simp at h; subst h; simp
 | a::l,xs,h=>by
  rw [List.mapM_cons] at h
  cases hf:f a with
  | none=>rw [hf] at h; cases h
  | some y =>
   rw [hf] at h
   cases hl:l.mapM f with
   | none=>rw [hl] at h; cases h
   | some ys =>
    rw [hl] at h
    have e:xs=y::ys:=by simpa using h.symm
    subst e
    obtain ⟨h1,h2⟩:=Anw hl
    refine ⟨by simp [h1],fun i b hb => ?_⟩
    cases i with
    | zero=>simp at hb; subst hb; exact ⟨y,by simp,hf⟩
    | succ i=>simpa using h2 i b (by simpa using hb)
theorem Adm {β:Type} {f:Nat→Option β} {n:Nat} {xs:List β} (h:(List.range n).mapM f=some xs):xs.length=n∧∀ i,i<n→∃ x,xs[i]?=some x∧f i=some x:=by
 obtain ⟨h1,h2⟩:=Anw h
 exact ⟨by simpa using h1,fun i hi=>h2 i i (by simp [hi])⟩
section
variable {P:Program} {t e:TypeId}
theorem AjL {H:Type} {enc:TypeId×Value→H} {w:World} {fuel:Nat} {cs:List Value} {x:DataW H×List MemPlace} (h:DataW.trod enc P w 0 (fun _=>true) true fuel t cs=some x):∃ n,fuel=n+1:=by
 cases fuel with
 | zero=>simp [DataW.trod] at h
 | succ n=>exact ⟨n,rfl⟩
theorem Al1 {k:IntKind} (ht:P.underlying t=some (.int k)):Ux P t (fun n => .val (.int k n)) (fun n=>(Lit.int k n).wf=true):=by
 intro H enc w fuel cs d ps h _
 obtain ⟨n,rfl⟩:=AjL h
 unfold DataW.trod at h; rw [ht] at h
 split at h<;>rename_i h1<;>try (simp at h1; done)
 all_goals try (cases h; done)
 all_goals try (simp only [Option.some.injEq,TypeDesc.int.injEq] at h1)
 all_goals first
  | (subst h1; split at h; (rename_i hc; obtain ⟨rfl,hw⟩:=hc; cases h; exact ⟨_,by rw [Ak]; exact ⟨rfl,rfl⟩,hw⟩); cases h)
  | (simp at h1; done)
  | (simp at h; done)
end
theorem Xu {H:Type} {P:Program} {e:TypeId} {d:DataW H} {n:Nat} (hn:n∈d.weights P e):∀ {ds:List (DataW H)},d∈ds→n∈DataW.weightsAll P e ds
 | d0::ds,h=>by
  simp only [DataW.weightsAll,List.mem_append]
  rcases List.mem_cons.1 h with rfl | h
  ·exact Or.inl hn
  ·exact Or.inr (Xu hn h)
theorem Rt {l m:List Nat} (h:m.all (· ≤ reachBytes)=true) (hs:∀ n∈l,n∈m):l.all (· ≤ reachBytes)=true:=List.all_eq_true.2 fun n hn=>List.all_eq_true.1 h n (hs n hn)
theorem Bjl (a:Addr) (i j:Nat):(a.add i).add j=a.add (i+j):=by
 unfold Addr.add
 by_cases h1:i=0<;>by_cases h2:j=0<;>simp [h1,h2,Nat.add_assoc]
theorem Bhr (b off i:Nat):(⟨b,off,none⟩:Addr).add i=⟨b,off+i,none⟩:=by
 unfold Addr.add
 by_cases h1:i=0<;>simp [h1]
theorem Asb {w:World} {a:Addr} {n:Nat} {us:List Value} (h:w.cells? 0 a n=some us):us.length=n∧∀ i,i<n→∃ u,us[i]?=some u∧w.cell? (a.add i)=some u:=by
 unfold World.cells? at h
 rw [if_pos (Nat.zero_le _)] at h
 exact Adm h
theorem AnI {α:Type} {f:α→TV} {ok:α→Prop} {k:Nat} (hw:∀ a,ok a→AC (f a)=k) {w:World} {b off:Nat}:∀ (n i0:Nat),(∀ i,i<n→∃ us a,Ak (came w) w (f a) us∧ok a∧us.length=k∧Gp w b (off+(i0+i)*k) us) →
  ∃ (l:List α) (us:List Value),l.length=n∧(∀ a∈l,ok a)∧Am (came w) w (l.map f) us∧us.length=n*k∧Gp w b (off+i0*k) us
 | 0,i0,_=>⟨[],[],rfl,by simp,by rw [List.map_nil,Am],by simp,fun j u h=>by simp at h⟩
 | n+1,i0,h=>by
  obtain ⟨us,a,h1,h2,h3,h4⟩:=h 0 (by omega)
  obtain ⟨l,vs,k1,k2,k3,k4,k5⟩:=AnI hw n (i0+1) (fun i hi=>by
   obtain ⟨us,a,h1,h2,h3,h4⟩:=h (i+1) (by omega)
   exact ⟨us,a,h1,h2,h3,by rw [show i0+1+i=i0+(i+1) from by omega]; exact h4⟩)
  refine ⟨a::l,us++vs,by simp [k1],fun c hc => ?_,?_,?_,?_⟩
  ·rcases List.mem_cons.1 hc with rfl | hc
   ·exact h2
   ·exact k2 c hc
  ·rw [List.map_cons,Am]; exact ⟨us,vs,rfl,h1,k3⟩
  ·rw [List.length_append,h3,k4,Nat.succ_mul,Nat.add_comm]
  ·intro j u hj
   by_cases hjk:j<k
   ·rw [List.getElem?_append_left (by omega)] at hj
    have:=h4 j u hj
    rwa [Nat.add_zero] at this
   ·rw [List.getElem?_append_right (by omega),h3] at hj
    have:=k5 (j - k) u hj
    rw [show off+(i0+1)*k+(j - k)=off+i0*k+j from by rw [Nat.succ_mul]; omega] at this
    exact this
section
variable {P:Program} {t e:TypeId} {α:Type} {f:α→TV} {ok:α→Prop} {k B:Nat}
theorem AiF (ht:P.underlying t=some (.slice e)) (hk:P.cellsOf e=k) (hB:P.bytesOf e=B) (hc:Ux P e f ok) (hw:∀ a,ok a→AC (f a)=k) (h0:k≠0) :
  Ux P t (fun l:List α => .sl k (l.map f)) (fun l=>(∀ a∈l,ok a)∧l.length*B≤140737488351232∧l.length≤9223372036854775807):=by
 intro H enc w fuel cs d ps h hwt
 obtain ⟨n,rfl⟩:=AjL h
 unfold DataW.trod at h; rw [ht] at h
 split at h<;>rename_i h1<;>try (simp at h1; done)
 all_goals first
  | (simp at h; done)
  | skip
 ·cases h
  refine ⟨[],?_,by simp,by simp,by simp⟩
  rw [Ak]; exact ⟨by simp,.inl ⟨rfl,none,0,rfl,by omega⟩⟩
 ·rename_i a len cap
  simp only [Option.some.injEq,TypeDesc.slice.injEq] at h1
  subst h1
  split at h
  ·rename_i hcond
   obtain ⟨-,hlc,hcm⟩:=hcond
   rw [Option.bind_eq_some_iff] at h
   obtain ⟨elems,he,h⟩:=h
   rw [if_pos rfl,Option.map_eq_some_iff] at h
   obtain ⟨rest,hr,h⟩:=h
   simp only [Prod.mk.injEq] at h
   obtain ⟨rfl,rfl⟩:=h
   obtain ⟨e1,e2⟩:=Adm he
   obtain ⟨r1,_⟩:=Adm hr
   unfold maxLen at hcm
   simp only [DataW.weights,ht,List.all_cons,Bool.and_eq_true,decide_eq_true_eq,reachBytes,List.length_map,e1,r1,hB] at hwt
   have hcapB:cap*B≤140737488351232:=by have:=of_decide_eq_true hwt.1; rwa [Nat.add_sub_cancel' hlc] at this
   have hlen:len*B≤140737488351232:=Nat.le_trans (Nat.mul_le_mul_right _ hlc) hcapB
   have hwe:(DataW.weightsAll P e (elems.map (·.1))).all (· ≤ reachBytes)=true:=Rt (m:=DataW.weightsAll P e (elems.map (·.1))++DataW.weightsAll P e (rest.map (·.1))) hwt.2 (fun n hn=>List.mem_append_left _ hn)
   obtain ⟨b,off,spot⟩:=a
   have key:∀ i,i<len→∃ us a,Ak (came w) w (f a) us∧ok a∧us.length=k∧(∀ j u,us[j]?=some u→w.cell? ((⟨b,off,spot⟩:Addr).add (i*k+j))=some u):=by
    intro i hi
    obtain ⟨x,hx,hxe⟩:=e2 i hi
    rw [Option.bind_eq_some_iff] at hxe
    obtain ⟨us,hus,htr⟩:=hxe
    rw [hk] at hus
    obtain ⟨c1,c2⟩:=Asb hus
    obtain ⟨a,ha,hok⟩:=hc enc w n us x.1 x.2 htr (Rt hwe fun m hm=>Xu hm (List.mem_map.2 ⟨x,List.mem_of_getElem? hx,rfl⟩))
    refine ⟨us,a,ha,hok,c1,fun j u hj => ?_⟩
    have hjk:j<k:=by rw [←c1]; exact (List.getElem?_eq_some_iff.1 hj).1
    obtain ⟨u',hu',hcu⟩:=c2 j hjk
    rw [hj] at hu'; cases hu'
    rw [Bjl] at hcu
    exact hcu
   by_cases hl0:len=0
   ·subst hl0
    refine ⟨[],?_,by simp,by simp,by simp⟩
    rw [Ak]; exact ⟨by simp,.inl ⟨rfl,_,cap,rfl,hcm⟩⟩
   ·have hsp:spot=none:=by
     obtain ⟨us,a,_,_,c1,c2⟩:=key 0 (by omega)
     have hu:us[0]?=some us[0]:=List.getElem?_eq_getElem (by omega)
     have:=c2 0 _ hu
     simpa [Addr.add] using World.cell?_spot this
    subst hsp
    obtain ⟨l,us,l1,l2,l3,l4,l5⟩:=AnI (f:=f) (ok:=ok) hw (w:=w) (b:=b) (off:=off) len 0 (fun i hi=>by
     obtain ⟨us,a,h1,h2,h3,h4⟩:=key i hi
     refine ⟨us,a,h1,h2,h3,fun j u hj => ?_⟩
     have:=h4 j u hj
     rw [Bhr] at this
     rw [Nat.zero_add,Nat.add_assoc]; exact this)
    refine ⟨l,?_,l2,by rw [l1]; exact hlen,by omega⟩
    rw [Ak]
    refine ⟨fun x hx => ?_,.inr ⟨b,off,cap,us,by rw [List.length_map,l1],by rw [List.length_map,l1]; exact hlc,hcm,?_,l3,by simpa using l5⟩⟩
    ·obtain ⟨a,ha,rfl⟩:=List.mem_map.1 hx; exact hw a (l2 a ha)
    ·have hus:0<us.length:=by rw [l4]; exact Nat.mul_pos (by omega) (by omega)
     exact BkQ (l5 0 us[0] (List.getElem?_eq_getElem hus))
  ·cases h
end
section
variable {P:Program} {t e:TypeId} {α:Type} {f:α→TV} {ok:α→Prop} {k:Nat}
theorem UZ {β:Type} {g:β→TV} {ok':β→Prop} (h:Ux P t f ok) (hm:∀ a,ok a→∃ b,f a=g b∧ok' b):Ux P t g ok':=by
 intro H enc w fuel cs d ps h1 h2
 obtain ⟨a,h3,h4⟩:=h enc w fuel cs d ps h1 h2
 obtain ⟨b,h5,h6⟩:=hm a h4
 exact ⟨b,by rw [←h5]; exact h3,h6⟩
theorem Anx (ht:P.underlying t=some (.int .u8)):Ux P t by8 (fun _=>True) :=
 UZ (Al1 ht) fun n h=>by
  have:=bounds_u8 h
  refine ⟨UInt8.ofNat n.toNat,?_,trivial⟩
  rw [by8,UInt8.toNat_ofNat',Nat.mod_eq_of_lt (by omega)]
  congr 2; omega
theorem Al3 (ht:P.underlying t=some (.int .i64)):Ux P t i64 (fun n => -9223372036854775808≤n∧n≤9223372036854775807) :=
 UZ (Al1 ht) fun n h=>⟨n,rfl,by have:=bounds_i64 h; omega⟩
theorem AoL (ht:P.underlying t=some (.slice e)) (he:P.underlying e=some (.int .u8)) (hk:P.cellsOf e=1) (hB:P.bytesOf e=1):Ux P t slB (fun l=>l.length≤140737488351232) :=
 UZ (AiF ht hk hB (Anx he) (fun _ _=>rfl) (by omega)) fun l h=>⟨l,rfl,by have:=h.2; omega⟩
theorem Bkr {H:Type} {P:Program} {e:TypeId} {parts:List (DataW H)} (h:(DataW.weightsAll P e parts).all (· ≤ reachBytes)=true) {d:DataW H} (hd:d∈parts):(d.weights P e).all (· ≤ reachBytes)=true :=
 Rt h fun n hn=>Xu hn hd
theorem Ari {w:World} (hw:∀ a,ok a→AC (f a)=k):∀ (n i0:Nat) (cs:List Value),cs.length=n*k→(∀ i,i<n→∃ a,Ak (came w) w (f a) ((cs.drop (i*k)).take k)∧ok a) →
  ∃ l:List α,l.length=n∧(∀ a∈l,ok a)∧Am (came w) w (l.map f) cs
 | 0,i0,cs,hl,_=>⟨[],rfl,by simp,by rw [List.map_nil,Am]; exact List.length_eq_zero_iff.1 (by simpa using hl)⟩
 | n+1,i0,cs,hl,h=>by
  obtain ⟨a,h1,h2⟩:=h 0 (by omega)
  rw [Nat.zero_mul,List.drop_zero] at h1
  rw [Nat.succ_mul] at hl
  obtain ⟨l,k1,k2,k3⟩:=Ari hw n 0 (cs.drop k) (by rw [List.length_drop]; omega) (fun i hi=>by
   obtain ⟨a,h1,h2⟩:=h (i+1) (by omega)
   exact ⟨a,by rw [List.drop_drop]; rw [Nat.succ_mul,Nat.add_comm] at h1; exact h1,h2⟩)
  refine ⟨a::l,by simp [k1],fun c hc => ?_,?_⟩
  ·rcases List.mem_cons.1 hc with rfl | hc
   ·exact h2
   ·exact k2 c hc
  ·rw [List.map_cons,Am]
   exact ⟨cs.take k,cs.drop k,(List.take_append_drop k cs).symm,h1,k3⟩
theorem AoO {n:Nat} (ht:P.underlying t=some (.array n e)) (hk:P.cellsOf e=k) (hn:P.cellsOf t=n*k) (hc:Ux P e f ok) (hw:∀ a,ok a→AC (f a)=k) :
  Ux P t (fun l:List α => .arr n k (l.map f)) (fun l=>l.length=n∧∀ a∈l,ok a):=by
 intro H enc w fuel cs d ps h hwt
 obtain ⟨m,rfl⟩:=AjL h
 unfold DataW.trod at h; rw [ht] at h
 split at h<;>rename_i h1<;>try (simp at h1; done)
 all_goals first
  | (simp at h; done)
  | exact ((‹∀ (n_1:Nat) (e_1:TypeId),some (TypeDesc.array n e)=some (TypeDesc.array n_1 e_1)→False› : ∀ (n_1:Nat) (e_1:TypeId),some (TypeDesc.array n e)=some (TypeDesc.array n_1 e_1)→False) n e rfl).elim
  | skip
 cases h1
 split at h
 ·rename_i hlen
  rw [Option.map_eq_some_iff] at h
  obtain ⟨xs,hx,h⟩:=h
  simp only [Prod.mk.injEq] at h
  obtain ⟨rfl,rfl⟩:=h
  obtain ⟨e1,e2⟩:=Adm hx
  simp only [DataW.weights,ht] at hwt
  rw [hn] at hlen
  obtain ⟨l,l1,l2,l3⟩:=Ari (f:=f) (ok:=ok) (w:=w) hw _ 0 _ hlen (fun i hi=>by
   obtain ⟨x,hx,hxe⟩:=e2 i hi
   rw [hk] at hxe
   obtain ⟨a,ha,hok⟩:=hc enc w m _ x.1 x.2 hxe (Bkr hwt (List.mem_map.2 ⟨x,List.mem_of_getElem? hx,rfl⟩))
   exact ⟨a,ha,hok⟩)
  refine ⟨l,?_,l1,l2⟩
  rw [Ak]
  refine ⟨by rw [List.length_map,l1],fun x hx => ?_,l3⟩
  obtain ⟨a,ha,rfl⟩:=List.mem_map.1 hx; exact hw a (l2 a ha)
 ·cases h
end
def Anj (P:Program) (off:Nat) (fs:List Field) {α:Type} (f:α→List TV) (ok:α→Prop):Prop :=
 ∀ {H:Type} (enc:TypeId×Value→H) (w:World) (fuel:Nat) (cs:List Value) (xs:List (DataW H×List MemPlace)),
  (fs.mapM fun fd=>DataW.trod enc P w 0 (fun _=>true) true fuel fd.type ((cs.drop fd.offset).take (P.cellsOf fd.type)))=some xs→(DataW.weightsEach P (fs.map (·.type)) (xs.map (·.1))).all (· ≤ reachBytes)=true →
  cs.length=off+(fs.map fun fd=>P.cellsOf fd.type).sum→∃ a,Am (came w) w (f a) (cs.drop off)∧ok a
theorem Ao5 {P:Program} {off:Nat}:Anj P off [] (fun _:Unit=>[]) (fun _=>True):=by
 intro H enc w fuel cs xs _ _ hl
 refine ⟨(),?_,trivial⟩
 rw [Am]; exact List.drop_eq_nil_of_le (by simp at hl; omega)
theorem AiI {P:Program} {off n:Nat} {fd:Field} {fs:List Field} {α β:Type} {f:α→TV} {ok:α→Prop} {g:β→List TV} {ok':β→Prop} (h0:fd.offset=off) (hn:P.cellsOf fd.type=n) (hc:Ux P fd.type f ok) (hr:Anj P (off+n) fs g ok') :
  Anj P off (fd::fs) (fun x:α×β=>f x.1::g x.2) (fun x=>ok x.1∧ok' x.2):=by
 intro H enc w fuel cs xs hx hw hl
 rw [List.mapM_cons] at hx
 cases h1:DataW.trod enc P w 0 (fun _=>true) true fuel fd.type ((cs.drop fd.offset).take (P.cellsOf fd.type)) with
 | none=>rw [h1] at hx; cases hx
 | some y =>
  rw [h1] at hx
  cases h2:(fs.mapM fun fd=>DataW.trod enc P w 0 (fun _=>true) true fuel fd.type ((cs.drop fd.offset).take (P.cellsOf fd.type))) with
  | none=>rw [h2] at hx; cases hx
  | some ys =>
   rw [h2] at hx
   have e:xs=y::ys:=by simpa using hx.symm
   subst e
   simp only [List.map_cons,DataW.weightsEach] at hw
   obtain ⟨a,ha,hoka⟩:=hc enc w fuel _ y.1 y.2 h1 (Rt hw fun n hn=>List.mem_append_left _ hn)
   obtain ⟨b,hb,hokb⟩:=hr enc w fuel cs ys h2 (Rt hw fun n hn=>List.mem_append_right _ hn) (by simp [hn] at hl ⊢; omega)
   refine ⟨(a,b),?_,hoka,hokb⟩
   rw [Am]
   refine ⟨(cs.drop off).take n,cs.drop (off+n),?_,by rw [←h0,←hn]; exact ha,hb⟩
   rw [←List.drop_drop,List.take_append_drop]
theorem Ama {P:Program} {t:TypeId} {fs:Array Field} {α:Type} {f:α→List TV} {ok:α→Prop} (ht:P.underlying t=some (.struct fs)) (hn:P.cellsOf t=(fs.toList.map fun fd=>P.cellsOf fd.type).sum) (hc:Anj P 0 fs.toList f ok) :
  Ux P t (fun a => .agg (f a)) ok:=by
 intro H enc w fuel cs d ps h hwt
 obtain ⟨m,rfl⟩:=AjL h
 unfold DataW.trod at h; rw [ht] at h
 split at h<;>rename_i h1<;>try (simp at h1; done)
 all_goals first
  | (simp at h; done)
  | exact ((‹∀ (fs_1:Array Field),some (TypeDesc.struct fs)=some (TypeDesc.struct fs_1)→False› : ∀ (fs_1:Array Field),some (TypeDesc.struct fs)=some (TypeDesc.struct fs_1)→False) fs rfl).elim
  | skip
 cases h1
 split at h
 ·rename_i hlen
  rw [Option.map_eq_some_iff] at h
  obtain ⟨xs,hx,h⟩:=h
  simp only [Prod.mk.injEq] at h
  obtain ⟨rfl,rfl⟩:=h
  simp only [DataW.weights,ht] at hwt
  obtain ⟨a,ha,hok⟩:=hc enc w m _ xs hx hwt (by rw [hlen,hn,Nat.zero_add])
  exact ⟨a,by rw [Ak]; rw [List.drop_zero] at ha; exact ha,hok⟩
 ·cases h
def Agu (P:Program) (ts:List TypeId) {α:Type} (f:α→List TV) (ok:α→Prop):Prop :=
 ∀ {H:Type} (enc:TypeId×Value→H) (w:World) (vs:List Value) (ds:List (DataW H)) (ps:List MemPlace),
  DataW.TrodAll enc P w 0 (fun _=>true) true ts vs ds ps→(∀ (j:Nat) t v,ts[j]?=some t→vs[j]?=some v→∃ base,Value.okWide P w .any base t v)→(DataW.weightsEach P ts ds).all (· ≤ reachBytes)=true→∃ a,BQ (came w) w (f a) vs∧ok a
theorem Amq {P:Program}:Agu P [] (fun _:Unit=>[]) (fun _=>True):=by
 intro H enc w vs ds ps h _ _
 obtain ⟨rfl,rfl,rfl⟩:=trodAll_nil h
 exact ⟨(),by rw [BQ],trivial⟩
def AnS (P:Program) (t:TypeId) (b:Bool):Prop:=∀ w base v,Value.okWide P w .any base t v→if b then ∃ cs,v = .agg cs else v.cells = #[v]
theorem AnY {P:Program} {t e:TypeId} (ht:P.underlying t=some (.slice e)):AnS P t false:=fun w _ v h=>by obtain ⟨_,_,_,rfl⟩:=okWide_slice ht h; rfl
theorem Art {P:Program} {t:TypeId} {k:IntKind} (ht:P.underlying t=some (.int k)):AnS P t false:=fun w _ v h=>by obtain ⟨_,rfl⟩:=okWide_int ht h; rfl
theorem Aoo {P:Program} {t e:TypeId} {n:Nat} (ht:P.underlying t=some (.array n e)):AnS P t true:=fun w _ v h=>by
 unfold Value.okWide at h; rw [ht] at h; obtain ⟨cs,rfl,_⟩:=h; exact ⟨cs,rfl⟩
theorem A3O {c:Ctx} {P:Program} {w:World} {t:TypeId} {v:Value} {x:TV} {b:Bool} (hf:AnS P t b) {base:Nat} (hv:Value.okWide P w .any base t v) (hx:Aiq x=b):v=mkV x v.cells.toList:=by
 have h:=hf w base v hv
 cases b with
 | true =>
  simp only [if_true] at h
  obtain ⟨cs,rfl⟩:=h
  rw [Aq6 hx]; simp [Value.cells]
 | false =>
  simp only [Bool.false_eq_true,if_false] at h
  rw [h]
  exact (AjH hx).symm
theorem XC {P:Program} {t:TypeId} {ts:List TypeId} {α β:Type} {f:α→TV} {ok:α→Prop} {g:β→List TV} {ok':β→Prop} {b:Bool} (hc:Ux P t f ok) (hf:AnS P t b) (hm:∀ a,Aiq (f a)=b) (hr:Agu P ts g ok') :
  Agu P (t::ts) (fun x:α×β=>f x.1::g x.2) (fun x=>ok x.1∧ok' x.2):=by
 intro H enc w vs ds ps h hv hw
 obtain ⟨v,vs',d,ds',p,q,rfl,rfl,rfl,h0,r0⟩:=trodAll_cons h
 simp only [DataW.weightsEach] at hw
 obtain ⟨fuel,hfu⟩:=h0
 obtain ⟨a,ha,hoka⟩:=hc enc w fuel _ d p hfu (Rt hw fun n hn=>List.mem_append_left _ hn)
 obtain ⟨b,hb,hokb⟩:=hr enc w vs' ds' q r0 (fun j t v h1 h2=>hv (j+1) t v (by simpa using h1) (by simpa using h2)) (Rt hw fun n hn=>List.mem_append_right _ hn)
 refine ⟨(a,b),BQ.cons.2 ⟨v,vs',rfl,.inr (.inr ⟨v.cells.toList,ha,A3O (c:=came w) hf (hv 0 t v rfl rfl).choose_spec (hm a)⟩),hb⟩,hoka,hokb⟩
theorem Agh {H:Type} {enc:TypeId×Value→H} {P:Program} (hl:laidOutB P=true) {W W':World} (hb:Below W.heap.size W W'):∀ {ts:List TypeId} {vs:List Value} {ds:List (DataW H)} {ps:List MemPlace},(ts.all fun t=>P.readableRec t && decide (t<P.types.size))=true →
  DataW.TrodAll enc P W 0 (fun _=>true) true ts vs ds ps→DataW.TrodAll enc P W' 0 (fun b=>decide (b<W.heap.size)) true ts vs ds ps
 | [],vs,ds,ps,_,h=>by
  obtain ⟨rfl,rfl,rfl⟩:=trodAll_nil h
  exact trodAll_mk0
 | t::ts,vs,ds,ps,hr,h=>by
  obtain ⟨v,vs',d,ds',p,q,rfl,rfl,rfl,h0,r0⟩:=trodAll_cons h
  simp only [List.all_cons,Bool.and_eq_true,decide_eq_true_eq] at hr
  refine trodAll_cons_mk (Below.trod hl hr.1.1 hr.1.2 h0 hb ?_) (Agh hl hb (by simpa using hr.2) r0)
  obtain ⟨m,hm⟩:=h0
  exact DataW.trod_lt m _ _ _ hm
theorem WW.below {F F':Nat→Prop} {w w':World} (h:WW F w F' w'):Below w.heap.size w w':=⟨h.os,h.tape,h.output,h.size,fun k hk=>h.same k hk⟩
theorem Bn1 {P:Program} {f:FuncId} {ts:List TypeId} {α:Type} {g:α→List TV} {ok:α→Prop} (hc:Agu P ts g ok) (hlaw:∀ a,ok a→BD P f (g a) (fun x=>x=tb true)) {H:Type} {enc:TypeId×Value→H} {w:World} {args:Array Value} {ds:List (DataW H)} {ps:List MemPlace}
  (h:DataW.TrodAll enc P w 0 (fun _=>true) true ts args.toList ds ps) (hv:∀ (j:Nat) t v,ts[j]?=some t→args.toList[j]?=some v→∃ base,Value.okWide P w .any base t v) (hw:(DataW.weightsEach P ts ds).all (· ≤ reachBytes)=true) (hg:QX (fun b=>b<w.heap.size) w) :
  Calls P f args w fun e w'=>e = .returned (.bool true)∧Below w.heap.size w w':=by
 obtain ⟨a,ha,hok⟩:=hc enc w args.toList ds ps h hv hw
 have:=hlaw a hok (fun _ _=>none) (fun b=>b<w.heap.size) w args.toList ⟨fun b h=>h,hg⟩ ha
 rw [Array.toArray_toList] at this
 refine this.mono ?_
 rintro e w' ⟨v,x,F',rfl,rfl,hx,hst⟩
 rw [Rep.val] at hx
 exact ⟨by rw [hx],hst.below⟩
end
end Go.Proofs.YtnkpoloeifhflaaGreatDoor
namespace Go.Proofs
open Go.Shelf
def Tryz.lays119_ren:Go.Shelf.Ren:=⟨fun | 119=>165 | n=>n,fun | 21=>21 | 4=>4 | n=>n,fun | n=>n⟩
theorem Tryz.lays119:Go.Proofs.Lays.n119 Tryz.prog Tryz.lays119_ren:={
 mixed:=by kernel_rfl
 f119:=Tryz.func165.trans (congrArg some (by kernel_rfl))
 t4:=Tryz.underlying4
 a4:=Tryz.isAgg4
 z4:=Tryz.sizeOf4
 v4:=Tryz.zeroValue4
 t21:=Tryz.underlying21
 a21:=Tryz.isAgg21
 z21:=Tryz.sizeOf21
 v21:=Tryz.zeroValue21 }
theorem Tryz.utf8_ValidRune (r:Int) (w:World) :
  Calls Tryz.prog 165 #[.int .i32 r] w fun e w'=>e = .returned (.bool (Lib.validRune r))∧w'=w:=Any.utf8_ValidRune Tryz.lays119 r w
def Tryz.lays106_ren:Go.Shelf.Ren:=⟨fun | 106=>68 | 213=>99 | 265=>118 | n=>n,fun | 9=>9 | 3=>3 | n=>n,fun | n=>n⟩
theorem Tryz.lays106:Go.Proofs.Lays.n106 Tryz.prog Tryz.lays106_ren:={
 mixed:=by kernel_rfl
 f106:=Tryz.func68.trans (congrArg some (by kernel_rfl))
 f213:=Tryz.func99.trans (congrArg some (by kernel_rfl))
 f265:=Tryz.func118.trans (congrArg some (by kernel_rfl))
 t3:=Tryz.underlying3
 a3:=Tryz.isAgg3
 z3:=Tryz.sizeOf3
 v3:=Tryz.zeroValue3
 t9:=Tryz.underlying9
 a9:=Tryz.isAgg9
 z9:=Tryz.sizeOf9
 v9:=Tryz.zeroValue9 }
open Go.RowKit in
theorem Tryz.strings_Compare (a b:ByteArray) (w:World) :
  Calls Tryz.prog 68 #[.string a,.string b] w fun e w'=>e = .returned (.int .i64 (Lib.compareBytes a.data.toList b.data.toList))∧w'=w:=Any.strings_Compare Tryz.lays106 a b w
def Tryz.lays137_ren:Go.Shelf.Ren:=⟨fun | 137=>164 | 217=>124 | 266=>152 | n=>n,fun | 9=>9 | 5=>5 | 3=>3 | n=>n,fun | n=>n⟩
theorem Tryz.lays137:Go.Proofs.Lays.n137 Tryz.prog Tryz.lays137_ren:={
 mixed:=by kernel_rfl
 f137:=Tryz.func164.trans (congrArg some (by kernel_rfl))
 f217:=Tryz.func124.trans (congrArg some (by kernel_rfl))
 f266:=Tryz.func152.trans (congrArg some (by kernel_rfl))
 t3:=Tryz.underlying3
 a3:=Tryz.isAgg3
 z3:=Tryz.sizeOf3
 v3:=Tryz.zeroValue3
 t5:=Tryz.underlying5
 a5:=Tryz.isAgg5
 z5:=Tryz.sizeOf5
 v5:=Tryz.zeroValue5
 t9:=Tryz.underlying9
 a9:=Tryz.isAgg9
 z9:=Tryz.sizeOf9
 v9:=Tryz.zeroValue9 }
open Go.RowKit in
theorem Tryz.strings_IndexByte (s:ByteArray) (c:Int) (w:World) :
  Calls Tryz.prog 164 #[.string s,.int .u8 c] w fun e w'=>e = .returned (.int .i64 (Lib.indexByte s.data.toList c.toNat.toUInt8))∧w'=w:=Any.strings_IndexByte Tryz.lays137 s c w
def Tryz.lays283_ren:Go.Shelf.Ren:=⟨fun | 283=>137 | n=>n,fun | 3=>3 | 9=>9 | 4=>4 | n=>n,fun | n=>n⟩
theorem Tryz.lays283:Go.Proofs.Lays.n283 Tryz.prog Tryz.lays283_ren:={
 mixed:=by kernel_rfl
 f283:=Tryz.func137.trans (congrArg some (by kernel_rfl))
 t3:=Tryz.underlying3
 a3:=Tryz.isAgg3
 z3:=Tryz.sizeOf3
 v3:=Tryz.zeroValue3
 t4:=Tryz.underlying4
 a4:=Tryz.isAgg4
 z4:=Tryz.sizeOf4
 v4:=Tryz.zeroValue4
 t9:=Tryz.underlying9
 a9:=Tryz.isAgg9
 z9:=Tryz.sizeOf9
 v9:=Tryz.zeroValue9 }
open Go.Lib in
theorem Tryz.internal_strconv_small (i:Nat) (h:i<100) (w:World) :
  Calls Tryz.prog 137 #[.int .i64 i] w fun e w'=>e = .returned (.string ⟨(Lib.decDigits i).toArray⟩)∧w'=w:=Any.internal_strconv_small Tryz.lays283 i h w
def Tryz.laysM284_ren:Go.Shelf.Ren:=⟨fun | 284=>138 | 129=>136 | 317=>159 | 318=>160 | n=>n,fun | 53=>98 | 3=>3 | 212=>242 | 0=>0 | 4=>4 | 46=>178 | 5=>5 | 9=>9 | n=>n,fun | 17=>5 | n=>n⟩
theorem Tryz.laysM284:Go.Proofs.LaysM.n284 Tryz.prog Tryz.laysM284_ren:={
 mixed:=by kernel_rfl
 f129:=Tryz.func136.trans (congrArg some (by kernel_rfl))
 f284:=Tryz.func138.trans (congrArg some (by kernel_rfl))
 f317:=Tryz.func159.trans (congrArg some (by kernel_rfl))
 f318:=Tryz.func160.trans (congrArg some (by kernel_rfl))
 t0:=Tryz.underlying0
 a0:=Tryz.isAgg0
 z0:=Tryz.sizeOf0
 v0:=Tryz.zeroValue0
 t3:=Tryz.underlying3
 a3:=Tryz.isAgg3
 z3:=Tryz.sizeOf3
 v3:=Tryz.zeroValue3
 t4:=Tryz.underlying4
 a4:=Tryz.isAgg4
 z4:=Tryz.sizeOf4
 v4:=Tryz.zeroValue4
 t5:=Tryz.underlying5
 a5:=Tryz.isAgg5
 z5:=Tryz.sizeOf5
 v5:=Tryz.zeroValue5
 t9:=Tryz.underlying9
 a9:=Tryz.isAgg9
 z9:=Tryz.sizeOf9
 v9:=Tryz.zeroValue9
 t46:=Tryz.underlying178
 a46:=Tryz.isAgg178
 z46:=Tryz.sizeOf178
 v46:=Tryz.zeroValue178
 t53:=Tryz.underlying98
 a53:=Tryz.isAgg98
 z53:=Tryz.sizeOf98
 v53:=Tryz.zeroValue98
 t212:=Tryz.underlying242
 a212:=Tryz.isAgg242
 z212:=Tryz.sizeOf242
 v212:=Tryz.zeroValue242
 g17:=by kernel_rfl
 i0:=by kernel_rfl
 i3:=by kernel_rfl
 i4:=by kernel_rfl
 i5:=by kernel_rfl
 i9:=by kernel_rfl
 i46:=by kernel_rfl
 i53:=by kernel_rfl
 i212:=by kernel_rfl
 m17:=by kernel_rfl }
open Go.Lib in
theorem Tryz.internal_strconv_numDigits (u:Nat) (h1:1≤u) (h2:u<18446744073709551616) (w:World) (htab:Lib.TabIs Tryz.prog w "internal/strconv.uint64pow10" .u64 Lib.pow10Tab) :
  Calls Tryz.prog 138 #[.int .u64 u] w fun e w'=>e = .returned (.int .i64 (Lib.nDigits u))∧w'=w:=Any.internal_strconv_numDigits Tryz.laysM284 u h1 h2 w htab
def Tryz.laysC245_ren:Go.Shelf.Ren:=⟨fun | 245=>66 | 279=>95 | 280=>96 | 281=>97 | 282=>98 | 316=>115 | 171=>117 | 205=>116 | 243=>145 | 246=>163 | 283=>137 | 284=>138 | 285=>139 | 286=>140 | 129=>136 | 317=>159 | 318=>160 | 319=>161 | 320=>162 | 337=>167 | 338=>168 | n=>n,fun | 9=>9 | 3=>3 | 75=>38 | 167=>182 | 4=>4 | 168=>184 | 210=>205 | 37=>26 | 0=>0 | 127=>224 | 145=>227 | 143=>225 | 2=>2 | 171=>220 | 53=>98 | 5=>5 | 173=>222 | 212=>242 | 51=>99 | 20=>20 | 213=>243 | 46=>178 | 232=>254 | 233=>255 | 80=>256 | n=>n,fun | 15=>3 | 16=>4 | 17=>5 | 18=>8 | 19=>9 | n=>n⟩
theorem Tryz.laysC245:Go.Proofs.LaysC.n245 Tryz.prog Tryz.laysC245_ren:={
 mixed:=by kernel_rfl
 f129:=Tryz.func136.trans (congrArg some (by kernel_rfl))
 f171:=Tryz.func117.trans (congrArg some (by kernel_rfl))
 f205:=Tryz.func116.trans (congrArg some (by kernel_rfl))
 f243:=Tryz.func145.trans (congrArg some (by kernel_rfl))
 f245:=Tryz.func66.trans (congrArg some (by kernel_rfl))
 f246:=Tryz.func163.trans (congrArg some (by kernel_rfl))
 f279:=Tryz.func95.trans (congrArg some (by kernel_rfl))
 f280:=Tryz.func96.trans (congrArg some (by kernel_rfl))
 f281:=Tryz.func97.trans (congrArg some (by kernel_rfl))
 f282:=Tryz.func98.trans (congrArg some (by kernel_rfl))
 f283:=Tryz.func137.trans (congrArg some (by kernel_rfl))
 f284:=Tryz.func138.trans (congrArg some (by kernel_rfl))
 f285:=Tryz.func139.trans (congrArg some (by kernel_rfl))
 f286:=Tryz.func140.trans (congrArg some (by kernel_rfl))
 f316:=Tryz.func115.trans (congrArg some (by kernel_rfl))
 f317:=Tryz.func159.trans (congrArg some (by kernel_rfl))
 f318:=Tryz.func160.trans (congrArg some (by kernel_rfl))
 f319:=Tryz.func161.trans (congrArg some (by kernel_rfl))
 f320:=Tryz.func162.trans (congrArg some (by kernel_rfl))
 f337:=Tryz.func167.trans (congrArg some (by kernel_rfl))
 f338:=Tryz.func168.trans (congrArg some (by kernel_rfl))
 t0:=Tryz.underlying0
 a0:=Tryz.isAgg0
 z0:=Tryz.sizeOf0
 v0:=Tryz.zeroValue0
 t2:=Tryz.underlying2
 a2:=Tryz.isAgg2
 z2:=Tryz.sizeOf2
 v2:=Tryz.zeroValue2
 t3:=Tryz.underlying3
 a3:=Tryz.isAgg3
 z3:=Tryz.sizeOf3
 v3:=Tryz.zeroValue3
 t4:=Tryz.underlying4
 a4:=Tryz.isAgg4
 z4:=Tryz.sizeOf4
 v4:=Tryz.zeroValue4
 t5:=Tryz.underlying5
 a5:=Tryz.isAgg5
 z5:=Tryz.sizeOf5
 v5:=Tryz.zeroValue5
 t9:=Tryz.underlying9
 a9:=Tryz.isAgg9
 z9:=Tryz.sizeOf9
 v9:=Tryz.zeroValue9
 t20:=Tryz.underlying20
 a20:=Tryz.isAgg20
 z20:=Tryz.sizeOf20
 v20:=Tryz.zeroValue20
 t37:=Tryz.underlying26
 a37:=Tryz.isAgg26
 z37:=Tryz.sizeOf26
 v37:=Tryz.zeroValue26
 t46:=Tryz.underlying178
 a46:=Tryz.isAgg178
 z46:=Tryz.sizeOf178
 v46:=Tryz.zeroValue178
 t51:=Tryz.underlying99
 a51:=Tryz.isAgg99
 z51:=Tryz.sizeOf99
 v51:=Tryz.zeroValue99
 t53:=Tryz.underlying98
 a53:=Tryz.isAgg98
 z53:=Tryz.sizeOf98
 v53:=Tryz.zeroValue98
 t75:=Tryz.underlying38
 a75:=Tryz.isAgg38
 z75:=Tryz.sizeOf38
 v75:=Tryz.zeroValue38
 t127:=Tryz.underlying224
 a127:=Tryz.isAgg224
 z127:=Tryz.sizeOf224
 v127:=Tryz.zeroValue224
 t143:=Tryz.underlying225
 a143:=Tryz.isAgg225
 z143:=Tryz.sizeOf225
 v143:=Tryz.zeroValue225
 t145:=Tryz.underlying227
 a145:=Tryz.isAgg227
 z145:=Tryz.sizeOf227
 v145:=Tryz.zeroValue227
 t167:=Tryz.underlying182
 a167:=Tryz.isAgg182
 z167:=Tryz.sizeOf182
 v167:=Tryz.zeroValue182
 t168:=Tryz.underlying184
 a168:=Tryz.isAgg184
 z168:=Tryz.sizeOf184
 v168:=Tryz.zeroValue184
 t171:=Tryz.underlying220
 a171:=Tryz.isAgg220
 z171:=Tryz.sizeOf220
 v171:=Tryz.zeroValue220
 t173:=Tryz.underlying222
 a173:=Tryz.isAgg222
 z173:=Tryz.sizeOf222
 v173:=Tryz.zeroValue222
 t210:=Tryz.underlying205
 a210:=Tryz.isAgg205
 z210:=Tryz.sizeOf205
 v210:=Tryz.zeroValue205
 t212:=Tryz.underlying242
 a212:=Tryz.isAgg242
 z212:=Tryz.sizeOf242
 v212:=Tryz.zeroValue242
 t213:=Tryz.underlying243
 a213:=Tryz.isAgg243
 z213:=Tryz.sizeOf243
 t232:=Tryz.underlying254
 a232:=Tryz.isAgg254
 z232:=Tryz.sizeOf254
 v232:=Tryz.zeroValue254
 t233:=Tryz.underlying255
 a233:=Tryz.isAgg255
 z233:=Tryz.sizeOf255
 v233:=Tryz.zeroValue255
 g15:=by kernel_rfl
 g16:=by kernel_rfl
 g17:=by kernel_rfl
 g18:=by kernel_rfl
 g19:=by kernel_rfl
 t80:=Tryz.underlying256
 a80:=Tryz.isAgg256
 z80:=Tryz.sizeOf256
 v80:=Tryz.zeroValue256
 i0:=by kernel_rfl
 i2:=by kernel_rfl
 i3:=by kernel_rfl
 i4:=by kernel_rfl
 i5:=by kernel_rfl
 i9:=by kernel_rfl
 i20:=by kernel_rfl
 i37:=by kernel_rfl
 i46:=by kernel_rfl
 i51:=by kernel_rfl
 i53:=by kernel_rfl
 i75:=by kernel_rfl
 i80:=by kernel_rfl
 i127:=by kernel_rfl
 i143:=by kernel_rfl
 i145:=by kernel_rfl
 i167:=by kernel_rfl
 i168:=by kernel_rfl
 i171:=by kernel_rfl
 i173:=by kernel_rfl
 i210:=by kernel_rfl
 i212:=by kernel_rfl
 i232:=by kernel_rfl
 i233:=by kernel_rfl
 m15:=by kernel_rfl
 m16:=by kernel_rfl
 m17:=by kernel_rfl
 m18:=by kernel_rfl
 m19:=by kernel_rfl
 c0:=by kernel_rfl
 c2:=by kernel_rfl
 c3:=by kernel_rfl
 c4:=by kernel_rfl
 c5:=by kernel_rfl
 c9:=by kernel_rfl
 c20:=by kernel_rfl
 c37:=by kernel_rfl
 c46:=by kernel_rfl
 c51:=by kernel_rfl
 c53:=by kernel_rfl
 c75:=by kernel_rfl
 c80:=by kernel_rfl
 c127:=by kernel_rfl
 c143:=by kernel_rfl
 c145:=by kernel_rfl
 c167:=by kernel_rfl
 c168:=by kernel_rfl
 c171:=by kernel_rfl
 c173:=by kernel_rfl
 c210:=by kernel_rfl
 c212:=by kernel_rfl
 c213:=by kernel_rfl
 c232:=by kernel_rfl
 c233:=by kernel_rfl }
open Go.RowKit in
theorem Tryz.strconv_toError_syntax (fn s:ByteArray) (base bits:Int) (ev:Value) (w:World) (hlim:s.size≤281474976710656) (hv:w.cell? ⟨3,0,none⟩=some ev) (hev:ev = .nilIface∨∃ te pe,ev = .iface te pe) :
  Calls Tryz.prog 66 #[.string fn,.string s,.int .i64 base,.int .i64 bits,.iface 182 (.int .i64 2)] w fun e w'=>∃ N,e = .returned (.iface 184 (.pointer (some ⟨N,0,none⟩)))∧w.heap.size≤N∧w'.heap[N]?=some (.cells #[.string fn,.string s,ev] 205 (0,0))∧Below w.heap.size w w':=Any.strconv_toError_syntax Tryz.laysC245 fn s base bits ev w hlim hv hev
open Go.RowKit in
theorem Tryz.strconv_toError_range (fn s:ByteArray) (base bits:Int) (ev:Value) (w:World) (hlim:s.size≤281474976710656) (hv:w.cell? ⟨4,0,none⟩=some ev) (hev:ev = .nilIface∨∃ te pe,ev = .iface te pe) :
  Calls Tryz.prog 66 #[.string fn,.string s,.int .i64 base,.int .i64 bits,.iface 182 (.int .i64 1)] w fun e w'=>∃ N,e = .returned (.iface 184 (.pointer (some ⟨N,0,none⟩)))∧w.heap.size≤N∧w'.heap[N]?=some (.cells #[.string fn,.string s,ev] 205 (0,0))∧Below w.heap.size w w':=Any.strconv_toError_range Tryz.laysC245 fn s base bits ev w hlim hv hev
def Tryz.lays152_ren:Go.Shelf.Ren:=⟨fun | 152=>146 | 137=>164 | 119=>165 | 224=>91 | 225=>125 | 217=>124 | 266=>152 | n=>n,fun | 9=>9 | 21=>21 | 3=>3 | 4=>4 | 5=>5 | 0=>0 | 46=>178 | n=>n,fun | n=>n⟩
theorem Tryz.lays152:Go.Proofs.Lays.n152 Tryz.prog Tryz.lays152_ren:={
 mixed:=by kernel_rfl
 f119:=Tryz.func165.trans (congrArg some (by kernel_rfl))
 f137:=Tryz.func164.trans (congrArg some (by kernel_rfl))
 f152:=Tryz.func146.trans (congrArg some (by kernel_rfl))
 f217:=Tryz.func124.trans (congrArg some (by kernel_rfl))
 f224:=Tryz.func91.trans (congrArg some (by kernel_rfl))
 f225:=Tryz.func125.trans (congrArg some (by kernel_rfl))
 f266:=Tryz.func152.trans (congrArg some (by kernel_rfl))
 t0:=Tryz.underlying0
 a0:=Tryz.isAgg0
 z0:=Tryz.sizeOf0
 v0:=Tryz.zeroValue0
 t3:=Tryz.underlying3
 a3:=Tryz.isAgg3
 z3:=Tryz.sizeOf3
 v3:=Tryz.zeroValue3
 t4:=Tryz.underlying4
 a4:=Tryz.isAgg4
 z4:=Tryz.sizeOf4
 v4:=Tryz.zeroValue4
 t5:=Tryz.underlying5
 a5:=Tryz.isAgg5
 z5:=Tryz.sizeOf5
 v5:=Tryz.zeroValue5
 t9:=Tryz.underlying9
 a9:=Tryz.isAgg9
 z9:=Tryz.sizeOf9
 v9:=Tryz.zeroValue9
 t21:=Tryz.underlying21
 a21:=Tryz.isAgg21
 z21:=Tryz.sizeOf21
 v21:=Tryz.zeroValue21
 t46:=Tryz.underlying178
 a46:=Tryz.isAgg178
 z46:=Tryz.sizeOf178
 v46:=Tryz.zeroValue178 }
open Go.RowKit Go.Lib in
theorem Tryz.strings_IndexRune_ascii (s:ByteArray) (r:Int) (w:World) (h0:0≤r) (h1:r<128) :
  Calls Tryz.prog 146 #[.string s,.int .i32 r] w fun e w'=>e = .returned (.int .i64 (Lib.indexByte s.data.toList r.toNat.toUInt8))∧w'=w:=Any.strings_IndexRune_ascii Tryz.lays152 s r w h0 h1
def Tryz.lays153_ren:Go.Shelf.Ren:=⟨fun | 153=>119 | 152=>146 | 226=>147 | 227=>148 | 228=>149 | 137=>164 | 119=>165 | 224=>91 | 225=>125 | 217=>124 | 266=>152 | n=>n,fun | 9=>9 | 3=>3 | 4=>4 | 5=>5 | 21=>21 | 117=>231 | 116=>230 | 0=>0 | 46=>178 | 124=>246 | n=>n,fun | n=>n⟩
theorem Tryz.lays153:Go.Proofs.Lays.n153 Tryz.prog Tryz.lays153_ren:={
 mixed:=by kernel_rfl
 f119:=Tryz.func165.trans (congrArg some (by kernel_rfl))
 f137:=Tryz.func164.trans (congrArg some (by kernel_rfl))
 f152:=Tryz.func146.trans (congrArg some (by kernel_rfl))
 f153:=Tryz.func119.trans (congrArg some (by kernel_rfl))
 f217:=Tryz.func124.trans (congrArg some (by kernel_rfl))
 f224:=Tryz.func91.trans (congrArg some (by kernel_rfl))
 f225:=Tryz.func125.trans (congrArg some (by kernel_rfl))
 f226:=Tryz.func147.trans (congrArg some (by kernel_rfl))
 f227:=Tryz.func148.trans (congrArg some (by kernel_rfl))
 f228:=Tryz.func149.trans (congrArg some (by kernel_rfl))
 f266:=Tryz.func152.trans (congrArg some (by kernel_rfl))
 t0:=Tryz.underlying0
 a0:=Tryz.isAgg0
 z0:=Tryz.sizeOf0
 v0:=Tryz.zeroValue0
 t3:=Tryz.underlying3
 a3:=Tryz.isAgg3
 z3:=Tryz.sizeOf3
 v3:=Tryz.zeroValue3
 t4:=Tryz.underlying4
 a4:=Tryz.isAgg4
 z4:=Tryz.sizeOf4
 v4:=Tryz.zeroValue4
 t5:=Tryz.underlying5
 a5:=Tryz.isAgg5
 z5:=Tryz.sizeOf5
 v5:=Tryz.zeroValue5
 t9:=Tryz.underlying9
 a9:=Tryz.isAgg9
 z9:=Tryz.sizeOf9
 v9:=Tryz.zeroValue9
 t21:=Tryz.underlying21
 a21:=Tryz.isAgg21
 z21:=Tryz.sizeOf21
 v21:=Tryz.zeroValue21
 t46:=Tryz.underlying178
 a46:=Tryz.isAgg178
 z46:=Tryz.sizeOf178
 v46:=Tryz.zeroValue178
 t116:=Tryz.underlying230
 a116:=Tryz.isAgg230
 z116:=Tryz.sizeOf230
 t117:=Tryz.underlying231
 a117:=Tryz.isAgg231
 z117:=Tryz.sizeOf231
 v117:=Tryz.zeroValue231
 t124:=Tryz.underlying246
 a124:=Tryz.isAgg246
 z124:=Tryz.sizeOf246
 v124:=Tryz.zeroValue246 }
open Go.RowKit Go.Lib in
theorem Tryz.strings_IndexAny_long (hv116:∀ w,(zeroValue 230).run Tryz.prog w = .ok (.agg (Array.replicate 256 (.bool false))) w) (s chars:ByteArray) (w:World) (h2:2≤chars.size) (h8:8<s.size) (hs:s.size<4294967281) (hcs:chars.size<4294967281) (hascii:∀ (j:Nat) b,chars.data.toList[j]?=some b→b.toNat<128) :
  Calls Tryz.prog 119 #[.string s,.string chars] w fun e w'=>e = .returned (.int .i64 (Lib.indexAny s.data.toList chars.data.toList))∧w'=((w.alloc (.cells (Lib.setCells chars.data.toList) 230)).alloc (.cells (Lib.setCells chars.data.toList) 230)):=Any.strings_IndexAny_long Tryz.lays153 hv116 (by kernel_rfl) s chars w h2 h8 hs hcs hascii
end Go.Proofs
namespace Go.Proofs.YtnkpoloeifhflaaGreatDoor
section
open Go.RowKit Go.Sort
variable [AL]
structure En where
 mode:Int
 name:List UInt8
 id:List UInt8
def UT (e:En):List UInt8:=if e.mode=16384 then e.name++[47] else e.name
def Afv (e:En):List Value := .int .i64 e.mode :: .string (str e.name)::e.id.map fun b=>Value.int .u8 b.toNat
theorem Bh3 {n:List UInt8} {b:UInt8}:str n++(⟨#[b]⟩:ByteArray)=str (n++[b]):=by
 apply ByteArray.ext
 simp [str]
set_option maxHeartbeats 2000000 in
set_option maxRecDepth 100000 in
theorem Aoq (e:En) (h20:e.id.length=20) (hnl:e.name.length≤1000000000) (w:World):Calls Tryz.prog 67 #[.agg (Afv e).toArray] w fun r w'=>r = .returned (.string (str (UT e)))∧w'=w.alloc (.cells (Afv e).toArray 107):=by
 obtain ⟨m,n,d⟩:=e
 simp only [Afv] at *
 have lI:(d.map fun b=>Value.int .u8 b.toNat).length=20:=by simpa using h20
 generalize (d.map fun b=>Value.int .u8 b.toNat)=I at *
 have lx:(Value.int .i64 m::Value.string (str n)::I).toArray.size=22:=by simp [lI]
 have g0:(Value.int .i64 m::Value.string (str n)::I).toArray[0]'(by rw [lx]; omega) = .int .i64 m:=rfl
 have g1:(Value.int .i64 m::Value.string (str n)::I).toArray[1]'(by rw [lx]; omega) = .string (str n):=rfl
 generalize (Value.int .i64 m::Value.string (str n)::I).toArray=xs at *
 by_cases hm:m=16384
 ·subst hm
  go_enter Tryz.func67,Tryz.ntmps67
  have hsz:(str n).size=n.length:=by simp [str,ByteArray.size]
  go_wp2
  go_ret
  refine ⟨?_,rfl⟩
  unfold UT; rw [if_pos rfl]
  show Ending.returned (.string (str n++⟨#[47]⟩))=_
  rw [Bh3]
 ·go_enter Tryz.func67,Tryz.ntmps67
  go_wp2
  go_ret
  exact ⟨by unfold UT; rw [if_neg hm]; rfl,rfl⟩
theorem AiD {P:Program} {w:World} {t:TypeId} {sz b:Nat} {xs:Array Value} {tt:TypeId} {fr:Nat×Nat} (h1:Ajy P t=some true) (h2:Aap P t=some sz) (hh:w.heap[b]?=some (.cells xs tt fr)) (hs:xs.size=sz) :
  (Instr.loadAt t (.pointer (some ⟨b,0,none⟩))).run P w = .ok (.agg xs) w:=by
 have hlc:=run_loadCells_list (P:=P) w ⟨b,0,none⟩ xs.toList (fun j u hj=>by
  rw [Hg,Nat.zero_add]
  simp only [World.cell?,hh]
  simpa using hj)
 rw [Array.length_toList,hs] at hlc
 simp [Instr.loadAt,Instr.sureAddr,loadVar,Nz h1,ED h2,hlc]
theorem Bjg {P:Program} {C:World→Prop} {o:Oper} {a:Act} {v:Value} {t:TypeId} {x:Operand} (ho:o.op = .load t x) (hr:∀ w,C w→(Instr.loadAt t (a.eval x)).run P w = .ok v w) {K:Act→Prop} (hK:K (a.put o.dst v)):o.quiet P a C K :=
 ⟨v,fun w hw=>by
  have e:execOp a.eval o=(do pure (.value (←Instr.loadAt t (a.eval x)))):=by simp only [execOp,ho]
  unfold Oper.quietAt
  rw [e]
  simp [hr w hw,Oper.quietUpon],hK⟩
abbrev EnS:={e:En // e.id.length=20∧e.name.length≤1000000000}
def BqZ (x y:EnS):Int:=Lib.compareBytes (UT x.1) (UT y.1)
set_option maxHeartbeats 4000000 in
set_option maxRecDepth 100000 in
theorem ApZ (x y:EnS) (w:World):Calls Tryz.prog 40 #[.agg (Afv x.1).toArray,.agg (Afv y.1).toArray] w fun e w'=>e = .returned (.int .i64 (BqZ x y))∧∃ q os',w'=Sort.grow (w.drewN q) os':=by
 have hx:=fun W=>Aoq x.1 x.2.1 x.2.2 W
 have hy:=fun W=>Aoq y.1 y.2.1 y.2.2 W
 have hc:=fun W=>Tryz.strings_Compare (str (UT x.1)) (str (UT y.1)) W
 have e1:(str (UT x.1)).data.toList=UT x.1:=by simp [str]
 have e2:(str (UT y.1)).data.toList=UT y.1:=by simp [str]
 rw [e1,e2] at hc
 have e3:Lib.compareBytes (UT x.1) (UT y.1)=BqZ x y:=rfl
 rw [e3] at hc
 generalize BqZ x y=z at *
 generalize str (UT x.1)=kx at *
 generalize str (UT y.1)=ky at *
 have lx:(Afv x.1).toArray.size=22:=by simp [Afv,x.2.1]
 have ly:(Afv y.1).toArray.size=22:=by simp [Afv,y.2.1]
 generalize (Afv x.1).toArray=xs at *
 generalize (Afv y.1).toArray=ys at *
 go_enter Tryz.func40,Tryz.ntmps40
 go_wp2
 obtain ⟨W0,hW0⟩:∃ W0,W0=(w.alloc (.cells xs 107)).alloc (.cells ys 107):=⟨_,rfl⟩
 rw [←hW0]
 have hx0:∀ q os',(Sort.grow (W0.drewN q) os').heap[w.heap.size]?=some (.cells xs 107 (0,0)):=fun q os'=>by
  show (W0.heap++os')[w.heap.size]?=_
  rw [hW0]
  show (((w.heap.push _).push _)++os')[w.heap.size]?=_
  rw [Array.getElem?_append,if_pos (by simp; omega),Array.getElem?_push,if_neg (by simp),Array.getElem?_push,if_pos rfl]
 have hy0:∀ q os',(Sort.grow (W0.drewN q) os').heap[w.heap.size+1]?=some (.cells ys 107 (0,0)):=fun q os'=>by
  show (W0.heap++os')[w.heap.size+1]?=_
  rw [hW0]
  show (((w.heap.push _).push _)++os')[w.heap.size+1]?=_
  rw [Array.getElem?_append,if_pos (by simp),Array.getElem?_push,if_pos (by simp)]
 have hfin:∀ q os',∃ q2 os2,Sort.grow (W0.drewN q) os'=Sort.grow (w.drewN q2) os2:=fun q os'=>by
  refine ⟨q,#[.cells xs 107 (0,0),.cells ys 107 (0,0)]++os',?_⟩
  rw [hW0]
  have e:((w.heap.push (.cells xs 107 (0,0))).push (.cells ys 107 (0,0)))++os'=w.heap++(#[.cells xs 107 (0,0),.cells ys 107 (0,0)]++os'):=by
   apply Array.ext'; simp
  show { w.drewN q with heap:=((w.heap.push (.cells xs 107 (0,0))).push (.cells ys 107 (0,0)))++os' }=_
  rw [e]; rfl
 have hC0:(fun w'=>∃ q os',w'=Sort.grow (W0.drewN q) os') { W0 with drawn:=W0.drawn+1 }:=⟨1,#[],by simp [Sort.grow]; rfl⟩
 have hgrow:∀ q os' o,(Sort.grow (W0.drewN q) os').alloc o=Sort.grow (W0.drewN q) (os'.push o):=fun q os' o=>by
  have e:(W0.heap++os').push o=W0.heap++os'.push o:=by apply Array.ext'; simp
  show { W0.drewN q with heap:=(W0.heap++os').push o }=_
  rw [e]; rfl
 clear hW0
 refine wp_region_quiet (C:=fun w'=>∃ q os',w'=Sort.grow (W0.drewN q) os') (by kernel_rfl) (by kernel_rfl) hC0 ?_
 refine wpQuiet_step (fun K hK => ?_)
 go_simp
 refine ⟨_,fun _ _ _ _=>rfl,hK _ ?_⟩; clear hK K
 refine wpQuiet_step (fun K hK => ?_)
 rw [if_pos (by rfl)]
 refine Bjg (v := .agg xs) rfl ?_ (hK _ ?_)
 ·rintro _ ⟨q,os',rfl⟩
  exact AiD (by kernel_rfl) (by kernel_rfl) (hx0 q os') lx
 clear hK K
 refine wpQuiet_step (fun K hK => ?_)
 go_simp
 refine ⟨.string kx,?_,hK _ ?_⟩
 ·rintro _ q os' rfl
  exact (hx _).mono fun e w' h=>⟨h.1,q,_,h.2.trans (hgrow q os' _)⟩
 clear hK K
 refine wpQuiet_step (fun K hK => ?_)
 go_simp
 refine ⟨_,fun _ _ _ _=>rfl,hK _ ?_⟩; clear hK K
 refine wpQuiet_step (fun K hK => ?_)
 rw [if_pos (by rfl)]
 refine Bjg (v := .agg ys) rfl ?_ (hK _ ?_)
 ·rintro _ ⟨q,os',rfl⟩
  exact AiD (by kernel_rfl) (by kernel_rfl) (hy0 q os') ly
 clear hK K
 refine wpQuiet_step (fun K hK => ?_)
 go_simp
 refine ⟨.string ky,?_,hK _ ?_⟩
 ·rintro _ q os' rfl
  exact (hy _).mono fun e w' h=>⟨h.1,q,_,h.2.trans (hgrow q os' _)⟩
 clear hK K
 refine wpQuiet_step (fun K hK => ?_)
 go_simp
 refine ⟨.int .i64 z,?_,hK _ ?_⟩
 ·rintro _ q os' rfl
  exact (hc _).mono fun e w' h=>⟨h.1,q,os',h.2⟩
 clear hK K
 refine wpQuiet_step (fun K hK => ?_)
 go_simp
 refine ⟨_,fun _ _ _ _=>rfl,hK _ ?_⟩; clear hK K
 refine wpQuiet_nil ?_
 rintro w' ⟨q,os',rfl⟩
 obtain ⟨q2,os2,e⟩:=hfin q os'
 go_wp2
 go_ret
 exact ⟨rfl,q2,os2,rfl⟩
end
section
variable [AL]
set_option maxRecDepth 100000
def SC:Af := .seq (.ops [po_ 4 (.mov (.c (.bool false)))] [0,1])
 (.seq (.ops [mv_ 5 0,mv_ 6 1,so_ 7 (.call 119 [.t 5,.t 6]),po_ 8 (.bin 3 .geq (.t 7) (ci_ 0)),mv_ 4 8] [4])
 (.ret))
def Ti:List VR:=[.tmp 4]
theorem Ab3:Tryz.f100.body.bind (trC Tryz.prog Tryz.f100.ntmps)=some (er SC):=by kernel_rfl
theorem AcF:trR Tryz.prog Tryz.f100.results.toList=some Ti:=by kernel_rfl
def ZW:=Aa SC.eq_1
theorem Aak {K:TV→Prop} {e:Env} {H:List Ob}:res Ti e H K=res [.tmp 4] e H K:=Ad rfl
def SH:=(aI_ @ZW @Aak)
def Abx:=D7 9 Tryz.func100 Ab3 AcF rfl
def Tv:Af := .seq (.ops [mv_ 16 1,po_ 17 (.idxS (.t 16) (ci_ 0)),po_ 18 (.conv .i32 (.t 17)),mv_ 5 18] [0,5])
 (.seq (.seq (.ops [mv_ 19 5,po_ 20 (.bin 21 .geq (.t 19) (.c (.int .i32 ((128:Nat):Int))))] [0,5,20])
 (.cond (.t 20)
 (.ops [po_ 5 (.mov (.c (.int .i32 ((65533:Nat):Int))))] [0,5])
 (.skip)))
 (.seq (.ops [mv_ 21 0,mv_ 22 5,so_ 23 (.call 146 [.t 21,.t 22]),mv_ 4 23] [4])
 (.ret)))
def SB:Af := .seq (.seq (.ops [mv_ 33 8,mv_ 34 0,po_ 35 (.lenS (.t 34)),po_ 36 (.bin 3 .lss (.t 33) (.t 35))] [0,6,8,36])
 (.cond (.t 36)
 (.skip)
 (.exit 0)))
 (.seq (.block 1 (.seq (.ops [mv_ 39 0,mv_ 40 8,po_ 41 (.idxS (.t 39) (.t 40)),so_ 42 (.call 149 [.t 6,.t 41])] [0,6,8,42])
 (.cond (.t 42)
 (.seq (.ops [mv_ 43 8,mv_ 4 43] [4])
  (.ret))
 (.skip))))
 (.ops [mv_ 37 8,po_ 38 (.bin 3 .add (.t 37) (ci_ 1)),mv_ 8 38] [0,6,8]))
def Tc:Af := .block 0 (.loop [0,6,8] SB)
def SA:Af := .seq (.ops [po_ 4 (.mov (.c (.int .i64 (-1))))] [4])
 (.ret)
def SY:Af := .seq (.seq (.ops [po_ 8 (.mov (ci_ 0))] [0,6,8])
 Tc)
 SA
def Tn:Af := .cond (.t 32)
 SY
 (.skip)
def Tt:Af := .seq (.ops [mv_ 32 7] [0,1,6,32])
 Tn
def SV:Af := .seq (.ops [mv_ 28 1,so_ 29 (.call 148 [.t 28]),mv_ 27 29,po_ 30 (.ext 0 (.t 27)),po_ 31 (.ext 1 (.t 27)),so_ 6 (.alloc (.arr 256 1 [.val (.bool false),.val (.bool false),.val (.bool false),.val (.bool false),.val (.bool false),.val (.bool false),.val (.bool false),.val (.bool false),.val (.bool false),.val (.bool false),.val (.bool false),.val (.bool false),.val (.bool false),.val (.bool false),.val (.bool false),.val (.bool false),.val (.bool false),.val (.bool false),.val (.bool false),.val (.bool false),.val (.bool false),.val (.bool false),.val (.bool false),.val (.bool false),.val (.bool false),.val (.bool false),.val (.bool false),.val (.bool false),.val (.bool false),.val (.bool false),.val (.bool false),.val (.bool false),.val (.bool false),.val (.bool false),.val (.bool false),.val (.bool false),.val (.bool false),.val (.bool false),.val (.bool false),.val (.bool false),.val (.bool false),.val (.bool false),.val (.bool false),.val (.bool false),.val (.bool false),.val (.bool false),.val (.bool false),.val (.bool false),.val (.bool false),.val (.bool false),.val (.bool false),.val (.bool false),.val (.bool false),.val (.bool false),.val (.bool false),.val (.bool false),.val (.bool false),.val (.bool false),.val (.bool false),.val (.bool false),.val (.bool false),.val (.bool false),.val (.bool false),.val (.bool false),.val (.bool false),.val (.bool false),.val (.bool false),.val (.bool false),.val (.bool false),.val (.bool false),.val (.bool false),.val (.bool false),.val (.bool false),.val (.bool false),.val (.bool false),.val (.bool false),.val (.bool false),.val (.bool false),.val (.bool false),.val (.bool false),.val (.bool false),.val (.bool false),.val (.bool false),.val (.bool false),.val (.bool false),.val (.bool false),.val (.bool false),.val (.bool false),.val (.bool false),.val (.bool false),.val (.bool false),.val (.bool false),.val (.bool false),.val (.bool false),.val (.bool false),.val (.bool false),.val (.bool false),.val (.bool false),.val (.bool false),.val (.bool false),.val (.bool false),.val (.bool false),.val (.bool false),.val (.bool false),.val (.bool false),.val (.bool false),.val (.bool false),.val (.bool false),.val (.bool false),.val (.bool false),.val (.bool false),.val (.bool false),.val (.bool false),.val (.bool false),.val (.bool false),.val (.bool false),.val (.bool false),.val (.bool false),.val (.bool false),.val (.bool false),.val (.bool false),.val (.bool false),.val (.bool false),.val (.bool false),.val (.bool false),.val (.bool false),.val (.bool false),.val (.bool false),.val (.bool false),.val (.bool false),.val (.bool false),.val (.bool false),.val (.bool false),.val (.bool false),.val (.bool false),.val (.bool false),.val (.bool false),.val (.bool false),.val (.bool false),.val (.bool false),.val (.bool false),.val (.bool false),.val (.bool false),.val (.bool false),.val (.bool false),.val (.bool false),.val (.bool false),.val (.bool false),.val (.bool false),.val (.bool false),.val (.bool false),.val (.bool false),.val (.bool false),.val (.bool false),.val (.bool false),.val (.bool false),.val (.bool false),.val (.bool false),.val (.bool false),.val (.bool false),.val (.bool false),.val (.bool false),.val (.bool false),.val (.bool false),.val (.bool false),.val (.bool false),.val (.bool false),.val (.bool false),.val (.bool false),.val (.bool false),.val (.bool false),.val (.bool false),.val (.bool false),.val (.bool false),.val (.bool false),.val (.bool false),.val (.bool false),.val (.bool false),.val (.bool false),.val (.bool false),.val (.bool false),.val (.bool false),.val (.bool false),.val (.bool false),.val (.bool false),.val (.bool false),.val (.bool false),.val (.bool false),.val (.bool false),.val (.bool false),.val (.bool false),.val (.bool false),.val (.bool false),.val (.bool false),.val (.bool false),.val (.bool false),.val (.bool false),.val (.bool false),.val (.bool false),.val (.bool false),.val (.bool false),.val (.bool false),.val (.bool false),.val (.bool false),.val (.bool false),.val (.bool false),.val (.bool false),.val (.bool false),.val (.bool false),.val (.bool false),.val (.bool false),.val (.bool false),.val (.bool false),.val (.bool false),.val (.bool false),.val (.bool false),.val (.bool false),.val (.bool false),.val (.bool false),.val (.bool false),.val (.bool false),.val (.bool false),.val (.bool false),.val (.bool false),.val (.bool false),.val (.bool false),.val (.bool false),.val (.bool false),.val (.bool false),.val (.bool false),.val (.bool false),.val (.bool false),.val (.bool false),.val (.bool false),.val (.bool false),.val (.bool false),.val (.bool false),.val (.bool false),.val (.bool false),.val (.bool false),.val (.bool false),.val (.bool false),.val (.bool false),.val (.bool false),.val (.bool false),.val (.bool false),.val (.bool false),.val (.bool false),.val (.bool false),.val (.bool false),.val (.bool false),.val (.bool false),.val (.bool false),.val (.bool false),.val (.bool false),.val (.bool false)])),⟨none,.s (.store 256 (.t 6) (.t 30)),none⟩,mv_ 7 31] [0,1,6,7])
 Tt
def Tz:Af := .cond (.t 26)
 SV
 (.skip)
def Rh:Af := .seq (.ops [so_ 46 (.nxtS (.t 45)),po_ 47 (.ext 0 (.t 46))] [1,45,46,47])
 (.seq (.cond (.t 47)
 (.skip)
 (.exit 2))
 (.block 3 (.seq (.ops [po_ 48 (.ext 1 (.t 46)),po_ 49 (.ext 2 (.t 46)),mv_ 9 48,mv_ 10 49] [1,9,10,45])
 (.seq (.ops [mv_ 50 1,mv_ 51 10,so_ 52 (.call 146 [.t 50,.t 51]),po_ 53 (.bin 3 .geq (.t 52) (ci_ 0))] [1,9,45,53])
 (.cond (.t 53)
 (.seq (.ops [mv_ 54 9,mv_ 4 54] [4])
  (.ret))
 (.skip))))))
def QE:Af := .seq (.ops [po_ 4 (.mov (.c (.int .i64 (-1))))] [4])
 (.ret)
def Q7:Af := .seq (.seq (.ops [mv_ 44 0,so_ 45 (.rngS (.t 44))] [1,45])
 (.block 2 (.loop [1,45] Rh)))
 QE
def QL:Af := .seq (.seq (.ops [mv_ 24 0,po_ 25 (.lenS (.t 24)),so_ 26 (.call 147 [.t 25])] [0,1,26])
 Tz)
 Q7
def QR:Af := .seq (.seq (.ops [mv_ 13 1,po_ 14 (.lenS (.t 13)),po_ 15 (.bin 3 .eql (.t 14) (ci_ 1))] [0,1,15])
 (.cond (.t 15)
 Tv
 (.skip)))
 QL
def QS:Af := .seq (.seq (.ops [mv_ 11 1,po_ 12 (.bin 9 .eql (.t 11) (.c (.string (str []))))] [0,1,12])
 (.cond (.t 12)
 (.seq (.ops [po_ 4 (.mov (.c (.int .i64 (-1))))] [4])
  (.ret))
 (.skip)))
 QR
def WJ:Af := .seq (.ops [po_ 4 (.mov (ci_ 0))] [0,1])
 QS
def Wn:List VR:=[.tmp 4]
theorem Af3:Tryz.f119.body.bind (trC Tryz.prog Tryz.f119.ntmps)=some (er WJ):=by kernel_rfl
theorem Ahi:trR Tryz.prog Tryz.f119.results.toList=some Wn:=by kernel_rfl
def Aax:=Aa Tv.eq_1
def Aag:=Aa SB.eq_1
def Aae:=Aa Tc.eq_1
def Aaj:=Aa SA.eq_1
def Aau:=Aa SY.eq_1
def Aaw:=Aa Tn.eq_1
def ZY:=Aa Tt.eq_1
def Aav:=Aa SV.eq_1
def Aah:=Aa Tz.eq_1
def YS:=Aa Rh.eq_1
def ZF:=Aa QE.eq_1
def YQ:=Aa Q7.eq_1
def ZP:=Aa QL.eq_1
def Yl:=Aa QR.eq_1
def YF:=Aa QS.eq_1
def AdO:=Aa WJ.eq_1
theorem Ady {K:TV→Prop} {e:Env} {H:List Ob}:res Wn e H K=res [.tmp 4] e H K:=Ad rfl
def EF:=(aI_ (aI_ (aI_ (aI_ (aI_ @Aax @Aag) (aI_ @Aae @Aaj)) (aI_ (aI_ @Aau @Aaw) (aI_ @ZY @Aav))) (aI_ (aI_ (aI_ @Aah @YS) (aI_ @ZF @YQ)) (aI_ (aI_ @ZP @Yl) (aI_ @YF @AdO)))) @Ady)
def AeF:=D7 55 Tryz.func119 Af3 Ahi rfl
def Q3:Af := .seq (.ops [so_ 176 (.nxtS (.t 175)),po_ 177 (.ext 0 (.t 176))] [175,176,177])
 (.seq (.cond (.t 177)
 (.skip)
 (.exit 9))
 (.block 10 (.seq (.ops [po_ 178 (.ext 1 (.t 176)),po_ 179 (.ext 2 (.t 176)),mv_ 5 178,mv_ 6 179] [5,6,175])
 (.seq (.ops [mv_ 180 6,po_ 181 (.bin 21 .eql (.t 180) (.c (.int .i32 ((65533:Nat):Int))))] [5,175,181])
 (.cond (.t 181)
 (.seq (.ops [mv_ 182 5,mv_ 4 182] [4])
  (.ret))
 (.skip))))))
def QU:Af := .seq (.ops [po_ 4 (.mov (.c (.int .i64 (-1))))] [4])
 (.ret)
def Qz:Af := .seq (.seq (.ops [mv_ 174 0,so_ 175 (.rngS (.t 174))] [175])
 (.block 9 (.loop [175] Q3)))
 QU
def Ri:Af := .seq (.draw 4 [mv_ 34 0,mv_ 35 9,po_ 36 (.bin 3 .add (.t 35) (ci_ 1)),po_ 37 (.slS (.t 34) (some (.t 36)) none),mv_ 38 7,mv_ 39 8,po_ 40 (.idxS (.t 38) (.t 39)),so_ 41 (.call 164 [.t 37,.t 40]),mv_ 11 41] [0,7,8,9,11])
 (.seq (.seq (.ops [mv_ 42 11,po_ 43 (.bin 3 .lss (.t 42) (ci_ 0))] [0,7,8,9,11,43])
 (.cond (.t 43)
 (.seq (.ops [po_ 4 (.mov (.c (.int .i64 (-1))))] [4])
  (.ret))
 (.skip)))
 (.ops [mv_ 44 9,mv_ 45 11,po_ 46 (.bin 3 .add (.t 45) (ci_ 1)),po_ 47 (.bin 3 .add (.t 44) (.t 46)),mv_ 9 47] [0,7,8,9]))
def Q9:Af := .cond (.t 33)
 Ri
 (.skip)
def QO:Af := .seq (.block 4 (.seq (.draw 6 [mv_ 54 0,mv_ 55 9,mv_ 56 12,po_ 57 (.bin 3 .sub (.t 55) (.t 56)),po_ 58 (.idxS (.t 54) (.t 57)),mv_ 59 7,mv_ 60 8,mv_ 61 12,po_ 62 (.bin 3 .sub (.t 60) (.t 61)),po_ 63 (.idxS (.t 59) (.t 62)),po_ 64 (.bin 5 .neq (.t 58) (.t 63))] [0,7,8,9,12,64])
 (.cond (.t 64)
 (.dead)
 (.skip))))
 (.ops [mv_ 52 12,po_ 53 (.bin 3 .add (.t 52) (ci_ 1)),mv_ 12 53] [0,7,8,9,12])
def Q4:Af := .seq (.seq (.ops [mv_ 48 12,mv_ 49 7,po_ 50 (.lenS (.t 49)),po_ 51 (.bin 3 .lss (.t 48) (.t 50))] [0,7,8,9,12,51])
 (.cond (.t 51)
 (.skip)
 (.exit 3)))
 QO
def QW:Af := .block 3 (.loop [0,7,8,9,12] Q4)
def QK:Af := .seq (.ops [po_ 72 (.mov (.c (.bool true))),⟨some 73,.p (.mov (.t 10)),some ⟨72,true⟩⟩,⟨some 74,.p (.mov (.t 9)),some ⟨72,true⟩⟩,⟨some 75,.s (.call 91 [.t 74]),some ⟨72,true⟩⟩,⟨some 76,.p (.bin 3 .gtr (.t 73) (.t 75)),some ⟨72,true⟩⟩,po_ 77 (.pick (.t 72) (.t 76) (.c (.bool false))),mv_ 78 77,⟨some 79,.p (.mov (.t 9)),some ⟨78,true⟩⟩,⟨some 80,.p (.mov (.t 0)),some ⟨78,true⟩⟩,⟨some 81,.p (.lenS (.t 80)),some ⟨78,true⟩⟩,⟨some 82,.p (.bin 3 .lss (.t 79) (.t 81)),some ⟨78,true⟩⟩,po_ 83 (.pick (.t 78) (.t 82) (.c (.bool false))),mv_ 84 83,⟨some 85,.p (.mov (.c (.bool false))),some ⟨84,false⟩⟩,⟨some 86,.p (.mov (.t 10)),some ⟨85,true⟩⟩,⟨some 87,.p (.mov (.t 9)),some ⟨85,true⟩⟩,⟨some 88,.p (.bin 3 .shr (.t 87) (.c (.int .u64 ((4:Nat):Int)))),some ⟨85,true⟩⟩,⟨some 89,.p (.bin 3 .add (ci_ 4) (.t 88)),some ⟨85,true⟩⟩,⟨some 90,.p (.bin 3 .geq (.t 86) (.t 89)),some ⟨85,true⟩⟩,⟨some 91,.p (.pick (.t 85) (.t 90) (.c (.bool false))),some ⟨84,false⟩⟩,⟨some 92,.p (.mov (.t 91)),some ⟨84,false⟩⟩,⟨some 93,.p (.mov (.t 9)),some ⟨92,true⟩⟩,⟨some 94,.p (.mov (.t 0)),some ⟨92,true⟩⟩,⟨some 95,.p (.lenS (.t 94)),some ⟨92,true⟩⟩,⟨some 96,.p (.bin 3 .lss (.t 93) (.t 95)),some ⟨92,true⟩⟩,⟨some 97,.p (.pick (.t 92) (.t 96) (.c (.bool false))),some ⟨84,false⟩⟩,po_ 98 (.pick (.t 84) (.c (.bool true)) (.t 97))] [0,7,8,9,98])
 (.cond (.t 98)
 (.dead)
 (.skip))
def Pj:Af := .seq (.ops [mv_ 70 9,po_ 71 (.bin 3 .add (.t 70) (ci_ 1)),mv_ 9 71] [0,7,8,9,10])
 QK
def O1:Af := .seq (.ops [mv_ 68 10,po_ 69 (.bin 3 .add (.t 68) (ci_ 1)),mv_ 10 69] [0,7,8,9,10])
 Pj
def PS:Af := .seq (.skip)
 O1
def Px:Af := .seq (.seq (.ops [mv_ 65 9,mv_ 66 8,po_ 67 (.bin 3 .sub (.t 65) (.t 66)),mv_ 4 67] [4])
 (.ret))
 PS
def Qi:Af := .seq (.seq (.ops [po_ 12 (.mov (ci_ 1))] [0,7,8,9,12])
 QW)
 Px
def PZ:Af := .block 2 (.scope (.seq (.seq (.draw 3 [mv_ 27 0,mv_ 28 9,po_ 29 (.idxS (.t 27) (.t 28)),mv_ 30 7,mv_ 31 8,po_ 32 (.idxS (.t 30) (.t 31)),po_ 33 (.bin 5 .neq (.t 29) (.t 32))] [0,7,8,9,33])
 Q9)
 Qi))
def PN:Af := .seq (.seq (.ops [mv_ 23 9,mv_ 24 0,po_ 25 (.lenS (.t 24)),po_ 26 (.bin 3 .lss (.t 23) (.t 25))] [0,7,8,9,26])
 (.cond (.t 26)
 (.skip)
 (.exit 1)))
 PZ
def Pm:Af := .seq (.dead)
 (.seq (.ops [mv_ 107 13,po_ 108 (.bin 3 .geq (.t 107) (ci_ 0))] [8,9,13,108])
 (.cond (.t 108)
 (.seq (.ops [mv_ 109 9,mv_ 110 13,po_ 111 (.bin 3 .add (.t 109) (.t 110)),mv_ 112 8,po_ 113 (.bin 3 .sub (.t 111) (.t 112)),mv_ 4 113] [4])
  (.ret))
 (.skip)))
def P5:Af := .seq (.block 8 (.seq (.draw 6 [mv_ 146 0,mv_ 147 9,mv_ 148 16,po_ 149 (.bin 3 .sub (.t 147) (.t 148)),po_ 150 (.idxS (.t 146) (.t 149)),mv_ 151 7,mv_ 152 8,mv_ 153 16,po_ 154 (.bin 3 .sub (.t 152) (.t 153)),po_ 155 (.idxS (.t 151) (.t 154)),po_ 156 (.bin 5 .neq (.t 150) (.t 155))] [0,7,8,9,14,15,16,156])
 (.cond (.t 156)
 (.exit 6)
 (.skip))))
 (.ops [mv_ 144 16,po_ 145 (.bin 3 .add (.t 144) (ci_ 1)),mv_ 16 145] [0,7,8,9,14,15,16])
def O8:Af := .seq (.seq (.ops [mv_ 140 16,mv_ 141 7,po_ 142 (.lenS (.t 141)),po_ 143 (.bin 3 .lss (.t 140) (.t 142))] [0,7,8,9,14,15,16,143])
 (.cond (.t 143)
 (.skip)
 (.exit 7)))
 P5
def Qa:Af := .block 7 (.loop [0,7,8,9,14,15,16] O8)
def Qn:Af := .seq (.ops [mv_ 157 9,mv_ 158 8,po_ 159 (.bin 3 .sub (.t 157) (.t 158)),mv_ 4 159] [4])
 (.ret)
def PY:Af := .seq (.seq (.ops [po_ 16 (.mov (ci_ 2))] [0,7,8,9,14,15,16])
 Qa)
 Qn
def O3:Af := .cond (.t 139)
 PY
 (.skip)
def Pi:Af := .ops [mv_ 125 9,po_ 126 (.bin 3 .add (.t 125) (ci_ 1)),mv_ 9 126] [0,7,8,9,14,15]
def OY:Af := .seq (.block 6 (.seq (.ops [mv_ 127 0,mv_ 128 9,po_ 129 (.idxS (.t 127) (.t 128)),mv_ 130 14,po_ 131 (.bin 5 .eql (.t 129) (.t 130)),mv_ 132 131,⟨some 133,.p (.mov (.t 0)),some ⟨132,true⟩⟩,⟨some 134,.p (.mov (.t 9)),some ⟨132,true⟩⟩,⟨some 135,.p (.bin 3 .sub (.t 134) (ci_ 1)),some ⟨132,true⟩⟩,⟨some 136,.p (.idxS (.t 133) (.t 135)),some ⟨132,true⟩⟩,⟨some 137,.p (.mov (.t 15)),some ⟨132,true⟩⟩,⟨some 138,.p (.bin 5 .eql (.t 136) (.t 137)),some ⟨132,true⟩⟩,po_ 139 (.pick (.t 132) (.t 138) (.c (.bool false)))] [0,7,8,9,14,15,139])
 O3))
 Pi
def Qd:Af := .seq (.seq (.ops [mv_ 121 9,mv_ 122 0,po_ 123 (.lenS (.t 122)),po_ 124 (.bin 3 .lss (.t 121) (.t 123))] [0,7,8,9,14,15,124])
 (.cond (.t 124)
 (.skip)
 (.exit 5)))
 OY
def Ql:Af := .block 5 (.loop [0,7,8,9,14,15] Qd)
def Qk:Af := .seq (.skip)
 Ql
def PW:Af := .seq (.ops [mv_ 117 7,mv_ 118 8,po_ 119 (.bin 3 .sub (.t 118) (ci_ 1)),po_ 120 (.idxS (.t 117) (.t 119)),mv_ 15 120] [0,7,8,9,14,15])
 Qk
def O4:Af := .scope (.seq (.ops [mv_ 114 7,mv_ 115 8,po_ 116 (.idxS (.t 114) (.t 115)),mv_ 14 116] [0,7,8,9,14])
 PW)
def O5:Af := .seq (.ops [po_ 4 (.mov (.c (.int .i64 (-1))))] [4])
 (.ret)
def Pg:Af := .seq (.cond (.c (.bool true))
 Pm
 O4)
 O5
def PQ:Af := .seq (.skip)
 Pg
def O7:Af := .seq (.seq (.ops [po_ 4 (.mov (.c (.int .i64 (-1))))] [4])
 (.ret))
 PQ
def PL:Af := .seq (.block 1 (.loop [0,7,8,9] PN))
 O7
def Po:Af := .seq (.ops [po_ 10 (.mov (ci_ 0))] [0,7,8,9])
 PL
def P6:Af := .seq (.ops [mv_ 22 8,mv_ 9 22] [0,7,8,9])
 Po
def PU:Af := .seq (.ops [mv_ 19 7,po_ 20 (.lenS (.t 19)),po_ 21 (.bin 3 .sub (.t 20) (ci_ 1)),mv_ 8 21] [0,7,8])
 P6
def Qh:Af := .scope (.seq (.ops [mv_ 17 1,po_ 18 (.gen .r2s [.t 17]),mv_ 7 18] [0,7])
 PU)
def PV:Af := .cond (.t 183)
 (.seq (.ops [po_ 4 (.mov (.c (.int .i64 (-1))))] [4])
  (.ret))
 Qh
def OZ:Af := .seq (.ops [mv_ 184 1,so_ 185 (.call 165 [.t 184]),po_ 186 (.un .not (.t 185)),mv_ 183 186] [0,1,183])
 PV
def Py:Af := .cond (.t 171)
 Qz
 OZ
def P7:Af := .seq (.ops [mv_ 172 1,po_ 173 (.bin 21 .eql (.t 172) (.c (.int .i32 ((65533:Nat):Int)))),mv_ 171 173] [0,1,171])
 Py
def Ph:Af := .cond (.t 160)
 (.seq (.ops [mv_ 167 0,mv_ 168 1,po_ 169 (.conv .u8 (.t 168)),so_ 170 (.call 164 [.t 167,.t 169]),mv_ 4 170] [4])
  (.ret))
 P7
def PX:Af := .block 0 (.seq (.ops [mv_ 161 1,po_ 162 (.bin 21 .leq (.c (.int .i32 ((0:Nat):Int))) (.t 161)),mv_ 163 162,⟨some 164,.p (.mov (.t 1)),some ⟨163,true⟩⟩,⟨some 165,.p (.bin 21 .lss (.t 164) (.c (.int .i32 ((128:Nat):Int)))),some ⟨163,true⟩⟩,po_ 166 (.pick (.t 163) (.t 165) (.c (.bool false))),mv_ 160 166] [0,1,160])
 Ph)
def Vp:Af := .seq (.ops [po_ 4 (.mov (ci_ 0))] [0,1])
 PX
def Vj:List VR:=[.tmp 4]
theorem Afg:Tryz.f146.body.bind (trC Tryz.prog Tryz.f146.ntmps)=some (er Vp):=by kernel_rfl
theorem Ae3:trR Tryz.prog Tryz.f146.results.toList=some Vj:=by kernel_rfl
def Y5:=Aa Q3.eq_1
def Yz:=Aa QU.eq_1
def ZE:=Aa Qz.eq_1
def Zo:=Aa Ri.eq_1
def YO:=Aa Q9.eq_1
def Yc:=Aa QO.eq_1
def Yi:=Aa Q4.eq_1
def ZG:=Aa QW.eq_1
def YV:=Aa QK.eq_1
def Xh:=Aa Pj.eq_1
def XU:=Aa O1.eq_1
def XV:=Aa PS.eq_1
def XL:=Aa Px.eq_1
def Xb:=Aa Qi.eq_1
def Xt:=Aa PZ.eq_1
def XY:=Aa PN.eq_1
def XA:=Aa Pm.eq_1
def Xk:=Aa P5.eq_1
def Xo:=Aa O8.eq_1
def XJ:=Aa Qa.eq_1
def XB:=Aa Qn.eq_1
def XG:=Aa PY.eq_1
def Xj:=Aa O3.eq_1
def XT:=Aa Pi.eq_1
def Xd:=Aa OY.eq_1
def Xf:=Aa Qd.eq_1
def XM:=Aa Ql.eq_1
def Xi:=Aa Qk.eq_1
def Xw:=Aa PW.eq_1
def XE:=Aa O4.eq_1
def Xg:=Aa O5.eq_1
def Xq:=Aa Pg.eq_1
def Xl:=Aa PQ.eq_1
def XP:=Aa O7.eq_1
def XQ:=Aa PL.eq_1
def Xr:=Aa Po.eq_1
def Xp:=Aa P6.eq_1
def Xm:=Aa PU.eq_1
def XH:=Aa Qh.eq_1
def Xx:=Aa PV.eq_1
def XF:=Aa OZ.eq_1
def Xa:=Aa Py.eq_1
def Xc:=Aa P7.eq_1
def XK:=Aa Ph.eq_1
def W9:=Aa PX.eq_1
def Ac6:=Aa Vp.eq_1
theorem Adb {K:TV→Prop} {e:Env} {H:List Ob}:res Vj e H K=res [.tmp 4] e H K:=Ad rfl
def Bd:=(aI_ (aI_ (aI_ (aI_ (aI_ (aI_ @Y5 @Yz) (aI_ @ZE @Zo)) (aI_ (aI_ @YO @Yc) (aI_ @Yi @ZG))) (aI_ (aI_ (aI_ @YV @Xh) (aI_ @XU @XV)) (aI_ (aI_ @XL @Xb) (aI_ @Xt @XY)))) (aI_ (aI_ (aI_ (aI_ @XA @Xk) (aI_ @Xo @XJ)) (aI_ (aI_ @XB @XG) (aI_ @Xj @XT))) (aI_ (aI_ (aI_ @Xd @Xf) (aI_ @XM @Xi)) (aI_ (aI_ @Xw @XE) (aI_ @Xg @Xq))))) (aI_ (aI_ (aI_ (aI_ @Xl @XP) (aI_ @XQ @Xr)) (aI_ (aI_ @Xp @Xm) (aI_ @XH @Xx))) (aI_ (aI_ (aI_ @XF @Xa) (aI_ @Xc @XK)) (aI_ (aI_ @W9 @Ac6) @Adb))))
def AdP:=D7 187 Tryz.func146 Afg Ae3 rfl
def Lm:Af := .seq (.ops [po_ 2 (.mov (.c (.bool false)))] [0])
 (.seq (.ops [mv_ 3 0,po_ 4 (.bin 3 .gtr (.t 3) (ci_ 8)),mv_ 2 4] [2])
 (.ret))
def LH:List VR:=[.tmp 2]
theorem Vu:Tryz.f147.body.bind (trC Tryz.prog Tryz.f147.ntmps)=some (er Lm):=by kernel_rfl
theorem Vw:trR Tryz.prog Tryz.f147.results.toList=some LH:=by kernel_rfl
def TJ:=Aa Lm.eq_1
theorem TN {K:TV→Prop} {e:Env} {H:List Ob}:res LH e H K=res [.tmp 2] e H K:=Ad rfl
def VA:=(aI_ @TJ @TN)
def UN:=D7 5 Tryz.func147 Vu Vw rfl
end
section
open Go.RowKit
variable [AL]
theorem BD.ofBelow {f:FuncId} {args:List Value} {r:Value} (h:∀ (F:Nat→Prop) w,QX F w→Calls Tryz.prog f args.toArray w fun e w'=>e = .returned r∧Below w.heap.size w w'):BD Tryz.prog f (args.map .val) (fun x=>x = .val r):=by
 intro β F w vs hF hv
 have hvs:vs=args:=by
  clear h hF
  induction args generalizing vs with
  | nil=>rw [List.map_nil,BQ.nil] at hv; exact hv
  | cons a args ih =>
   rw [List.map_cons] at hv
   obtain ⟨v,us,rfl,h1,h2⟩:=BQ.cons.1 hv
   have:=Rep.val.1 (Or.inl h1:Rep _ _ _ _)
   rw [this,ih us h2]
 subst hvs
 refine (h F w hF.2).mono ?_
 rintro e w' ⟨rfl,hb⟩
 exact ⟨_,_,F,rfl,rfl,Rep.of_val,⟨hb.os,hb.tape,hb.output,hb.size,hb.block,fun _ h=>h,fun _ _ h=>h,fun b hb'=>Nat.lt_of_lt_of_le (hF.1 b hb') hb.size⟩⟩
theorem AhT {B:Nat} (w:World):Below B w w:=⟨rfl,rfl,rfl,Nat.le_refl _,fun _ _=>rfl⟩
theorem Bnf (l:List UInt8):(str l).data.toList=l:=by simp [str]
end
section
open Go.RowKit
variable [AL]
end
section
open Go.RowKit
variable [AL]
set_option autoImplicit false
section
variable {t:TypeId} {a b:Nat} {k2:IntKind}
theorem Bp2 {n:Nat} (h:n<256):IntKind.u8.wrap (n:Int)=n:=by rw [IntKind.wrap_u8]; omega
theorem bv8 {n:Nat}:(BitVec.ofInt 8 (n:Int)).toNat=n % 256:=by
 rw [BitVec.toNat_ofInt]; omega
theorem Bi5:I9 t .add (.int .u8 (a:Int)) (.int .u8 (b:Int))=some (.int .u8 (((a+b) % 256:Nat):Int)):=by
 rw [show I9 t .add (.int .u8 (a:Int)) (.int .u8 (b:Int))=some (.int .u8 (IntKind.u8.wrap ((a:Int)+b))) from rfl,IntKind.wrap_u8]
 congr 2
theorem Aob (h:b≤a) (h2:a<256):I9 t .sub (.int .u8 (a:Int)) (.int .u8 (b:Int))=some (.int .u8 ((a - b:Nat):Int)):=by
 rw [show I9 t .sub (.int .u8 (a:Int)) (.int .u8 (b:Int))=some (.int .u8 (IntKind.u8.wrap ((a:Int) - b))) from rfl,IntKind.wrap_u8]
 congr 2; omega
theorem BqU (h1:a<256) (h2:b<256):I9 t .or (.int .u8 (a:Int)) (.int .u8 (b:Int))=some (.int .u8 ((a ||| b:Nat):Int)):=by
 rw [show I9 t .or (.int .u8 (a:Int)) (.int .u8 (b:Int))=some (.int .u8 (IntKind.u8.wrap ((BitVec.ofInt 8 a ||| BitVec.ofInt 8 b).toNat:Int))) from rfl,BitVec.toNat_or,bv8,bv8,Nat.mod_eq_of_lt (by omega),Nat.mod_eq_of_lt (by omega)]
 have:=Nat.or_lt_two_pow (n:=8) (x:=a) (y:=b) (by omega) (by omega)
 rw [Bp2 (by omega)]
end
theorem Dj {l:List UInt8}:bl (str l)=l:=by simp [bl,str]
theorem BjG {l m:List UInt8}:str l++str m=str (l++m):=by
 apply ByteArray.ext
 simp [str]
theorem Arv {t:TypeId} {l m:List UInt8} (h:l.length+m.length≤9223372036854775807):I9 t .add (.string (str l)) (.string (str m))=some (.string (str (l++m))):=by
 have e1:(str l).size=l.length:=by show l.toArray.size=_; simp
 have e2:(str m).size=m.length:=by show m.toArray.size=_; simp
 rw [←BjG,I9,binOp_string_add,Op.stringOp]
 simp only [e1,e2]
 rw [if_neg (by show ¬ ((l.length+m.length:Nat):Int) > 9223372036854775807; omega)]
 rfl
end
section
open Go.RowKit
variable [AL]
def AgY (c:UInt8):List UInt8→List (List UInt8)
 | []=>[[]]
 | b::l=>if b=c then []::AgY c l else match AgY c l with
  | []=>[[b]]
  | p::ps=>(b::p)::ps
theorem AkD (c:UInt8):∀ l:List UInt8,(Lib.indexByte l c = -1∧c∉l∧AgY c l=[l])∨∃ k:Nat,Lib.indexByte l c=(k:Int)∧k<l.length∧l[k]?=some c∧c∉l.take k∧AgY c l=l.take k::AgY c (l.drop (k+1))
 | [] => .inl ⟨rfl,by simp,rfl⟩
 | b::l=>by
  by_cases h:b=c
  ·subst h
   refine .inr ⟨0,by simp [Lib.indexByte],by simp,rfl,by simp,by simp [AgY]⟩
  ·rcases AkD c l with ⟨h1,h2,h3⟩ | ⟨k,h1,h2,h3,h4,h5⟩
   ·refine .inl ⟨by simp [Lib.indexByte,h,h1],by simp [h2,Ne.symm h],by rw [AgY,if_neg h,h3]⟩
   ·refine .inr ⟨k+1,?_,by simp; omega,by simpa using h3,by simp [h4,Ne.symm h],by rw [AgY,if_neg h,h5]; simp⟩
    have:¬ ((k:Int) = -1):=by omega
    simp [Lib.indexByte,h,h1,this]
end
section
open Go.RowKit
variable [AL]
theorem ArF (r:Int) (h0 : -2147483648≤r) (h1:r≤2147483647):BD Tryz.prog 165 [.val (.int .i32 r)] (fun x=>x=tb (Lib.validRune r)):=by
 have h:=BD.ofBelow (f:=165) (args:=[.int .i32 r]) (r := .bool (Lib.validRune r)) (fun F w _=>by
  refine (Tryz.utf8_ValidRune r w).mono ?_
  rintro e w' ⟨rfl,rfl⟩
  exact ⟨rfl,AhT _⟩)
 exact h
theorem Aqd (s:List UInt8) (c:UInt8):BD Tryz.prog 164 [ts s,by8 c] (fun x=>x=i64 (Lib.indexByte s c)):=by
 have h:=BD.ofBelow (f:=164) (args:=[.string (str s),.int .u8 c.toNat]) (r := .int .i64 (Lib.indexByte s c)) (fun F w _=>by
  have h1:=Tryz.strings_IndexByte (str s) c.toNat w
  have e2:((c.toNat:Int)).toNat.toUInt8=c:=by rw [Int.toNat_natCast]; simp
  rw [Bnf,e2] at h1
  refine h1.mono ?_
  rintro e w' ⟨rfl,rfl⟩
  exact ⟨rfl,AhT _⟩)
 exact h
theorem Blu {c:UInt8}:Lib.indexByte [] c = -1:=by simp [Lib.indexByte]
theorem Aoj (l:List UInt8):(str l).size=l.length:=by show l.toArray.size=_; simp
theorem Ap3 (l:List UInt8) (k:Nat) (c:UInt8) (hk:l[k]?=some c) (hc:c.toNat<128):(Utf8.decode (str l) k).1=c.toNat∧(Utf8.decode (str l) k).2=1:=by
 obtain ⟨hl,rfl⟩:=List.getElem?_eq_some_iff.1 hk
 have h:k<(str l).size:=by rw [Aoj]; exact hl
 have e:((str l)[k]'h)=l[k]:=rfl
 have:=decode_ascii (str l) k h (by rw [e]; exact hc)
 rw [this,e]; exact ⟨rfl,rfl⟩
theorem u8N {n:Nat} (h:n<256):(UInt8.ofNat n).toNat=n:=by rw [UInt8.toNat_ofNat']; omega
theorem BrB (r:Nat) (h0:128≤r):∃ (L:List UInt8) (x:UInt8),Utf8.encode (r:Int)=str (L++[x])∧1≤L.length∧L.length≤3∧128≤x.toNat:=by
 have key:∀ c:Nat,128≤c→∃ (L:List UInt8) (x:UInt8),(if c<0x80 then (⟨#[UInt8.ofNat c]⟩:ByteArray)
   else if c<0x800 then ⟨#[UInt8.ofNat (0xC0+c / 64),UInt8.ofNat (0x80+c % 64)]⟩
   else if c<0x10000 then ⟨#[UInt8.ofNat (0xE0+c / 4096),UInt8.ofNat (0x80+c / 64 % 64),UInt8.ofNat (0x80+c % 64)]⟩
   else ⟨#[UInt8.ofNat (0xF0+c / 262144),UInt8.ofNat (0x80+c / 4096 % 64),UInt8.ofNat (0x80+c / 64 % 64),UInt8.ofNat (0x80+c % 64)]⟩)=str (L++[x])∧1≤L.length∧L.length≤3∧128≤x.toNat:=by
  intro c hc
  have hx:128≤(UInt8.ofNat (0x80+c % 64)).toNat:=by rw [u8N (by omega)]; omega
  rw [if_neg (by omega)]
  by_cases h1:c<0x800
  ·rw [if_pos h1]; exact ⟨[_],_,rfl,by simp,by simp,hx⟩
  ·rw [if_neg h1]
   by_cases h2:c<0x10000
   ·rw [if_pos h2]; exact ⟨[_,_],_,rfl,by simp,by simp,hx⟩
   ·rw [if_neg h2]; exact ⟨[_,_,_],_,rfl,by simp,by simp,hx⟩
 unfold Utf8.encode
 refine key _ ?_
 split
 ·simpa using h0
 ·decide
set_option maxRecDepth 100000 in
theorem ApO (a b:UInt8) (ha:a.toNat<128) (hb:b.toNat<128) (r:Nat) (h0:128≤r) (h1:r≤1114111):BD Tryz.prog 146 [ts [a,b],.val (.int .i32 (r:Int))] (fun x=>x=i64 (-1)):=by
 refine Au.toPureV (AdP (by simp) ?_)
 by_cases hr:r=65533
 ·subst hr
  obtain ⟨d1,d2⟩:=Ap3 [a,b] 0 a rfl ha
  obtain ⟨d3,d4⟩:=Ap3 [a,b] 1 b rfl hb
  simp -dsimp (disch:=first | assumption | omega) only [↓Ag,Ae,Ai,Ah,eq_self,Nat.reduceLT,Nat.reduceEqDiff,↓reduceIte,Nat.reduceAdd,reduceCtorEq,↓Bd]
  rw [Dj]
  refine Cj (fun q e H=>∃ k:Nat,q=2 - k∧k≤2∧e=[(175,.op 0 0 [])]∧H=[.sit [a,b] k]) 2 ?_ ?_
  ·exact ⟨0,rfl,by omega,rfl,rfl⟩
  ·rintro q e H ⟨k,rfl,hk,rfl,rfl⟩
   rcases (by omega:k=0∨k=1∨k=2) with rfl | rfl | rfl
   ·simp -dsimp (disch:=first | assumption | omega) only [↓Ag,Ae,Ai,Ah,eq_self,Nat.reduceLT,Nat.reduceEqDiff,↓reduceIte,Nat.reduceAdd,↓Bd,d1,d2]
    exact Aq 1 (by omega) (by simp) ⟨1,rfl,by omega,rfl,rfl⟩
   ·simp -dsimp (disch:=first | assumption | omega) only [↓Ag,Ae,Ai,Ah,eq_self,Nat.reduceLT,Nat.reduceEqDiff,Nat.reduceSub,↓reduceIte,Nat.reduceAdd,↓Bd,d3,d4]
    exact Aq 0 (by omega) (by simp) ⟨2,rfl,by omega,rfl,rfl⟩
   ·simp -dsimp (disch:=first | assumption | omega) only [↓Ag,Ae,Ai,Ah,eq_self,Nat.reduceLT,Nat.reduceEqDiff,↓reduceIte,Nat.reduceAdd,↓Bd]
 ·simp -dsimp (disch:=first | assumption | omega) only [↓Ag,Ae,Ai,Ah,eq_self,Nat.reduceEqDiff,↓reduceIte,Nat.reduceAdd,reduceCtorEq,↓Bd]
  refine (ArF r (by omega) (by omega)).calls rfl ?_
  rintro _ rfl
  cases hv:Lib.validRune (r:Int) with
  | false =>
   simp -dsimp (disch:=first | assumption | omega) only [↓Ag,Ae,Ai,Ah,eq_self,Nat.reduceEqDiff,↓reduceIte,reduceCtorEq,↓Bd]
  | true =>
   obtain ⟨L,x,he,l1,l3,hx⟩:=BrB r h0
   simp -dsimp (disch:=first | assumption | omega) only [↓Ag,Ae,Ai,Ah,eq_self,Nat.reduceEqDiff,↓reduceIte,reduceCtorEq,↓Bd,he,Dj]
   refine Cj (fun q e H=>e=[(0,ts [a,b]),(7,.val (.string (str (L++[x])))),(8,i64 (L.length:Int)),(9,i64 (L.length:Int))]∧H=[]) 0 ⟨rfl,rfl⟩ ?_
   rintro q e H ⟨rfl,rfl⟩
   by_cases h2:L.length=1
   ·obtain ⟨y,rfl⟩:=List.length_eq_one_iff.1 h2
    have hbx:¬ b.toNat=x.toNat:=by omega
    simp -dsimp (disch:=first | assumption | omega) only [↓Ag,Ae,Ai,Ah,eq_self,Nat.reduceLT,Nat.reduceEqDiff,Nat.reduceSub,↓reduceIte,Nat.reduceAdd,reduceCtorEq,Nat.reduceLeDiff,↓Bd,Dj,hbx]
    refine (Aqd [] x).calls rfl ?_
    rintro _ rfl
    simp -dsimp (disch:=first | assumption | omega) only [↓Ag,Ae,Ai,Ah,eq_self,Nat.reduceEqDiff,↓reduceIte,reduceCtorEq,↓Bd,Blu]
   ·simp -dsimp (disch:=first | assumption | omega) only [↓Ag,Ae,Ai,Ah,eq_self,Nat.reduceEqDiff,↓reduceIte,Nat.reduceAdd,reduceCtorEq,↓Bd,Dj]
end
section
open Go.RowKit
variable [AL]
theorem Aoh (n b0 b1 b2 b3:Nat):(2≤(Lib.decodeN n b0 b1 b2 b3).2→1<n∧b1 / 64=2)∧(3≤(Lib.decodeN n b0 b1 b2 b3).2→2<n∧b2 / 64=2)∧(4≤(Lib.decodeN n b0 b1 b2 b3).2→3<n∧b3 / 64=2)∧(Lib.decodeN n b0 b1 b2 b3).2≤4:=by
 unfold Lib.decodeN
 by_cases h0:b0<128
 ·rw [if_pos h0]; simp
 rw [if_neg h0]
 by_cases h1:b0 / 32=6∧(1<n∧b1 / 64=2)
 ·rw [if_pos h1]; obtain ⟨_,h2,h3⟩:=h1; split<;>simp [h2,h3]
 rw [if_neg h1]
 by_cases h4:b0 / 16=14∧(1<n∧b1 / 64=2)∧(2<n∧b2 / 64=2)
 ·rw [if_pos h4]; obtain ⟨_,⟨h2,h3⟩,h5,h6⟩:=h4; split<;>simp [h2,h3,h5,h6]
 rw [if_neg h4]
 by_cases h7:b0 / 8=30∧(1<n∧b1 / 64=2)∧(2<n∧b2 / 64=2)∧(3<n∧b3 / 64=2)
 ·rw [if_pos h7]; obtain ⟨_,⟨h2,h3⟩,⟨h5,h6⟩,h8,h9⟩:=h7; split<;>simp [h2,h3,h5,h6,h8,h9]
 rw [if_neg h7]; simp
theorem Bqx {l:List UInt8} {i:Nat} (h:i<l.length):(str l).get! i=l[i]:=by
 have h':i<(str l).size:=by rw [Aoj]; exact h
 have e:(str l).get! i=(str l)[i]'h':=by
  simp [ByteArray.get!,getElem!_pos,h']
  rfl
 rw [e]; rfl
theorem Ap6 {l:List UInt8} {pos j:Nat} (hj:pos<j) (hj2:j<pos+(Utf8.decode (str l) pos).2):∃ c,l[j]?=some c∧128≤c.toNat:=by
 rw [Lib.decode_at,Aoj] at hj2
 obtain ⟨h1,h2,h3,h4⟩:=Aoh (l.length - pos) ((str l).get! pos).toNat ((str l).get! (pos+1)).toNat ((str l).get! (pos+2)).toNat ((str l).get! (pos+3)).toNat
 generalize (Lib.decodeN (l.length - pos) ((str l).get! pos).toNat ((str l).get! (pos+1)).toNat ((str l).get! (pos+2)).toNat ((str l).get! (pos+3)).toNat).2=k at *
 rcases (by omega:j=pos+1∨j=pos+2∨j=pos+3) with rfl | rfl | rfl
 ·obtain ⟨q1,q2⟩:=h1 (by omega)
  rw [Bqx (by omega)] at q2
  exact ⟨_,List.getElem?_eq_getElem (by omega),by omega⟩
 ·obtain ⟨q1,q2⟩:=h2 (by omega)
  rw [Bqx (by omega)] at q2
  exact ⟨_,List.getElem?_eq_getElem (by omega),by omega⟩
 ·obtain ⟨q1,q2⟩:=h3 (by omega)
  rw [Bqx (by omega)] at q2
  exact ⟨_,List.getElem?_eq_getElem (by omega),by omega⟩
theorem Bhh (l:List UInt8) (k:Nat) (c:UInt8) (hk:l[k]?=some c) (hc:128≤c.toNat):128≤(Utf8.decode (str l) k).1∧(Utf8.decode (str l) k).1≤1114111∧1≤(Utf8.decode (str l) k).2:=by
 obtain ⟨hl,rfl⟩:=List.getElem?_eq_some_iff.1 hk
 have h:k<(str l).size:=by rw [Aoj]; exact hl
 have e:((str l)[k]'h)=l[k]:=rfl
 obtain ⟨h1,h2⟩:=decode_high (str l) k h (by rw [e]; exact hc)
 exact ⟨h1,Lib.rune_le _ _,h2⟩
theorem Apf (a b:UInt8) (c:UInt8) (hc:c.toNat<128):BD Tryz.prog 146 [ts [a,b],.val (.int .i32 ((c.toNat:Nat):Int))] (fun x=>x=i64 (Lib.indexByte [a,b] c)):=by
 have h:=BD.ofBelow (f:=146) (args:=[.string (str [a,b]),.int .i32 c.toNat]) (r := .int .i64 (Lib.indexByte [a,b] c)) (fun F w _=>by
  have h1:=Tryz.strings_IndexRune_ascii (str [a,b]) c.toNat w (by omega) (by omega)
  have e2:((c.toNat:Int)).toNat.toUInt8=c:=by rw [Int.toNat_natCast]; simp
  rw [Bnf,e2] at h1
  refine h1.mono ?_
  rintro e w' ⟨rfl,rfl⟩
  exact ⟨rfl,AhT _⟩)
 exact h
end
section
open Go.RowKit
variable [AL]
theorem AiU (m:List UInt8):∀ l:List UInt8,0≤Lib.indexAny l m↔∃ x∈l,x∈m
 | []=>by simp [Lib.indexAny]
 | b::l=>by
  have ih:=AiU m l
  have hg:=Lib.indexAny_ge m l
  unfold Lib.indexAny
  by_cases hb:b∈m
  ·simp [hb]
  ·have hb':m.contains b=false:=by simpa using hb
   rw [if_neg (by rw [hb']; simp)]
   by_cases h:Lib.indexAny l m = -1
   ·rw [h]
    have:¬ ∃ x∈l,x∈m:=by rw [←ih,h]; omega
    simp [hb,this]
   ·have h':0≤Lib.indexAny l m:=by omega
    have h2:(Lib.indexAny l m == -1)=false:=by simpa using h
    rw [h2]
    have:=ih.1 h'
    simp [hb,this]
    omega
set_option maxRecDepth 100000 in
theorem Bfd (s:List UInt8) (a b:UInt8) (hs:s.length≤1000) (ha:a.toNat<128) (hb:b.toNat<128):BD Tryz.prog 119 [ts s,ts [a,b]] (fun x=>∃ i:Int,x=i64 i∧(0≤i↔∃ x∈s,x∈[a,b])):=by
 by_cases h8:8<s.length
 ·have h:=BD.ofBelow (f:=119) (args:=[.string (str s),.string (str [a,b])]) (r := .int .i64 (Lib.indexAny s [a,b])) (fun F w _=>by
   have h1:=Tryz.strings_IndexAny_long (by intro w; kernel_rfl) (str s) (str [a,b]) w (by rw [Aoj]; simp) (by rw [Aoj]; exact h8) (by rw [Aoj]; omega) (by rw [Aoj]; simp) (fun j x hx=>by
    rw [Bnf] at hx
    have:=List.mem_of_getElem? hx
    simp at this
    rcases this with rfl | rfl
    ·exact ha
    ·exact hb)
   rw [Bnf,Bnf] at h1
   refine h1.mono ?_
   rintro e w' ⟨rfl,rfl⟩
   exact ⟨rfl,rfl,rfl,rfl,by simp; omega,fun i hi=>by rw [Fz _ _ (by simp; omega),Fz _ _ hi]⟩)
  refine BD.mono (args:=[ts s,ts [a,b]]) h ?_
  rintro x rfl
  exact ⟨_,rfl,AiU _ _⟩
 ·refine Au.toPureV (AeF (by simp) ?_)
  have n1:¬ ([a,b]:List UInt8)=[]:=by simp
  simp -dsimp (disch:=first | assumption | omega) only [↓Ag,Ae,Ai,Ah,eq_self,Nat.reduceEqDiff,↓reduceIte,Nat.reduceAdd,reduceCtorEq,↓EF,Dj]
  refine UN (by simp) ?_
  simp -dsimp (disch:=first | assumption | omega) only [↓Ag,Ae,Ai,Ah,eq_self,Nat.reduceEqDiff,↓reduceIte,reduceCtorEq,↓VA,↓EF,Dj]
  refine Cj (fun q e H=>∃ pos:Nat,q=s.length - pos∧(∀ j x,j<pos→s[j]?=some x→x∉[a,b])∧e=[(1,ts [a,b]),(45,.op 0 0 [])]∧H=[.sit s pos]) s.length ?_ ?_
  ·exact ⟨0,rfl,fun j x h=>by omega,rfl,rfl⟩
  ·rintro q e H ⟨pos,rfl,hno,rfl,rfl⟩
   by_cases hp:pos<s.length
   ·obtain ⟨c,hc⟩:∃ c,s[pos]?=some c:=⟨_,List.getElem?_eq_getElem hp⟩
    by_cases h7:c.toNat<128
    ·obtain ⟨d1,d2⟩:=Ap3 s pos c hc h7
     simp -dsimp (disch:=first | assumption | omega) only [↓Ag,Ae,Ai,Ah,eq_self,Nat.reduceEqDiff,↓reduceIte,↓EF,d1,d2]
     refine (Apf a b c h7).calls rfl ?_
     rintro _ rfl
     by_cases hm:c∈[a,b]
     ·obtain ⟨k,hk⟩:∃ k:Nat,Lib.indexByte [a,b] c=(k:Int):=by
       rcases AkD c [a,b] with ⟨_,h,_⟩ | ⟨k,h,_⟩
       ·exact absurd hm h
       ·exact ⟨k,h⟩
      rw [hk]
      simp -dsimp (disch:=first | assumption | omega) only [↓Ag,Ae,Ai,Ah,eq_self,Nat.reduceEqDiff,↓reduceIte,↓EF]
      exact ⟨_,rfl,fun _=>⟨c,List.mem_of_getElem? hc,hm⟩,fun _=>by omega⟩
     ·have hk:Lib.indexByte [a,b] c = -1:=by
       rcases AkD c [a,b] with ⟨h,_⟩ | ⟨k,_,h,h2,_⟩
       ·exact h
       ·exact absurd (List.mem_of_getElem? h2) hm
      rw [hk]
      simp -dsimp (disch:=first | assumption | omega) only [↓Ag,Ae,Ai,Ah,eq_self,Nat.reduceEqDiff,↓reduceIte]
      refine Aq (s.length - (pos+1)) (by omega) (by simp) ⟨pos+1,rfl,fun j x hj hx => ?_,rfl,rfl⟩
      by_cases e:j=pos
      ·subst e; rw [hc] at hx; cases hx; exact hm
      ·exact hno j x (by omega) hx
    ·obtain ⟨d1,d2,d3⟩:=Bhh s pos c hc (by omega)
     have hsk:∀ j,pos<j→j<pos+(Utf8.decode (str s) pos).2→∃ c,s[j]?=some c∧128≤c.toNat:=fun j h h2=>Ap6 h h2
     simp -dsimp (disch:=first | assumption | omega) only [↓Ag,Ae,Ai,Ah,eq_self,Nat.reduceEqDiff,↓reduceIte,↓EF]
     generalize (Utf8.decode (str s) pos).1=r at *
     generalize (Utf8.decode (str s) pos).2=k at *
     refine (ApO a b ha hb r d1 d2).calls rfl ?_
     rintro _ rfl
     simp -dsimp (disch:=first | assumption | omega) only [↓Ag,Ae,Ai,Ah,eq_self,Nat.reduceEqDiff,↓reduceIte]
     have hi2:∀ y:UInt8,128≤y.toNat→y∉[a,b]:=fun y hy hm=>by
      simp at hm
      rcases hm with rfl | rfl<;>omega
     refine Aq (s.length - (pos+k)) (by omega) (by simp) ⟨pos+k,rfl,fun j x hj hx => ?_,rfl,rfl⟩
     by_cases e:j=pos
     ·subst e; rw [hc] at hx; cases hx; exact hi2 _ (by omega)
     ·by_cases h2:j<pos
      ·exact hno j x h2 hx
      ·obtain ⟨y,hy,hy2⟩:=hsk j (by omega) hj
       rw [hy] at hx; cases hx; exact hi2 _ hy2
   ·simp -dsimp (disch:=first | assumption | omega) only [↓Ag,Ae,Ai,Ah,eq_self,Nat.reduceEqDiff,↓reduceIte,↓EF]
    refine ⟨-1,rfl,fun h=>by omega,fun ⟨x,hx,hm⟩ => ?_⟩
    obtain ⟨j,hj,rfl⟩:=List.mem_iff_getElem.1 hx
    exact absurd hm (hno j _ (by omega) (List.getElem?_eq_getElem hj))
theorem AoJ (s:List UInt8) (a b:UInt8) (hs:s.length≤1000) (ha:a.toNat<128) (hb:b.toNat<128):BD Tryz.prog 100 [ts s,ts [a,b]] (fun x=>x=tb (decide (∃ x∈s,x∈[a,b]))):=by
 refine Au.toPureV (Abx (by simp) ?_)
 simp -dsimp (disch:=first | assumption | omega) only [↓Ag,Ae,Ai,Ah,eq_self,Nat.reduceEqDiff,↓reduceIte,Nat.reduceAdd,reduceCtorEq,↓SH]
 refine (Bfd s a b hs ha hb).calls rfl ?_
 rintro _ ⟨i,rfl,hi⟩
 have e:(decide (∃ x∈s,x∈[a,b]))=decide (0≤i):=by simp only [hi]
 rw [e]
 simp -dsimp (disch:=first | assumption | omega) only [↓Ag,Ae,Ai,Ah,eq_self,↓reduceIte,↓SH]
 simp
end
section
open Go.RowKit
variable [AL]
end
section
variable [AL]
set_option maxRecDepth 100000
def WO:Af := .seq (.seq (.ops [mv_ 3 0] [0,3])
 (.block 0 (.seq (.seq (.ops [po_ 5 (.bin 9 .eql (.t 3) (.c (.string (str [])))),mv_ 4 5] [0,3,4])
 (.cond (.t 4)
 (.skip)
 (.seq (.ops [po_ 6 (.bin 9 .eql (.t 3) (.c (.string (str [46])))),mv_ 4 6] [0,3,4])
  (.cond (.t 4)
  (.skip)
  (.seq (.ops [po_ 7 (.bin 9 .eql (.t 3) (.c (.string (str [46,46])))),mv_ 4 7] [0,3,4])
   (.cond (.t 4)
   (.skip)
   (.ops [po_ 8 (.bin 9 .eql (.t 3) (.c (.string (str [46,103,105,116])))),mv_ 4 8] [0,4])))))))
 (.cond (.t 4)
 (.seq (.ops [po_ 2 (.mov (.c (.bool false)))] [2])
  (.ret))
 (.skip)))))
 (.seq (.ops [mv_ 9 0,po_ 10 (.lenS (.t 9)),po_ 11 (.bin 3 .leq (.t 10) (ci_ 50)),mv_ 12 11,⟨some 13,.p (.mov (.t 0)),some ⟨12,true⟩⟩,⟨some 14,.s (.call 100 [.t 13,.c (.string (str [47,0]))]),some ⟨12,true⟩⟩,⟨some 15,.p (.un .not (.t 14)),some ⟨12,true⟩⟩,po_ 16 (.pick (.t 12) (.t 15) (.c (.bool false))),mv_ 2 16] [2])
 (.ret))
def Acw:Af := .seq (.ops [po_ 2 (.mov (.c (.bool false)))] [0])
 WO
def Ab2:List VR:=[.tmp 2]
theorem Akc:Tryz.f70.body.bind (trC Tryz.prog Tryz.f70.ntmps)=some (er Acw):=by kernel_rfl
theorem Akg:trR Tryz.prog Tryz.f70.results.toList=some Ab2:=by kernel_rfl
def AdU:=Aa WO.eq_1
def AhY:=Aa Acw.eq_1
theorem Aid {K:TV→Prop} {e:Env} {H:List Ob}:res Ab2 e H K=res [.tmp 2] e H K:=Ad rfl
def Gw:=(aI_ (aI_ @AdU @AhY) @Aid)
def Ajh:=D7 17 Tryz.func70 Akc Akg rfl
def AaR:Af := .seq (.block 1 (.seq (.ops [mv_ 30 0,mv_ 31 3,po_ 32 (.idxS (.t 30) (.t 31)),po_ 33 (.bin 5 .eql (.t 32) (.c (.int .u8 ((0:Nat):Int)))),mv_ 34 33,⟨some 35,.p (.mov (.t 0)),some ⟨34,false⟩⟩,⟨some 36,.p (.mov (.t 3)),some ⟨34,false⟩⟩,⟨some 37,.p (.idxS (.t 35) (.t 36)),some ⟨34,false⟩⟩,⟨some 38,.p (.bin 5 .eql (.t 37) (.c (.int .u8 ((47:Nat):Int)))),some ⟨34,false⟩⟩,po_ 39 (.pick (.t 34) (.c (.bool true)) (.t 38))] [0,3,39])
 (.cond (.t 39)
 (.seq (.ops [po_ 2 (.mov (.c (.bool false)))] [2])
  (.ret))
 (.skip))))
 (.ops [mv_ 28 3,po_ 29 (.bin 3 .add (.t 28) (ci_ 1)),mv_ 3 29] [0,3])
def AaG:Af := .seq (.seq (.ops [mv_ 24 3,mv_ 25 0,po_ 26 (.lenS (.t 25)),po_ 27 (.bin 3 .lss (.t 24) (.t 26))] [0,3,27])
 (.cond (.t 27)
 (.skip)
 (.exit 0)))
 AaR
def Abi:Af := .block 0 (.loop [0,3] AaG)
def AaO:Af := .seq (.ops [po_ 2 (.mov (.c (.bool true)))] [2])
 (.ret)
def AaT:Af := .seq (.seq (.ops [po_ 3 (.mov (ci_ 0))] [0,3])
 Abi)
 AaO
def AaY:Af := .seq (.seq (.ops [mv_ 4 0,po_ 5 (.lenS (.t 4)),po_ 6 (.bin 3 .lss (.t 5) (ci_ 1)),mv_ 7 6,⟨some 8,.p (.mov (.t 0)),some ⟨7,false⟩⟩,⟨some 9,.p (.lenS (.t 8)),some ⟨7,false⟩⟩,⟨some 10,.p (.bin 3 .gtr (.t 9) (ci_ 50)),some ⟨7,false⟩⟩,po_ 11 (.pick (.t 7) (.c (.bool true)) (.t 10)),mv_ 12 11,⟨some 13,.p (.mov (.t 0)),some ⟨12,false⟩⟩,⟨some 14,.p (.bin 9 .eql (.t 13) (.c (.string (str [46])))),some ⟨12,false⟩⟩,po_ 15 (.pick (.t 12) (.c (.bool true)) (.t 14)),mv_ 16 15,⟨some 17,.p (.mov (.t 0)),some ⟨16,false⟩⟩,⟨some 18,.p (.bin 9 .eql (.t 17) (.c (.string (str [46,46])))),some ⟨16,false⟩⟩,po_ 19 (.pick (.t 16) (.c (.bool true)) (.t 18)),mv_ 20 19,⟨some 21,.p (.mov (.t 0)),some ⟨20,false⟩⟩,⟨some 22,.p (.bin 9 .eql (.t 21) (.c (.string (str [46,103,105,116])))),some ⟨20,false⟩⟩,po_ 23 (.pick (.t 20) (.c (.bool true)) (.t 22))] [0,23])
 (.cond (.t 23)
 (.seq (.ops [po_ 2 (.mov (.c (.bool false)))] [2])
  (.ret))
 (.skip)))
 AaT
def AhC:Af := .seq (.ops [po_ 2 (.mov (.c (.bool false)))] [0])
 AaY
def AhB:List VR:=[.tmp 2]
theorem Amf:Tryz.f78.body.bind (trC Tryz.prog Tryz.f78.ntmps)=some (er AhC):=by kernel_rfl
theorem Ank:trR Tryz.prog Tryz.f78.results.toList=some AhB:=by kernel_rfl
def Agy:=Aa AaR.eq_1
def Ahp:=Aa AaG.eq_1
def Ag7:=Aa Abi.eq_1
def Ahb:=Aa AaO.eq_1
def Ahs:=Aa AaT.eq_1
def Ahy:=Aa AaY.eq_1
def Aka:=Aa AhC.eq_1
theorem AjV {K:TV→Prop} {e:Env} {H:List Ob}:res AhB e H K=res [.tmp 2] e H K:=Ad rfl
def Em:=(aI_ (aI_ (aI_ @Agy @Ahp) (aI_ @Ag7 @Ahb)) (aI_ (aI_ @Ahs @Ahy) (aI_ @Aka @AjV)))
def Ak5:=D7 40 Tryz.func78 Amf Ank rfl
end
section
open Go.RowKit
variable [AL]
def TY (s:List UInt8):Bool:=decide (s≠[]∧s≠[46]∧s≠[46,46]∧s≠[46,103,105,116]∧s.length≤50∧¬ ∃ x∈s,x∈[(47:UInt8),0])
theorem Bkn (s:List UInt8) (hs:s.length≤9223372036854775807):BD Tryz.prog 70 [ts s] (fun x=>x=tb (TY s)):=by
 refine Au.toPureV (Ajh (by simp) ?_)
 unfold TY
 by_cases h1:s=[]
 ·subst h1; simp -dsimp (disch:=first | assumption | omega) only [↓Ag,Ae,Ai,Ah,eq_self,Nat.reduceEqDiff,↓reduceIte,reduceCtorEq,↓Gw]; simp
 by_cases h2:s=[46]
 ·subst h2; simp -dsimp (disch:=first | assumption | omega) only [↓Ag,Ae,Ai,Ah,eq_self,Nat.reduceEqDiff,↓reduceIte,reduceCtorEq,Nat.reduceLeDiff,↓Gw]; simp
 by_cases h3:s=[46,46]
 ·subst h3; simp -dsimp (disch:=first | assumption | omega) only [↓Ag,Ae,Ai,Ah,eq_self,Nat.reduceEqDiff,↓reduceIte,Nat.reduceAdd,reduceCtorEq,Nat.reduceLeDiff,↓Gw]; simp
 by_cases h4:s=[46,103,105,116]
 ·subst h4; simp -dsimp (disch:=first | assumption | omega) only [↓Ag,Ae,Ai,Ah,eq_self,Nat.reduceEqDiff,↓reduceIte,Nat.reduceAdd,reduceCtorEq,Nat.reduceLeDiff,↓Gw]; simp
 by_cases h5:s.length≤50
 ·simp -dsimp (disch:=first | assumption | omega) only [↓Ag,Ae,Ai,Ah,eq_self,Nat.reduceEqDiff,↓reduceIte,reduceCtorEq,↓Gw,h1,h2,h3,h4,Dj]
  refine (AoJ s 47 0 (by omega) (by decide) (by decide)).calls rfl ?_
  rintro _ rfl
  simp -dsimp (disch:=first | assumption | omega) only [↓Ag,Ae,Ai,Ah,eq_self,Nat.reduceEqDiff,↓reduceIte,↓Gw]
  by_cases hb:∃ x∈s,x∈[(47:UInt8),0]
  ·rw [decide_eq_true hb,decide_eq_false (fun h=>h.2.2.2.2.2 hb)]; rfl
  ·rw [decide_eq_false hb,decide_eq_true ⟨h1,h2,h3,h4,h5,hb⟩]; rfl
 ·simp -dsimp (disch:=first | assumption | omega) only [↓Ag,Ae,Ai,Ah,eq_self,Nat.reduceEqDiff,↓reduceIte,reduceCtorEq,↓Gw,h1,h2,h3,h4,Dj]
  simp [h5]
theorem Aso (s:List UInt8) (hs:s.length≤9223372036854775807):BD Tryz.prog 78 [ts s] (fun x=>x=tb (TY s)):=by
 refine Au.toPureV (Ak5 (by simp) ?_)
 unfold TY
 by_cases h1:s=[]
 ·subst h1; simp -dsimp (disch:=first | assumption | omega) only [↓Ag,Ae,Ai,Ah,eq_self,Nat.reduceLT,Nat.reduceEqDiff,↓reduceIte,reduceCtorEq,↓Em,Dj]; simp
 by_cases h5:s.length≤50
 ·by_cases h2:s=[46]
  ·subst h2; simp -dsimp (disch:=first | assumption | omega) only [↓Ag,Ae,Ai,Ah,eq_self,Nat.reduceLT,Nat.reduceEqDiff,↓reduceIte,reduceCtorEq,Nat.reduceLeDiff,↓Em,Dj]; simp
  by_cases h3:s=[46,46]
  ·subst h3; simp -dsimp (disch:=first | assumption | omega) only [↓Ag,Ae,Ai,Ah,eq_self,Nat.reduceLT,Nat.reduceEqDiff,↓reduceIte,Nat.reduceAdd,reduceCtorEq,Nat.reduceLeDiff,↓Em,Dj]; simp
  by_cases h4:s=[46,103,105,116]
  ·subst h4; simp -dsimp (disch:=first | assumption | omega) only [↓Ag,Ae,Ai,Ah,eq_self,Nat.reduceLT,Nat.reduceEqDiff,↓reduceIte,Nat.reduceAdd,reduceCtorEq,Nat.reduceLeDiff,↓Em,Dj]; simp
  have hpos:0<s.length:=List.length_pos_iff.2 h1
  simp -dsimp (disch:=first | assumption | omega) only [↓Ag,Ae,Ai,Ah,eq_self,Nat.reduceEqDiff,↓reduceIte,reduceCtorEq,↓Em,h2,h3,h4,Dj]
  refine Cj (fun q e H=>∃ i:Nat,q=s.length - i∧i≤s.length∧(∀ j x,j<i→s[j]?=some x→x∉[(47:UInt8),0])∧e=[(0,ts s),(3,i64 (i:Int))]∧H=[]) s.length ?_ ?_
  ·exact ⟨0,rfl,by omega,fun j x h=>by omega,rfl,rfl⟩
  ·rintro q e H ⟨i,rfl,hi,hno,rfl,rfl⟩
   by_cases h:i<s.length
   ·obtain ⟨c,hc⟩:∃ c,s[i]?=some c:=⟨_,List.getElem?_eq_getElem h⟩
    by_cases c1:c=0
    ·subst c1
     simp -dsimp (disch:=first | assumption | omega) only [↓Ag,Ae,Ai,Ah,eq_self,Nat.reduceEqDiff,UInt8.reduceToNat,↓reduceIte,reduceCtorEq,↓Em,Dj,hc]
     rw [decide_eq_false (fun h=>h.2.2.2.2.2 ⟨0,List.mem_of_getElem? hc,by simp⟩)]
    by_cases c2:c=47
    ·subst c2
     simp -dsimp (disch:=first | assumption | omega) only [↓Ag,Ae,Ai,Ah,eq_self,Nat.reduceEqDiff,UInt8.reduceToNat,↓reduceIte,reduceCtorEq,↓Em,Dj,hc]
     rw [decide_eq_false (fun h=>h.2.2.2.2.2 ⟨47,List.mem_of_getElem? hc,by simp⟩)]
    have d1:¬ c.toNat=0:=fun e=>c1 (UInt8.toNat_inj.1 e)
    have d2:¬ c.toNat=47:=fun e=>c2 (UInt8.toNat_inj.1 e)
    simp -dsimp (disch:=first | assumption | omega) only [↓Ag,Ae,Ai,Ah,eq_self,Nat.reduceEqDiff,↓reduceIte,reduceCtorEq,↓Em,Dj,hc,d1,d2]
    refine Aq (s.length - (i+1)) (by omega) (by simp) ⟨i+1,rfl,by omega,fun j x hj hx => ?_,rfl,rfl⟩
    by_cases e:j=i
    ·subst e; rw [hc] at hx; cases hx; simp [c1,c2]
    ·exact hno j x (by omega) hx
   ·have hb:¬ ∃ x∈s,x∈[(47:UInt8),0]:=fun ⟨x,hx,hm⟩=>by
     obtain ⟨j,hj,rfl⟩:=List.mem_iff_getElem.1 hx
     exact hno j _ (by omega) (List.getElem?_eq_getElem hj) hm
    simp -dsimp (disch:=first | assumption | omega) only [↓Ag,Ae,Ai,Ah,eq_self,Nat.reduceEqDiff,↓reduceIte,reduceCtorEq,↓Em,Dj]
    rw [decide_eq_true ⟨h1,h2,h3,h4,h5,hb⟩]
 ·have hpos:0<s.length:=List.length_pos_iff.2 h1
  simp -dsimp (disch:=first | assumption | omega) only [↓Ag,Ae,Ai,Ah,eq_self,Nat.reduceEqDiff,↓reduceIte,reduceCtorEq,↓Em,Dj]
  simp [h5]
end
section
variable [AL]
set_option maxRecDepth 100000
def Ut:Af := .seq (.draw 8 [mv_ 69 13,po_ 70 (.bin 3 .gtr (.t 69) (ci_ 0)),mv_ 71 70,⟨some 72,.p (.mov (.t 4)),some ⟨71,true⟩⟩,⟨some 73,.p (.mov (.t 13)),some ⟨71,true⟩⟩,⟨some 74,.p (.bin 3 .sub (.t 73) (ci_ 1)),some ⟨71,true⟩⟩,⟨some 75,.p (.idxA 22 (.t 72) (.t 74)),some ⟨71,true⟩⟩,⟨some 76,.p (.load true 22 (.t 75)),some ⟨71,true⟩⟩,⟨some 77,.p (.load true 22 (.t 12)),some ⟨71,true⟩⟩,⟨some 78,.s (.call 40 [.t 76,.t 77]),some ⟨71,true⟩⟩,⟨some 79,.p (.bin 3 .geq (.t 78) (ci_ 0)),some ⟨71,true⟩⟩,po_ 80 (.pick (.t 71) (.t 79) (.c (.bool false)))] [4,6,12,80])
 (.cond (.t 80)
 (.seq (.ops [po_ 81 (.iface 45 (ci_ 21)),po_ 2 (.mov (.c (.slice none 0 0))),mv_ 3 81] [2,3])
  (.ret))
 (.skip))
def UE:Af := .seq (.seq (.ops [mv_ 67 4,po_ 68 (.lenV (.t 67)),mv_ 13 68] [4,6,12,13])
 Ut)
 (.seq (.ops [mv_ 82 4,po_ 83 (.load true 22 (.t 12)),⟨some 84,.s (.bslice 22 1 (.agg [.val (.int .i64 ((0:Nat):Int)),.val (.string (str [])),.arr 20 1 [.val (.int .u8 ((0:Nat):Int)),.val (.int .u8 ((0:Nat):Int)),.val (.int .u8 ((0:Nat):Int)),.val (.int .u8 ((0:Nat):Int)),.val (.int .u8 ((0:Nat):Int)),.val (.int .u8 ((0:Nat):Int)),.val (.int .u8 ((0:Nat):Int)),.val (.int .u8 ((0:Nat):Int)),.val (.int .u8 ((0:Nat):Int)),.val (.int .u8 ((0:Nat):Int)),.val (.int .u8 ((0:Nat):Int)),.val (.int .u8 ((0:Nat):Int)),.val (.int .u8 ((0:Nat):Int)),.val (.int .u8 ((0:Nat):Int)),.val (.int .u8 ((0:Nat):Int)),.val (.int .u8 ((0:Nat):Int)),.val (.int .u8 ((0:Nat):Int)),.val (.int .u8 ((0:Nat):Int)),.val (.int .u8 ((0:Nat):Int)),.val (.int .u8 ((0:Nat):Int))]]) [⟨0,.t 83⟩]),none⟩,so_ 85 (.app 22 48 107 (.t 82) (.t 84)),mv_ 4 85] [4,6])
 (.ops [mv_ 86 6,po_ 87 (.slV 1 (.t 86) (some (ci_ 20)) none),mv_ 0 87] [0,4]))
def UF:Af := .seq (.draw 4 [mv_ 59 10,po_ 60 (.conv .i64 (.t 59)),mv_ 61 8,po_ 62 (.b2s (.t 61)),mv_ 63 6,po_ 64 (.gen (.s2a 20 1) [.t 63]),po_ 65 (.load true 20 (.t 64)),⟨some 66,.p (.build [.val (.int .i64 ((0:Nat):Int)),.val (.string (str [])),.arr 20 1 [.val (.int .u8 ((0:Nat):Int)),.val (.int .u8 ((0:Nat):Int)),.val (.int .u8 ((0:Nat):Int)),.val (.int .u8 ((0:Nat):Int)),.val (.int .u8 ((0:Nat):Int)),.val (.int .u8 ((0:Nat):Int)),.val (.int .u8 ((0:Nat):Int)),.val (.int .u8 ((0:Nat):Int)),.val (.int .u8 ((0:Nat):Int)),.val (.int .u8 ((0:Nat):Int)),.val (.int .u8 ((0:Nat):Int)),.val (.int .u8 ((0:Nat):Int)),.val (.int .u8 ((0:Nat):Int)),.val (.int .u8 ((0:Nat):Int)),.val (.int .u8 ((0:Nat):Int)),.val (.int .u8 ((0:Nat):Int)),.val (.int .u8 ((0:Nat):Int)),.val (.int .u8 ((0:Nat):Int)),.val (.int .u8 ((0:Nat):Int)),.val (.int .u8 ((0:Nat):Int))]] [1,1,20] [⟨0,.t 60⟩,⟨1,.t 62⟩,⟨2,.t 65⟩]),none⟩,so_ 12 (.alloc (.agg [.val (.int .i64 ((0:Nat):Int)),.val (.string (str [])),.arr 20 1 [.val (.int .u8 ((0:Nat):Int)),.val (.int .u8 ((0:Nat):Int)),.val (.int .u8 ((0:Nat):Int)),.val (.int .u8 ((0:Nat):Int)),.val (.int .u8 ((0:Nat):Int)),.val (.int .u8 ((0:Nat):Int)),.val (.int .u8 ((0:Nat):Int)),.val (.int .u8 ((0:Nat):Int)),.val (.int .u8 ((0:Nat):Int)),.val (.int .u8 ((0:Nat):Int)),.val (.int .u8 ((0:Nat):Int)),.val (.int .u8 ((0:Nat):Int)),.val (.int .u8 ((0:Nat):Int)),.val (.int .u8 ((0:Nat):Int)),.val (.int .u8 ((0:Nat):Int)),.val (.int .u8 ((0:Nat):Int)),.val (.int .u8 ((0:Nat):Int)),.val (.int .u8 ((0:Nat):Int)),.val (.int .u8 ((0:Nat):Int)),.val (.int .u8 ((0:Nat):Int))]])),⟨none,.s (.store 22 (.t 12) (.t 66)),none⟩] [4,6,12])
 UE
def UI:Af := .seq (.seq (.ops [mv_ 37 7,po_ 38 (.un .not (.t 37)),mv_ 39 38,⟨some 40,.p (.mov (.t 9)),some ⟨39,false⟩⟩,⟨some 41,.p (.un .not (.t 40)),some ⟨39,false⟩⟩,po_ 42 (.pick (.t 39) (.c (.bool true)) (.t 41)),mv_ 43 42,⟨some 44,.p (.mov (.t 11)),some ⟨43,false⟩⟩,⟨some 45,.p (.eqN 1 (.t 44) (.c .nilIface) true),some ⟨43,false⟩⟩,po_ 46 (.pick (.t 43) (.c (.bool true)) (.t 45)),mv_ 47 46,⟨some 48,.p (.mov (.t 5)),some ⟨47,false⟩⟩,⟨some 49,.p (.idxA 1 (.t 48) (ci_ 0)),some ⟨47,false⟩⟩,⟨some 50,.p (.load false 1 (.t 49)),some ⟨47,false⟩⟩,⟨some 51,.p (.bin 5 .eql (.t 50) (.c (.int .u8 ((48:Nat):Int)))),some ⟨47,false⟩⟩,po_ 52 (.pick (.t 47) (.c (.bool true)) (.t 51)),mv_ 53 52,⟨some 54,.p (.mov (.t 6)),some ⟨53,false⟩⟩,⟨some 55,.p (.lenV (.t 54)),some ⟨53,false⟩⟩,⟨some 56,.p (.bin 3 .lss (.t 55) (ci_ 20)),some ⟨53,false⟩⟩,po_ 57 (.pick (.t 53) (.c (.bool true)) (.t 56))] [4,6,8,10,57])
 (.cond (.t 57)
 (.seq (.ops [po_ 58 (.iface 45 (ci_ 21)),po_ 2 (.mov (.c (.slice none 0 0))),mv_ 3 58] [2,3])
  (.ret))
 (.skip)))
 UF
def Un:Af := .seq (.ops [mv_ 32 5,po_ 33 (.b2s (.t 32)),so_ 34 (.call 39 [.t 33,.c (.int .i64 ((8:Nat):Int)),.c (.int .i64 ((20:Nat):Int))]),mv_ 31 34,po_ 35 (.ext 0 (.t 31)),po_ 36 (.ext 1 (.t 31)),mv_ 10 35,mv_ 11 36] [4,5,6,7,8,9,10,11])
 UI
def TS:Af := .seq (.opsZ [mv_ 25 6,⟨some 26,.s (.bslice 1 1 (.val (.int .u8 ((0:Nat):Int))) [⟨0,.c (.int .u8 ((0:Nat):Int))⟩]),none⟩] [26] [so_ 27 (.call 38 [.t 25,.t 26]),mv_ 24 27,po_ 28 (.ext 0 (.t 24)),po_ 29 (.ext 1 (.t 24)),po_ 30 (.ext 2 (.t 24)),mv_ 8 28,mv_ 6 29,mv_ 9 30] [4,5,6,7,8,9])
 Un
def Uk:Af := .block 1 (.seq (.opsZ [mv_ 18 0,⟨some 19,.s (.bslice 1 1 (.val (.int .u8 ((0:Nat):Int))) [⟨0,.c (.int .u8 ((32:Nat):Int))⟩]),none⟩] [19] [so_ 20 (.call 38 [.t 18,.t 19]),mv_ 17 20,po_ 21 (.ext 0 (.t 17)),po_ 22 (.ext 1 (.t 17)),po_ 23 (.ext 2 (.t 17)),mv_ 5 21,mv_ 6 22,mv_ 7 23] [4,5,6,7])
 TS)
def Uw:Af := .seq (.seq (.ops [mv_ 14 0,po_ 15 (.lenV (.t 14)),po_ 16 (.bin 3 .gtr (.t 15) (ci_ 0))] [0,4,16])
 (.cond (.t 16)
 (.skip)
 (.exit 0)))
 Uk
def UC:Af := .seq (.seq (.ops [mv_ 88 4,so_ 89 (.call 41 [.t 88]),po_ 90 (.un .not (.t 89))] [4,90])
 (.cond (.t 90)
 (.seq (.ops [po_ 91 (.iface 45 (ci_ 21)),po_ 2 (.mov (.c (.slice none 0 0))),mv_ 3 91] [2,3])
  (.ret))
 (.skip)))
 (.seq (.ops [mv_ 92 4,mv_ 2 92,po_ 3 (.mov (.c .nilIface))] [2,3])
 (.ret))
def TC:Af := .seq (.block 0 (.own 4 22 (.loop [0,4] Uw)))
 UC
def SX:Af := .seq (.ops [po_ 4 (.mov (.c (.slice none 0 0)))] [0,4])
 TC
def Yy:Af := .seq (.ops [po_ 2 (.mov (.c (.slice none 0 0))),po_ 3 (.mov (.c .nilIface))] [0])
 SX
def Zk:List VR:=[.tmp 2,.tmp 3]
theorem Aik:Tryz.f21.body.bind (trC Tryz.prog Tryz.f21.ntmps)=some (er Yy):=by kernel_rfl
theorem AhV:trR Tryz.prog Tryz.f21.results.toList=some Zk:=by kernel_rfl
def QM:=Aa Ut.eq_1
def QY:=Aa UE.eq_1
def Abu:=Aa UF.eq_1
def Bo:=Aa UI.eq_1
def Kq:=Aa Un.eq_1
def QI:=Aa TS.eq_1
def AbN:=Aa Uk.eq_1
def QA:=Aa Uw.eq_1
def AbQ:=Aa UC.eq_1
def Z5:=Aa TC.eq_1
def ZX:=Aa SX.eq_1
def AeD:=Aa Yy.eq_1
theorem Bf {K:TV→Prop} {e:Env} {H:List Ob}:res Zk e H K=res [.tmp 2,.tmp 3] e H K:=Ad rfl
def Ahz:=D7 93 Tryz.func21 Aik AhV rfl
def YT:Af := .seq (.ops [po_ 20 (.fieldA 0 0 (.t 5)),po_ 21 (.load false 1 (.t 20)),so_ 22 (.call 69 [.t 21]),po_ 23 (.un .not (.t 22)),mv_ 24 23,⟨some 25,.p (.fieldA 1 1 (.t 5)),some ⟨24,false⟩⟩,⟨some 26,.p (.load false 1 (.t 25)),some ⟨24,false⟩⟩,⟨some 27,.s (.call 70 [.t 26]),some ⟨24,false⟩⟩,⟨some 28,.p (.un .not (.t 27)),some ⟨24,false⟩⟩,po_ 29 (.pick (.t 24) (.c (.bool true)) (.t 28)),mv_ 30 29,⟨some 31,.p (.mov (.t 3)),some ⟨30,false⟩⟩,⟨some 32,.p (.fieldA 1 1 (.t 5)),some ⟨30,false⟩⟩,⟨some 33,.p (.load false 1 (.t 32)),some ⟨30,false⟩⟩,⟨some 34,.p (.gen (.look .str (.val (.int .i64 ((0:Nat):Int))) false) [.t 31,.t 33]),some ⟨30,false⟩⟩,⟨some 35,.p (.bin 3 .gtr (.t 34) (ci_ 1)),some ⟨30,false⟩⟩,po_ 36 (.pick (.t 30) (.c (.bool true)) (.t 35))] [0,3,9,10,11,36])
 (.cond (.t 36)
 (.seq (.ops [po_ 2 (.mov (.c (.bool false)))] [2])
  (.ret))
 (.skip))
def ZC:Af := .seq (.ops [mv_ 15 3,po_ 16 (.fieldA 1 1 (.t 5)),po_ 17 (.load false 1 (.t 16)),po_ 18 (.gen (.look .str (.val (.int .i64 ((0:Nat):Int))) false) [.t 15,.t 17]),po_ 19 (.bin 3 .add (.t 18) (ci_ 1)),⟨none,.s (.mupd .str (.t 15) (.t 17) (.t 19)),none⟩] [0,3,5,9,10,11])
 YT
def Zh:Af := .seq (.block 1 (.seq (.ops [po_ 13 (.idxA 22 (.t 9) (.t 11)),po_ 14 (.load true 22 (.t 13)),so_ 5 (.alloc (.agg [.val (.int .i64 ((0:Nat):Int)),.val (.string (str [])),.arr 20 1 [.val (.int .u8 ((0:Nat):Int)),.val (.int .u8 ((0:Nat):Int)),.val (.int .u8 ((0:Nat):Int)),.val (.int .u8 ((0:Nat):Int)),.val (.int .u8 ((0:Nat):Int)),.val (.int .u8 ((0:Nat):Int)),.val (.int .u8 ((0:Nat):Int)),.val (.int .u8 ((0:Nat):Int)),.val (.int .u8 ((0:Nat):Int)),.val (.int .u8 ((0:Nat):Int)),.val (.int .u8 ((0:Nat):Int)),.val (.int .u8 ((0:Nat):Int)),.val (.int .u8 ((0:Nat):Int)),.val (.int .u8 ((0:Nat):Int)),.val (.int .u8 ((0:Nat):Int)),.val (.int .u8 ((0:Nat):Int)),.val (.int .u8 ((0:Nat):Int)),.val (.int .u8 ((0:Nat):Int)),.val (.int .u8 ((0:Nat):Int)),.val (.int .u8 ((0:Nat):Int))]])),⟨none,.s (.store 22 (.t 5) (.t 14)),none⟩] [0,3,5,9,10,11])
 ZC))
 (.ops [po_ 37 (.bin 3 .add (.t 11) (ci_ 1)),mv_ 11 37] [0,3,9,10,11])
def Y7:Af := .seq (.cond (.t 12)
 (.skip)
 (.exit 0))
 Zh
def X7:Af := .seq (.ops [po_ 12 (.bin 3 .lss (.t 11) (.t 10))] [0,3,9,10,11,12])
 Y7
def YH:Af := .block 0 (.loop [0,3,9,10,11] X7)
def Yp:Af := .seq (.ops [mv_ 38 0,po_ 39 (.lenV (.t 38)),po_ 40 (.bin 3 .leq (.t 39) (ci_ 2000)),mv_ 2 40] [2])
 (.ret)
def ZJ:Af := .seq (.seq (.ops [mv_ 9 0,po_ 10 (.lenV (.t 9)),po_ 11 (.mov (ci_ 0))] [0,3,9,10,11])
 YH)
 Yp
def ZA:Af := .seq (.ops [mv_ 6 0,po_ 7 (.lenV (.t 6)),so_ 8 (.mkm .str (some (.t 7))),mv_ 3 8] [0,3])
 ZJ
def Aei:Af := .seq (.ops [po_ 2 (.mov (.c (.bool false)))] [0])
 ZA
def Ad2:List VR:=[.tmp 2]
theorem Alh:Tryz.f41.body.bind (trC Tryz.prog Tryz.f41.ntmps)=some (er Aei):=by kernel_rfl
theorem Ald:trR Tryz.prog Tryz.f41.results.toList=some Ad2:=by kernel_rfl
def Afs:=Aa YT.eq_1
def AeA:=Aa ZC.eq_1
def AeJ:=Aa Zh.eq_1
def VB:=Aa Y7.eq_1
def Vq:=Aa X7.eq_1
def AfH:=Aa YH.eq_1
def AeO:=Aa Yp.eq_1
def AeT:=Aa ZJ.eq_1
def Ae2:=Aa ZA.eq_1
def Ajc:=Aa Aei.eq_1
theorem NH {K:TV→Prop} {e:Env} {H:List Ob}:res Ad2 e H K=res [.tmp 2] e H K:=Ad rfl
def AkH:=D7 41 Tryz.func41 Alh Ald rfl
def V9:Af := .seq (.ops [mv_ 3 0,po_ 4 (.bin 73 .eql (.t 3) (ci_ 16384)),mv_ 5 4,⟨some 6,.p (.mov (.t 0)),some ⟨5,false⟩⟩,⟨some 7,.p (.bin 73 .eql (.t 6) (ci_ 33188)),some ⟨5,false⟩⟩,po_ 8 (.pick (.t 5) (.c (.bool true)) (.t 7)),mv_ 9 8,⟨some 10,.p (.mov (.t 0)),some ⟨9,false⟩⟩,⟨some 11,.p (.bin 73 .eql (.t 10) (ci_ 33261)),some ⟨9,false⟩⟩,po_ 12 (.pick (.t 9) (.c (.bool true)) (.t 11)),mv_ 13 12,⟨some 14,.p (.mov (.t 0)),some ⟨13,false⟩⟩,⟨some 15,.p (.bin 73 .eql (.t 14) (ci_ 40960)),some ⟨13,false⟩⟩,po_ 16 (.pick (.t 13) (.c (.bool true)) (.t 15)),mv_ 2 16] [2])
 (.ret)
def Acz:Af := .seq (.ops [po_ 2 (.mov (.c (.bool false)))] [0])
 V9
def AcT:List VR:=[.tmp 2]
theorem AjO:Tryz.f69.body.bind (trC Tryz.prog Tryz.f69.ntmps)=some (er Acz):=by kernel_rfl
theorem AkL:trR Tryz.prog Tryz.f69.results.toList=some AcT:=by kernel_rfl
def FU:=Aa V9.eq_1
def Jo:=Aa Acz.eq_1
theorem Jp {K:TV→Prop} {e:Env} {H:List Ob}:res AcT e H K=res [.tmp 2] e H K:=Ad rfl
def Ajk:=D7 17 Tryz.func69 AjO AkL rfl
def Vf:Af := .seq (.block 3 (.seq (.draw 5 [mv_ 41 0,mv_ 42 6,po_ 43 (.idxA 22 (.t 41) (.t 42)),po_ 44 (.fieldA 1 1 (.t 43)),po_ 45 (.load false 1 (.t 44)),mv_ 46 0,mv_ 47 4,po_ 48 (.idxA 22 (.t 46) (.t 47)),po_ 49 (.fieldA 1 1 (.t 48)),po_ 50 (.load false 1 (.t 49)),po_ 51 (.bin 9 .eql (.t 45) (.t 50))] [0,4,6,51])
 (.cond (.t 51)
 (.seq (.ops [po_ 2 (.mov (.c (.slice none 0 0))),po_ 3 (.mov (ci_ 21))] [2,3])
  (.ret))
 (.skip))))
 (.ops [mv_ 39 6,po_ 40 (.bin 3 .add (.t 39) (ci_ 1)),mv_ 6 40] [0,4,6])
def VI:Af := .seq (.seq (.ops [mv_ 36 6,mv_ 37 4,po_ 38 (.bin 3 .lss (.t 36) (.t 37))] [0,4,6,38])
 (.cond (.t 38)
 (.skip)
 (.exit 2)))
 Vf
def Vg:Af := .block 2 (.loop [0,4,6] VI)
def U9:Af := .seq (.ops [po_ 6 (.mov (ci_ 0))] [0,4,6])
 Vg
def VH:Af := .seq (.seq (.ops [mv_ 25 5,po_ 26 (.un .not (.t 25)),mv_ 27 26,⟨some 28,.p (.mov (.t 0)),some ⟨27,false⟩⟩,⟨some 29,.p (.mov (.t 4)),some ⟨27,false⟩⟩,⟨some 30,.p (.idxA 22 (.t 28) (.t 29)),some ⟨27,false⟩⟩,⟨some 31,.p (.fieldA 0 0 (.t 30)),some ⟨27,false⟩⟩,⟨some 32,.p (.load false 1 (.t 31)),some ⟨27,false⟩⟩,⟨some 33,.s (.call 79 [.t 32]),some ⟨27,false⟩⟩,⟨some 34,.p (.bin 9 .eql (.t 33) (.c (.string (str [])))),some ⟨27,false⟩⟩,po_ 35 (.pick (.t 27) (.c (.bool true)) (.t 34))] [0,4,35])
 (.cond (.t 35)
 (.seq (.ops [po_ 2 (.mov (.c (.slice none 0 0))),po_ 3 (.mov (ci_ 21))] [2,3])
  (.ret))
 (.skip)))
 U9
def Vt:Af := .ops [mv_ 17 4,po_ 18 (.bin 3 .add (.t 17) (ci_ 1)),mv_ 4 18] [0,4]
def U4:Af := .seq (.block 1 (.seq (.ops [mv_ 19 0,mv_ 20 4,po_ 21 (.idxA 22 (.t 19) (.t 20)),po_ 22 (.fieldA 1 1 (.t 21)),po_ 23 (.load false 1 (.t 22)),so_ 24 (.call 78 [.t 23]),mv_ 5 24] [0,4,5])
 VH))
 Vt
def Vo:Af := .seq (.seq (.ops [mv_ 13 4,mv_ 14 0,po_ 15 (.lenV (.t 14)),po_ 16 (.bin 3 .lss (.t 13) (.t 15))] [0,4,16])
 (.cond (.t 16)
 (.skip)
 (.exit 0)))
 U4
def VL:Af := .block 0 (.loop [0,4] Vo)
def UG:Af := .seq (.ops [mv_ 71 7,mv_ 72 8,mv_ 73 9,po_ 74 (.idxA 22 (.t 72) (.t 73)),po_ 75 (.fieldA 1 1 (.t 74)),po_ 76 (.load false 1 (.t 75)),so_ 77 (.appS 5 (.t 71) (.t 76)),mv_ 7 77] [7,8,9])
 (.seq (.ops [mv_ 78 7,⟨some 79,.s (.bslice 1 1 (.val (.int .u8 ((0:Nat):Int))) [⟨0,.c (.int .u8 ((0:Nat):Int))⟩]),none⟩,so_ 80 (.app 1 1 5 (.t 78) (.t 79)),mv_ 7 80] [7,8,9])
 (.ops [mv_ 81 7,mv_ 82 8,mv_ 83 9,po_ 84 (.idxA 22 (.t 82) (.t 83)),po_ 85 (.fieldA 2 2 (.t 84)),po_ 86 (.slA 20 1 (.t 85) none none),so_ 87 (.app 1 1 5 (.t 81) (.t 86)),mv_ 7 87] [7,8,9]))
def Uh:Af := .seq (.ops [mv_ 68 7,⟨some 69,.s (.bslice 1 1 (.val (.int .u8 ((0:Nat):Int))) [⟨0,.c (.int .u8 ((32:Nat):Int))⟩]),none⟩,so_ 70 (.app 1 1 5 (.t 68) (.t 69)),mv_ 7 70] [7,8,9])
 UG
def Us:Af := .seq (.block 5 (.seq (.ops [mv_ 60 7,mv_ 61 8,mv_ 62 9,po_ 63 (.idxA 22 (.t 61) (.t 62)),po_ 64 (.fieldA 0 0 (.t 63)),po_ 65 (.load false 1 (.t 64)),so_ 66 (.call 79 [.t 65]),so_ 67 (.appS 5 (.t 60) (.t 66)),mv_ 7 67] [7,8,9])
 Uh))
 (.ops [mv_ 58 9,po_ 59 (.bin 3 .add (.t 58) (ci_ 1)),mv_ 9 59] [7,8,9])
def Ui:Af := .seq (.seq (.ops [mv_ 54 9,mv_ 55 8,po_ 56 (.lenV (.t 55)),po_ 57 (.bin 3 .lss (.t 54) (.t 56))] [7,8,9,57])
 (.cond (.t 57)
 (.skip)
 (.exit 4)))
 Us
def UJ:Af := .block 4 (.own 7 1 (.loop [7,8,9] Ui))
def UA:Af := .seq (.ops [mv_ 88 7,mv_ 2 88,po_ 3 (.mov (ci_ 0))] [2,3])
 (.ret)
def UH:Af := .seq (.seq (.ops [po_ 9 (.mov (ci_ 0))] [7,8,9])
 UJ)
 UA
def Uz:Af := .seq (.ops [mv_ 52 0,so_ 53 (.call 80 [.t 52]),mv_ 8 53] [7,8])
 UH
def Ul:Af := .seq (.ops [po_ 7 (.mov (.c (.slice none 0 0)))] [0,7])
 Uz
def Uj:Af := .seq (.seq (.ops [po_ 4 (.mov (ci_ 0))] [0,4])
 VL)
 Ul
def UL:Af := .seq (.seq (.ops [mv_ 10 0,po_ 11 (.lenV (.t 10)),po_ 12 (.bin 3 .gtr (.t 11) (ci_ 2000))] [0,12])
 (.cond (.t 12)
 (.seq (.ops [po_ 2 (.mov (.c (.slice none 0 0))),po_ 3 (.mov (ci_ 21))] [2,3])
  (.ret))
 (.skip)))
 Uj
def Abr:Af := .seq (.ops [po_ 2 (.mov (.c (.slice none 0 0))),po_ 3 (.mov (ci_ 0))] [0])
 UL
def Abg:List VR:=[.tmp 2,.tmp 3]
theorem AjC:Tryz.f50.body.bind (trC Tryz.prog Tryz.f50.ntmps)=some (er Abr):=by kernel_rfl
theorem Aji:trR Tryz.prog Tryz.f50.results.toList=some Abg:=by kernel_rfl
def S9:=Aa Vf.eq_1
def LP:=Aa VI.eq_1
def AbX:=Aa Vg.eq_1
def AcC:=Aa U9.eq_1
def Tf:=Aa VH.eq_1
def AcU:=Aa Vt.eq_1
def Acg:=Aa U4.eq_1
def TB:=Aa Vo.eq_1
def AcO:=Aa VL.eq_1
def AbP:=Aa UG.eq_1
def AbB:=Aa Uh.eq_1
def Abv:=Aa Us.eq_1
def QP:=Aa Ui.eq_1
def Abw:=Aa UJ.eq_1
def AbJ:=Aa UA.eq_1
def AbI:=Aa UH.eq_1
def Abz:=Aa Uz.eq_1
def AbD:=Aa Ul.eq_1
def AbK:=Aa Uj.eq_1
def Qy:=Aa UL.eq_1
def Wx:=Aa Abr.eq_1
theorem Ir {K:TV→Prop} {e:Env} {H:List Ob}:res Abg e H K=res [.tmp 2,.tmp 3] e H K:=Ad rfl
def Ait:=D7 89 Tryz.func50 AjC Aji rfl
def Wj:Af := .seq (.draw 3 [po_ 42 (.fieldA 0 0 (.t 6)),po_ 43 (.load false 1 (.t 42)),po_ 44 (.bin 3 .mul (.t 43) (ci_ 8)),mv_ 45 0,mv_ 46 5,po_ 47 (.idxA 1 (.t 45) (.t 46)),po_ 48 (.load false 1 (.t 47)),po_ 49 (.bin 5 .sub (.t 48) (.c (.int .u8 ((48:Nat):Int)))),po_ 50 (.conv .i64 (.t 49)),po_ 51 (.bin 3 .add (.t 44) (.t 50)),po_ 52 (.fieldA 0 0 (.t 6)),⟨none,.s (.store 1 (.t 52) (.t 51)),none⟩] [0,4,5,6])
 (.ops [mv_ 53 5,po_ 54 (.bin 3 .add (.t 53) (ci_ 1)),mv_ 5 54] [0,4,5,6])
def Wy:Af := .block 3 (.seq (.seq (.ops [mv_ 25 0,mv_ 26 5,po_ 27 (.idxA 1 (.t 25) (.t 26)),po_ 28 (.load false 1 (.t 27)),po_ 29 (.bin 5 .lss (.t 28) (.c (.int .u8 ((48:Nat):Int)))),mv_ 30 29,⟨some 31,.p (.mov (.t 0)),some ⟨30,false⟩⟩,⟨some 32,.p (.mov (.t 5)),some ⟨30,false⟩⟩,⟨some 33,.p (.idxA 1 (.t 31) (.t 32)),some ⟨30,false⟩⟩,⟨some 34,.p (.load false 1 (.t 33)),some ⟨30,false⟩⟩,⟨some 35,.p (.bin 5 .gtr (.t 34) (.c (.int .u8 ((55:Nat):Int)))),some ⟨30,false⟩⟩,po_ 36 (.pick (.t 30) (.c (.bool true)) (.t 35)),mv_ 37 36,⟨some 38,.p (.fieldA 0 0 (.t 6)),some ⟨37,false⟩⟩,⟨some 39,.p (.load false 1 (.t 38)),some ⟨37,false⟩⟩,⟨some 40,.p (.bin 3 .gtr (.t 39) (ci_ 1048576)),some ⟨37,false⟩⟩,po_ 41 (.pick (.t 37) (.c (.bool true)) (.t 40))] [0,4,5,6,41])
 (.cond (.t 41)
 (.seq (.ops [po_ 2 (.mov (.c (.slice none 0 0))),po_ 3 (.mov (.c (.bool false)))] [2,3])
  (.ret))
 (.skip)))
 Wj)
def WC:Af := .seq (.seq (.ops [mv_ 14 5,mv_ 15 0,po_ 16 (.lenV (.t 15)),po_ 17 (.bin 3 .lss (.t 14) (.t 16)),mv_ 18 17,⟨some 19,.p (.mov (.t 0)),some ⟨18,true⟩⟩,⟨some 20,.p (.mov (.t 5)),some ⟨18,true⟩⟩,⟨some 21,.p (.idxA 1 (.t 19) (.t 20)),some ⟨18,true⟩⟩,⟨some 22,.p (.load false 1 (.t 21)),some ⟨18,true⟩⟩,⟨some 23,.p (.bin 5 .neq (.t 22) (.c (.int .u8 ((32:Nat):Int)))),some ⟨18,true⟩⟩,po_ 24 (.pick (.t 18) (.t 23) (.c (.bool false)))] [0,4,5,6,24])
 (.cond (.t 24)
 (.skip)
 (.exit 2)))
 Wy
def We:Af := .seq (.seq (.ops [mv_ 58 5,mv_ 59 0,po_ 60 (.lenV (.t 59)),po_ 61 (.bin 3 .lss (.t 58) (.t 60)),mv_ 62 61,⟨some 63,.p (.mov (.t 0)),some ⟨62,true⟩⟩,⟨some 64,.p (.mov (.t 5)),some ⟨62,true⟩⟩,⟨some 65,.p (.idxA 1 (.t 63) (.t 64)),some ⟨62,true⟩⟩,⟨some 66,.p (.load false 1 (.t 65)),some ⟨62,true⟩⟩,⟨some 67,.p (.bin 5 .neq (.t 66) (.c (.int .u8 ((0:Nat):Int)))),some ⟨62,true⟩⟩,po_ 68 (.pick (.t 62) (.t 67) (.c (.bool false)))] [0,4,5,6,7,68])
 (.cond (.t 68)
 (.skip)
 (.exit 4)))
 (.block 5 (.ops [mv_ 69 5,po_ 70 (.bin 3 .add (.t 69) (ci_ 1)),mv_ 5 70] [0,4,5,6,7]))
def WV:Af := .seq (.draw 5 [po_ 82 (.fieldA 2 2 (.t 6)),po_ 83 (.slA 20 1 (.t 82) none none),mv_ 84 0,mv_ 85 5,po_ 86 (.bin 3 .add (.t 85) (ci_ 1)),mv_ 87 5,po_ 88 (.bin 3 .add (.t 87) (ci_ 21)),po_ 89 (.slV 1 (.t 84) (some (.t 86)) (some (.t 88))),so_ 90 (.copy 1 (.t 83) (.t 89))] [0,4,5,6])
 (.seq (.ops [mv_ 91 5,po_ 92 (.bin 3 .add (.t 91) (ci_ 21)),mv_ 5 92] [0,4,5,6])
 (.ops [mv_ 93 4,po_ 94 (.load true 22 (.t 6)),⟨some 95,.s (.bslice 22 1 (.agg [.val (.int .i64 ((0:Nat):Int)),.val (.string (str [])),.arr 20 1 [.val (.int .u8 ((0:Nat):Int)),.val (.int .u8 ((0:Nat):Int)),.val (.int .u8 ((0:Nat):Int)),.val (.int .u8 ((0:Nat):Int)),.val (.int .u8 ((0:Nat):Int)),.val (.int .u8 ((0:Nat):Int)),.val (.int .u8 ((0:Nat):Int)),.val (.int .u8 ((0:Nat):Int)),.val (.int .u8 ((0:Nat):Int)),.val (.int .u8 ((0:Nat):Int)),.val (.int .u8 ((0:Nat):Int)),.val (.int .u8 ((0:Nat):Int)),.val (.int .u8 ((0:Nat):Int)),.val (.int .u8 ((0:Nat):Int)),.val (.int .u8 ((0:Nat):Int)),.val (.int .u8 ((0:Nat):Int)),.val (.int .u8 ((0:Nat):Int)),.val (.int .u8 ((0:Nat):Int)),.val (.int .u8 ((0:Nat):Int)),.val (.int .u8 ((0:Nat):Int))]]) [⟨0,.t 94⟩]),none⟩,so_ 96 (.app 22 48 93 (.t 93) (.t 95)),mv_ 4 96] [0,4,5]))
def V8:Af := .seq (.ops [mv_ 76 0,mv_ 77 7,mv_ 78 5,po_ 79 (.slV 1 (.t 76) (some (.t 77)) (some (.t 78))),po_ 80 (.b2s (.t 79)),po_ 81 (.fieldA 1 1 (.t 6)),⟨none,.s (.store 1 (.t 81) (.t 80)),none⟩] [0,4,5,6])
 WV
def PM:Af := .seq (.seq (.ops [mv_ 71 0,po_ 72 (.lenV (.t 71)),mv_ 73 5,po_ 74 (.bin 3 .sub (.t 72) (.t 73)),po_ 75 (.bin 3 .lss (.t 74) (ci_ 21))] [0,4,5,6,7,75])
 (.cond (.t 75)
 (.seq (.ops [po_ 2 (.mov (.c (.slice none 0 0))),po_ 3 (.mov (.c (.bool false)))] [2,3])
  (.ret))
 (.skip)))
 V8
def KC:Af := .seq (.block 4 (.loop [0,4,5,6,7] We))
 PM
def WM:Af := .seq (.ops [mv_ 57 5,mv_ 7 57] [0,4,5,6,7])
 KC
def VS:Af := .seq (.ops [mv_ 55 5,po_ 56 (.bin 3 .add (.t 55) (ci_ 1)),mv_ 5 56] [0,4,5,6])
 WM
def Vx:Af := .seq (.block 2 (.loop [0,4,5,6] WC))
 VS
def U5:Af := .block 1 (.seq (.ops [so_ 6 (.alloc (.agg [.val (.int .i64 ((0:Nat):Int)),.val (.string (str [])),.arr 20 1 [.val (.int .u8 ((0:Nat):Int)),.val (.int .u8 ((0:Nat):Int)),.val (.int .u8 ((0:Nat):Int)),.val (.int .u8 ((0:Nat):Int)),.val (.int .u8 ((0:Nat):Int)),.val (.int .u8 ((0:Nat):Int)),.val (.int .u8 ((0:Nat):Int)),.val (.int .u8 ((0:Nat):Int)),.val (.int .u8 ((0:Nat):Int)),.val (.int .u8 ((0:Nat):Int)),.val (.int .u8 ((0:Nat):Int)),.val (.int .u8 ((0:Nat):Int)),.val (.int .u8 ((0:Nat):Int)),.val (.int .u8 ((0:Nat):Int)),.val (.int .u8 ((0:Nat):Int)),.val (.int .u8 ((0:Nat):Int)),.val (.int .u8 ((0:Nat):Int)),.val (.int .u8 ((0:Nat):Int)),.val (.int .u8 ((0:Nat):Int)),.val (.int .u8 ((0:Nat):Int))]]))] [0,4,5,6])
 Vx)
def Vz:Af := .seq (.seq (.ops [mv_ 10 5,mv_ 11 0,po_ 12 (.lenV (.t 11)),po_ 13 (.bin 3 .lss (.t 10) (.t 12))] [0,4,5,13])
 (.cond (.t 13)
 (.skip)
 (.exit 0)))
 U5
def U8:Af := .seq (.seq (.ops [mv_ 102 9,po_ 103 (.bin 3 .neq (.t 102) (ci_ 0)),mv_ 104 103,⟨some 105,.p (.mov (.t 8)),some ⟨104,false⟩⟩,⟨some 106,.p (.b2s (.t 105)),some ⟨104,false⟩⟩,⟨some 107,.p (.mov (.t 0)),some ⟨104,false⟩⟩,⟨some 108,.p (.b2s (.t 107)),some ⟨104,false⟩⟩,⟨some 109,.p (.bin 9 .neq (.t 106) (.t 108)),some ⟨104,false⟩⟩,po_ 110 (.pick (.t 104) (.c (.bool true)) (.t 109))] [4,110])
 (.cond (.t 110)
 (.seq (.ops [po_ 2 (.mov (.c (.slice none 0 0))),po_ 3 (.mov (.c (.bool false)))] [2,3])
  (.ret))
 (.skip)))
 (.seq (.ops [mv_ 111 4,mv_ 2 111,po_ 3 (.mov (.c (.bool true)))] [2,3])
 (.ret))
def NR:Af := .seq (.ops [mv_ 98 4,so_ 99 (.call 50 [.t 98]),mv_ 97 99,po_ 100 (.ext 0 (.t 97)),po_ 101 (.ext 1 (.t 97)),mv_ 8 100,mv_ 9 101] [0,4,8,9])
 U8
def VF:Af := .seq (.block 0 (.own 4 22 (.loop [0,4,5] Vz)))
 NR
def VQ:Af := .seq (.ops [po_ 5 (.mov (ci_ 0))] [0,4,5])
 VF
def VU:Af := .seq (.ops [po_ 4 (.mov (.c (.slice none 0 0)))] [0,4])
 VQ
def Ab4:Af := .seq (.ops [po_ 2 (.mov (.c (.slice none 0 0))),po_ 3 (.mov (.c (.bool false)))] [0])
 VU
def VG:List VR:=[.tmp 2,.tmp 3]
theorem AkU:Tryz.f32.body.bind (trC Tryz.prog Tryz.f32.ntmps)=some (er Ab4):=by kernel_rfl
theorem Aky:trR Tryz.prog Tryz.f32.results.toList=some VG:=by kernel_rfl
def AdI:=Aa Wj.eq_1
def Jm:=Aa Wy.eq_1
def DF:=Aa WC.eq_1
def MS:=Aa We.eq_1
def AdM:=Aa WV.eq_1
def AdJ:=Aa V8.eq_1
def UD:=Aa PM.eq_1
def AdA:=Aa KC.eq_1
def TT:=Aa WM.eq_1
def SL:=Aa VS.eq_1
def Acl:=Aa Vx.eq_1
def Acu:=Aa U5.eq_1
def TE:=Aa Vz.eq_1
def LQ:=Aa U8.eq_1
def Adc:=Aa NR.eq_1
def AcM:=Aa VF.eq_1
def Aca:=Aa VQ.eq_1
def Ade:=Aa VU.eq_1
def AhK:=Aa Ab4.eq_1
theorem D6 {K:TV→Prop} {e:Env} {H:List Ob}:res VG e H K=res [.tmp 2,.tmp 3] e H K:=Ad rfl
def Ai4:=D7 112 Tryz.func32 AkU Aky rfl
def AcG:Af := .seq (.ops [po_ 7 (.bin 3 .eql (.t 3) (ci_ 33188)),mv_ 6 7] [3,6])
 (.cond (.t 6)
 (.seq (.ops [po_ 2 (.mov (.c (.string (str [49,48,48,54,52,52]))))] [2])
  (.ret))
 (.seq (.ops [po_ 9 (.bin 3 .eql (.t 3) (ci_ 33261)),mv_ 8 9] [3,8])
  (.cond (.t 8)
  (.seq (.ops [po_ 2 (.mov (.c (.string (str [49,48,48,55,53,53]))))] [2])
   (.ret))
  (.seq (.ops [po_ 11 (.bin 3 .eql (.t 3) (ci_ 40960)),mv_ 10 11] [10])
   (.cond (.t 10)
   (.seq (.ops [po_ 2 (.mov (.c (.string (str [49,50,48,48,48,48]))))] [2])
    (.ret))
   (.skip))))))
def Adi:Af := .seq (.seq (.ops [mv_ 3 0] [3])
 (.block 0 (.seq (.ops [po_ 5 (.bin 3 .eql (.t 3) (ci_ 16384)),mv_ 4 5] [3,4])
 (.cond (.t 4)
 (.seq (.ops [po_ 2 (.mov (.c (.string (str [52,48,48,48,48]))))] [2])
  (.ret))
 AcG))))
 (.seq (.ops [po_ 2 (.mov (.c (.string (str []))))] [2])
 (.ret))
def AiZ:Af := .seq (.ops [po_ 2 (.mov (.c (.string (str []))))] [0])
 Adi
def AiW:List VR:=[.tmp 2]
theorem An3:Tryz.f79.body.bind (trC Tryz.prog Tryz.f79.ntmps)=some (er AiZ):=by kernel_rfl
theorem An4:trR Tryz.prog Tryz.f79.results.toList=some AiW:=by kernel_rfl
def LY:=Aa AcG.eq_1
def JD:=Aa Adi.eq_1
def NE:=Aa AiZ.eq_1
theorem Na {K:TV→Prop} {e:Env} {H:List Ob}:res AiW e H K=res [.tmp 2] e H K:=Ad rfl
def AmD:=D7 12 Tryz.func79 An3 An4 rfl
def Abf:Af := .seq (.seq (.draw 14 [mv_ 13 5,mv_ 14 3,po_ 15 (.lenV (.t 14)),po_ 16 (.bin 3 .lss (.t 13) (.t 15)),mv_ 17 16,⟨some 18,.p (.mov (.t 3)),some ⟨17,true⟩⟩,⟨some 19,.p (.mov (.t 5)),some ⟨17,true⟩⟩,⟨some 20,.p (.idxA 22 (.t 18) (.t 19)),some ⟨17,true⟩⟩,⟨some 21,.p (.load true 22 (.t 20)),some ⟨17,true⟩⟩,⟨some 22,.s (.call 105 [.t 21]),some ⟨17,true⟩⟩,⟨some 23,.p (.mov (.t 0)),some ⟨17,true⟩⟩,⟨some 24,.p (.mov (.t 4)),some ⟨17,true⟩⟩,⟨some 25,.p (.idxA 22 (.t 23) (.t 24)),some ⟨17,true⟩⟩,⟨some 26,.p (.load true 22 (.t 25)),some ⟨17,true⟩⟩,⟨some 27,.s (.call 105 [.t 26]),some ⟨17,true⟩⟩,⟨some 28,.p (.bin 9 .leq (.t 22) (.t 27)),some ⟨17,true⟩⟩,po_ 29 (.pick (.t 17) (.t 28) (.c (.bool false)))] [0,3,4,5,29])
 (.cond (.t 29)
 (.skip)
 (.exit 2)))
 (.block 3 (.ops [mv_ 30 5,po_ 31 (.bin 3 .add (.t 30) (ci_ 1)),mv_ 5 31] [0,3,4,5]))
def Abc:Af := .seq (.ops [mv_ 37 6,mv_ 38 0,mv_ 39 4,po_ 40 (.idxA 22 (.t 38) (.t 39)),po_ 41 (.load true 22 (.t 40)),⟨some 42,.s (.bslice 22 1 (.agg [.val (.int .i64 ((0:Nat):Int)),.val (.string (str [])),.arr 20 1 [.val (.int .u8 ((0:Nat):Int)),.val (.int .u8 ((0:Nat):Int)),.val (.int .u8 ((0:Nat):Int)),.val (.int .u8 ((0:Nat):Int)),.val (.int .u8 ((0:Nat):Int)),.val (.int .u8 ((0:Nat):Int)),.val (.int .u8 ((0:Nat):Int)),.val (.int .u8 ((0:Nat):Int)),.val (.int .u8 ((0:Nat):Int)),.val (.int .u8 ((0:Nat):Int)),.val (.int .u8 ((0:Nat):Int)),.val (.int .u8 ((0:Nat):Int)),.val (.int .u8 ((0:Nat):Int)),.val (.int .u8 ((0:Nat):Int)),.val (.int .u8 ((0:Nat):Int)),.val (.int .u8 ((0:Nat):Int)),.val (.int .u8 ((0:Nat):Int)),.val (.int .u8 ((0:Nat):Int)),.val (.int .u8 ((0:Nat):Int)),.val (.int .u8 ((0:Nat):Int))]]) [⟨0,.t 41⟩]),none⟩,so_ 43 (.app 22 48 93 (.t 37) (.t 42)),mv_ 6 43] [0,3,4,5,6])
 (.ops [mv_ 44 6,mv_ 45 3,mv_ 46 5,po_ 47 (.slV 22 (.t 45) (some (.t 46)) none),so_ 48 (.app 22 48 93 (.t 44) (.t 47)),mv_ 3 48] [0,3,4])
def AaC:Af := .seq (.ops [mv_ 32 6,mv_ 33 3,mv_ 34 5,po_ 35 (.slV 22 (.t 33) none (some (.t 34))),so_ 36 (.app 22 48 93 (.t 32) (.t 35)),mv_ 6 36] [0,3,4,5,6])
 Abc
def TG:Af := .seq (.ops [po_ 6 (.mov (.c (.slice none 0 0)))] [0,3,4,5,6])
 AaC
def AaM:Af := .seq (.block 2 (.own 3 22 (.loop [0,3,4,5] Abf)))
 TG
def Aaz:Af := .ops [mv_ 11 4,po_ 12 (.bin 3 .add (.t 11) (ci_ 1)),mv_ 4 12] [0,3,4]
def Abk:Af := .seq (.block 1 (.seq (.ops [po_ 5 (.mov (ci_ 0))] [0,3,4,5])
 AaM))
 Aaz
def AaD:Af := .seq (.seq (.ops [mv_ 7 4,mv_ 8 0,po_ 9 (.lenV (.t 8)),po_ 10 (.bin 3 .lss (.t 7) (.t 9))] [0,3,4,10])
 (.cond (.t 10)
 (.skip)
 (.exit 0)))
 Abk
def Abn:Af := .block 0 (.own 3 22 (.loop [0,3,4] AaD))
def Yk:Af := .seq (.ops [mv_ 49 3,mv_ 2 49] [2])
 (.ret)
def ZT:Af := .seq (.seq (.ops [po_ 4 (.mov (ci_ 0))] [0,3,4])
 Abn)
 Yk
def Zz:Af := .seq (.ops [po_ 3 (.mov (.c (.slice none 0 0)))] [0,3])
 ZT
def Agd:Af := .seq (.ops [po_ 2 (.mov (.c (.slice none 0 0)))] [0])
 Zz
def AhE:List VR:=[.tmp 2]
theorem AmM:Tryz.f80.body.bind (trC Tryz.prog Tryz.f80.ntmps)=some (er Agd):=by kernel_rfl
theorem Amr:trR Tryz.prog Tryz.f80.results.toList=some AhE:=by kernel_rfl
def WE:=Aa Abf.eq_1
def AgL:=Aa Abc.eq_1
def Ahn:=Aa AaC.eq_1
def AgR:=Aa TG.eq_1
def Aha:=Aa AaM.eq_1
def WL:=Aa Aaz.eq_1
def Agn:=Aa Abk.eq_1
def Wp:=Aa AaD.eq_1
def AgE:=Aa Abn.eq_1
def AfA:=Aa Yk.eq_1
def Afd:=Aa ZT.eq_1
def Afu:=Aa Zz.eq_1
def Aj1:=Aa Agd.eq_1
theorem Akf {K:TV→Prop} {e:Env} {H:List Ob}:res AhE e H K=res [.tmp 2] e H K:=Ad rfl
def Ak3:=D7 50 Tryz.func80 AmM Amr rfl
def AlD:Af := .seq (.ops [so_ 1 (.box (.t 0)),po_ 2 (.mov (.c (.string (str []))))] [1])
 (.seq (.seq (.ops [po_ 3 (.fieldA 0 0 (.t 1)),po_ 4 (.load false 1 (.t 3)),po_ 5 (.bin 3 .eql (.t 4) (ci_ 16384))] [1,5])
 (.cond (.t 5)
 (.seq (.ops [po_ 6 (.fieldA 1 1 (.t 1)),po_ 7 (.load false 1 (.t 6)),po_ 8 (.bin 9 .add (.t 7) (.c (.string (str [47])))),mv_ 2 8] [2])
  (.ret))
 (.skip)))
 (.seq (.ops [po_ 9 (.fieldA 1 1 (.t 1)),po_ 10 (.load false 1 (.t 9)),mv_ 2 10] [2])
 (.ret)))
def AlW:List VR:=[.tmp 2]
theorem ArA:Tryz.f105.body.bind (trC Tryz.prog Tryz.f105.ntmps)=some (er AlD):=by kernel_rfl
theorem Asg:trR Tryz.prog Tryz.f105.results.toList=some AlW:=by kernel_rfl
def AoV:=Aa AlD.eq_1
theorem AnA {K:TV→Prop} {e:Env} {H:List Ob}:res AlW e H K=res [.tmp 2] e H K:=Ad rfl
def AlP:=(aI_ @AoV @AnA)
def Ap9:=D7 11 Tryz.func105 ArA Asg rfl
end
end Go.Proofs.YtnkpoloeifhflaaGreatDoor
namespace Go.Proofs.YtnkpoloeifhflaaGreatDoor
section
open Go.RowKit
variable [AL]
set_option autoImplicit false
def dgs:Nat→Nat→List UInt8
 | 0,_=>[]
 | k+1,v=>dgs k (v / 10)++[UInt8.ofNat (48+v % 10)]
theorem Apc:∀ (k v:Nat),(dgs k v).length=k
 | 0,_=>rfl
 | k+1,v=>by rw [dgs,List.length_append,Apc k]; rfl
theorem Aco:∀ (k m v:Nat),dgs (m+k) v=dgs m (v / 10 ^ k)++dgs k v
 | 0,m,v=>by simp [dgs]
 | k+1,m,v=>by rw [←Nat.add_assoc,dgs,dgs,Aco k m,Nat.div_div_eq_div_mul,Nat.pow_succ,Nat.mul_comm 10,List.append_assoc]
theorem Ada (v:Nat):dgs 2 v=[UInt8.ofNat (48+v % 100 / 10),UInt8.ofNat (48+v % 100 % 10)]:=by
 simp only [dgs,List.nil_append,List.cons_append]
 rw [show v / 10 % 10=v % 100 / 10 by omega,show v % 10=v % 100 % 10 by omega]
theorem ApI (v:Nat):dgs 1 v=[UInt8.ofNat (48+v % 10)]:=by simp [dgs]
theorem BeV:∀ (u:Nat),dgs (Lib.nDigits u) u=Lib.decDigits u:=by
 intro u
 induction u using Nat.strongRecOn with
 | _ u ih =>
  by_cases h:u<10
  ·rw [Lib.nDigits_small h,Lib.decDigits_one h,ApI,Nat.mod_eq_of_lt h]
  ·rw [Lib.nDigits_big h,dgs,ih (u / 10) (by omega),Lib.decDigits.eq_1 u,dif_neg h]
theorem ArB:∀ (u:Nat),u<10 ^ Lib.nDigits u:=by
 intro u
 induction u using Nat.strongRecOn with
 | _ u ih =>
  by_cases h:u<10
  ·rw [Lib.nDigits_small h]; omega
  ·have:=ih (u / 10) (by omega)
   rw [Lib.nDigits_big h,Nat.pow_succ]; omega
end
section
open Go.RowKit
variable [AL]
section
variable {t:TypeId} {a b:Nat} {k2:IntKind}
theorem AnF {n:Nat} (h:n<4294967296):IntKind.u32.wrap (n:Int)=n:=by rw [IntKind.wrap_u32']; omega
end
end
section
open Go.RowKit
variable [AL]
section
variable {t:TypeId} {a b:Nat} {k2:IntKind}
theorem Ve {n:Nat} (h:n<18446744073709551616):IntKind.u64.wrap (n:Int)=n:=by rw [IntKind.wrap_u64]; omega
theorem Ag8 (h2:b≤64):I9 t .shr (.int .u64 (a:Int)) (.int k2 (b:Int))=some (.int .u64 ((a / 2 ^ b:Nat):Int)):=by
 have e:binOp .shr t (.int .u64 (a:Int)) (.int k2 (b:Int))=pure (.int .u64 ((a / 2 ^ b:Nat):Int)):=by
  show Op.shift .shr .u64 a k2 b=_
  unfold Op.shift
  rw [if_neg (by omega)]
  have hm:min ((b:Int)).toNat IntKind.u64.bits=b:=by
   have:IntKind.u64.bits=64:=rfl
   omega
  simp only [hm]
  rw [Int.fdiv_eq_ediv_of_nonneg _ (by exact Int.le_of_lt (Int.pow_pos (by omega)))]
  have e2:(a:Int) / 2 ^ b=((a / 2 ^ b:Nat):Int):=by rw [Int.natCast_ediv,Int.natCast_pow]; rfl
  rw [e2]
 unfold I9; rw [e]; rfl
theorem BhB (h:b≠0) (h1:a<18446744073709551616):I9 t .quo (.int .u64 (a:Int)) (.int .u64 (b:Int))=some (.int .u64 ((a / b:Nat):Int)):=by
 have e:binOp .quo t (.int .u64 (a:Int)) (.int .u64 (b:Int))=pure (.int .u64 ((a / b:Nat):Int)):=by
  unfold binOp
  simp only [ne_eq,not_true_eq_false,if_false,Op.intDiv,show ¬ (b:Int)=0 from by omega,Int.tdiv_eq_ediv_of_nonneg (show (0:Int)≤(a:Int) by omega)]
  rw [show (a:Int) / (b:Int)=((a / b:Nat):Int) from rfl,Ve (Nat.lt_of_le_of_lt (Nat.div_le_self _ _) h1)]
 unfold I9; rw [e]; rfl
theorem Amm (h:b≠0) (h1:a<4294967296):I9 t .quo (.int .u32 (a:Int)) (.int .u32 (b:Int))=some (.int .u32 ((a / b:Nat):Int)):=by
 have e:binOp .quo t (.int .u32 (a:Int)) (.int .u32 (b:Int))=pure (.int .u32 ((a / b:Nat):Int)):=by
  unfold binOp
  simp only [ne_eq,not_true_eq_false,if_false,Op.intDiv,show ¬ (b:Int)=0 from by omega,Int.tdiv_eq_ediv_of_nonneg (show (0:Int)≤(a:Int) by omega)]
  rw [show (a:Int) / (b:Int)=((a / b:Nat):Int) from rfl,AnF (Nat.lt_of_le_of_lt (Nat.div_le_self _ _) h1)]
 unfold I9; rw [e]; rfl
theorem Ane (h1:a*b<4294967296):I9 t .mul (.int .u32 (a:Int)) (.int .u32 (b:Int))=some (.int .u32 ((a*b:Nat):Int)):=by
 rw [show I9 t .mul (.int .u32 (a:Int)) (.int .u32 (b:Int))=some (.int .u32 (IntKind.u32.wrap ((a:Int)*(b:Int)))) from rfl,show (a:Int)*(b:Int)=((a*b:Nat):Int) from rfl,AnF h1]
theorem Z4 (h1:a+b<4294967296):I9 t .add (.int .u32 (a:Int)) (.int .u32 (b:Int))=some (.int .u32 ((a+b:Nat):Int)):=by
 rw [show I9 t .add (.int .u32 (a:Int)) (.int .u32 (b:Int))=some (.int .u32 (IntKind.u32.wrap ((a:Int)+(b:Int)))) from rfl,show (a:Int)+(b:Int)=((a+b:Nat):Int) from by omega,AnF h1]
theorem Bf7 (h1:a*b<18446744073709551616):I9 t .mul (.int .u64 (a:Int)) (.int .u64 (b:Int))=some (.int .u64 ((a*b:Nat):Int)):=by
 rw [show I9 t .mul (.int .u64 (a:Int)) (.int .u64 (b:Int))=some (.int .u64 (IntKind.u64.wrap ((a:Int)*(b:Int)))) from rfl,show (a:Int)*(b:Int)=((a*b:Nat):Int) from rfl,Ve h1]
theorem BiD (h1:b≤a) (h2:a<18446744073709551616):I9 t .sub (.int .u64 (a:Int)) (.int .u64 (b:Int))=some (.int .u64 ((a - b:Nat):Int)):=by
 rw [show I9 t .sub (.int .u64 (a:Int)) (.int .u64 (b:Int))=some (.int .u64 (IntKind.u64.wrap ((a:Int) - (b:Int)))) from rfl,show (a:Int) - (b:Int)=((a - b:Nat):Int) from by omega,Ve (by omega)]
theorem BiI (h2:b≤63) (h4:a*2 ^ b<18446744073709551616):I9 t .shl (.int .u64 (a:Int)) (.int k2 (b:Int))=some (.int .u64 ((a*2 ^ b:Nat):Int)):=by
 have e:binOp .shl t (.int .u64 (a:Int)) (.int k2 (b:Int))=pure (.int .u64 ((a*2 ^ b:Nat):Int)):=by
  show Op.shift .shl .u64 a k2 b=_
  unfold Op.shift
  rw [if_neg (by omega)]
  have hm:min ((b:Int)).toNat IntKind.u64.bits=b:=by
   have:IntKind.u64.bits=64:=rfl
   omega
  simp only [hm]
  have e2:(a:Int)*2 ^ b=((a*2 ^ b:Nat):Int):=by rw [Int.natCast_mul,Int.natCast_pow]; rfl
  rw [e2,Ve h4]
 unfold I9; rw [e]; rfl
end
end
section
variable [AL]
set_option maxRecDepth 100000
def Bj:ByteArray:=str [48,48,48,49,48,50,48,51,48,52,48,53,48,54,48,55,48,56,48,57,49,48,49,49,49,50,49,51,49,52,49,53,49,54,49,55,49,56,49,57,50,48,50,49,50,50,50,51,50,52,50,53,50,54,50,55,50,56,50,57,51,48,51,49,51,50,51,51,51,52,51,53,51,54,51,55,51,56,51,57,52,48,52,49,52,50,52,51,52,52,52,53,52,54,52,55,52,56,52,57,53,48,53,49,53,50,53,51,53,52,53,53,53,54,53,55,53,56,53,57,54,48,54,49,54,50,54,51,54,52,54,53,54,54,54,55,54,56,54,57,55,48,55,49,55,50,55,51,55,52,55,53,55,54,55,55,55,56,55,57,56,48,56,49,56,50,56,51,56,52,56,53,56,54,56,55,56,56,56,57,57,48,57,49,57,50,57,51,57,52,57,53,57,54,57,55,57,56,57,57]
def IG:Af := .seq (.ops [so_ 7 (.alloc (.arr 24 1 [.val (.int .u8 ((0:Nat):Int)),.val (.int .u8 ((0:Nat):Int)),.val (.int .u8 ((0:Nat):Int)),.val (.int .u8 ((0:Nat):Int)),.val (.int .u8 ((0:Nat):Int)),.val (.int .u8 ((0:Nat):Int)),.val (.int .u8 ((0:Nat):Int)),.val (.int .u8 ((0:Nat):Int)),.val (.int .u8 ((0:Nat):Int)),.val (.int .u8 ((0:Nat):Int)),.val (.int .u8 ((0:Nat):Int)),.val (.int .u8 ((0:Nat):Int)),.val (.int .u8 ((0:Nat):Int)),.val (.int .u8 ((0:Nat):Int)),.val (.int .u8 ((0:Nat):Int)),.val (.int .u8 ((0:Nat):Int)),.val (.int .u8 ((0:Nat):Int)),.val (.int .u8 ((0:Nat):Int)),.val (.int .u8 ((0:Nat):Int)),.val (.int .u8 ((0:Nat):Int)),.val (.int .u8 ((0:Nat):Int)),.val (.int .u8 ((0:Nat):Int)),.val (.int .u8 ((0:Nat):Int)),.val (.int .u8 ((0:Nat):Int))]))] [0,1,7])
 (.seq (.ops [mv_ 18 1,so_ 19 (.call 138 [.t 18]),mv_ 8 19] [0,1,7,8])
 (.seq (.ops [mv_ 20 8,po_ 21 (.slA 24 1 (.t 7) none (some (.t 20))),mv_ 22 1,so_ 23 (.call 139 [.t 21,.t 22])] [0,7,8])
 (.seq (.ops [mv_ 24 0,mv_ 25 8,po_ 26 (.slA 24 1 (.t 7) none (some (.t 25))),so_ 27 (.app 1 1 5 (.t 24) (.t 26)),mv_ 6 27] [6])
 (.ret))))
def IJ:Af := .seq (.seq (.ops [mv_ 11 1,po_ 12 (.bin 98 .lss (.t 11) (.c (.int .u64 ((100:Nat):Int))))] [0,1,12])
 (.cond (.t 12)
 (.seq (.ops [mv_ 13 0,mv_ 14 1,po_ 15 (.conv .i64 (.t 14)),so_ 16 (.call 137 [.t 15]),so_ 17 (.appS 5 (.t 13) (.t 16)),mv_ 6 17] [6])
  (.ret))
 (.skip)))
 IG
def IP:Af := .cond (.t 10)
 IJ
 (.skip)
def Ji:Af := .seq (.seq (.ops [mv_ 9 2,po_ 10 (.bin 3 .eql (.t 9) (ci_ 10))] [0,1,2,10])
 IP)
 (.seq (.ops [mv_ 29 0,mv_ 30 1,mv_ 31 2,so_ 32 (.call 140 [.t 29,.t 30,.t 31,.c (.bool false),.c (.bool true)]),mv_ 28 32,po_ 33 (.ext 0 (.t 28)),po_ 34 (.ext 1 (.t 28)),mv_ 0 33] [0])
 (.seq (.ops [mv_ 35 0,mv_ 6 35] [6])
 (.ret)))
def J7:Af := .seq (.ops [po_ 6 (.mov (.c (.slice none 0 0)))] [0,1,2])
 Ji
def J5:List VR:=[.tmp 6]
theorem TK:Tryz.f110.body.bind (trC Tryz.prog Tryz.f110.ntmps)=some (er J7):=by kernel_rfl
theorem TQ:trR Tryz.prog Tryz.f110.results.toList=some J5:=by kernel_rfl
def Oo:=Aa IG.eq_1
def OI:=Aa IJ.eq_1
def Oj:=Aa IP.eq_1
def Oi:=Aa Ji.eq_1
def Ru:=Aa J7.eq_1
theorem Rn {K:TV→Prop} {e:Env} {H:List Ob}:res J5 e H K=res [.tmp 6] e H K:=Ad rfl
def Di:=(aI_ (aI_ (aI_ @Oo @OI) (aI_ @Oj @Oi)) (aI_ @Ru @Rn))
def Td:=D7 36 Tryz.func110 TK TQ rfl
def Jy:Af := .seq (.ops [mv_ 12 0,⟨some 13,.s (.bslice 1 1 (.val (.int .u8 ((0:Nat):Int))) [⟨0,.c (.int .u8 ((45:Nat):Int))⟩]),none⟩,so_ 14 (.app 1 1 5 (.t 12) (.t 13)),mv_ 0 14] [0,2,7])
 (.ops [mv_ 15 7,po_ 16 (.un .neg (.t 15)),mv_ 7 16] [0,2,7])
def Jn:Af := .seq (.seq (.ops [mv_ 10 1,po_ 11 (.bin 2 .lss (.t 10) (ci_ 0))] [0,2,7,11])
 (.cond (.t 11)
 Jy
 (.skip)))
 (.seq (.ops [mv_ 17 0,mv_ 18 7,mv_ 19 2,so_ 20 (.call 110 [.t 17,.t 18,.t 19]),mv_ 6 20] [6])
 (.ret))
def JA:Af := .seq (.ops [mv_ 8 1,po_ 9 (.conv .u64 (.t 8)),mv_ 7 9] [0,1,2,7])
 Jn
def KE:Af := .seq (.ops [po_ 6 (.mov (.c (.slice none 0 0)))] [0,1,2])
 JA
def Kz:List VR:=[.tmp 6]
theorem UM:Tryz.f86.body.bind (trC Tryz.prog Tryz.f86.ntmps)=some (er KE):=by kernel_rfl
theorem UO:trR Tryz.prog Tryz.f86.results.toList=some Kz:=by kernel_rfl
def O6:=Aa Jy.eq_1
def Pq:=Aa Jn.eq_1
def P9:=Aa JA.eq_1
def Tj:=Aa KE.eq_1
theorem Tm {K:TV→Prop} {e:Env} {H:List Ob}:res Kz e H K=res [.tmp 6] e H K:=Ad rfl
def KA:=(aI_ (aI_ (aI_ @O6 @Pq) (aI_ @P9 @Tj)) @Tm)
def TI:=D7 21 Tryz.func86 UM UO rfl
def VP:Af := .seq (.ops [po_ 6 (.mov (.c (.slice none 0 0)))] [0,1,2])
 (.seq (.ops [mv_ 7 0,mv_ 8 1,mv_ 9 2,so_ 10 (.call 86 [.t 7,.t 8,.t 9]),mv_ 6 10] [6])
 (.ret))
def Vl:List VR:=[.tmp 6]
theorem AfV:Tryz.f58.body.bind (trC Tryz.prog Tryz.f58.ntmps)=some (er VP):=by kernel_rfl
theorem AfW:trR Tryz.prog Tryz.f58.results.toList=some Vl:=by kernel_rfl
def AcA:=Aa VP.eq_1
theorem Ace {K:TV→Prop} {e:Env} {H:List Ob}:res Vl e H K=res [.tmp 6] e H K:=Ad rfl
def VM:=(aI_ @AcA @Ace)
def AdG:=D7 11 Tryz.func58 AfV AfW rfl
def Hy:Af := .seq (.draw 11 [mv_ 81 0,mv_ 82 4,po_ 83 (.bin 3 .sub (.t 82) (ci_ 7)),mv_ 84 0,mv_ 85 4,po_ 86 (.bin 3 .sub (.t 85) (ci_ 8)),mv_ 87 10,po_ 88 (.bin 99 .add (.t 87) (.c (.int .u32 ((1:Nat):Int)))),po_ 89 (.idxS (.c (.string Bj)) (.t 88)),mv_ 90 10,po_ 91 (.idxS (.c (.string Bj)) (.t 90)),po_ 92 (.idxA 1 (.t 81) (.t 83)),⟨none,.s (.store 1 (.t 92) (.t 89)),none⟩,po_ 93 (.idxA 1 (.t 84) (.t 86)),⟨none,.s (.store 1 (.t 93) (.t 91)),none⟩] [0,1,4])
 (.ops [mv_ 94 4,po_ 95 (.bin 3 .sub (.t 94) (ci_ 8)),mv_ 4 95] [0,1,4])
def Hr:Af := .seq (.draw 11 [mv_ 68 0,mv_ 69 4,po_ 70 (.bin 3 .sub (.t 69) (ci_ 5)),mv_ 71 0,mv_ 72 4,po_ 73 (.bin 3 .sub (.t 72) (ci_ 6)),mv_ 74 11,po_ 75 (.bin 99 .add (.t 74) (.c (.int .u32 ((1:Nat):Int)))),po_ 76 (.idxS (.c (.string Bj)) (.t 75)),mv_ 77 11,po_ 78 (.idxS (.c (.string Bj)) (.t 77)),po_ 79 (.idxA 1 (.t 68) (.t 70)),⟨none,.s (.store 1 (.t 79) (.t 76)),none⟩,po_ 80 (.idxA 1 (.t 71) (.t 73)),⟨none,.s (.store 1 (.t 80) (.t 78)),none⟩] [0,1,4,10])
 Hy
def Hz:Af := .seq (.draw 11 [mv_ 55 0,mv_ 56 4,po_ 57 (.bin 3 .sub (.t 56) (ci_ 3)),mv_ 58 0,mv_ 59 4,po_ 60 (.bin 3 .sub (.t 59) (ci_ 4)),mv_ 61 8,po_ 62 (.bin 99 .add (.t 61) (.c (.int .u32 ((1:Nat):Int)))),po_ 63 (.idxS (.c (.string Bj)) (.t 62)),mv_ 64 8,po_ 65 (.idxS (.c (.string Bj)) (.t 64)),po_ 66 (.idxA 1 (.t 55) (.t 57)),⟨none,.s (.store 1 (.t 66) (.t 63)),none⟩,po_ 67 (.idxA 1 (.t 58) (.t 60)),⟨none,.s (.store 1 (.t 67) (.t 65)),none⟩] [0,1,4,10,11])
 Hr
def Hu:Af := .seq (.draw 11 [mv_ 42 0,mv_ 43 4,po_ 44 (.bin 3 .sub (.t 43) (ci_ 1)),mv_ 45 0,mv_ 46 4,po_ 47 (.bin 3 .sub (.t 46) (ci_ 2)),mv_ 48 9,po_ 49 (.bin 99 .add (.t 48) (.c (.int .u32 ((1:Nat):Int)))),po_ 50 (.idxS (.c (.string Bj)) (.t 49)),mv_ 51 9,po_ 52 (.idxS (.c (.string Bj)) (.t 51)),po_ 53 (.idxA 1 (.t 42) (.t 44)),⟨none,.s (.store 1 (.t 53) (.t 50)),none⟩,po_ 54 (.idxA 1 (.t 45) (.t 47)),⟨none,.s (.store 1 (.t 54) (.t 52)),none⟩] [0,1,4,8,10,11])
 Hz
def Hw:Af := .seq (.ops [mv_ 36 6,po_ 37 (.bin 99 .quo (.t 36) (.c (.int .u32 ((100:Nat):Int)))),po_ 38 (.bin 99 .mul (.t 37) (.c (.int .u32 ((2:Nat):Int)))),mv_ 39 6,po_ 40 (.bin 99 .rem (.t 39) (.c (.int .u32 ((100:Nat):Int)))),po_ 41 (.bin 99 .mul (.t 40) (.c (.int .u32 ((2:Nat):Int)))),mv_ 10 38,mv_ 11 41] [0,1,4,8,9,10,11])
 Hu
def Ia:Af := .seq (.ops [mv_ 30 7,po_ 31 (.bin 99 .quo (.t 30) (.c (.int .u32 ((100:Nat):Int)))),po_ 32 (.bin 99 .mul (.t 31) (.c (.int .u32 ((2:Nat):Int)))),mv_ 33 7,po_ 34 (.bin 99 .rem (.t 33) (.c (.int .u32 ((100:Nat):Int)))),po_ 35 (.bin 99 .mul (.t 34) (.c (.int .u32 ((2:Nat):Int)))),mv_ 8 32,mv_ 9 35] [0,1,4,6,8,9])
 Hw
def Dt:Af := .seq (.ops [mv_ 26 5,po_ 27 (.bin 99 .quo (.t 26) (.c (.int .u32 ((10000:Nat):Int)))),mv_ 28 5,po_ 29 (.bin 99 .rem (.t 28) (.c (.int .u32 ((10000:Nat):Int)))),mv_ 6 27,mv_ 7 29] [0,1,4,6,7])
 Ia
def Ho:Af := .seq (.ops [mv_ 24 1,po_ 25 (.bin 98 .quo (.t 24) (.c (.int .u64 ((100000000:Nat):Int)))),mv_ 1 25] [0,1,4,5])
 Dt
def Ht:Af := .block 1 (.seq (.ops [mv_ 21 1,po_ 22 (.bin 98 .rem (.t 21) (.c (.int .u64 ((100000000:Nat):Int)))),po_ 23 (.conv .u32 (.t 22)),mv_ 5 23] [0,1,4,5])
 Ho)
def Gh:Af := .seq (.seq (.ops [mv_ 19 4,po_ 20 (.bin 3 .geq (.t 19) (ci_ 8))] [0,1,4,20])
 (.cond (.t 20)
 (.skip)
 (.exit 0)))
 Ht
def Gm:Af := .seq (.draw 11 [mv_ 123 0,mv_ 124 4,po_ 125 (.bin 3 .sub (.t 124) (ci_ 3)),mv_ 126 0,mv_ 127 4,po_ 128 (.bin 3 .sub (.t 127) (ci_ 4)),mv_ 129 14,po_ 130 (.bin 99 .add (.t 129) (.c (.int .u32 ((1:Nat):Int)))),po_ 131 (.idxS (.c (.string Bj)) (.t 130)),mv_ 132 14,po_ 133 (.idxS (.c (.string Bj)) (.t 132)),po_ 134 (.idxA 1 (.t 123) (.t 125)),⟨none,.s (.store 1 (.t 134) (.t 131)),none⟩,po_ 135 (.idxA 1 (.t 126) (.t 128)),⟨none,.s (.store 1 (.t 135) (.t 133)),none⟩] [0,4,12])
 (.ops [mv_ 136 4,po_ 137 (.bin 3 .sub (.t 136) (ci_ 4)),mv_ 4 137] [0,4,12])
def He:Af := .seq (.draw 11 [mv_ 110 0,mv_ 111 4,po_ 112 (.bin 3 .sub (.t 111) (ci_ 1)),mv_ 113 0,mv_ 114 4,po_ 115 (.bin 3 .sub (.t 114) (ci_ 2)),mv_ 116 15,po_ 117 (.bin 99 .add (.t 116) (.c (.int .u32 ((1:Nat):Int)))),po_ 118 (.idxS (.c (.string Bj)) (.t 117)),mv_ 119 15,po_ 120 (.idxS (.c (.string Bj)) (.t 119)),po_ 121 (.idxA 1 (.t 110) (.t 112)),⟨none,.s (.store 1 (.t 121) (.t 118)),none⟩,po_ 122 (.idxA 1 (.t 113) (.t 115)),⟨none,.s (.store 1 (.t 122) (.t 120)),none⟩] [0,4,12,14])
 Gm
def Gg:Af := .seq (.ops [mv_ 104 13,po_ 105 (.bin 99 .quo (.t 104) (.c (.int .u32 ((100:Nat):Int)))),po_ 106 (.bin 99 .mul (.t 105) (.c (.int .u32 ((2:Nat):Int)))),mv_ 107 13,po_ 108 (.bin 99 .rem (.t 107) (.c (.int .u32 ((100:Nat):Int)))),po_ 109 (.bin 99 .mul (.t 108) (.c (.int .u32 ((2:Nat):Int)))),mv_ 14 106,mv_ 15 109] [0,4,12,14,15])
 He
def Gs:Af := .seq (.ops [mv_ 102 12,po_ 103 (.bin 99 .quo (.t 102) (.c (.int .u32 ((10000:Nat):Int)))),mv_ 12 103] [0,4,12,13])
 Gg
def Gu:Af := .seq (.ops [mv_ 100 12,po_ 101 (.bin 99 .rem (.t 100) (.c (.int .u32 ((10000:Nat):Int)))),mv_ 13 101] [0,4,12,13])
 Gs
def GH:Af := .cond (.t 99)
 Gu
 (.skip)
def GU:Af := .seq (.draw 11 [mv_ 145 0,mv_ 146 4,po_ 147 (.bin 3 .sub (.t 146) (ci_ 1)),mv_ 148 0,mv_ 149 4,po_ 150 (.bin 3 .sub (.t 149) (ci_ 2)),mv_ 151 16,po_ 152 (.bin 99 .add (.t 151) (.c (.int .u32 ((1:Nat):Int)))),po_ 153 (.idxS (.c (.string Bj)) (.t 152)),mv_ 154 16,po_ 155 (.idxS (.c (.string Bj)) (.t 154)),po_ 156 (.idxA 1 (.t 145) (.t 147)),⟨none,.s (.store 1 (.t 156) (.t 153)),none⟩,po_ 157 (.idxA 1 (.t 148) (.t 150)),⟨none,.s (.store 1 (.t 157) (.t 155)),none⟩] [0,4,12])
 (.ops [mv_ 158 4,po_ 159 (.bin 3 .sub (.t 158) (ci_ 2)),mv_ 4 159] [0,4,12])
def GG:Af := .seq (.ops [mv_ 143 12,po_ 144 (.bin 99 .quo (.t 143) (.c (.int .u32 ((100:Nat):Int)))),mv_ 12 144] [0,4,12,16])
 GU
def GX:Af := .seq (.ops [mv_ 140 12,po_ 141 (.bin 99 .rem (.t 140) (.c (.int .u32 ((100:Nat):Int)))),po_ 142 (.bin 99 .mul (.t 141) (.c (.int .u32 ((2:Nat):Int)))),mv_ 16 142] [0,4,12,16])
 GG
def G5:Af := .cond (.t 139)
 GX
 (.skip)
def Dl:Af := .seq (.seq (.ops [mv_ 138 4,po_ 139 (.bin 3 .geq (.t 138) (ci_ 2))] [0,4,12,139])
 G5)
 (.seq (.ops [mv_ 160 4,po_ 161 (.bin 3 .gtr (.t 160) (ci_ 0))] [0,12,161])
 (.cond (.t 161)
 (.ops [mv_ 162 0,mv_ 163 12,po_ 164 (.bin 99 .add (.c (.int .u32 ((48:Nat):Int))) (.t 163)),po_ 165 (.conv .u8 (.t 164)),po_ 166 (.idxA 1 (.t 162) (ci_ 0)),⟨none,.s (.store 1 (.t 166) (.t 165)),none⟩] [])
 (.skip)))
def Dp:Af := .seq (.seq (.ops [mv_ 98 4,po_ 99 (.bin 3 .geq (.t 98) (ci_ 4))] [0,4,12,99])
 GH)
 Dl
def G7:Af := .seq (.ops [mv_ 96 1,po_ 97 (.conv .u32 (.t 96)),mv_ 12 97] [0,4,12])
 Dp
def GK:Af := .seq (.block 0 (.loop [0,1,4] Gh))
 G7
def Jv:Af := .seq (.ops [mv_ 17 0,po_ 18 (.lenV (.t 17)),mv_ 4 18] [0,1,4])
 GK
def CG:List VR:=[]
theorem RU:Tryz.f139.body.bind (trC Tryz.prog Tryz.f139.ntmps)=some (er Jv):=by kernel_rfl
theorem Rk:trR Tryz.prog Tryz.f139.results.toList=some CG:=by kernel_rfl
def Nk:=Aa Hy.eq_1
def Nb:=Aa Hr.eq_1
def Nl:=Aa Hz.eq_1
def Nh:=Aa Hu.eq_1
def Nj:=Aa Hw.eq_1
def ND:=Aa Ia.eq_1
def MX:=Aa Dt.eq_1
def NC:=Aa Ho.eq_1
def Np:=Aa Ht.eq_1
def FB:=Aa Gh.eq_1
def MB:=Aa Gm.eq_1
def MG:=Aa He.eq_1
def ML:=Aa Gg.eq_1
def MH:=Aa Gs.eq_1
def MW:=Aa Gu.eq_1
def FZ:=Aa GH.eq_1
def FQ:=Aa GU.eq_1
def FM:=Aa GG.eq_1
def FI:=Aa GX.eq_1
def Bq:=Aa G5.eq_1
def Bz:=Aa Dl.eq_1
def FD:=Aa Dp.eq_1
def MC:=Aa G7.eq_1
def MM:=Aa GK.eq_1
def Qb:=Aa Jv.eq_1
theorem BR {K:TV→Prop} {e:Env} {H:List Ob}:res CG e H K=res [] e H K:=Ad rfl
def Qo:=D7 167 Tryz.func139 RU Rk rfl
def Si:Af := .seq (.ops [mv_ 65 0,po_ 66 (.lenS (.t 65)),po_ 67 (.bin 3 .geq (.t 66) (ci_ 3)),mv_ 68 67,⟨some 69,.p (.mov (.t 0)),some ⟨68,true⟩⟩,⟨some 70,.p (.idxS (.t 69) (ci_ 1)),some ⟨68,true⟩⟩,⟨some 71,.s (.call 93 [.t 70]),some ⟨68,true⟩⟩,⟨some 72,.p (.bin 5 .eql (.t 71) (.c (.int .u8 ((120:Nat):Int)))),some ⟨68,true⟩⟩,po_ 73 (.pick (.t 68) (.t 72) (.c (.bool false))),mv_ 64 73] [0,2,8,9,64])
 (.cond (.t 64)
 (.seq (.ops [po_ 1 (.mov (ci_ 16))] [0,1,2,8,9])
  (.ops [mv_ 74 0,po_ 75 (.slS (.t 74) (some (ci_ 2)) none),mv_ 0 75] [0,1,2,8,9]))
 (.seq (.ops [po_ 1 (.mov (ci_ 8))] [0,1,2,8,9])
  (.ops [mv_ 38 0,po_ 39 (.slS (.t 38) (some (ci_ 1)) none),mv_ 0 39] [0,1,2,8,9])))
def Sl:Af := .cond (.t 52)
 (.seq (.ops [po_ 1 (.mov (ci_ 8))] [0,1,2,8,9])
  (.ops [mv_ 62 0,po_ 63 (.slS (.t 62) (some (ci_ 2)) none),mv_ 0 63] [0,1,2,8,9]))
 Si
def Rx:Af := .seq (.ops [mv_ 53 0,po_ 54 (.lenS (.t 53)),po_ 55 (.bin 3 .geq (.t 54) (ci_ 3)),mv_ 56 55,⟨some 57,.p (.mov (.t 0)),some ⟨56,true⟩⟩,⟨some 58,.p (.idxS (.t 57) (ci_ 1)),some ⟨56,true⟩⟩,⟨some 59,.s (.call 93 [.t 58]),some ⟨56,true⟩⟩,⟨some 60,.p (.bin 5 .eql (.t 59) (.c (.int .u8 ((111:Nat):Int)))),some ⟨56,true⟩⟩,po_ 61 (.pick (.t 56) (.t 60) (.c (.bool false))),mv_ 52 61] [0,2,8,9,52])
 Sl
def Rj:Af := .cond (.t 40)
 (.seq (.ops [po_ 1 (.mov (ci_ 2))] [0,1,2,8,9])
  (.ops [mv_ 50 0,po_ 51 (.slS (.t 50) (some (ci_ 2)) none),mv_ 0 51] [0,1,2,8,9]))
 Rx
def RV:Af := .block 1 (.seq (.ops [mv_ 41 0,po_ 42 (.lenS (.t 41)),po_ 43 (.bin 3 .geq (.t 42) (ci_ 3)),mv_ 44 43,⟨some 45,.p (.mov (.t 0)),some ⟨44,true⟩⟩,⟨some 46,.p (.idxS (.t 45) (ci_ 1)),some ⟨44,true⟩⟩,⟨some 47,.s (.call 93 [.t 46]),some ⟨44,true⟩⟩,⟨some 48,.p (.bin 5 .eql (.t 47) (.c (.int .u8 ((98:Nat):Int)))),some ⟨44,true⟩⟩,po_ 49 (.pick (.t 44) (.t 48) (.c (.bool false))),mv_ 40 49] [0,2,8,9,40])
 Rj)
def Ro:Af := .cond (.t 37)
 RV
 (.skip)
def RQ:Af := .seq (.ops [mv_ 35 0,po_ 36 (.idxS (.t 35) (ci_ 0)),po_ 37 (.bin 5 .eql (.t 36) (.c (.int .u8 ((48:Nat):Int))))] [0,1,2,8,9,37])
 Ro
def Rl:Af := .seq (.ops [po_ 1 (.mov (ci_ 10))] [0,1,2,8,9])
 RQ
def RH:Af := .cond (.t 32)
 Rl
 (.seq (.ops [po_ 24 (.iface 182 (ci_ 3)),po_ 6 (.mov (.c (.int .u64 ((0:Nat):Int)))),mv_ 7 24] [6,7])
  (.ret))
def Qu:Af := .seq (.ops [mv_ 33 1,po_ 34 (.bin 3 .eql (.t 33) (ci_ 0)),mv_ 32 34] [0,2,8,9,32])
 RH
def Jj:Af := .cond (.t 25)
 (.skip)
 Qu
def II:Af := .seq (.ops [mv_ 78 2,po_ 79 (.bin 3 .lss (.t 78) (ci_ 0)),mv_ 80 79,⟨some 81,.p (.mov (.t 2)),some ⟨80,false⟩⟩,⟨some 82,.p (.bin 3 .gtr (.t 81) (ci_ 64)),some ⟨80,false⟩⟩,po_ 83 (.pick (.t 80) (.c (.bool true)) (.t 82))] [0,1,2,8,9,83])
 (.cond (.t 83)
 (.seq (.ops [po_ 84 (.iface 182 (ci_ 4)),po_ 6 (.mov (.c (.int .u64 ((0:Nat):Int)))),mv_ 7 84] [6,7])
  (.ret))
 (.skip))
def IR:Af := .seq (.ops [po_ 93 (.bin 3 .eql (.t 85) (ci_ 16)),mv_ 92 93] [0,1,2,8,9,92])
 (.cond (.t 92)
 (.ops [po_ 10 (.mov (.c (.int .u64 ((1152921504606846976:Nat):Int))))] [0,1,2,8,9,10])
 (.ops [mv_ 86 1,po_ 87 (.conv .u64 (.t 86)),po_ 88 (.bin 98 .quo (.c (.int .u64 ((18446744073709551615:Nat):Int))) (.t 87)),po_ 89 (.bin 98 .add (.t 88) (.c (.int .u64 ((1:Nat):Int)))),mv_ 10 89] [0,1,2,8,9,10]))
def Jl:Af := .seq (.ops [mv_ 122 15,so_ 123 (.call 93 [.t 122]),po_ 124 (.bin 5 .leq (.c (.int .u8 ((97:Nat):Int))) (.t 123)),mv_ 125 124,⟨some 126,.p (.mov (.t 15)),some ⟨125,true⟩⟩,⟨some 127,.s (.call 93 [.t 126]),some ⟨125,true⟩⟩,⟨some 128,.p (.bin 5 .leq (.t 127) (.c (.int .u8 ((122:Nat):Int)))),some ⟨125,true⟩⟩,po_ 129 (.pick (.t 125) (.t 128) (.c (.bool false))),mv_ 121 129] [1,8,9,10,11,12,13,15,99,100,101,121])
 (.cond (.t 121)
 (.ops [mv_ 130 15,so_ 131 (.call 93 [.t 130]),po_ 132 (.bin 5 .sub (.t 131) (.c (.int .u8 ((97:Nat):Int)))),po_ 133 (.bin 5 .add (.t 132) (.c (.int .u8 ((10:Nat):Int)))),mv_ 16 133] [1,8,9,10,11,12,13,16,99,100,101])
 (.seq (.ops [po_ 105 (.iface 182 (ci_ 2)),po_ 6 (.mov (.c (.int .u64 ((0:Nat):Int)))),mv_ 7 105] [6,7])
  (.ret)))
def IZ:Af := .cond (.t 112)
 (.ops [mv_ 119 15,po_ 120 (.bin 5 .sub (.t 119) (.c (.int .u8 ((48:Nat):Int)))),mv_ 16 120] [1,8,9,10,11,12,13,16,99,100,101])
 Jl
def Jg:Af := .seq (.ops [mv_ 113 15,po_ 114 (.bin 5 .leq (.c (.int .u8 ((48:Nat):Int))) (.t 113)),mv_ 115 114,⟨some 116,.p (.mov (.t 15)),some ⟨115,true⟩⟩,⟨some 117,.p (.bin 5 .leq (.t 116) (.c (.int .u8 ((57:Nat):Int)))),some ⟨115,true⟩⟩,po_ 118 (.pick (.t 115) (.t 117) (.c (.bool false))),mv_ 112 118] [1,8,9,10,11,12,13,15,99,100,101,112])
 IZ
def Jf:Af := .cond (.t 106)
 (.seq (.ops [po_ 12 (.mov (.c (.bool true)))] [1,8,9,10,11,12,13,99,100,101])
  (.exit 4))
 Jg
def I5:Af := .seq (.seq (.ops [mv_ 152 17,mv_ 153 13,po_ 154 (.bin 98 .lss (.t 152) (.t 153)),mv_ 155 154,⟨some 156,.p (.mov (.t 17)),some ⟨155,false⟩⟩,⟨some 157,.p (.mov (.t 11)),some ⟨155,false⟩⟩,⟨some 158,.p (.bin 98 .gtr (.t 156) (.t 157)),some ⟨155,false⟩⟩,po_ 159 (.pick (.t 155) (.c (.bool true)) (.t 158))] [1,8,9,10,11,12,17,99,100,101,159])
 (.cond (.t 159)
 (.seq (.ops [mv_ 160 11,po_ 161 (.iface 182 (ci_ 1)),mv_ 6 160,mv_ 7 161] [6,7])
  (.ret))
 (.skip)))
 (.ops [mv_ 162 17,mv_ 13 162] [1,8,9,10,11,12,13,99,100,101])
def Jc:Af := .seq (.ops [mv_ 148 13,mv_ 149 16,po_ 150 (.conv .u64 (.t 149)),po_ 151 (.bin 98 .add (.t 148) (.t 150)),mv_ 17 151] [1,8,9,10,11,12,13,17,99,100,101])
 I5
def I8:Af := .seq (.ops [mv_ 144 13,mv_ 145 1,po_ 146 (.conv .u64 (.t 145)),po_ 147 (.bin 98 .mul (.t 144) (.t 146)),mv_ 13 147] [1,8,9,10,11,12,13,16,99,100,101])
 Jc
def IE:Af := .seq (.seq (.ops [mv_ 139 13,mv_ 140 10,po_ 141 (.bin 98 .geq (.t 139) (.t 140))] [1,8,9,10,11,12,13,16,99,100,101,141])
 (.cond (.t 141)
 (.seq (.ops [mv_ 142 11,po_ 143 (.iface 182 (ci_ 1)),mv_ 6 142,mv_ 7 143] [6,7])
  (.ret))
 (.skip)))
 I8
def Ja:Af := .seq (.seq (.ops [mv_ 134 16,mv_ 135 1,po_ 136 (.conv .u8 (.t 135)),po_ 137 (.bin 5 .geq (.t 134) (.t 136))] [1,8,9,10,11,12,13,16,99,100,101,137])
 (.cond (.t 137)
 (.seq (.ops [po_ 138 (.iface 182 (ci_ 2)),po_ 6 (.mov (.c (.int .u64 ((0:Nat):Int)))),mv_ 7 138] [6,7])
  (.ret))
 (.skip)))
 IE
def IC:Af := .seq (.block 5 (.seq (.ops [mv_ 107 15,po_ 108 (.bin 5 .eql (.t 107) (.c (.int .u8 ((95:Nat):Int)))),mv_ 109 108,⟨some 110,.p (.mov (.t 8)),some ⟨109,true⟩⟩,po_ 111 (.pick (.t 109) (.t 110) (.c (.bool false))),mv_ 106 111] [1,8,9,10,11,12,13,15,99,100,101,106])
 Jf))
 Ja
def IY:Af := .seq (.ops [po_ 16 (.mov (.c (.int .u8 ((0:Nat):Int))))] [1,8,9,10,11,12,13,15,99,100,101])
 IC
def I7:Af := .seq (.block 4 (.seq (.ops [po_ 103 (.idxA 1 (.t 99) (.t 101)),po_ 104 (.load false 1 (.t 103)),mv_ 15 104] [1,8,9,10,11,12,13,15,99,100,101])
 IY))
 (.ops [po_ 163 (.bin 3 .add (.t 101) (ci_ 1)),mv_ 101 163] [1,8,9,10,11,12,13,99,100,101])
def Jb:Af := .seq (.cond (.t 102)
 (.skip)
 (.exit 3))
 I7
def IA:Af := .seq (.ops [po_ 102 (.bin 3 .lss (.t 101) (.t 100))] [1,8,9,10,11,12,13,99,100,101,102])
 Jb
def Iz:Af := .block 3 (.loop [1,8,9,10,11,12,13,99,100,101] IA)
def Je:Af := .seq (.seq (.ops [mv_ 164 12,mv_ 165 164,⟨some 166,.p (.mov (.t 9)),some ⟨165,true⟩⟩,⟨some 167,.s (.call 94 [.t 166]),some ⟨165,true⟩⟩,⟨some 168,.p (.un .not (.t 167)),some ⟨165,true⟩⟩,po_ 169 (.pick (.t 165) (.t 168) (.c (.bool false)))] [13,169])
 (.cond (.t 169)
 (.seq (.ops [po_ 170 (.iface 182 (ci_ 2)),po_ 6 (.mov (.c (.int .u64 ((0:Nat):Int)))),mv_ 7 170] [6,7])
  (.ret))
 (.skip)))
 (.seq (.ops [mv_ 171 13,mv_ 6 171,po_ 7 (.mov (.c .nilIface))] [6,7])
 (.ret))
def I4:Af := .seq (.seq (.ops [mv_ 98 0,so_ 99 (.s2b (.t 98)),po_ 100 (.lenV (.t 99)),po_ 101 (.mov (ci_ 0))] [1,8,9,10,11,12,13,99,100,101])
 Iz)
 Je
def IW:Af := .seq (.ops [po_ 13 (.mov (.c (.int .u64 ((0:Nat):Int))))] [0,1,8,9,10,11,12,13])
 I4
def IX:Af := .seq (.ops [po_ 12 (.mov (.c (.bool false)))] [0,1,8,9,10,11,12])
 IW
def IK:Af := .seq (.ops [mv_ 94 2,po_ 95 (.conv .u64 (.t 94)),po_ 96 (.bin 98 .shl (.c (.int .u64 ((1:Nat):Int))) (.t 95)),po_ 97 (.bin 98 .sub (.t 96) (.c (.int .u64 ((1:Nat):Int)))),mv_ 11 97] [0,1,8,9,10,11])
 IX
def Jk:Af := .seq (.seq (.ops [mv_ 85 1] [0,1,2,8,9,85])
 (.block 2 (.seq (.ops [po_ 91 (.bin 3 .eql (.t 85) (ci_ 10)),mv_ 90 91] [0,1,2,8,9,85,90])
 (.cond (.t 90)
 (.ops [po_ 10 (.mov (.c (.int .u64 ((1844674407370955162:Nat):Int))))] [0,1,2,8,9,10])
 IR))))
 IK
def IM:Af := .seq (.ops [po_ 10 (.mov (.c (.int .u64 ((0:Nat):Int))))] [0,1,2,8,9])
 Jk
def IL:Af := .seq (.seq (.ops [mv_ 76 2,po_ 77 (.bin 3 .eql (.t 76) (ci_ 0))] [0,1,2,8,9,77])
 (.cond (.t 77)
 (.ops [po_ 2 (.mov (ci_ 64))] [0,1,2,8,9])
 II))
 IM
def IQ:Af := .seq (.block 0 (.seq (.ops [mv_ 26 1,po_ 27 (.bin 3 .leq (ci_ 2) (.t 26)),mv_ 28 27,⟨some 29,.p (.mov (.t 1)),some ⟨28,true⟩⟩,⟨some 30,.p (.bin 3 .leq (.t 29) (ci_ 36)),some ⟨28,true⟩⟩,po_ 31 (.pick (.t 28) (.t 30) (.c (.bool false))),mv_ 25 31] [0,1,2,8,9,25])
 Jj))
 IL
def Jd:Af := .seq (.ops [mv_ 23 0,mv_ 9 23] [0,1,2,8,9])
 IQ
def Iy:Af := .seq (.ops [mv_ 21 1,po_ 22 (.bin 3 .eql (.t 21) (ci_ 0)),mv_ 8 22] [0,1,2,8])
 Jd
def Jh:Af := .seq (.seq (.ops [mv_ 18 0,po_ 19 (.bin 9 .eql (.t 18) (.c (.string (str []))))] [0,1,2,19])
 (.cond (.t 19)
 (.seq (.ops [po_ 20 (.iface 182 (ci_ 2)),po_ 6 (.mov (.c (.int .u64 ((0:Nat):Int)))),mv_ 7 20] [6,7])
  (.ret))
 (.skip)))
 Iy
def Ky:Af := .seq (.ops [po_ 6 (.mov (.c (.int .u64 ((0:Nat):Int)))),po_ 7 (.mov (.c .nilIface))] [0,1,2])
 Jh
def KD:List VR:=[.tmp 6,.tmp 7]
theorem UW:Tryz.f65.body.bind (trC Tryz.prog Tryz.f65.ntmps)=some (er Ky):=by kernel_rfl
theorem UY:trR Tryz.prog Tryz.f65.results.toList=some KD:=by kernel_rfl
def OE:=Aa Jj.eq_1
def Ox:=Aa II.eq_1
def OT:=Aa IR.eq_1
def Du:=Aa Jl.eq_1
def AY:=Aa IZ.eq_1
def BJ:=Aa Jg.eq_1
def BM:=Aa Jf.eq_1
def OG:=Aa I5.eq_1
def OC:=Aa Jc.eq_1
def Ot:=Aa I8.eq_1
def OH:=Aa IE.eq_1
def BI:=Aa Ja.eq_1
def BN:=Aa IC.eq_1
def BO:=Aa IY.eq_1
def BK:=Aa I7.eq_1
def A7:=Aa Jb.eq_1
def AZ:=Aa IA.eq_1
def OO:=Aa Iz.eq_1
def OM:=Aa Je.eq_1
def OJ:=Aa I4.eq_1
def OA:=Aa IW.eq_1
def Oz:=Aa IX.eq_1
def Oh:=Aa IK.eq_1
def OX:=Aa Jk.eq_1
def Ov:=Aa IM.eq_1
def OB:=Aa IL.eq_1
def OQ:=Aa IQ.eq_1
def OL:=Aa Jd.eq_1
def OU:=Aa Iy.eq_1
def Ig:=Aa Jh.eq_1
def JM:=Aa Ky.eq_1
theorem Ap {K:TV→Prop} {e:Env} {H:List Ob}:res KD e H K=res [.tmp 6,.tmp 7] e H K:=Ad rfl
def TL:=D7 172 Tryz.func65 UW UY rfl
def Oe:Af := .seq (.ops [po_ 2 (.mov (.c (.int .u8 ((0:Nat):Int))))] [0])
 (.seq (.ops [mv_ 3 0,po_ 4 (.bin 5 .or (.t 3) (.c (.int .u8 ((32:Nat):Int)))),mv_ 2 4] [2])
 (.ret))
def N9:List VR:=[.tmp 2]
theorem YA:Tryz.f93.body.bind (trC Tryz.prog Tryz.f93.ntmps)=some (er Oe):=by kernel_rfl
theorem YL:trR Tryz.prog Tryz.f93.results.toList=some N9:=by kernel_rfl
def VZ:=Aa Oe.eq_1
theorem V7 {K:TV→Prop} {e:Env} {H:List Ob}:res N9 e H K=res [.tmp 2] e H K:=Ad rfl
def Za:=(aI_ @VZ @V7)
def WZ:=D7 5 Tryz.func93 YA YL rfl
def QG:Af := .seq (.ops [mv_ 19 8,mv_ 20 0,mv_ 21 1,mv_ 22 2,mv_ 23 9,so_ 24 (.call 66 [.c (.string (str [80,97,114,115,101,85,105,110,116])),.t 20,.t 21,.t 22,.t 23]),mv_ 6 19,mv_ 7 24] [6,7])
 (.ret)
def QF:Af := .seq (.seq (.ops [mv_ 17 9,po_ 18 (.eqN 1 (.t 17) (.c .nilIface) true)] [0,1,2,8,9,18])
 (.cond (.t 18)
 QG
 (.skip)))
 (.seq (.ops [mv_ 25 8,mv_ 6 25,po_ 7 (.mov (.c .nilIface))] [6,7])
 (.ret))
def QT:Af := .seq (.ops [mv_ 11 0,mv_ 12 1,mv_ 13 2,so_ 14 (.call 65 [.t 11,.t 12,.t 13]),mv_ 10 14,po_ 15 (.ext 0 (.t 10)),po_ 16 (.ext 1 (.t 10)),mv_ 8 15,mv_ 9 16] [0,1,2,8,9])
 QF
def Vm:Af := .seq (.ops [po_ 6 (.mov (.c (.int .u64 ((0:Nat):Int)))),po_ 7 (.mov (.c .nilIface))] [0,1,2])
 QT
def Vy:List VR:=[.tmp 6,.tmp 7]
theorem Afb:Tryz.f39.body.bind (trC Tryz.prog Tryz.f39.ntmps)=some (er Vm):=by kernel_rfl
theorem AeW:trR Tryz.prog Tryz.f39.results.toList=some Vy:=by kernel_rfl
def X3:=Aa QG.eq_1
def Yw:=Aa QF.eq_1
def Yh:=Aa QT.eq_1
def Ab9:=Aa Vm.eq_1
theorem Acs {K:TV→Prop} {e:Env} {H:List Ob}:res Vy e H K=res [.tmp 6,.tmp 7] e H K:=Ad rfl
def JP:=(aI_ (aI_ (aI_ @X3 @Yw) (aI_ @Yh @Ab9)) @Acs)
def AdV:=D7 26 Tryz.func39 Afb AeW rfl
def YN:Af := .seq (.seq (.ops [mv_ 6 0,po_ 7 (.bin 3 .gtr (.t 6) (ci_ 0))] [0,3,7])
 (.cond (.t 7)
 (.skip)
 (.exit 0)))
 (.block 1 (.seq (.ops [mv_ 8 0,po_ 9 (.bin 3 .rem (.t 8) (ci_ 10)),po_ 10 (.bin 3 .add (ci_ 48) (.t 9)),po_ 11 (.conv .u8 (.t 10)),⟨some 12,.s (.bslice 1 1 (.val (.int .u8 ((0:Nat):Int))) [⟨0,.t 11⟩]),none⟩,po_ 13 (.b2s (.t 12)),mv_ 14 3,po_ 15 (.bin 9 .add (.t 13) (.t 14)),mv_ 3 15] [0,3])
 (.ops [mv_ 16 0,po_ 17 (.bin 3 .quo (.t 16) (ci_ 10)),mv_ 0 17] [0,3])))
def YY:Af := .seq (.ops [mv_ 18 3,mv_ 2 18] [2])
 (.ret)
def ZI:Af := .seq (.block 0 (.loop [0,3] YN))
 YY
def X4:Af := .seq (.ops [po_ 3 (.mov (.c (.string (str []))))] [0,3])
 ZI
def Ym:Af := .seq (.seq (.ops [mv_ 4 0,po_ 5 (.bin 3 .eql (.t 4) (ci_ 0))] [0,5])
 (.cond (.t 5)
 (.seq (.ops [po_ 2 (.mov (.c (.string (str [48]))))] [2])
  (.ret))
 (.skip)))
 X4
def Aeg:Af := .seq (.ops [po_ 2 (.mov (.c (.string (str []))))] [0])
 Ym
def Aeb:List VR:=[.tmp 2]
theorem Ak8:Tryz.f36.body.bind (trC Tryz.prog Tryz.f36.ntmps)=some (er Aeg):=by kernel_rfl
theorem Ale:trR Tryz.prog Tryz.f36.results.toList=some Aeb:=by kernel_rfl
def Aey:=Aa YN.eq_1
def AeI:=Aa YY.eq_1
def Ae8:=Aa ZI.eq_1
def AfY:=Aa X4.eq_1
def Afe:=Aa Ym.eq_1
def Ai9:=Aa Aeg.eq_1
theorem Ai8 {K:TV→Prop} {e:Env} {H:List Ob}:res Aeb e H K=res [.tmp 2] e H K:=Ad rfl
def Sv:=(aI_ (aI_ (aI_ @Aey @AeI) (aI_ @Ae8 @AfY)) (aI_ (aI_ @Afe @Ai9) @Ai8))
def Ake:=D7 19 Tryz.func36 Ak8 Ale rfl
end
section
open Go.RowKit
variable [AL]
theorem WN:∀ q:Nat,q<100→(bl Bj)[q*2]?=some (UInt8.ofNat (48+q / 10))∧(bl Bj)[q*2+1]?=some (UInt8.ofNat (48+q % 10)):=by
 have h:((List.range 100).all fun q=>decide ((bl Bj)[q*2]?=some (UInt8.ofNat (48+q / 10))∧(bl Bj)[q*2+1]?=some (UInt8.ofNat (48+q % 10))))=true:=by kernel_rfl
 intro q hq
 have:=List.all_eq_true.1 h q (List.mem_range.2 hq)
 simpa using this
theorem Bml {x:Nat} (h:x<100000000):x % 10000 % 100<100∧x % 10000 / 100<100∧x / 10000 % 100<100∧x / 10000 / 100<100:=by omega
theorem BjK (m:Nat):m+8 - 1=m+7∧m+8 - 2=m+6∧m+8 - 3=m+5∧m+8 - 4=m+4∧m+8 - 5=m+3∧m+8 - 6=m+2∧m+8 - 7=m+1∧m+8 - 8=m:=by omega
theorem Bqa (x:Nat):dgs 8 x=[UInt8.ofNat (48+x / 10000 / 100 % 100 / 10),UInt8.ofNat (48+x / 10000 / 100 % 100 % 10),UInt8.ofNat (48+x / 10000 % 100 / 10),UInt8.ofNat (48+x / 10000 % 100 % 10),UInt8.ofNat (48+x % 10000 / 100 / 10),UInt8.ofNat (48+x % 10000 / 100 % 10),UInt8.ofNat (48+x % 10000 % 100 / 10),UInt8.ofNat (48+x % 10000 % 100 % 10)]:=by
 rw [show 8=2+6 from rfl,Aco 6 2,show 6=2+4 from rfl,Aco 4 2,show 4=2+2 from rfl,Aco 2 2,Ada,Ada,Ada,Ada]
 simp only [Nat.reducePow,List.cons_append,List.nil_append]
 rw [show x / 10000 % 100=x / 10000 % 100 from rfl,show x / 1000000=x / 10000 / 100 by omega,show x / 100 % 100=x % 10000 / 100 by omega,show x % 100=x % 10000 % 100 by omega]
set_option maxHeartbeats 1000000 in
theorem Bj5 {x m' nd:Nat} (hxl:x<100000000) (hm:m'+8≤nd) (hn24:nd≤24) {P':List UInt8} (hP':P'.length=m'+8) {R:List TV} {id v cp N:Nat} {H:List Ob} (hid:id<H.length) {y:TV} {Q:VEx→Env→List Ob→Prop}
  (hQ:∀ P4:List UInt8,P4.length=m'→Q .nor [(0,.os 1 id v [] 0 nd cp),(1,y),(4,i64 (m':Int))] (H.set id (.obj v (.arr N 1 (P4.map by8++((dgs 8 x).map by8++R)))))) :
  vwp Tryz.prog Dt Q [(0,.os 1 id v [] 0 nd cp),(1,y),(4,i64 ((m'+8:Nat):Int)),(5,.val (.int .u32 (x:Int)))] (H.set id (.obj v (.arr N 1 (P'.map by8++R)))):=by
 have hat:∀ o,(H.set id o)[id]?=some o:=fun o=>List.getElem?_set_self hid
 obtain ⟨P4,p0,p1,p2,p3,p4,p5,p6,p7,rfl,l4⟩:∃ P4 p0 p1 p2 p3 p4 p5 p6 p7,P'=P4++[p0,p1,p2,p3,p4,p5,p6,p7]∧P4.length=m':=by
  have h1:P'=P'.take m'++P'.drop m':=(List.take_append_drop m' P').symm
  have h2:(P'.drop m').length=8:=by simp [hP']
  match hD:P'.drop m',h2 with
  | [p0,p1,p2,p3,p4,p5,p6,p7],_=>exact ⟨P'.take m',p0,p1,p2,p3,p4,p5,p6,p7,by rw [←hD]; exact h1,by simp [hP']⟩
 have l5:(P4.map by8).length=m':=by simp [l4]
 have gA:∀ (j:Nat) (L:List TV),(P4.map by8++L)[m'+j]?=L[j]?:=fun j L=>by rw [List.getElem?_append_right (by omega),l5,Nat.add_sub_cancel_left]
 have gA0:∀ (L:List TV),(P4.map by8++L)[m']?=L[0]?:=fun L=>gA 0 L
 have sA:∀ (j:Nat) (L:List TV) c,(P4.map by8++L).set (m'+j) c=P4.map by8++L.set j c:=fun j L c=>by rw [List.set_append_right _ _ (by omega),l5,Nat.add_sub_cancel_left]
 have sA0:∀ (L:List TV) c,(P4.map by8++L).set m' c=P4.map by8++L.set 0 c:=fun L c=>sA 0 L c
 rw [List.map_append,List.append_assoc]
 obtain ⟨n1,n2,n3,n4,n5,n6,n7,n8⟩:=BjK m'
 obtain ⟨q1,q2,q3,q4⟩:=Bml hxl
 obtain ⟨a1,b1⟩:=WN (x % 10000 % 100) q1
 obtain ⟨a2,b2⟩:=WN (x % 10000 / 100) q2
 obtain ⟨a3,b3⟩:=WN (x / 10000 % 100) q3
 obtain ⟨a4,b4⟩:=WN (x / 10000 / 100) q4
 have hQ4:=hQ P4 l4
 rw [Bqa,Nat.mod_eq_of_lt q4] at hQ4
 clear hQ
 simp -dsimp (disch:=first | assumption | omega | (simp only [Ac];try omega)) only [↓Ag,Ae,Ai,Ah,eq_self,Nat.reduceEqDiff,↓reduceIte,reduceCtorEq,↓MX,Amm,Ane,↓ND,↓Nj]
 generalize x % 10000 % 100=z1 at *
 generalize x % 10000 / 100=z2 at *
 generalize x / 10000 % 100=z3 at *
 generalize x / 10000 / 100=z4 at *
 simp -dsimp (disch:=first | assumption | omega | (simp only [Ac];try omega)) only [↓Ag,Ae,Ai,Ah,eq_self,Nat.reduceEqDiff,↓reduceIte,reduceCtorEq,↓Nh,Z4,a1,b1,hat,n1,n2,gA,sA]
 simp -dsimp (disch:=first | assumption | omega | (simp only [Ac];try omega)) only [↓Ag,Ae,Ai,Ah,eq_self,Nat.reduceEqDiff,↓reduceIte,reduceCtorEq,↓Nl,Z4,a2,b2,hat,n3,n4,gA,sA]
 simp -dsimp (disch:=first | assumption | omega | (simp only [Ac];try omega)) only [↓Ag,Ae,Ai,Ah,eq_self,Nat.reduceEqDiff,↓reduceIte,reduceCtorEq,↓Nb,Z4,a3,b3,hat,n5,n6,gA,sA]
 simp -dsimp (disch:=first | assumption | omega | (simp only [Ac];try omega)) only [↓Ag,Ae,Ai,Ah,eq_self,Nat.reduceEqDiff,↓reduceIte,reduceCtorEq,↓Nk,Z4,a4,b4,hat,n7,n8,gA,gA0,sA,sA0]
 exact hQ4
theorem Btl (x:Nat):dgs 4 x=[UInt8.ofNat (48+x % 10000 / 100 / 10),UInt8.ofNat (48+x % 10000 / 100 % 10),UInt8.ofNat (48+x % 10000 % 100 / 10),UInt8.ofNat (48+x % 10000 % 100 % 10)]:=by
 rw [show 4=2+2 from rfl,Aco 2 2,Ada,Ada]
 simp only [Nat.reducePow,List.cons_append,List.nil_append]
 rw [show x / 100 % 100=x % 10000 / 100 by omega,show x % 100=x % 10000 % 100 by omega]
theorem BqF {x:Nat}:x % 10000 % 100<100∧x % 10000 / 100<100∧x % 100<100:=by omega
theorem Bos (m:Nat):m+4 - 1=m+3∧m+4 - 2=m+2∧m+4 - 3=m+1∧m+4 - 4=m:=by omega
set_option maxHeartbeats 1000000 in
theorem BiZ {x m nd:Nat} (hx:x<10 ^ m) (hm4:m<4) (hm:m≤nd) (hn24:nd≤24) {P':List UInt8} (hP':P'.length=m) {R:List TV} {id v cp N:Nat} {H:List Ob} (hid:id<H.length) {K:TV→List Ob→Prop}
  (hQ:K (.tup []) (H.set id (.obj v (.arr N 1 ((dgs m x).map by8++R))))) :
  vwp Tryz.prog Dl (Acy CG K) [(0,.os 1 id v [] 0 nd cp),(4,i64 (m:Int)),(12,.val (.int .u32 (x:Int)))] (H.set id (.obj v (.arr N 1 (P'.map by8++R)))):=by
 have hat:∀ o,(H.set id o)[id]?=some o:=fun o=>List.getElem?_set_self hid
 have hw8:∀ n:Nat,n<10→TV.val (.int .u8 (IntKind.u8.wrap ((48+n:Nat):Int)))=by8 (UInt8.ofNat (48+n)):=fun n hn=>by
  show TV.val (.int .u8 (IntKind.u8.wrap ((48+n:Nat):Int))) = .val (.int .u8 ((UInt8.ofNat (48+n)).toNat:Int))
  rw [Bi1]
 match m,P',hP' with
 | 0,[],_ =>
  simp -dsimp (disch:=first | assumption | omega | (simp only [Ac];try omega)) only [↓Ag,Ae,Ai,Ah,eq_self,Nat.reduceLT,Nat.reduceEqDiff,↓reduceIte,reduceCtorEq,Nat.reduceLeDiff,↓Bz,↓Bq,↓BR]
  exact hQ
 | 1,[p0],_ =>
  have hx1:x<10:=by simpa using hx
  have hw:=hw8 x hx1
  rw [ApI,Nat.mod_eq_of_lt hx1] at hQ
  simp -dsimp (disch:=first | assumption | omega | (simp only [Ac];try omega)) only [↓Ag,Ae,Ai,Ah,eq_self,Nat.reduceLT,Nat.reduceEqDiff,↓reduceIte,reduceCtorEq,Nat.reduceLeDiff,↓Bz,↓Bq,↓BR,Z4,hat]
  exact hQ
 | 2,[p0,p1],_ =>
  have hx1:x<100:=by simpa using hx
  obtain ⟨a1,b1⟩:=WN x hx1
  rw [Ada,Nat.mod_eq_of_lt hx1] at hQ
  have hxm:x % 100=x:=Nat.mod_eq_of_lt hx1
  simp -dsimp (disch:=first | assumption | omega | (simp only [Ac];try omega)) only [↓Ag,Ae,Ai,Ah,eq_self,Nat.reduceLT,Nat.reduceEqDiff,Nat.reduceSub,↓reduceIte,reduceCtorEq,Nat.reduceLeDiff,↓Bz,↓Bq,↓FI,Ane,Amm,hxm,↓FM,↓FQ,↓BR,Z4,hat,a1,b1]
  exact hQ
 | 3,[p0,p1,p2],_ =>
  have hx1:x<1000:=by simpa using hx
  have hx2:x / 100<10:=by omega
  have hx3:x % 100<100:=by omega
  obtain ⟨a1,b1⟩:=WN (x % 100) hx3
  have hw:=hw8 (x / 100) hx2
  rw [show 3=1+2 from rfl,Aco 2 1,Ada,ApI] at hQ
  rw [show x / 10 ^ 2 % 10=x / 100 by omega] at hQ
  simp -dsimp (disch:=first | assumption | omega | (simp only [Ac];try omega)) only [↓Ag,Ae,Ai,Ah,eq_self,Nat.reduceEqDiff,↓reduceIte,reduceCtorEq,Nat.reduceLeDiff,↓Bz,↓Bq,↓FI,Ane,Amm,↓FM]
  generalize x % 100=z at *
  generalize x / 100=z2 at *
  simp -dsimp (disch:=first | assumption | omega | (simp only [Ac];try omega)) only [↓Ag,Ae,Ai,Ah,eq_self,Nat.reduceLT,Nat.reduceEqDiff,Nat.reduceSub,↓reduceIte,reduceCtorEq,↓FQ,↓BR,Z4,hat,a1,b1]
  exact hQ
set_option maxHeartbeats 1000000 in
theorem BmB {x m nd:Nat} (hx:x<10 ^ m) (hm8:m<8) (hx8:x<100000000) (hm:m≤nd) (hn24:nd≤24) {P':List UInt8} (hP':P'.length=m) {R:List TV} {id v cp N:Nat} {H:List Ob} (hid:id<H.length) {K:TV→List Ob→Prop}
  (hQ:K (.tup []) (H.set id (.obj v (.arr N 1 ((dgs m x).map by8++R))))) :
  vwp Tryz.prog Dp (Acy CG K) [(0,.os 1 id v [] 0 nd cp),(4,i64 (m:Int)),(12,.val (.int .u32 (x:Int)))] (H.set id (.obj v (.arr N 1 (P'.map by8++R)))):=by
 have hat:∀ o,(H.set id o)[id]?=some o:=fun o=>List.getElem?_set_self hid
 by_cases c:4≤m
 ·obtain ⟨m',rfl⟩:∃ m',m=m'+4:=⟨m - 4,by omega⟩
  obtain ⟨P4,p0,p1,p2,p3,rfl,l4⟩:∃ P4 p0 p1 p2 p3,P'=P4++[p0,p1,p2,p3]∧P4.length=m':=by
   have h1:P'=P'.take m'++P'.drop m':=(List.take_append_drop m' P').symm
   have h2:(P'.drop m').length=4:=by simp [hP']
   match hD:P'.drop m',h2 with
   | [p0,p1,p2,p3],_=>exact ⟨P'.take m',p0,p1,p2,p3,by rw [←hD]; exact h1,by simp [hP']⟩
  have l5:(P4.map by8).length=m':=by simp [l4]
  have gA:∀ (j:Nat) (L:List TV),(P4.map by8++L)[m'+j]?=L[j]?:=fun j L=>by rw [List.getElem?_append_right (by omega),l5,Nat.add_sub_cancel_left]
  have gA0:∀ (L:List TV),(P4.map by8++L)[m']?=L[0]?:=fun L=>gA 0 L
  have sA:∀ (j:Nat) (L:List TV) c,(P4.map by8++L).set (m'+j) c=P4.map by8++L.set j c:=fun j L c=>by rw [List.set_append_right _ _ (by omega),l5,Nat.add_sub_cancel_left]
  have sA0:∀ (L:List TV) c,(P4.map by8++L).set m' c=P4.map by8++L.set 0 c:=fun L c=>sA 0 L c
  rw [List.map_append,List.append_assoc]
  have hx4:x / 10000<10 ^ m':=by rw [Nat.pow_add] at hx; omega
  rw [show m'+4=m'+4 from rfl,Aco 4 m',show (10:Nat) ^ 4=10000 from rfl,Btl,List.map_append,List.append_assoc] at hQ
  clear hx
  obtain ⟨n1,n2,n3,n4⟩:=Bos m'
  obtain ⟨q1,q2,_⟩:=BqF (x:=x)
  obtain ⟨a1,b1⟩:=WN (x % 10000 % 100) q1
  obtain ⟨a2,b2⟩:=WN (x % 10000 / 100) q2
  have fin:=BiZ (R:=[by8 (UInt8.ofNat (48+x % 10000 / 100 / 10)),by8 (UInt8.ofNat (48+x % 10000 / 100 % 10)),by8 (UInt8.ofNat (48+x % 10000 % 100 / 10)),by8 (UInt8.ofNat (48+x % 10000 % 100 % 10))]++R) (cp:=cp) hx4 (by omega) (nd:=nd) (by omega) hn24 l4 hid (K:=K) hQ
  clear hQ hx4
  simp -dsimp (disch:=first | assumption | omega | (simp only [Ac];try omega)) only [↓Ag,Ae,Ai,Ah,eq_self,Nat.reduceEqDiff,↓reduceIte,reduceCtorEq,Nat.reduceLeDiff,↓FD,↓FZ,↓MW,↓MH,Amm,Ane,↓ML]
  generalize x % 10000 % 100=z1 at *
  generalize x % 10000 / 100=z2 at *
  simp -dsimp (disch:=first | assumption | omega | (simp only [Ac];try omega)) only [↓Ag,Ae,Ai,Ah,eq_self,Nat.reduceEqDiff,↓reduceIte,reduceCtorEq,↓MG,Z4,a1,b1,hat,n1,n2,gA,sA]
  simp -dsimp (disch:=first | assumption | omega | (simp only [Ac];try omega)) only [↓Ag,Ae,Ai,Ah,eq_self,Nat.reduceEqDiff,↓reduceIte,reduceCtorEq,↓MB,Z4,a2,b2,hat,n3,n4,gA,gA0,sA,sA0]
  exact fin
 ·have fin:=BiZ (R:=R) (cp:=cp) hx (by omega) hm hn24 hP' hid hQ
  clear hx hx8 hQ
  simp -dsimp (disch:=first | assumption | omega | (simp only [Ac];try omega)) only [↓Ag,Ae,Ai,Ah,eq_self,Nat.reduceEqDiff,↓reduceIte,reduceCtorEq,↓FD,↓FZ]
  exact fin
theorem BpN:∀ {nd:Nat} {u:Nat} (hu:u<10 ^ nd) (hnd:1≤nd) (hn24:nd≤24) (hu2:u<18446744073709551616) {P:List UInt8} {Q:List TV} (hP:P.length=nd) {id v cp N:Nat} {H:List Ob} (ho:H[id]?=some (.obj v (.arr N 1 (P.map by8++Q)))) {K:TV→List Ob→Prop}
  (hK:K (.tup []) (H.set id (.obj v (.arr N 1 ((dgs nd u).map by8++Q))))),Au Tryz.prog 139 [.os 1 id v [] 0 nd cp,.val (.int .u64 (u:Int))] H K:=by
 intro nd u hu hnd hn24 hu2 P Q hP id v cp N H ho K hK
 refine Qo (by simp) ?_
 have hid:id<H.length:=(List.getElem?_eq_some_iff.1 ho).1
 have hsame:∀ o,H[id]?=some o→H.set id o=H:=fun o h=>by
  apply List.ext_getElem?
  intro j
  rw [List.getElem?_set]
  split
  ·rename_i e; subst e; simp [h]
  ·rfl
 simp -dsimp (disch:=first | assumption | omega | (simp only [Ac];try omega)) only [↓Ag,Ae,Ai,Ah,eq_self,Nat.reduceEqDiff,↓reduceIte,Nat.reduceAdd,reduceCtorEq,↓Qb,↓MM]
 refine Cj (fun q e H'=>∃ (m u':Nat) (P' S:List UInt8),q=m∧m≤nd∧u'<10 ^ m∧u'<18446744073709551616∧P'.length=m∧dgs nd u=dgs m u'++S∧H'=H.set id (.obj v (.arr N 1 (P'.map by8++(S.map by8++Q))))∧e=[(0,.os 1 id v [] 0 nd cp),(1,.val (.int .u64 (u':Int))),(4,i64 (m:Int))]) nd ?_ ?_
 ·refine ⟨nd,u,P,[],rfl,Nat.le_refl _,hu,hu2,hP,by simp,?_,by simp [forget,get]⟩
  rw [List.map_nil,List.nil_append]
  exact (hsame _ ho).symm
 ·rintro q e H' ⟨m,u',P',S,rfl,hm,hu',hu2',hP',hS,rfl,rfl⟩
  have hat:∀ o,(H.set id o)[id]?=some o:=fun o=>List.getElem?_set_self hid
  by_cases c:8≤q
  ·obtain ⟨m',rfl⟩:∃ m',q=m'+8:=⟨q - 8,by omega⟩
   obtain ⟨x,hx⟩:∃ x,x=u' % 100000000:=⟨_,rfl⟩
   have hxl:x<100000000:=by omega
   have hw:IntKind.u32.wrap (x:Int)=(x:Int):=AnF (by omega)
   simp -dsimp (disch:=first | assumption | omega | (simp only [Ac];try omega)) only [↓Ag,Ae,Ai,Ah,eq_self,Nat.reduceEqDiff,↓reduceIte,reduceCtorEq,Nat.reduceLeDiff,↓FB,↓Np,↓NC,BhB]
   rw [←hx,hw]
   have hu8:u' / 100000000<10 ^ m':=by rw [Nat.pow_add] at hu'; omega
   have hd8:dgs (m'+8) u'=dgs m' (u' / 100000000)++dgs 8 x:=by
    rw [Aco 8 m',Bqa,Bqa,show (10:Nat) ^ 8=100000000 from rfl]
    congr 1
    rw [show x / 10000 / 100 % 100=u' / 10000 / 100 % 100 by omega,show x / 10000 % 100=u' / 10000 % 100 by omega,show x % 10000=u' % 10000 by omega]
   refine Bj5 (R:=S.map by8++Q) hxl hm hn24 hP' hid fun P4 hP4 => ?_
   simp -dsimp (disch:=first | assumption | omega | (simp only [Ac];try omega)) only [↓Ag]
   refine Aq m' (by omega) (by simp) ⟨m',u' / 100000000,P4,dgs 8 x++S,rfl,by omega,hu8,by omega,hP4,by rw [hS,hd8,List.append_assoc],by rw [List.map_append,List.append_assoc],by simp [forget,get]⟩
  ·have hu8:u'<100000000:=Nat.lt_of_lt_of_le hu' (Nat.le_trans (Nat.pow_le_pow_right (by omega) (show q≤8 by omega)) (by decide))
   have hw:IntKind.u32.wrap (u':Int)=(u':Int):=AnF (by omega)
   rw [hS,List.map_append,List.append_assoc] at hK
   have fin:=BmB (R:=S.map by8++Q) (cp:=cp) hu' (by omega) hu8 hm hn24 hP' hid hK
   clear hK hu hu'
   simp -dsimp (disch:=first | assumption | omega | (simp only [Ac];try omega)) only [↓Ag,Ae,Ai,Ah,eq_self,Nat.reduceEqDiff,↓reduceIte,reduceCtorEq,↓FB,↓MC,hw]
   exact fin
end
section
open Go.RowKit
variable [AL]
theorem BD.ofSame {f:FuncId} {args:List Value} {r:Value} (h:∀ (F:Nat→Prop) w,QX F w→Calls Tryz.prog f args.toArray w fun e w'=>e = .returned r∧w'=w):BD Tryz.prog f (args.map .val) (fun x=>x = .val r):=by
 intro β F w vs hF hv
 have hvs:vs=args:=by
  clear h hF
  induction args generalizing vs with
  | nil=>rw [List.map_nil,BQ.nil] at hv; exact hv
  | cons a args ih =>
   rw [List.map_cons] at hv
   obtain ⟨v,us,rfl,h1,h2⟩:=BQ.cons.1 hv
   have:=Rep.val.1 (Or.inl h1:Rep _ _ _ _)
   rw [this,ih us h2]
 subst hvs
 refine (h F w hF.2).mono ?_
 rintro e w' ⟨rfl,rfl⟩
 exact ⟨_,_,F,rfl,rfl,Rep.of_val,⟨rfl,rfl,rfl,Nat.le_refl _,fun _ _=>rfl,fun _ h=>h,fun _ _ h=>h,hF.1⟩⟩
theorem BmP (i:Nat) (hi:i<100):BD Tryz.prog 137 [i64 (i:Int)] (fun x=>x=ts (Lib.decDigits i)) :=
 BD.ofSame (f:=137) (args:=[.int .i64 (i:Int)]) (r := .string (str (Lib.decDigits i))) fun F w _=>Tryz.internal_strconv_small i hi w
variable [Ar]
theorem Bhi {F:Nat→Prop} {w:World} (h:QX F w):Lib.TabIs Tryz.prog w "internal/strconv.uint64pow10" .u64 Lib.pow10Tab:=by
 obtain ⟨_,t,fr,h1⟩:=h 5 _ Ar.k
 have h2:Tryz.prog.globalNamed "internal/strconv.uint64pow10" = some 5:=by kernel_rfl
 have h3:AO.cells.toArray=(Lib.pow10Tab.map fun z=>Value.int .u64 z).toArray:=by kernel_rfl
 unfold Lib.TabIs World.var?
 rw [h2,Option.bind_some,h1,h3]
theorem Arp (u:Nat) (h1:1≤u) (h2:u<18446744073709551616):BD Tryz.prog 138 [.val (.int .u64 (u:Int))] (fun x=>x=i64 (Lib.nDigits u:Int)) :=
 BD.ofSame (f:=138) (args:=[.int .u64 (u:Int)]) (r := .int .i64 (Lib.nDigits u:Int)) fun F w hg=>Tryz.internal_strconv_numDigits u h1 h2 w (Bhi hg)
theorem Anl (u:Nat):(Lib.decDigits u).length=Lib.nDigits u:=by rw [←BeV,Apc]
theorem BeT {n:Nat} (h:n≤24):(List.replicate 24 (TV.val (.int .u8 ((0:Nat):Int))))=((List.replicate n (0:UInt8)).map by8)++List.replicate (24 - n) (.val (.int .u8 ((0:Nat):Int))):=by
 have e:(TV.val (.int .u8 ((0:Nat):Int)))=by8 0:=rfl
 rw [e,List.map_replicate,List.replicate_append_replicate,show n+(24 - n)=24 by omega]
theorem BlP {l:List UInt8}:bl (str l)=l:=by simp [bl,str]
theorem Api {L:List UInt8} {u:Nat} (hL:L.length≤1000000) (hu:u<9223372036854775808) {id v cp N:Nat} {H:List Ob} (ho:H[id]?=some (.obj v (.arr N 1 (L.map by8)))) {K:TV→List Ob→Prop}
  (hK:∀ H' v',H.length≤H'.length→(∀ i,i<H.length→i≠id→H'[i]?=H[i]?)→H'[id]?=some (.obj v' (.arr (L++Lib.decDigits u).length 1 ((L++Lib.decDigits u).map by8)))→K (.os 1 id v' [] 0 (L++Lib.decDigits u).length (L++Lib.decDigits u).length) H') :
  Au Tryz.prog 110 [.os 1 id v [] 0 L.length cp,.val (.int .u64 (u:Int)),i64 ((10:Nat):Int)] H K:=by
 refine Td (by simp) ?_
 have hid:id<H.length:=(List.getElem?_eq_some_iff.1 ho).1
 have htL:(L.map by8).take L.length=L.map by8:=List.take_of_length_le (by simp)
 have hn:=Lib.nDigits_le20 u (by omega)
 have hdu:=Anl u
 have hK':=hK
 by_cases c:u<100
 ·have hw:IntKind.i64.wrap (u:Int)=(u:Int):=Nc (by omega) (by omega)
  simp -dsimp (disch:=first | assumption | omega | (simp only [Ac];try omega)) only [↓Ag,Ae,Ai,Ah,eq_self,Nat.reduceEqDiff,↓reduceIte,Nat.reduceAdd,reduceCtorEq,↓Di,hw]
  refine (BmP u c).calls rfl fun r hr => ?_
  subst hr
  simp -dsimp (disch:=first | assumption | omega | (simp only [Ac];try omega)) only [↓Ag,Ae,Ai,Ah,eq_self,Nat.reduceEqDiff,↓reduceIte,↓Di,ho,htL,BlP]
  have e1:L.map by8++(Lib.decDigits u).map by8=(L++Lib.decDigits u).map by8:=by simp
  rw [e1,←List.length_append]
  exact hK _ _ (by simp) (fun i hi hne=>List.getElem?_set_ne (Ne.symm hne)) (List.getElem?_set_self hid)
 ·have hp:=Lib.nDigits_pos u
  have hlt:=ArB u
  have hz:=BeT (n:=Lib.nDigits u) (by omega)
  simp only [List.replicate] at hz
  simp -dsimp (disch:=first | assumption | omega | (simp only [Ac];try omega)) only [↓Ag,Ae,Ai,Ah,eq_self,Nat.reduceEqDiff,↓reduceIte,Nat.reduceAdd,reduceCtorEq,↓Di]
  refine (Arp u (by omega) (by omega)).calls rfl fun r hr => ?_
  subst hr
  simp -dsimp (disch:=first | assumption | omega | (simp only [Ac];try omega)) only [↓Ag,Ae,Ai,Ah,eq_self,Nat.reduceEqDiff,↓reduceIte,reduceCtorEq,Nat.reduceLeDiff]
  rw [hz]
  have hat:∀ o:Ob,(H++[o])[H.length]?=some o:=fun o=>by rw [List.getElem?_append_right (Nat.le_refl _),Nat.sub_self]; rfl
  have hst:∀ o o':Ob,(H++[o]).set H.length o'=H++[o']:=fun o o'=>by rw [List.set_append_right _ _ (Nat.le_refl _),Nat.sub_self]; rfl
  have hlow:∀ o:Ob,(H++[o])[id]?=H[id]?:=fun o=>List.getElem?_append_left hid
  refine Js (BpN hlt hp (by omega) (by omega) (by simp) (hat _) ?_)
  rw [hst]
  have hdl:(dgs (Lib.nDigits u) u).length=Lib.nDigits u:=Apc _ _
  have htk:∀ R:List TV,((dgs (Lib.nDigits u) u).map by8++R).take (Lib.nDigits u)=(dgs (Lib.nDigits u) u).map by8:=fun R=>List.take_left' (by simp [hdl])
  have hda:=BeV u
  simp -dsimp (disch:=first | assumption | omega | (simp only [Ac];try omega)) only [↓Ag,Ae,Ai,Ah,eq_self,Nat.reduceEqDiff,↓reduceIte,reduceCtorEq,Nat.reduceLeDiff,↓Di,htk,hdl,hat,hlow,ho,htL]
  rw [hda]
  have e1:L.map by8++(Lib.decDigits u).map by8=(L++Lib.decDigits u).map by8:=by simp
  have e2:L.length+Lib.nDigits u=(L++Lib.decDigits u).length:=by rw [List.length_append,hdu]
  rw [e1,e2]
  exact hK _ _ (by simp) (fun i hi hne=>by rw [List.getElem?_append_left (by simpa using hi),List.getElem?_set_ne (Ne.symm hne)]) (by rw [List.getElem?_append_left (by simpa using hid),List.getElem?_set_self hid])
theorem Ary {L:List UInt8} {u:Nat} (hL:L.length≤1000000) (hu:u<9223372036854775808) {id v cp N:Nat} {H:List Ob} (ho:H[id]?=some (.obj v (.arr N 1 (L.map by8)))) {K:TV→List Ob→Prop}
  (hK:∀ H' v',H.length≤H'.length→(∀ i,i<H.length→i≠id→H'[i]?=H[i]?)→H'[id]?=some (.obj v' (.arr (L++Lib.decDigits u).length 1 ((L++Lib.decDigits u).map by8)))→K (.os 1 id v' [] 0 (L++Lib.decDigits u).length (L++Lib.decDigits u).length) H') :
  Au Tryz.prog 58 [.os 1 id v [] 0 L.length cp,i64 (u:Int),i64 ((10:Nat):Int)] H K:=by
 refine AdG (by simp) ?_
 simp -dsimp (disch:=first | assumption | omega | (simp only [Ac];try omega)) only [↓Ag,Ae,Ai,Ah,eq_self,Nat.reduceEqDiff,↓reduceIte,Nat.reduceAdd,reduceCtorEq,↓VM]
 refine Js (TI (by simp) ?_)
 have hw:IntKind.u64.wrap (u:Int)=(u:Int):=Ve (by omega)
 simp -dsimp (disch:=first | assumption | omega | (simp only [Ac];try omega)) only [↓Ag,Ae,Ai,Ah,eq_self,Nat.reduceEqDiff,↓reduceIte,Nat.reduceAdd,reduceCtorEq,↓KA,hw]
 refine Js (Api hL hu ho fun H' v' h1 h2 h3 => ?_)
 simp -dsimp (disch:=first | assumption | omega | (simp only [Ac];try omega)) only [↓Ag,Ae,Ai,Ah,eq_self,↓reduceIte,↓KA,↓VM]
 rw [←List.length_append]
 exact hK H' v' h1 h2 h3
end
section
open Go.RowKit
variable [AL]
class Be [AL]:Prop where
 k:∃ t a,Qx 3=some (.one (.iface t (.pointer (some a))))
class BB [AL]:Prop where
 k:∃ t a,Qx 4=some (.one (.iface t (.pointer (some a))))
theorem AnC {F:Nat→Prop} {w:World} (h:QX F w) {g:Nat} {v:Value} (e:Qx g=some (.one v)):w.cell? ⟨g,0,none⟩=some v:=by
 have:=h.at e 0 v rfl
 simpa using this
end
section
open Go.RowKit
variable [AL]
theorem AlZ (b:UInt8):BD Tryz.prog 93 [by8 b] (fun r=>r = .val (.int .u8 ((b.toNat ||| 32:Nat):Int))):=by
 refine Au.toPureV (WZ (by simp) ?_)
 have hb:=b.toNat_lt
 simp -dsimp (disch:=first | assumption | omega | (simp only [Ac];try omega)) only [↓Ag,Ae,Ai,Ah,eq_self,↓reduceIte,reduceCtorEq,↓Za,BqU]
variable [Be] [BB]
theorem BmL (fn s:List UInt8) (base bits:Int) (hs:s.length≤1000000) (c:Nat) (hc:c=1∨c=2):BD Tryz.prog 66 [ts fn,ts s,i64 base,i64 bits,.ifc 182 (i64 (c:Int))] (fun r=>r = .ifc 184 .any):=by
 intro β F w vs hF hv
 obtain ⟨v1,us,rfl,h1,hv⟩:=BQ.cons.1 hv
 obtain ⟨v2,us,rfl,h2,hv⟩:=BQ.cons.1 hv
 obtain ⟨v3,us,rfl,h3,hv⟩:=BQ.cons.1 hv
 obtain ⟨v4,us,rfl,h4,hv⟩:=BQ.cons.1 hv
 obtain ⟨v5,us,rfl,h5,hv⟩:=BQ.cons.1 hv
 rw [BQ.nil] at hv; subst hv
 obtain rfl:=Rep.val.1 (Or.inl h1:Rep _ _ _ _)
 obtain rfl:=Rep.val.1 (Or.inl h2:Rep _ _ _ _)
 obtain rfl:=Rep.val.1 (Or.inl h3:Rep _ _ _ _)
 obtain rfl:=Rep.val.1 (Or.inl h4:Rep _ _ _ _)
 have e5:v5 = .iface 182 (.int .i64 (c:Int)):=by
  rcases h5 with h5 | h5 | ⟨us,h5,rfl⟩
  ·cases h5
  ·cases h5
  ·rw [Ak] at h5
   obtain ⟨u,rfl,vs,h6,rfl⟩:=h5
   rw [Ak] at h6
   rw [h6.1]; rfl
 subst e5
 have hsz:(str s).size≤281474976710656:=by simp [str,ByteArray.size]; omega
 have fin:∀ e w',(∃ N,e=Ending.returned (.iface 184 (.pointer (some ⟨N,0,none⟩)))∧Below w.heap.size w w')→∃ v x F',e = .returned v∧x = .ifc 184 .any∧Rep ⟨β,[],F'⟩ w' x v∧WW F w F' w':=by
  rintro e w' ⟨N,rfl,hb⟩
  refine ⟨_,_,F,rfl,rfl,Rep.of_cells (us:=[.iface 184 (.pointer (some ⟨N,0,none⟩))]) ?_,⟨hb.os,hb.tape,hb.output,hb.size,hb.block,fun _ h=>h,fun _ _ h=>h,fun b hb'=>Nat.lt_of_lt_of_le (hF.1 b hb') hb.size⟩⟩
  rw [Ak]
  refine ⟨_,rfl,[.pointer (some ⟨N,0,none⟩)],?_,rfl⟩
  rw [Ak]
  exact ⟨_,rfl,rfl⟩
 rcases hc with rfl | rfl
 ·obtain ⟨t,a,hk⟩:=BB.k
  refine (Tryz.strconv_toError_range (str fn) (str s) base bits _ w hsz (AnC hF.2 hk) (.inr ⟨_,_,rfl⟩)).mono ?_
  rintro e w' ⟨N,rfl,_,_,hb⟩
  exact fin _ _ ⟨N,rfl,hb⟩
 ·obtain ⟨t,a,hk⟩:=Be.k
  refine (Tryz.strconv_toError_syntax (str fn) (str s) base bits _ w hsz (AnC hF.2 hk) (.inr ⟨_,_,rfl⟩)).mono ?_
  rintro e w' ⟨N,rfl,_,_,hb⟩
  exact fin _ _ ⟨N,rfl,hb⟩
end
section
open Go.RowKit
variable [AL]
theorem Btk:∀ b:Nat,b<256→¬ (48≤b∧b≤57)→97≤b ||| 32→b ||| 32≤122→10≤(b ||| 32) - 97+10:=by
 intro b h1 h2 h3 h4; omega
end
section
open Go.RowKit
variable [AL]
variable [Be] [BB]
end
section
open Go.RowKit
variable [AL]
def Abt (b:UInt8):Bool:=48≤b.toNat && b.toNat≤55
def AdQ:Nat→List UInt8→Nat
 | n,[]=>n
 | n,b::l=>AdQ (n*8+(b.toNat - 48)) l
theorem Af5:∀ (l m:List UInt8) (n:Nat),AdQ n (l++m)=AdQ (AdQ n l) m
 | [],_,_=>rfl
 | b::l,m,n=>Af5 l m _
theorem ApA:∀ (l:List UInt8) (n:Nat),n≤AdQ n l
 | [],n=>Nat.le_refl _
 | b::l,n=>Nat.le_trans (by omega) (ApA l _)
def pO (s:List UInt8):Option Nat:=if s≠[]∧s.all Abt∧AdQ 0 s<1048576 then some (AdQ 0 s) else none
def Aok (s:List UInt8) (r:TV):Prop:=(∀ n,pO s=some n→r = .tup [.val (.int .u64 (n:Int)),.val .nilIface])∧(pO s=none→∃ m c:Nat,m≤1048575∧(c=1∨c=2)∧r = .tup [.val (.int .u64 (m:Int)),.ifc 182 (i64 (c:Int))])
theorem Aok.no {s:List UInt8} (h:pO s=none) {m c:Nat} (hc:c=1∨c=2) (hm:m≤1048575:=by omega):Aok s (.tup [.val (.int .u64 (m:Int)),.ifc 182 (i64 (c:Int))]) :=
 ⟨fun n hn=>(by rw [h] at hn; cases hn),fun _=>⟨m,c,hm,hc,rfl⟩⟩
theorem Aok.yes {s:List UInt8} {n:Nat} (h:pO s=some n):Aok s (.tup [.val (.int .u64 (n:Int)),.val .nilIface]) :=
 ⟨fun m hm=>(by rw [h] at hm; cases hm; rfl),fun hn=>(by rw [h] at hn; cases hn)⟩
theorem Bi0 {s:List UInt8} {i:Nat} {b:UInt8} (h:s[i]?=some b) (hb:Abt b=false):pO s=none:=by
 unfold pO
 rw [if_neg]
 rintro ⟨_,h2,_⟩
 have:=List.all_eq_true.1 h2 b (List.mem_of_getElem? h)
 rw [hb] at this; cases this
theorem Bn8 {s:List UInt8} {i:Nat} (h:1048576≤AdQ 0 (s.take i)):pO s=none:=by
 unfold pO
 rw [if_neg]
 rintro ⟨_,_,h3⟩
 have:AdQ 0 s=AdQ (AdQ 0 (s.take i)) (s.drop i):=by rw [←Af5,List.take_append_drop]
 have h4:=ApA (s.drop i) (AdQ 0 (s.take i))
 omega
theorem Bmz (s:List UInt8) (hs:s.length≤1000000):BD Tryz.prog 65 [ts s,i64 ((8:Nat):Int),i64 ((20:Nat):Int)] (Aok s):=by
 refine Au.toPureV (TL (by simp) ?_)
 by_cases h0:s=[]
 ·subst h0
  have hn:pO []=none:=by unfold pO; simp
  simp -dsimp (disch:=first | assumption | omega | (simp only [Ac];try omega)) only [↓Ag,Ae,Ai,Ah,eq_self,Nat.reduceEqDiff,↓reduceIte,Nat.reduceAdd,reduceCtorEq,↓JM,↓Ig,↓Ap]
  exact Aok.no hn (.inr rfl)
 have hw1:IntKind.u64.wrap ((20:Nat):Int)=((20:Nat):Int):=Ve (by omega)
 simp -dsimp (disch:=first | assumption | omega | (simp only [Ac];try omega)) only [↓Ag,Ae,Ai,Ah,eq_self,Nat.reduceLT,Nat.reduceEqDiff,↓reduceIte,Nat.reduceAdd,reduceCtorEq,Nat.reduceLeDiff,↓JM,↓Ig,h0,↓OU,↓OL,↓OQ,↓OE,↓OB,↓Ox]
 have hw8a:IntKind.u64.wrap ((8:Nat):Int)=((8:Nat):Int):=by decide
 have hq:∀ t,I9 t .quo (.int .u64 ((18446744073709551615:Nat):Int)) (.int .u64 ((8:Nat):Int))=some (.int .u64 ((2305843009213693951:Nat):Int)):=fun t=>rfl
 have hq2:∀ t,I9 t .add (.int .u64 ((2305843009213693951:Nat):Int)) (.int .u64 ((1:Nat):Int))=some (.int .u64 ((2305843009213693952:Nat):Int)):=fun t=>rfl
 simp -dsimp (disch:=first | assumption | omega | (simp only [Ac];try omega)) only [↓Ag,Ae,Ai,Ah,eq_self,Nat.reduceEqDiff,Nat.reduceSub,Nat.reduceMul,Nat.reducePow,↓reduceIte,reduceCtorEq,↓Ov,↓OX,↓OT,hw8a,hq,hq2,↓Oh,hw1,BiI,BiD,↓Oz,↓OA,↓OJ,Dj,↓OO]
 refine Cj (fun q e H=>∃ (i n:Nat),q=s.length - i∧i≤s.length∧(s.take i).all Abt=true∧n=AdQ 0 (s.take i)∧n<1048576∧H=[.obj 0 (.arr s.length 1 (s.map by8))] ∧
  e=[(1,i64 ((8:Nat):Int)),(8,tb false),(9,ts s),(10,.val (.int .u64 ((2305843009213693952:Nat):Int))),(11,.val (.int .u64 ((1048575:Nat):Int))),(12,tb false),(13,.val (.int .u64 (n:Int))),(99,.os 1 0 0 [] 0 s.length s.length),(100,i64 (s.length:Int)),(101,i64 (i:Int))]) s.length ?_ ?_
 ·refine ⟨0,0,?_,Nat.zero_le _,?_,?_,?_,?_,?_⟩
  ·simp
  ·rw [List.take_zero]; rfl
  ·rw [List.take_zero]; rfl
  ·omega
  ·simp
  ·simp [forget,get]
 ·rintro q e H ⟨i,n,rfl,hi,hall,hn,hnl,rfl,rfl⟩
  by_cases c:i<s.length
  ·have hg:s[i]?=some s[i]:=List.getElem?_eq_getElem c
   have hsucc:=List.take_succ_eq_append_getElem c
   generalize s[i]=b at *
   have hb:=b.toNat_lt
   have hnum:AdQ 0 (s.take (i+1))=n*8+(b.toNat - 48):=by rw [hsucc,Af5,←hn]; rfl
   have hw8:IntKind.u8.wrap ((8:Nat):Int)=((8:Nat):Int):=by decide
   have hw8':IntKind.u64.wrap ((8:Nat):Int)=((8:Nat):Int):=by decide
   by_cases hd:48≤b.toNat∧b.toNat≤57
   ·by_cases hoc:b.toNat≤55
    case neg =>
     have hno:=Bi0 hg (show Abt b=false by unfold Abt; simp; omega)
     have h95:¬ b.toNat=95:=by omega
     simp -dsimp (disch:=first | assumption | omega | (simp only [Ac];try omega)) only [↓Ag,Ae,Ai,Ah,eq_self,Nat.reduceEqDiff,↓reduceIte,↓AZ,↓A7,↓BK,hg,↓BO,↓BN,h95,↓BM,↓BJ,↓AY,Aob,↓BI,hw8,↓Ap]
     exact Aok.no hno (.inr rfl)
    have hisd:Abt b=true:=by unfold Abt; simp [hd,hoc]
    have h95:¬ b.toNat=95:=by omega
    have hwd:IntKind.u64.wrap ((b.toNat - 48:Nat):Int)=((b.toNat - 48:Nat):Int):=Ve (by omega)
    by_cases hc:2305843009213693952≤n
    ·exact absurd hc (by omega)
    ·have hnl2:=hnl
     clear hnl
     have hn8:n*8<18446744073709551616:=by omega
     have hadd:∀ t,I9 t .add (.int .u64 ((n*8:Nat):Int)) (.int .u64 ((b.toNat - 48:Nat):Int))=some (.int .u64 (((n*8+(b.toNat - 48)) % 18446744073709551616:Nat):Int)):=fun t=>by
      rw [show I9 t .add (.int .u64 ((n*8:Nat):Int)) (.int .u64 ((b.toNat - 48:Nat):Int))=some (.int .u64 (IntKind.u64.wrap (((n*8:Nat):Int)+((b.toNat - 48:Nat):Int)))) from rfl,IntKind.wrap_u64]
      congr 2
     simp -dsimp (disch:=first | assumption | omega | (simp only [Ac];try omega)) only [↓Ag,Ae,Ai,Ah,eq_self,Nat.reduceEqDiff,↓reduceIte,↓AZ,↓A7,↓BK,hg,↓BO,↓BN,h95,↓BM,↓BJ,↓AY,Aob,↓BI,hw8,↓OH,↓Ot,hw8',Bf7,↓OC,hwd,hadd,↓OG]
     by_cases hbig:1048576≤n*8+(b.toNat - 48)
     ·have hno:=Bn8 (s:=s) (i:=i+1) (by rw [hnum]; exact hbig)
      by_cases hwr:(n*8+(b.toNat - 48)) % 18446744073709551616<n*8
      ·simp -dsimp (disch:=first | assumption | omega | (simp only [Ac];try omega)) only [↓Ag,Ae,Ai,Ah,eq_self,Nat.reduceEqDiff,↓reduceIte,↓Ap]
       exact Aok.no hno (.inl rfl)
      ·have hgt:(n*8+(b.toNat - 48)) % 18446744073709551616 > 1048575:=by omega
       simp -dsimp (disch:=first | assumption | omega | (simp only [Ac];try omega)) only [↓Ag,Ae,Ai,Ah,eq_self,Nat.reduceEqDiff,↓reduceIte,↓Ap]
       exact Aok.no hno (.inl rfl)
     ·have hmod:(n*8+(b.toNat - 48)) % 18446744073709551616=n*8+(b.toNat - 48):=Nat.mod_eq_of_lt (by omega)
      rw [hmod]
      simp -dsimp (disch:=first | assumption | omega | (simp only [Ac];try omega)) only [↓Ag,Ae,Ai,Ah,eq_self,Nat.reduceEqDiff,↓reduceIte]
      exact Aq (s.length - (i+1)) (by omega) (by simp) ⟨i+1,n*8+(b.toNat - 48),rfl,by omega,by rw [hsucc,List.all_append,hall]; simp [hisd],hnum.symm,by omega,rfl,by simp [forget,get]⟩
   ·have hno:=Bi0 hg (show Abt b=false by unfold Abt; simp; omega)
    by_cases h95:b.toNat=95
    ·have hor:(b.toNat ||| 32)=127:=by rw [h95]; rfl
     simp -dsimp (disch:=first | assumption | omega | (simp only [Ac];try omega)) only [↓Ag,Ae,Ai,Ah,eq_self,Nat.reduceEqDiff,↓reduceIte,Nat.reduceLeDiff,↓AZ,↓A7,↓BK,hg,↓BO,↓BN,h95,↓BM,↓BJ,↓AY,↓Du]
     refine (AlZ b).calls rfl fun r hr => ?_
     subst hr
     rw [hor]
     simp -dsimp (disch:=first | assumption | omega | (simp only [Ac];try omega)) only [↓Ag,Ae,Ai,Ah,eq_self,Nat.reduceEqDiff,↓reduceIte,Nat.reduceLeDiff]
     refine (AlZ b).calls rfl fun r hr => ?_
     subst hr
     rw [hor]
     simp -dsimp (disch:=first | assumption | omega | (simp only [Ac];try omega)) only [↓Ag,Ae,Ai,Ah,eq_self,Nat.reduceEqDiff,↓reduceIte,Nat.reduceLeDiff,↓Ap]
     exact Aok.no hno (.inr rfl)
    ·have hl:=Btk b.toNat hb hd
     simp -dsimp (disch:=first | assumption | omega | (simp only [Ac];try omega)) only [↓Ag,Ae,Ai,Ah,eq_self,Nat.reduceEqDiff,↓reduceIte,↓AZ,↓A7,↓BK,hg,↓BO,↓BN,h95,↓BM,↓BJ]
     by_cases c48:48≤b.toNat
     ·have c57:¬ b.toNat≤57:=by omega
      simp -dsimp (disch:=first | assumption | omega | (simp only [Ac];try omega)) only [↓Ag,Ae,Ai,Ah,eq_self,Nat.reduceEqDiff,↓reduceIte,↓AY,↓Du]
      refine (AlZ b).calls rfl fun r hr => ?_
      subst hr
      have hlw:=AlZ b
      generalize b.toNat ||| 32=x at *
      by_cases c97:97≤x
      ·simp -dsimp (disch:=first | assumption | omega | (simp only [Ac];try omega)) only [↓Ag,Ae,Ai,Ah,eq_self,Nat.reduceEqDiff,↓reduceIte]
       refine hlw.calls rfl fun r hr => ?_
       subst hr
       by_cases c122:x≤122
       ·have h10:=hl c97 c122
        have hmod:(x - 97+10) % 256=x - 97+10:=Nat.mod_eq_of_lt (by omega)
        simp -dsimp (disch:=first | assumption | omega | (simp only [Ac];try omega)) only [↓Ag,Ae,Ai,Ah,eq_self,Nat.reduceEqDiff,↓reduceIte]
        refine hlw.calls rfl fun r hr => ?_
        subst hr
        simp -dsimp (disch:=first | assumption | omega | (simp only [Ac];try omega)) only [↓Ag,Ae,Ai,Ah,eq_self,Nat.reduceEqDiff,↓reduceIte,Nat.reduceLeDiff,Aob,Bi5,hmod,↓BI,hw8,↓Ap]
        exact Aok.no hno (.inr rfl)
       ·simp -dsimp (disch:=first | assumption | omega | (simp only [Ac];try omega)) only [↓Ag,Ae,Ai,Ah,eq_self,Nat.reduceEqDiff,↓reduceIte,↓Ap]
        exact Aok.no hno (.inr rfl)
      ·simp -dsimp (disch:=first | assumption | omega | (simp only [Ac];try omega)) only [↓Ag,Ae,Ai,Ah,eq_self,Nat.reduceEqDiff,↓reduceIte,↓Ap]
       exact Aok.no hno (.inr rfl)
     ·simp -dsimp (disch:=first | assumption | omega | (simp only [Ac];try omega)) only [↓Ag,Ae,Ai,Ah,eq_self,Nat.reduceEqDiff,↓reduceIte,↓AY,↓Du]
      refine (AlZ b).calls rfl fun r hr => ?_
      subst hr
      have hlw:=AlZ b
      generalize b.toNat ||| 32=x at *
      by_cases c97:97≤x
      ·simp -dsimp (disch:=first | assumption | omega | (simp only [Ac];try omega)) only [↓Ag,Ae,Ai,Ah,eq_self,Nat.reduceEqDiff,↓reduceIte]
       refine hlw.calls rfl fun r hr => ?_
       subst hr
       by_cases c122:x≤122
       ·have h10:=hl c97 c122
        have hmod:(x - 97+10) % 256=x - 97+10:=Nat.mod_eq_of_lt (by omega)
        simp -dsimp (disch:=first | assumption | omega | (simp only [Ac];try omega)) only [↓Ag,Ae,Ai,Ah,eq_self,Nat.reduceEqDiff,↓reduceIte]
        refine hlw.calls rfl fun r hr => ?_
        subst hr
        simp -dsimp (disch:=first | assumption | omega | (simp only [Ac];try omega)) only [↓Ag,Ae,Ai,Ah,eq_self,Nat.reduceEqDiff,↓reduceIte,Nat.reduceLeDiff,Aob,Bi5,hmod,↓BI,hw8,↓Ap]
        exact Aok.no hno (.inr rfl)
       ·simp -dsimp (disch:=first | assumption | omega | (simp only [Ac];try omega)) only [↓Ag,Ae,Ai,Ah,eq_self,Nat.reduceEqDiff,↓reduceIte,↓Ap]
        exact Aok.no hno (.inr rfl)
      ·simp -dsimp (disch:=first | assumption | omega | (simp only [Ac];try omega)) only [↓Ag,Ae,Ai,Ah,eq_self,Nat.reduceEqDiff,↓reduceIte,↓Ap]
       exact Aok.no hno (.inr rfl)
  ·have hi2:i=s.length:=by omega
   subst hi2
   rw [List.take_length] at hn hall
   have hyes:pO s=some n:=by unfold pO; rw [if_pos ⟨h0,hall,by rw [←hn]; exact hnl⟩,hn]
   simp -dsimp (disch:=first | assumption | omega | (simp only [Ac];try omega)) only [↓Ag,Ae,Ai,Ah,eq_self,Nat.reduceEqDiff,↓reduceIte,↓AZ,↓A7,↓OM,↓Ap]
   exact Aok.yes hyes
variable [Be] [BB]
theorem Afw (s:List UInt8) (hs:s.length≤1000000):BD Tryz.prog 39 [ts s,i64 ((8:Nat):Int),i64 ((20:Nat):Int)] (fun r=>(∀ n,pO s=some n→r = .tup [.val (.int .u64 (n:Int)),.val .nilIface])∧(pO s=none→∃ m:Nat,m≤1048575∧r = .tup [.val (.int .u64 (m:Int)),.ifc 184 .any])):=by
 refine Au.toPureV (AdV (by simp) ?_)
 simp -dsimp (disch:=first | assumption | omega | (simp only [Ac];try omega)) only [↓Ag,Ae,Ai,Ah,eq_self,Nat.reduceEqDiff,↓reduceIte,Nat.reduceAdd,reduceCtorEq,↓JP]
 refine (Bmz s hs).calls rfl fun r hr => ?_
 cases hp:pO s with
 | some n =>
  rw [hr.1 n hp]
  simp -dsimp (disch:=first | assumption | omega | (simp only [Ac];try omega)) only [↓Ag,Ae,Ai,Ah,eq_self,Nat.reduceEqDiff,↓reduceIte,reduceCtorEq,↓JP]
  exact ⟨fun m hm=>(by cases hm; rfl),fun h=>(by cases h)⟩
 | none =>
  obtain ⟨m,c,hm,hc,rfl⟩:=hr.2 hp
  simp -dsimp (disch:=first | assumption | omega | (simp only [Ac];try omega)) only [↓Ag,Ae,Ai,Ah,eq_self,Nat.reduceEqDiff,↓reduceIte,reduceCtorEq,↓JP]
  refine (BmL _ s _ _ hs c hc).calls rfl fun r hr => ?_
  subst hr
  simp -dsimp (disch:=first | assumption | omega | (simp only [Ac];try omega)) only [↓Ag,Ae,Ai,Ah,eq_self,forall_const,Nat.reduceEqDiff,↓reduceIte,reduceCtorEq,↓JP]
  exact ⟨fun n h=>h.elim,m,hm,rfl⟩
end
section
variable [AL]
set_option maxRecDepth 100000
end
section
open Go.RowKit
variable [AL]
def Bh1:Nat→Nat→List UInt8
 | 0,_=>[]
 | f+1,u=>if u<8 then [UInt8.ofNat (48+u)] else Bh1 f (u / 8)++[UInt8.ofNat (48+u % 8)]
variable [Ej]
end
section
open Go.RowKit
variable [AL]
structure Boi (c c':Ctx) (n:Nat):Prop where
 beta:∀ id ver,c'.β (id+n) ver=c.β id ver
 has:∀ id ver,c.has id ver→c'.has (id+n) ver
 keepF:∀ b,c.F b→c'.F b
theorem Boi.bare {c c':Ctx} {n:Nat} {w:World} (h:Boi c c' n):Ry c.bare w c'.bare w:=⟨fun b hb=>⟨h.keepF b hb,rfl⟩,fun _ _ k=>(Ctx.bare_has k).elim,fun _ _=>rfl⟩
end
section
open Go.RowKit
variable [AL]
def ltB (a b:List UInt8):Prop:=a<b
theorem Apm (a b:List UInt8):Op.bytesLess a b=decide (a<b):=bytesLess_eq a b
theorem Gf (a:List UInt8):¬ ltB a a:=List.lt_irrefl a
theorem Qj {a b c:List UInt8} (h:ltB a b) (k:ltB b c):ltB a c:=List.lt_trans h k
theorem Afp {a b:List UInt8} (h1:¬ ltB a b) (h2:¬ ltB b a):a=b:=List.le_antisymm (List.not_lt.1 h2) (List.not_lt.1 h1)
instance (a b:List UInt8):Decidable (ltB a b):=inferInstanceAs (Decidable (a<b))
abbrev SD (l:List (List UInt8)):Prop:=l.Pairwise ltB
theorem SD.filter {l:List (List UInt8)} (h:SD l) (p:List UInt8→Bool):SD (l.filter p):=List.Pairwise.filter p h
theorem Apn:∀ {a b:List UInt8},Lib.compareBytes a b<0↔ltB a b
 | [],[]=>by simp [Lib.compareBytes,ltB]
 | [],_::_=>by simp [Lib.compareBytes,ltB]
 | _::_,[]=>by simp [Lib.compareBytes,ltB]
 | a::xs,b::ys=>by
  have ih:=Apn (a:=xs) (b:=ys)
  unfold ltB at ih ⊢
  rw [Lib.compareBytes,List.cons_lt_cons_iff]
  by_cases h1:a<b
  ·simp [h1]
  ·by_cases h2:b<a
   ·have hne:a≠b:=fun e=>by subst e; exact h1 h2
    simp [h1,h2,hne]
   ·have he:a=b:=UInt8.le_antisymm (UInt8.not_lt.1 h2) (UInt8.not_lt.1 h1)
    rw [if_neg h1,if_neg h2,ih]
    simp [he]
end
end Go.Proofs.YtnkpoloeifhflaaGreatDoor
