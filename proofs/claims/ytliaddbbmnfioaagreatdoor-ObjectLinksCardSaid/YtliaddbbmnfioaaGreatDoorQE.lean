/- What the proof of ObjectLinksCard stands on (texts merged; names shortened by a program): part 5. -/
import Derived.Test.YtliaddbbmnfioaaGreatDoorQD
import Derived.ProofKit
import Derived.OpenShut
import Derived.ShutString
import Derived.ChangeOld
import Derived.Below
import Derived.Carry
import Derived.SizedLaws
import Derived.Lib.LaidTab
import Derived.LaidHandle
import Derived.Handed
import Derived.ShapedOpen
import Derived.Shelf.Vars
import Derived.Test.YtliaddbbmnfioaaGreatDoorProg
import Derived.Shelf.Strings.Trim
import Derived.Shelf.Small.Utf8
import Derived.Shelf.Small.Bits
import Derived.Shelf.Small.Strs
import Derived.Shelf.Small.Wraps
import Derived.Shelf.Strconv.Itoa0
import Derived.Shelf.Strconv.Itoa1
import Derived.Shelf.LaysM
import Derived.Shelf.Strconv.Itoa2
import Derived.Shelf.Strconv.Itoa3
import Derived.Shelf.Strconv.Itoa4
import Derived.Shelf.Strconv.Clone
import Derived.Shelf.Strconv.SyntaxError
import Derived.Shelf.LaysC
import Derived.Shelf.Strconv.ToError
import Derived.Shelf.Strconv.Lower
import Derived.Shelf.Strconv.ParseUint10
import Derived.Shelf.Strconv.ParseUint10Empty
import Derived.Shelf.Strconv.ParseUint10Any
import Derived.Shelf.Strconv.RangeError
import Derived.Shelf.Strconv.ToErrorRange
import Derived.Shelf.Strings.Search1
import Derived.Shelf.Strings.Search2
import Derived.Shelf.Strings.Search3
import Derived.Shelf.Strings.Cut
import Derived.Shelf.Strings.Shaped
import Derived.Shelf.Strings.Prefix
import Derived.Shelf.Strings.Runes
import Derived.Shelf.Strings.IndexAny
import Derived.Shelf.Strings.AsciiSet
import Derived.Shelf.Strings.IndexAnyAll
import Derived.Shelf.Unicode.DecodeSlow
import Derived.Shelf.Bytes.SlIndexSmall
import Derived.Shelf.Bytes.SlIndexAt
import Derived.Shelf.Bytes.Small
import Derived.Shelf.Bytes.IndexByte
import Derived.WalkKit
import Derived.Deep.QuietTactic
import Derived.BigQuiet
import Derived.Sort.Walk0
import Derived.Lib.Bytealg
import Derived.KernelRfl
import Derived.Shelf.Strings.SlTrimAscii
import Derived.Laws.RangeAny
import Derived.Lib.TrimU
import Derived.Lib.ItoaNum
import Derived.Lib.ItoaLen
set_option linter.defProp false
set_option linter.unusedSectionVars false
set_option linter.unusedSimpArgs false
set_option linter.unusedVariables false
namespace Go.Proofs.YtliaddbbmnfioaaGreatDoor
section
open Go.RowKit Go.WideShapes Go.ChangeShapes
variable [Cc]
set_option autoImplicit false
def came (w:World):Ctx:=⟨fun _ _=>none,[],fun b=>b<w.heap.size⟩
def Ah2 (P:Program) (t:TypeId) {α:Type} (f:α→TV) (ok:α→Prop):Prop :=
 ∀ {H:Type} (enc:TypeId×Value→H) (w:World) (fuel:Nat) (cs:List Value) (d:DataW H) (ps:List MemPlace),
  DataW.trod enc P w 0 (fun _=>true) true fuel t cs=some (d,ps)→(d.weights P t).all (· ≤ reachBytes)=true→∃ a,Bc (came w) w (f a) cs∧ok a
theorem AAr {α β:Type} {f:α→Option β}:∀ {l:List α} {xs:List β},l.mapM f=some xs→xs.length=l.length∧∀ (i:Nat) a,l[i]?=some a→∃ x,xs[i]?=some x∧f a=some x
 | [],xs,h=>by simp at h; subst h; simp
 | a::l,xs,h=>by
  rw [List.mapM_cons] at h
  cases hf:f a with
  | none=>rw [hf] at h; cases h
  | some y =>
   rw [hf] at h
   cases hl:l.mapM f with
   | none=>rw [hl] at h; cases h
   | some ys =>
    rw [hl] at h
    have e:xs=y::ys:=by simpa using h.symm
    subst e
    obtain ⟨h1,h2⟩:=AAr hl
    refine ⟨by simp [h1],fun i b hb => ?_⟩
    cases i with
    | zero=>simp at hb; subst hb; exact ⟨y,by simp,hf⟩
    | succ i=>simpa using h2 i b (by simpa using hb)
theorem Asx {β:Type} {f:Nat→Option β} {n:Nat} {xs:List β} (h:(List.range n).mapM f=some xs):xs.length=n∧∀ i,i<n→∃ x,xs[i]?=some x∧f i=some x:=by
 obtain ⟨h1,h2⟩:=AAr h
 exact ⟨by simpa using h1,fun i hi=>h2 i i (by simp [hi])⟩
section
variable {P:Program} {t e:TypeId}
theorem AyD {H:Type} {enc:TypeId×Value→H} {w:World} {fuel:Nat} {cs:List Value} {x:DataW H×List MemPlace} (h:DataW.trod enc P w 0 (fun _=>true) true fuel t cs=some x):∃ n,fuel=n+1:=by
 cases fuel with
 | zero=>simp [DataW.trod] at h
 | succ n=>exact ⟨n,rfl⟩
theorem Axe {k:IntKind} (ht:P.underlying t=some (.int k)):Ah2 P t (fun n => .val (.int k n)) (fun n=>(Lit.int k n).wf=true):=by
 intro H enc w fuel cs d ps h _
 obtain ⟨n,rfl⟩:=AyD h
 unfold DataW.trod at h; rw [ht] at h
 split at h<;>rename_i h1<;>try (simp at h1; done)
 all_goals try (cases h; done)
 all_goals try (simp only [Option.some.injEq,TypeDesc.int.injEq] at h1)
 all_goals first
  | (subst h1; split at h; (rename_i hc; obtain ⟨rfl,hw⟩:=hc; cases h; exact ⟨_,by rw [Bc]; exact ⟨rfl,rfl⟩,hw⟩); cases h)
  | (simp at h1; done)
  | (simp at h; done)
end
theorem AnU {H:Type} {P:Program} {e:TypeId} {d:DataW H} {n:Nat} (hn:n∈d.weights P e):∀ {ds:List (DataW H)},d∈ds→n∈DataW.weightsAll P e ds
 | d0::ds,h=>by
  simp only [DataW.weightsAll,List.mem_append]
  rcases List.mem_cons.1 h with rfl | h
  ·exact Or.inl hn
  ·exact Or.inr (AnU hn h)
theorem Yl {l m:List Nat} (h:m.all (· ≤ reachBytes)=true) (hs:∀ n∈l,n∈m):l.all (· ≤ reachBytes)=true:=List.all_eq_true.2 fun n hn=>List.all_eq_true.1 h n (hs n hn)
theorem BsA (a:Addr) (i j:Nat):(a.add i).add j=a.add (i+j):=by
 unfold Addr.add
 by_cases h1:i=0<;>by_cases h2:j=0<;>simp [h1,h2,Nat.add_assoc]
theorem BoQ (b off i:Nat):(⟨b,off,none⟩:Addr).add i=⟨b,off+i,none⟩:=by
 unfold Addr.add
 by_cases h1:i=0<;>simp [h1]
theorem AEN {w:World} {a:Addr} {n:Nat} {us:List Value} (h:w.cells? 0 a n=some us):us.length=n∧∀ i,i<n→∃ u,us[i]?=some u∧w.cell? (a.add i)=some u:=by
 unfold World.cells? at h
 rw [if_pos (Nat.zero_le _)] at h
 exact Asx h
theorem Ay2 {α:Type} {f:α→TV} {ok:α→Prop} {k:Nat} (hw:∀ a,ok a→CG (f a)=k) {w:World} {b off:Nat}:∀ (n i0:Nat),(∀ i,i<n→∃ us a,Bc (came w) w (f a) us∧ok a∧us.length=k∧Ij w b (off+(i0+i)*k) us) →
  ∃ (l:List α) (us:List Value),l.length=n∧(∀ a∈l,ok a)∧Be (came w) w (l.map f) us∧us.length=n*k∧Ij w b (off+i0*k) us
 | 0,i0,_=>⟨[],[],rfl,by simp,by rw [List.map_nil,Be],by simp,fun j u h=>by simp at h⟩
 | n+1,i0,h=>by
  obtain ⟨us,a,h1,h2,h3,h4⟩:=h 0 (by omega)
  obtain ⟨l,vs,k1,k2,k3,k4,k5⟩:=Ay2 hw n (i0+1) (fun i hi=>by
   obtain ⟨us,a,h1,h2,h3,h4⟩:=h (i+1) (by omega)
   exact ⟨us,a,h1,h2,h3,by rw [show i0+1+i=i0+(i+1) from by omega]; exact h4⟩)
  refine ⟨a::l,us++vs,by simp [k1],fun c hc => ?_,?_,?_,?_⟩
  ·rcases List.mem_cons.1 hc with rfl | hc
   ·exact h2
   ·exact k2 c hc
  ·rw [List.map_cons,Be]; exact ⟨us,vs,rfl,h1,k3⟩
  ·rw [List.length_append,h3,k4,Nat.succ_mul,Nat.add_comm]
  ·intro j u hj
   by_cases hjk:j<k
   ·rw [List.getElem?_append_left (by omega)] at hj
    have:=h4 j u hj
    rwa [Nat.add_zero] at this
   ·rw [List.getElem?_append_right (by omega),h3] at hj
    have:=k5 (j - k) u hj
    rw [show off+(i0+1)*k+(j - k)=off+i0*k+j from by rw [Nat.succ_mul]; omega] at this
    exact this
section
variable {P:Program} {t e:TypeId} {α:Type} {f:α→TV} {ok:α→Prop} {k B:Nat}
theorem AAE (ht:P.underlying t=some (.slice e)) (hk:P.cellsOf e=k) (hB:P.bytesOf e=B) (hc:Ah2 P e f ok) (hw:∀ a,ok a→CG (f a)=k) (h0:k≠0) :
  Ah2 P t (fun l:List α => .sl k (l.map f)) (fun l=>(∀ a∈l,ok a)∧l.length*B≤140737488351232∧l.length≤9223372036854775807):=by
 intro H enc w fuel cs d ps h hwt
 obtain ⟨n,rfl⟩:=AyD h
 unfold DataW.trod at h; rw [ht] at h
 split at h<;>rename_i h1<;>try (simp at h1; done)
 all_goals first
  | (simp at h; done)
  | skip
 ·cases h
  refine ⟨[],?_,by simp,by simp,by simp⟩
  rw [Bc]; exact ⟨by simp,.inl ⟨rfl,none,0,rfl,by omega⟩⟩
 ·rename_i a len cap
  simp only [Option.some.injEq,TypeDesc.slice.injEq] at h1
  subst h1
  split at h
  ·rename_i hcond
   obtain ⟨-,hlc,hcm⟩:=hcond
   rw [Option.bind_eq_some_iff] at h
   obtain ⟨elems,he,h⟩:=h
   rw [if_pos rfl,Option.map_eq_some_iff] at h
   obtain ⟨rest,hr,h⟩:=h
   simp only [Prod.mk.injEq] at h
   obtain ⟨rfl,rfl⟩:=h
   obtain ⟨e1,e2⟩:=Asx he
   obtain ⟨r1,_⟩:=Asx hr
   unfold maxLen at hcm
   simp only [DataW.weights,ht,List.all_cons,Bool.and_eq_true,decide_eq_true_eq,reachBytes,List.length_map,e1,r1,hB] at hwt
   have hcapB:cap*B≤140737488351232:=by have:=of_decide_eq_true hwt.1; rwa [Nat.add_sub_cancel' hlc] at this
   have hlen:len*B≤140737488351232:=Nat.le_trans (Nat.mul_le_mul_right _ hlc) hcapB
   have hwe:(DataW.weightsAll P e (elems.map (·.1))).all (· ≤ reachBytes)=true:=Yl (m:=DataW.weightsAll P e (elems.map (·.1))++DataW.weightsAll P e (rest.map (·.1))) hwt.2 (fun n hn=>List.mem_append_left _ hn)
   obtain ⟨b,off,spot⟩:=a
   have key:∀ i,i<len→∃ us a,Bc (came w) w (f a) us∧ok a∧us.length=k∧(∀ j u,us[j]?=some u→w.cell? ((⟨b,off,spot⟩:Addr).add (i*k+j))=some u):=by
    intro i hi
    obtain ⟨x,hx,hxe⟩:=e2 i hi
    rw [Option.bind_eq_some_iff] at hxe
    obtain ⟨us,hus,htr⟩:=hxe
    rw [hk] at hus
    obtain ⟨c1,c2⟩:=AEN hus
    obtain ⟨a,ha,hok⟩:=hc enc w n us x.1 x.2 htr (Yl hwe fun m hm=>AnU hm (List.mem_map.2 ⟨x,List.mem_of_getElem? hx,rfl⟩))
    refine ⟨us,a,ha,hok,c1,fun j u hj => ?_⟩
    have hjk:j<k:=by rw [←c1]; exact (List.getElem?_eq_some_iff.1 hj).1
    obtain ⟨u',hu',hcu⟩:=c2 j hjk
    rw [hj] at hu'; cases hu'
    rw [BsA] at hcu
    exact hcu
   by_cases hl0:len=0
   ·subst hl0
    refine ⟨[],?_,by simp,by simp,by simp⟩
    rw [Bc]; exact ⟨by simp,.inl ⟨rfl,_,cap,rfl,hcm⟩⟩
   ·have hsp:spot=none:=by
     obtain ⟨us,a,_,_,c1,c2⟩:=key 0 (by omega)
     have hu:us[0]?=some us[0]:=List.getElem?_eq_getElem (by omega)
     have:=c2 0 _ hu
     simpa [Addr.add] using World.cell?_spot this
    subst hsp
    obtain ⟨l,us,l1,l2,l3,l4,l5⟩:=Ay2 (f:=f) (ok:=ok) hw (w:=w) (b:=b) (off:=off) len 0 (fun i hi=>by
     obtain ⟨us,a,h1,h2,h3,h4⟩:=key i hi
     refine ⟨us,a,h1,h2,h3,fun j u hj => ?_⟩
     have:=h4 j u hj
     rw [BoQ] at this
     rw [Nat.zero_add,Nat.add_assoc]; exact this)
    refine ⟨l,?_,l2,by rw [l1]; exact hlen,by omega⟩
    rw [Bc]
    refine ⟨fun x hx => ?_,.inr ⟨b,off,cap,us,by rw [List.length_map,l1],by rw [List.length_map,l1]; exact hlc,hcm,?_,l3,by simpa using l5⟩⟩
    ·obtain ⟨a,ha,rfl⟩:=List.mem_map.1 hx; exact hw a (l2 a ha)
    ·have hus:0<us.length:=by rw [l4]; exact Nat.mul_pos (by omega) (by omega)
     exact Bsl (l5 0 us[0] (List.getElem?_eq_getElem hus))
  ·cases h
end
section
variable {P:Program} {t e:TypeId} {α:Type} {f:α→TV} {ok:α→Prop} {k:Nat}
theorem AlX {β:Type} {g:β→TV} {ok':β→Prop} (h:Ah2 P t f ok) (hm:∀ a,ok a→∃ b,f a=g b∧ok' b):Ah2 P t g ok':=by
 intro H enc w fuel cs d ps h1 h2
 obtain ⟨a,h3,h4⟩:=h enc w fuel cs d ps h1 h2
 obtain ⟨b,h5,h6⟩:=hm a h4
 exact ⟨b,by rw [←h5]; exact h3,h6⟩
theorem Ble (ht:P.underlying t=some (.int .u8)):Ah2 P t by8 (fun _=>True) :=
 AlX (Axe ht) fun n h=>by
  have:=bounds_u8 h
  refine ⟨UInt8.ofNat n.toNat,?_,trivial⟩
  rw [by8,UInt8.toNat_ofNat',Nat.mod_eq_of_lt (by omega)]
  congr 2; omega
theorem AEI (ht:P.underlying t=some (.int .i64)):Ah2 P t i64 (fun n => -9223372036854775808≤n∧n≤9223372036854775807) :=
 AlX (Axe ht) fun n h=>⟨n,rfl,by have:=bounds_i64 h; omega⟩
theorem AAk (ht:P.underlying t=some (.slice e)) (he:P.underlying e=some (.int .u8)) (hk:P.cellsOf e=1) (hB:P.bytesOf e=1):Ah2 P t slB (fun l=>l.length≤140737488351232) :=
 AlX (AAE ht hk hB (Ble he) (fun _ _=>rfl) (by omega)) fun l h=>⟨l,rfl,by have:=h.2; omega⟩
end
def AyL (P:Program) (off:Nat) (fs:List Field) {α:Type} (f:α→List TV) (ok:α→Prop):Prop :=
 ∀ {H:Type} (enc:TypeId×Value→H) (w:World) (fuel:Nat) (cs:List Value) (xs:List (DataW H×List MemPlace)),
  (fs.mapM fun fd=>DataW.trod enc P w 0 (fun _=>true) true fuel fd.type ((cs.drop fd.offset).take (P.cellsOf fd.type)))=some xs→(DataW.weightsEach P (fs.map (·.type)) (xs.map (·.1))).all (· ≤ reachBytes)=true →
  cs.length=off+(fs.map fun fd=>P.cellsOf fd.type).sum→∃ a,Be (came w) w (f a) (cs.drop off)∧ok a
theorem ACa {P:Program} {off:Nat}:AyL P off [] (fun _:Unit=>[]) (fun _=>True):=by
 intro H enc w fuel cs xs _ _ hl
 refine ⟨(),?_,trivial⟩
 rw [Be]; exact List.drop_eq_nil_of_le (by simp at hl; omega)
theorem Atq {P:Program} {off n:Nat} {fd:Field} {fs:List Field} {α β:Type} {f:α→TV} {ok:α→Prop} {g:β→List TV} {ok':β→Prop} (h0:fd.offset=off) (hn:P.cellsOf fd.type=n) (hc:Ah2 P fd.type f ok) (hr:AyL P (off+n) fs g ok') :
  AyL P off (fd::fs) (fun x:α×β=>f x.1::g x.2) (fun x=>ok x.1∧ok' x.2):=by
 intro H enc w fuel cs xs hx hw hl
 rw [List.mapM_cons] at hx
 cases h1:DataW.trod enc P w 0 (fun _=>true) true fuel fd.type ((cs.drop fd.offset).take (P.cellsOf fd.type)) with
 | none=>rw [h1] at hx; cases hx
 | some y =>
  rw [h1] at hx
  cases h2:(fs.mapM fun fd=>DataW.trod enc P w 0 (fun _=>true) true fuel fd.type ((cs.drop fd.offset).take (P.cellsOf fd.type))) with
  | none=>rw [h2] at hx; cases hx
  | some ys =>
   rw [h2] at hx
   have e:xs=y::ys:=by simpa using hx.symm
   subst e
   simp only [List.map_cons,DataW.weightsEach] at hw
   obtain ⟨a,ha,hoka⟩:=hc enc w fuel _ y.1 y.2 h1 (Yl hw fun n hn=>List.mem_append_left _ hn)
   obtain ⟨b,hb,hokb⟩:=hr enc w fuel cs ys h2 (Yl hw fun n hn=>List.mem_append_right _ hn) (by simp [hn] at hl ⊢; omega)
   refine ⟨(a,b),?_,hoka,hokb⟩
   rw [Be]
   refine ⟨(cs.drop off).take n,cs.drop (off+n),?_,by rw [←h0,←hn]; exact ha,hb⟩
   rw [←List.drop_drop,List.take_append_drop]
theorem AxM {P:Program} {t:TypeId} {fs:Array Field} {α:Type} {f:α→List TV} {ok:α→Prop} (ht:P.underlying t=some (.struct fs)) (hn:P.cellsOf t=(fs.toList.map fun fd=>P.cellsOf fd.type).sum) (hc:AyL P 0 fs.toList f ok) :
  Ah2 P t (fun a => .agg (f a)) ok:=by
 intro H enc w fuel cs d ps h hwt
 obtain ⟨m,rfl⟩:=AyD h
 unfold DataW.trod at h; rw [ht] at h
 split at h<;>rename_i h1<;>try (simp at h1; done)
 all_goals first
  | (simp at h; done)
  | exact ((‹∀ (fs_1:Array Field),some (TypeDesc.struct fs)=some (TypeDesc.struct fs_1)→False› : ∀ (fs_1:Array Field),some (TypeDesc.struct fs)=some (TypeDesc.struct fs_1)→False) fs rfl).elim
  | skip
 cases h1
 split at h
 ·rename_i hlen
  rw [Option.map_eq_some_iff] at h
  obtain ⟨xs,hx,h⟩:=h
  simp only [Prod.mk.injEq] at h
  obtain ⟨rfl,rfl⟩:=h
  simp only [DataW.weights,ht] at hwt
  obtain ⟨a,ha,hok⟩:=hc enc w m _ xs hx hwt (by rw [hlen,hn,Nat.zero_add])
  exact ⟨a,by rw [Bc]; rw [List.drop_zero] at ha; exact ha,hok⟩
 ·cases h
def Aq6 (P:Program) (ts:List TypeId) {α:Type} (f:α→List TV) (ok:α→Prop):Prop :=
 ∀ {H:Type} (enc:TypeId×Value→H) (w:World) (vs:List Value) (ds:List (DataW H)) (ps:List MemPlace),
  DataW.TrodAll enc P w 0 (fun _=>true) true ts vs ds ps→(∀ (j:Nat) t v,ts[j]?=some t→vs[j]?=some v→∃ base,Value.okWide P w .any base t v)→(DataW.weightsEach P ts ds).all (· ≤ reachBytes)=true→∃ a,Ei (came w) w (f a) vs∧ok a
theorem AxT {P:Program}:Aq6 P [] (fun _:Unit=>[]) (fun _=>True):=by
 intro H enc w vs ds ps h _ _
 obtain ⟨rfl,rfl,rfl⟩:=trodAll_nil h
 exact ⟨(),by rw [Ei],trivial⟩
def Blw (P:Program) (t:TypeId) (b:Bool):Prop:=∀ w base v,Value.okWide P w .any base t v→if b then ∃ cs,v = .agg cs else v.cells = #[v]
theorem Ayg {P:Program} {t:TypeId} {fs:Array Field} (ht:P.underlying t=some (.struct fs)):Blw P t true:=fun w _ v h=>by obtain ⟨cs,rfl,_⟩:=okWide_struct ht h; exact ⟨cs,rfl⟩
theorem Bls {c:Ctx} {P:Program} {w:World} {t:TypeId} {v:Value} {x:TV} {b:Bool} (hf:Blw P t b) {base:Nat} (hv:Value.okWide P w .any base t v) (hx:Ar6 x=b):v=mkV x v.cells.toList:=by
 have h:=hf w base v hv
 cases b with
 | true =>
  simp only [if_true] at h
  obtain ⟨cs,rfl⟩:=h
  rw [ACP hx]; simp [Value.cells]
 | false =>
  simp only [Bool.false_eq_true,if_false] at h
  rw [h]
  exact (AuK hx).symm
theorem AwK {P:Program} {t:TypeId} {ts:List TypeId} {α β:Type} {f:α→TV} {ok:α→Prop} {g:β→List TV} {ok':β→Prop} {b:Bool} (hc:Ah2 P t f ok) (hf:Blw P t b) (hm:∀ a,Ar6 (f a)=b) (hr:Aq6 P ts g ok') :
  Aq6 P (t::ts) (fun x:α×β=>f x.1::g x.2) (fun x=>ok x.1∧ok' x.2):=by
 intro H enc w vs ds ps h hv hw
 obtain ⟨v,vs',d,ds',p,q,rfl,rfl,rfl,h0,r0⟩:=trodAll_cons h
 simp only [DataW.weightsEach] at hw
 obtain ⟨fuel,hfu⟩:=h0
 obtain ⟨a,ha,hoka⟩:=hc enc w fuel _ d p hfu (Yl hw fun n hn=>List.mem_append_left _ hn)
 obtain ⟨b,hb,hokb⟩:=hr enc w vs' ds' q r0 (fun j t v h1 h2=>hv (j+1) t v (by simpa using h1) (by simpa using h2)) (Yl hw fun n hn=>List.mem_append_right _ hn)
 refine ⟨(a,b),Ei.cons.2 ⟨v,vs',rfl,.inr (.inr ⟨v.cells.toList,ha,Bls (c:=came w) hf (hv 0 t v rfl rfl).choose_spec (hm a)⟩),hb⟩,hoka,hokb⟩
theorem Aqm {H:Type} {enc:TypeId×Value→H} {P:Program} (hl:laidOutB P=true) {W W':World} (hb:Below W.heap.size W W'):∀ {ts:List TypeId} {vs:List Value} {ds:List (DataW H)} {ps:List MemPlace},(ts.all fun t=>P.readableRec t && decide (t<P.types.size))=true →
  DataW.TrodAll enc P W 0 (fun _=>true) true ts vs ds ps→DataW.TrodAll enc P W' 0 (fun b=>decide (b<W.heap.size)) true ts vs ds ps
 | [],vs,ds,ps,_,h=>by
  obtain ⟨rfl,rfl,rfl⟩:=trodAll_nil h
  exact trodAll_mk0
 | t::ts,vs,ds,ps,hr,h=>by
  obtain ⟨v,vs',d,ds',p,q,rfl,rfl,rfl,h0,r0⟩:=trodAll_cons h
  simp only [List.all_cons,Bool.and_eq_true,decide_eq_true_eq] at hr
  refine trodAll_cons_mk (Below.trod hl hr.1.1 hr.1.2 h0 hb ?_) (Aqm hl hb (by simpa using hr.2) r0)
  obtain ⟨m,hm⟩:=h0
  exact DataW.trod_lt m _ _ _ hm
theorem Ags.below {F F':Nat→Prop} {w w':World} (h:Ags F w F' w'):Below w.heap.size w w':=⟨h.os,h.tape,h.output,h.size,fun k hk=>h.same k hk⟩
theorem Btn {P:Program} {f:FuncId} {ts:List TypeId} {α:Type} {g:α→List TV} {ok:α→Prop} (hc:Aq6 P ts g ok) (hlaw:∀ a,ok a→CE P f (g a) (fun x=>x=tb true)) {H:Type} {enc:TypeId×Value→H} {w:World} {args:Array Value} {ds:List (DataW H)} {ps:List MemPlace}
  (h:DataW.TrodAll enc P w 0 (fun _=>true) true ts args.toList ds ps) (hv:∀ (j:Nat) t v,ts[j]?=some t→args.toList[j]?=some v→∃ base,Value.okWide P w .any base t v) (hw:(DataW.weightsEach P ts ds).all (· ≤ reachBytes)=true) (hg:NL (fun b=>b<w.heap.size) w) :
  Calls P f args w fun e w'=>e = .returned (.bool true)∧Below w.heap.size w w':=by
 obtain ⟨a,ha,hok⟩:=hc enc w args.toList ds ps h hv hw
 have:=hlaw a hok (fun _ _=>none) (fun b=>b<w.heap.size) w args.toList ⟨fun b h=>h,hg⟩ ha
 rw [Array.toArray_toList] at this
 refine this.mono ?_
 rintro e w' ⟨v,x,F',rfl,rfl,hx,hst⟩
 rw [Rep.val] at hx
 exact ⟨by rw [hx],hst.below⟩
end
section
open Go.RowKit
variable [Cc]
theorem AEk {g:Nat} {x:GV} (h:P7 g=some x):(g,x)∈Cc.l:=by
 unfold P7 at h
 obtain ⟨p,hp,rfl⟩:=Option.map_eq_some_iff.1 h
 have h1:=List.mem_of_find?_eq_some hp
 have h2:=List.find?_some hp
 have h3:p.1=g:=by simpa using h2
 obtain ⟨a,b⟩:=p
 simp only at h3; subst h3; exact h1
section
omit [Cc]
theorem AxD {P:Program} {w:World} {name:String} {g:Nat} {cs:Array Value} (hg:P.globalNamed name=some g) (h:w.var? P name=some cs):∃ t fr,w.heap[g]?=some (.cells cs t fr):=by
 unfold World.var? at h
 rw [hg,Option.bind_some] at h
 split at h
 ·rename_i c t fr hh; cases h; exact ⟨t,fr,hh⟩
 ·cases h
def Bmw (P:Program) (t:TypeId):Bool:=match P.underlying t with
 | some (.int _)=>true
 | some .string=>true
 | _=>false
def Bv8:DataW Unit→Option Value
 | .lit (.int k n)=>some (.int k n)
 | .lit (.string l)=>some (.string ⟨l.toArray⟩)
 | _=>none
variable {P:Program} {w:World} {fuel:Nat} {cs:List Value}
theorem ABz {t:TypeId} {x:DataW Unit×List MemPlace} (ht:Bmw P t=true) (h:DataW.trod (fun _=>()) P w 0 (fun _=>true) false fuel t cs=some x):∃ v,Bv8 x.1=some v∧cs=[v]:=by
 unfold Bmw at ht
 split at ht
 ·rename_i k hk
  obtain ⟨n,rfl,rfl,_⟩:=DataW.trod_int hk h
  exact ⟨_,rfl,rfl⟩
 ·rename_i hk
  obtain ⟨s,rfl,rfl,_⟩:=DataW.trod_string hk h
  exact ⟨_,rfl,by simp⟩
 ·cases ht
theorem ACc {t e:TypeId} {n:Nat} {ds:List (DataW Unit)} {p:List MemPlace} {vs:List Value} (ht:P.underlying t=some (.array n e)) (he:Bmw P e=true) (hce:P.cellsOf e=1) (hct:P.cellsOf t=n) (hv:ds.map Bv8=vs.map some)
  (h:DataW.trod (fun _=>()) P w 0 (fun _=>true) false fuel t cs=some (.agg ds,p)):cs=vs:=by
 cases fuel with
 | zero=>simp [DataW.trod] at h
 | succ fuel =>
  simp only [DataW.trod,ht,hce,hct,Nat.mul_one] at h
  split at h
  ·rename_i hl
   obtain ⟨xs,hm,hx⟩:=Option.map_eq_some_iff.1 h
   have hxs:xs.map (·.1)=ds:=by
    have:=congrArg Prod.fst hx
    simpa using this
   have hxl:xs.length=n:=by simpa using Lib.mapM_length hm
   have hvl:vs.length=n:=by
    have h1:=congrArg List.length hxs
    have h2:=congrArg List.length hv
    simp at h1 h2
    omega
   apply List.ext_getElem?
   intro i
   by_cases hi:i<n
   ·obtain ⟨b,hb,hf⟩:=Lib.mapM_at hm i i (by simp [hi])
    obtain ⟨v,hv1,hv2⟩:=ABz he hf
    have h1:cs[i]?=some v:=by
     have:=congrArg (·[0]?) hv2
     simpa [List.getElem?_take,List.getElem?_drop] using this
    have h2:ds[i]?=some b.1:=by rw [←hxs]; simp [hb]
    have h3:(ds.map Bv8)[i]?=some (some v):=by simp [h2,hv1]
    rw [hv] at h3
    simp only [List.getElem?_map,Option.map_eq_some_iff,Option.some.injEq] at h3
    obtain ⟨u,hu,rfl⟩:=h3
    rw [h1,hu]
   ·rw [List.getElem?_eq_none (by omega),List.getElem?_eq_none (by omega)]
  ·cases h
theorem ADm {name:String} {d:DataW Unit}:∀ {laid:List (String×DataW Unit)} {ps:List MemPlace},DataW.LaidVars P w laid ps→(name,d)∈laid →
  ∃ g t cs fuel p,P.globalNamed name=some g∧(P.globals[g]?).map (·.type)=some t∧w.var? P name=some cs∧DataW.trod (fun _=>()) P w 0 (fun _=>true) false fuel t cs.toList=some (d,p)
 | [],ps,_,hm=>by simp at hm
 | (n,d')::r,ps,h,hm=>by
  obtain ⟨g,t,cs,fuel,p,q,h1,h2,h3,h4,h5,_⟩:=h
  rcases List.mem_cons.1 hm with e | hm
  ·cases e; exact ⟨g,t,cs,fuel,p,h1,h2,h3,h4⟩
  ·exact ADm h5 hm
theorem AuD {laid:List (String×DataW Unit)} (h:laidMet P laid w) {name:String} {ds:List (DataW Unit)} (hm:(name,DataW.agg ds)∈laid) {g:Nat} {t e:TypeId} {n:Nat} {vs:List Value} (hg:P.globalNamed name=some g) (hty:(P.globals[g]?).map (·.type)=some t)
  (ht:P.underlying t=some (.array n e)) (he:Bmw P e=true) (hce:P.cellsOf e=1) (hct:P.cellsOf t=n) (hv:ds.map Bv8=vs.map some):∃ tt fr,w.heap[g]?=some (.cells vs.toArray tt fr):=by
 obtain ⟨ps,h,_⟩:=h
 obtain ⟨g',t',cs,fuel,p,h1,h2,h3,h4⟩:=ADm h hm
 obtain rfl:=Option.some.inj (hg.symm.trans h1)
 obtain rfl:=Option.some.inj (hty.symm.trans h2)
 have:=ACc ht he hce hct hv h4
 have e:cs=vs.toArray:=by rw [←this,Array.toArray_toList]
 rw [e] at h3
 exact AxD hg h3
end
end
section
open Go.RowKit Go.WideShapes Go.ChangeShapes
section
variable {H:Type} {enc:TypeId×Value→H}
theorem AsV {a:Assume} {C:Checked} {os:Os} {f:FuncId} {fn:Func} {s:ChangeSpec} {conds:List PathCond} {apart fresh handsOn again:Bool} {X:World→Array Value→Prop}
  (hX:∀ (w w':World) (args:Array Value),w.heap=w'.heap→X w args→X w' args)
  (own:ownKnob C.prog.godebug=none) (started:os.Started) (noInit:C.prog.inits.idxOf? f=none) (hfn:C.prog.funcs[f]?=some fn)
  (witness:∃ (w:World) (tape:Tape) (i:Input),w.os=os∧(w.forCall tape i).Shaped C.prog∧i.vars=[]∧Input.okWide C.prog (w.forCall tape i) .any w.heap.size f i ∧
   ((s.pre enc C.prog fn conds apart (w.forCall tape i).memory i.args∧X (w.forCall tape i).memory i.args)∧sizedMet enc C.prog fn (OpenSpec.ofChange s) apart (w.forCall tape i).memory i.args)∧a.holds C.prog (lone (Frame.enter C.prog f i.args .normal) [] (w.forCall tape i)))
  (contract:∀ (W:World) (base:Nat) (args:Array Value) (ds gs:List (DataW H)) (before:List MemPlace),
   (∀ (j:Nat) t v,fn.params[j]?=some t→args[j]?=some v→Value.okWide C.prog W .any base t v) →
   DataW.Whole enc C.prog fn.params.toList s.vars apart W args.toList ds gs before →
   conds.all (PathCond.test C.prog ⟨fn.params.toList,ds,s.plain.varTypes C.prog,gs⟩)=true →
   (DataW.weightsEach C.prog (fn.params.toList++s.plain.varTypes C.prog) (ds++gs)).all (· ≤ reachBytes)=true→X W args →
   W.ShapedOpen C.prog →
   a.holds C.prog (lone (Frame.enter C.prog f args .normal) [] W) →
   Calls C.prog f args W fun e W'=>∃ v,e = .returned v∧s.post enc C.prog fn apart fresh handsOn again W args v W') :
  ReturnsInHanded a C os f .any (fun w args=>(s.pre enc C.prog fn conds apart w args∧X w args)∧sizedMet enc C.prog fn (OpenSpec.ofChange s) apart w args) (s.post enc C.prog fn apart fresh handsOn again):=by
 refine returnsInHanded_of_calls own started noInit witness ?_
 intro w tape i _ hsh _ hok hpre hholds
 obtain ⟨_,_,_,fn',hfn',_,_,_,_,hval⟩:=hok
 have e:fn'=fn:=Option.some.inj (hfn'.symm.trans hfn)
 subst e
 obtain ⟨⟨⟨ds,gs,before,hw,hc⟩,hx⟩,hz⟩:=hpre
 have hw':=DataW.Whole.of_heap (w':=w.forCall tape i) (by rfl) hw
 refine (contract (w.forCall tape i) w.heap.size i.args ds gs before hval hw' hc (hz.weights hw) (hX _ _ _ (by rfl) hx) hsh hholds).mono fun e W' ⟨v,he,hp⟩ => ?_
 subst he
 exact ChangeSpec.post_blind hp
end
theorem AxS {P:Program} {w:World} {g:Nat} {t:TypeId} {zero:Array Value} {k:IntKind} (h:w.ShapedOpen P) (hg:g<P.globals.size)
  (h0:((begin P (fun _ _=>0) default).world.heap[g]?).bind Obj.row?=some (zero,t)) (hz:zero.size=1)
  (hb:P.buildable t=true) (hc:P.cellTypes P.depth t=some [t]) (hu:P.underlying t=some (.int k)):∃ m tt fr,w.heap[g]?=some (.cells #[.int k m] tt fr):=by
 obtain ⟨m,hm⟩:=cell_of_shapedOpen_int h hg h0 hz hb hc hu
 obtain ⟨cs,hh,hs,_⟩:=h.1 g zero t hg h0
 have h1:cs[0]?=some (.int k m):=by simpa [World.cell?,hh] using hm
 have e:cs = #[.int k m]:=by
  apply Array.ext
  ·rw [hs,hz]; rfl
  ·intro i h2 h3
   have hi:i=0:=by simpa using h3
   subst hi
   have:=(Array.getElem?_eq_some_iff.1 h1).2
   simpa using this
 rw [e] at hh
 exact ⟨m,_,_,hh⟩
end
section
open Go.RowKit
variable [Cc]
set_option maxRecDepth 100000 in
theorem AEa:Ah2 Tryz.prog 66 (fun o:Int×List UInt8 => .agg [i64 o.1,slB o.2]) (fun o=>(-9223372036854775808≤o.1∧o.1≤9223372036854775807)∧o.2.length≤140737488351232):=by
 refine AlX (AxM Tryz.underlying66 (by kernel_rfl) (Atq (off:=0) (n:=1) rfl (by kernel_rfl) (AEI Tryz.underlying24) (Atq (off:=1) (n:=1) rfl (by kernel_rfl)
  (AAk Tryz.underlying29 Tryz.underlying5 (by kernel_rfl) (by kernel_rfl)) ACa))) fun x h => ?_
 obtain ⟨k,d,u⟩:=x
 exact ⟨(k,d),rfl,h.1,h.2.1⟩
end
end Go.Proofs.YtliaddbbmnfioaaGreatDoor
namespace Go.Proofs
open Go.Shelf
def Tryz.lays160_ren:Go.Shelf.Ren:=⟨fun | 160=>59 | 232=>94 | 231=>93 | 227=>95 | 234=>97 | 233=>96 | 236=>99 | 235=>98 | 228=>130 | 271=>133 | 151=>132 | 197=>131 | 120=>164 | 152=>157 | 260=>163 | 137=>136 | 119=>175 | 224=>149 | 225=>166 | 217=>165 | 266=>178 | n=>n,fun | 9=>9 | 4=>4 | 3=>3 | 5=>5 | 117=>169 | 116=>168 | 0=>0 | 124=>172 | 21=>21 | 105=>213 | 46=>123 | 119=>247 | 139=>250 | 138=>249 | n=>n,fun | 3=>6 | 4=>7 | n=>n⟩
theorem Tryz.lays160:Go.Proofs.Lays.n160 Tryz.prog Tryz.lays160_ren:={
 mixed:=by kernel_rfl
 f119:=Tryz.func175.trans (congrArg some (by kernel_rfl))
 f120:=Tryz.func164.trans (congrArg some (by kernel_rfl))
 f137:=Tryz.func136.trans (congrArg some (by kernel_rfl))
 f151:=Tryz.func132.trans (congrArg some (by kernel_rfl))
 f152:=Tryz.func157.trans (congrArg some (by kernel_rfl))
 f160:=Tryz.func59.trans (congrArg some (by kernel_rfl))
 f197:=Tryz.func131.trans (congrArg some (by kernel_rfl))
 f217:=Tryz.func165.trans (congrArg some (by kernel_rfl))
 f224:=Tryz.func149.trans (congrArg some (by kernel_rfl))
 f225:=Tryz.func166.trans (congrArg some (by kernel_rfl))
 f227:=Tryz.func95.trans (congrArg some (by kernel_rfl))
 f228:=Tryz.func130.trans (congrArg some (by kernel_rfl))
 f231:=Tryz.func93.trans (congrArg some (by kernel_rfl))
 f232:=Tryz.func94.trans (congrArg some (by kernel_rfl))
 f233:=Tryz.func96.trans (congrArg some (by kernel_rfl))
 f234:=Tryz.func97.trans (congrArg some (by kernel_rfl))
 f235:=Tryz.func98.trans (congrArg some (by kernel_rfl))
 f236:=Tryz.func99.trans (congrArg some (by kernel_rfl))
 f260:=Tryz.func163.trans (congrArg some (by kernel_rfl))
 f266:=Tryz.func178.trans (congrArg some (by kernel_rfl))
 f271:=Tryz.func133.trans (congrArg some (by kernel_rfl))
 t0:=Tryz.underlying0
 a0:=Tryz.isAgg0
 z0:=Tryz.sizeOf0
 v0:=Tryz.zeroValue0
 t3:=Tryz.underlying3
 a3:=Tryz.isAgg3
 z3:=Tryz.sizeOf3
 v3:=Tryz.zeroValue3
 t4:=Tryz.underlying4
 a4:=Tryz.isAgg4
 z4:=Tryz.sizeOf4
 v4:=Tryz.zeroValue4
 t5:=Tryz.underlying5
 a5:=Tryz.isAgg5
 z5:=Tryz.sizeOf5
 v5:=Tryz.zeroValue5
 t9:=Tryz.underlying9
 a9:=Tryz.isAgg9
 z9:=Tryz.sizeOf9
 v9:=Tryz.zeroValue9
 t21:=Tryz.underlying21
 a21:=Tryz.isAgg21
 z21:=Tryz.sizeOf21
 v21:=Tryz.zeroValue21
 t46:=Tryz.underlying123
 a46:=Tryz.isAgg123
 z46:=Tryz.sizeOf123
 v46:=Tryz.zeroValue123
 t105:=Tryz.underlying213
 a105:=Tryz.isAgg213
 z105:=Tryz.sizeOf213
 v105:=Tryz.zeroValue213
 t116:=Tryz.underlying168
 a116:=Tryz.isAgg168
 z116:=Tryz.sizeOf168
 t117:=Tryz.underlying169
 a117:=Tryz.isAgg169
 z117:=Tryz.sizeOf169
 v117:=Tryz.zeroValue169
 t119:=Tryz.underlying247
 a119:=Tryz.isAgg247
 z119:=Tryz.sizeOf247
 t124:=Tryz.underlying172
 a124:=Tryz.isAgg172
 z124:=Tryz.sizeOf172
 v124:=Tryz.zeroValue172
 t138:=Tryz.underlying249
 a138:=Tryz.isAgg249
 z138:=Tryz.sizeOf249
 v138:=Tryz.zeroValue249
 t139:=Tryz.underlying250
 a139:=Tryz.isAgg250
 z139:=Tryz.sizeOf250
 v139:=Tryz.zeroValue250
 g3:=by kernel_rfl
 g4:=by kernel_rfl }
open Go.RowKit in
theorem Tryz.strings_Trim_one (s:ByteArray) (c:UInt8) (hc:c.toNat<128) (w:World) (hs:s.size≤9223372036854775807) :
  Calls Tryz.prog 59 #[.string s,.string ⟨#[c]⟩] w fun e w'=>e = .returned (.string ⟨(Lib.trimB s.data.toList c).toArray⟩)∧(w'=w∨w'=w.drew):=Any.strings_Trim_one Tryz.lays160 s c hc w hs
def Tryz.lays119_ren:Go.Shelf.Ren:=⟨fun | 119=>175 | n=>n,fun | 21=>21 | 4=>4 | n=>n,fun | n=>n⟩
theorem Tryz.lays119:Go.Proofs.Lays.n119 Tryz.prog Tryz.lays119_ren:={
 mixed:=by kernel_rfl
 f119:=Tryz.func175.trans (congrArg some (by kernel_rfl))
 t4:=Tryz.underlying4
 a4:=Tryz.isAgg4
 z4:=Tryz.sizeOf4
 v4:=Tryz.zeroValue4
 t21:=Tryz.underlying21
 a21:=Tryz.isAgg21
 z21:=Tryz.sizeOf21
 v21:=Tryz.zeroValue21 }
theorem Tryz.utf8_ValidRune (r:Int) (w:World) :
  Calls Tryz.prog 175 #[.int .i32 r] w fun e w'=>e = .returned (.bool (Lib.validRune r))∧w'=w:=Any.utf8_ValidRune Tryz.lays119 r w
def Tryz.lays106_ren:Go.Shelf.Ren:=⟨fun | 106=>85 | 213=>120 | 265=>145 | n=>n,fun | 9=>9 | 3=>3 | n=>n,fun | n=>n⟩
theorem Tryz.lays106:Go.Proofs.Lays.n106 Tryz.prog Tryz.lays106_ren:={
 mixed:=by kernel_rfl
 f106:=Tryz.func85.trans (congrArg some (by kernel_rfl))
 f213:=Tryz.func120.trans (congrArg some (by kernel_rfl))
 f265:=Tryz.func145.trans (congrArg some (by kernel_rfl))
 t3:=Tryz.underlying3
 a3:=Tryz.isAgg3
 z3:=Tryz.sizeOf3
 v3:=Tryz.zeroValue3
 t9:=Tryz.underlying9
 a9:=Tryz.isAgg9
 z9:=Tryz.sizeOf9
 v9:=Tryz.zeroValue9 }
open Go.RowKit in
theorem Tryz.strings_Compare (a b:ByteArray) (w:World) :
  Calls Tryz.prog 85 #[.string a,.string b] w fun e w'=>e = .returned (.int .i64 (Lib.compareBytes a.data.toList b.data.toList))∧w'=w:=Any.strings_Compare Tryz.lays106 a b w
def Tryz.lays137_ren:Go.Shelf.Ren:=⟨fun | 137=>136 | 217=>165 | 266=>178 | n=>n,fun | 9=>9 | 5=>5 | 3=>3 | n=>n,fun | n=>n⟩
theorem Tryz.lays137:Go.Proofs.Lays.n137 Tryz.prog Tryz.lays137_ren:={
 mixed:=by kernel_rfl
 f137:=Tryz.func136.trans (congrArg some (by kernel_rfl))
 f217:=Tryz.func165.trans (congrArg some (by kernel_rfl))
 f266:=Tryz.func178.trans (congrArg some (by kernel_rfl))
 t3:=Tryz.underlying3
 a3:=Tryz.isAgg3
 z3:=Tryz.sizeOf3
 v3:=Tryz.zeroValue3
 t5:=Tryz.underlying5
 a5:=Tryz.isAgg5
 z5:=Tryz.sizeOf5
 v5:=Tryz.zeroValue5
 t9:=Tryz.underlying9
 a9:=Tryz.isAgg9
 z9:=Tryz.sizeOf9
 v9:=Tryz.zeroValue9 }
open Go.RowKit in
theorem Tryz.strings_IndexByte (s:ByteArray) (c:Int) (w:World) :
  Calls Tryz.prog 136 #[.string s,.int .u8 c] w fun e w'=>e = .returned (.int .i64 (Lib.indexByte s.data.toList c.toNat.toUInt8))∧w'=w:=Any.strings_IndexByte Tryz.lays137 s c w
def Tryz.lays103_ren:Go.Shelf.Ren:=⟨fun | 103=>107 | 210=>138 | 206=>169 | n=>n,fun | 9=>9 | 4=>4 | 24=>76 | 3=>3 | n=>n,fun | n=>n⟩
theorem Tryz.lays103:Go.Proofs.Lays.n103 Tryz.prog Tryz.lays103_ren:={
 mixed:=by kernel_rfl
 f103:=Tryz.func107.trans (congrArg some (by kernel_rfl))
 f206:=Tryz.func169.trans (congrArg some (by kernel_rfl))
 f210:=Tryz.func138.trans (congrArg some (by kernel_rfl))
 t3:=Tryz.underlying3
 a3:=Tryz.isAgg3
 z3:=Tryz.sizeOf3
 v3:=Tryz.zeroValue3
 t4:=Tryz.underlying4
 a4:=Tryz.isAgg4
 z4:=Tryz.sizeOf4
 v4:=Tryz.zeroValue4
 t9:=Tryz.underlying9
 a9:=Tryz.isAgg9
 z9:=Tryz.sizeOf9
 v9:=Tryz.zeroValue9
 t24:=Tryz.underlying76
 a24:=Tryz.isAgg76
 z24:=Tryz.sizeOf76
 v24:=Tryz.zeroValue76 }
open Go.RowKit in
theorem Tryz.strings_CutPrefix (s p:ByteArray) (w:World) :
  Calls Tryz.prog 107 #[.string s,.string p] w fun e w'=>e = .returned (.tuple #[.string ⟨(Lib.trimPrefix s.data.toList p.data.toList).toArray⟩,.bool (Lib.hasPrefix s.data.toList p.data.toList)])∧w'=w:=Any.strings_CutPrefix Tryz.lays103 s p w
def Tryz.lays283_ren:Go.Shelf.Ren:=⟨fun | 283=>126 | n=>n,fun | 3=>3 | 9=>9 | 4=>4 | n=>n,fun | n=>n⟩
theorem Tryz.lays283:Go.Proofs.Lays.n283 Tryz.prog Tryz.lays283_ren:={
 mixed:=by kernel_rfl
 f283:=Tryz.func126.trans (congrArg some (by kernel_rfl))
 t3:=Tryz.underlying3
 a3:=Tryz.isAgg3
 z3:=Tryz.sizeOf3
 v3:=Tryz.zeroValue3
 t4:=Tryz.underlying4
 a4:=Tryz.isAgg4
 z4:=Tryz.sizeOf4
 v4:=Tryz.zeroValue4
 t9:=Tryz.underlying9
 a9:=Tryz.isAgg9
 z9:=Tryz.sizeOf9
 v9:=Tryz.zeroValue9 }
open Go.Lib in
theorem Tryz.internal_strconv_small (i:Nat) (h:i<100) (w:World) :
  Calls Tryz.prog 126 #[.int .i64 i] w fun e w'=>e = .returned (.string ⟨(Lib.decDigits i).toArray⟩)∧w'=w:=Any.internal_strconv_small Tryz.lays283 i h w
def Tryz.laysM284_ren:Go.Shelf.Ren:=⟨fun | 284=>127 | 129=>119 | 317=>159 | 318=>160 | n=>n,fun | 53=>163 | 3=>3 | 212=>235 | 0=>0 | 4=>4 | 46=>123 | 5=>5 | 9=>9 | n=>n,fun | 17=>3 | n=>n⟩
theorem Tryz.laysM284:Go.Proofs.LaysM.n284 Tryz.prog Tryz.laysM284_ren:={
 mixed:=by kernel_rfl
 f129:=Tryz.func119.trans (congrArg some (by kernel_rfl))
 f284:=Tryz.func127.trans (congrArg some (by kernel_rfl))
 f317:=Tryz.func159.trans (congrArg some (by kernel_rfl))
 f318:=Tryz.func160.trans (congrArg some (by kernel_rfl))
 t0:=Tryz.underlying0
 a0:=Tryz.isAgg0
 z0:=Tryz.sizeOf0
 v0:=Tryz.zeroValue0
 t3:=Tryz.underlying3
 a3:=Tryz.isAgg3
 z3:=Tryz.sizeOf3
 v3:=Tryz.zeroValue3
 t4:=Tryz.underlying4
 a4:=Tryz.isAgg4
 z4:=Tryz.sizeOf4
 v4:=Tryz.zeroValue4
 t5:=Tryz.underlying5
 a5:=Tryz.isAgg5
 z5:=Tryz.sizeOf5
 v5:=Tryz.zeroValue5
 t9:=Tryz.underlying9
 a9:=Tryz.isAgg9
 z9:=Tryz.sizeOf9
 v9:=Tryz.zeroValue9
 t46:=Tryz.underlying123
 a46:=Tryz.isAgg123
 z46:=Tryz.sizeOf123
 v46:=Tryz.zeroValue123
 t53:=Tryz.underlying163
 a53:=Tryz.isAgg163
 z53:=Tryz.sizeOf163
 v53:=Tryz.zeroValue163
 t212:=Tryz.underlying235
 a212:=Tryz.isAgg235
 z212:=Tryz.sizeOf235
 v212:=Tryz.zeroValue235
 g17:=by kernel_rfl
 i0:=by kernel_rfl
 i3:=by kernel_rfl
 i4:=by kernel_rfl
 i5:=by kernel_rfl
 i9:=by kernel_rfl
 i46:=by kernel_rfl
 i53:=by kernel_rfl
 i212:=by kernel_rfl
 m17:=by kernel_rfl }
open Go.Lib in
theorem Tryz.internal_strconv_numDigits (u:Nat) (h1:1≤u) (h2:u<18446744073709551616) (w:World) (htab:Lib.TabIs Tryz.prog w "internal/strconv.uint64pow10" .u64 Lib.pow10Tab) :
  Calls Tryz.prog 127 #[.int .u64 u] w fun e w'=>e = .returned (.int .i64 (Lib.nDigits u))∧w'=w:=Any.internal_strconv_numDigits Tryz.laysM284 u h1 h2 w htab
def Tryz.laysM171_ren:Go.Shelf.Ren:=⟨fun | 171=>57 | 243=>91 | 246=>92 | 283=>126 | 284=>127 | 285=>128 | 286=>129 | 129=>119 | 317=>159 | 318=>160 | 319=>161 | 320=>162 | 337=>176 | 338=>177 | n=>n,fun | 3=>3 | 9=>9 | 2=>2 | 4=>4 | 171=>208 | 0=>0 | 53=>163 | 37=>29 | 5=>5 | 173=>210 | 212=>235 | 51=>203 | 20=>20 | 213=>236 | 46=>123 | 232=>255 | 233=>256 | n=>n,fun | 17=>3 | 18=>8 | 19=>9 | n=>n⟩
theorem Tryz.laysM171:Go.Proofs.LaysM.n171 Tryz.prog Tryz.laysM171_ren:={
 mixed:=by kernel_rfl
 f129:=Tryz.func119.trans (congrArg some (by kernel_rfl))
 f171:=Tryz.func57.trans (congrArg some (by kernel_rfl))
 f243:=Tryz.func91.trans (congrArg some (by kernel_rfl))
 f246:=Tryz.func92.trans (congrArg some (by kernel_rfl))
 f283:=Tryz.func126.trans (congrArg some (by kernel_rfl))
 f284:=Tryz.func127.trans (congrArg some (by kernel_rfl))
 f285:=Tryz.func128.trans (congrArg some (by kernel_rfl))
 f286:=Tryz.func129.trans (congrArg some (by kernel_rfl))
 f317:=Tryz.func159.trans (congrArg some (by kernel_rfl))
 f318:=Tryz.func160.trans (congrArg some (by kernel_rfl))
 f319:=Tryz.func161.trans (congrArg some (by kernel_rfl))
 f320:=Tryz.func162.trans (congrArg some (by kernel_rfl))
 f337:=Tryz.func176.trans (congrArg some (by kernel_rfl))
 f338:=Tryz.func177.trans (congrArg some (by kernel_rfl))
 t0:=Tryz.underlying0
 a0:=Tryz.isAgg0
 z0:=Tryz.sizeOf0
 v0:=Tryz.zeroValue0
 t2:=Tryz.underlying2
 a2:=Tryz.isAgg2
 z2:=Tryz.sizeOf2
 v2:=Tryz.zeroValue2
 t3:=Tryz.underlying3
 a3:=Tryz.isAgg3
 z3:=Tryz.sizeOf3
 v3:=Tryz.zeroValue3
 t4:=Tryz.underlying4
 a4:=Tryz.isAgg4
 z4:=Tryz.sizeOf4
 v4:=Tryz.zeroValue4
 t5:=Tryz.underlying5
 a5:=Tryz.isAgg5
 z5:=Tryz.sizeOf5
 v5:=Tryz.zeroValue5
 t9:=Tryz.underlying9
 a9:=Tryz.isAgg9
 z9:=Tryz.sizeOf9
 v9:=Tryz.zeroValue9
 t20:=Tryz.underlying20
 a20:=Tryz.isAgg20
 z20:=Tryz.sizeOf20
 v20:=Tryz.zeroValue20
 t37:=Tryz.underlying29
 a37:=Tryz.isAgg29
 z37:=Tryz.sizeOf29
 v37:=Tryz.zeroValue29
 t46:=Tryz.underlying123
 a46:=Tryz.isAgg123
 z46:=Tryz.sizeOf123
 v46:=Tryz.zeroValue123
 t51:=Tryz.underlying203
 a51:=Tryz.isAgg203
 z51:=Tryz.sizeOf203
 v51:=Tryz.zeroValue203
 t53:=Tryz.underlying163
 a53:=Tryz.isAgg163
 z53:=Tryz.sizeOf163
 v53:=Tryz.zeroValue163
 t171:=Tryz.underlying208
 a171:=Tryz.isAgg208
 z171:=Tryz.sizeOf208
 v171:=Tryz.zeroValue208
 t173:=Tryz.underlying210
 a173:=Tryz.isAgg210
 z173:=Tryz.sizeOf210
 v173:=Tryz.zeroValue210
 t212:=Tryz.underlying235
 a212:=Tryz.isAgg235
 z212:=Tryz.sizeOf235
 v212:=Tryz.zeroValue235
 t213:=Tryz.underlying236
 a213:=Tryz.isAgg236
 z213:=Tryz.sizeOf236
 t232:=Tryz.underlying255
 a232:=Tryz.isAgg255
 z232:=Tryz.sizeOf255
 v232:=Tryz.zeroValue255
 t233:=Tryz.underlying256
 a233:=Tryz.isAgg256
 z233:=Tryz.sizeOf256
 v233:=Tryz.zeroValue256
 g17:=by kernel_rfl
 g18:=by kernel_rfl
 g19:=by kernel_rfl
 i0:=by kernel_rfl
 i2:=by kernel_rfl
 i3:=by kernel_rfl
 i4:=by kernel_rfl
 i5:=by kernel_rfl
 i9:=by kernel_rfl
 i20:=by kernel_rfl
 i37:=by kernel_rfl
 i46:=by kernel_rfl
 i51:=by kernel_rfl
 i53:=by kernel_rfl
 i171:=by kernel_rfl
 i173:=by kernel_rfl
 i212:=by kernel_rfl
 i232:=by kernel_rfl
 i233:=by kernel_rfl
 m17:=by kernel_rfl
 m18:=by kernel_rfl
 m19:=by kernel_rfl }
open Go.RowKit Go.Sort Go.Lib in
theorem Tryz.strconv_Itoa (n:Int) (h0 : -9223372036854775808≤n) (h1:n≤9223372036854775807) (w:World) (htab:Lib.TabIs Tryz.prog w "internal/strconv.uint64pow10" .u64 Lib.pow10Tab) :
  Calls Tryz.prog 57 #[.int .i64 n] w fun e w'=>e = .returned (.string ⟨(Lib.itoa n).toArray⟩)∧∃ k os,w'=grow (w.drewN k) os:=Any.strconv_Itoa Tryz.laysM171 n h0 h1 w htab
def Tryz.laysM173_ren:Go.Shelf.Ren:=⟨fun | 173=>58 | 246=>92 | 283=>126 | 284=>127 | 285=>128 | 286=>129 | 129=>119 | 317=>159 | 318=>160 | 319=>161 | 320=>162 | 337=>176 | 338=>177 | n=>n,fun | 2=>2 | 3=>3 | 9=>9 | 4=>4 | 171=>208 | 0=>0 | 53=>163 | 37=>29 | 5=>5 | 173=>210 | 212=>235 | 51=>203 | 20=>20 | 213=>236 | 46=>123 | 232=>255 | 233=>256 | n=>n,fun | 17=>3 | 18=>8 | 19=>9 | n=>n⟩
theorem Tryz.laysM173:Go.Proofs.LaysM.n173 Tryz.prog Tryz.laysM173_ren:={
 mixed:=by kernel_rfl
 f129:=Tryz.func119.trans (congrArg some (by kernel_rfl))
 f173:=Tryz.func58.trans (congrArg some (by kernel_rfl))
 f246:=Tryz.func92.trans (congrArg some (by kernel_rfl))
 f283:=Tryz.func126.trans (congrArg some (by kernel_rfl))
 f284:=Tryz.func127.trans (congrArg some (by kernel_rfl))
 f285:=Tryz.func128.trans (congrArg some (by kernel_rfl))
 f286:=Tryz.func129.trans (congrArg some (by kernel_rfl))
 f317:=Tryz.func159.trans (congrArg some (by kernel_rfl))
 f318:=Tryz.func160.trans (congrArg some (by kernel_rfl))
 f319:=Tryz.func161.trans (congrArg some (by kernel_rfl))
 f320:=Tryz.func162.trans (congrArg some (by kernel_rfl))
 f337:=Tryz.func176.trans (congrArg some (by kernel_rfl))
 f338:=Tryz.func177.trans (congrArg some (by kernel_rfl))
 t0:=Tryz.underlying0
 a0:=Tryz.isAgg0
 z0:=Tryz.sizeOf0
 v0:=Tryz.zeroValue0
 t2:=Tryz.underlying2
 a2:=Tryz.isAgg2
 z2:=Tryz.sizeOf2
 v2:=Tryz.zeroValue2
 t3:=Tryz.underlying3
 a3:=Tryz.isAgg3
 z3:=Tryz.sizeOf3
 v3:=Tryz.zeroValue3
 t4:=Tryz.underlying4
 a4:=Tryz.isAgg4
 z4:=Tryz.sizeOf4
 v4:=Tryz.zeroValue4
 t5:=Tryz.underlying5
 a5:=Tryz.isAgg5
 z5:=Tryz.sizeOf5
 v5:=Tryz.zeroValue5
 t9:=Tryz.underlying9
 a9:=Tryz.isAgg9
 z9:=Tryz.sizeOf9
 v9:=Tryz.zeroValue9
 t20:=Tryz.underlying20
 a20:=Tryz.isAgg20
 z20:=Tryz.sizeOf20
 v20:=Tryz.zeroValue20
 t37:=Tryz.underlying29
 a37:=Tryz.isAgg29
 z37:=Tryz.sizeOf29
 v37:=Tryz.zeroValue29
 t46:=Tryz.underlying123
 a46:=Tryz.isAgg123
 z46:=Tryz.sizeOf123
 v46:=Tryz.zeroValue123
 t51:=Tryz.underlying203
 a51:=Tryz.isAgg203
 z51:=Tryz.sizeOf203
 v51:=Tryz.zeroValue203
 t53:=Tryz.underlying163
 a53:=Tryz.isAgg163
 z53:=Tryz.sizeOf163
 v53:=Tryz.zeroValue163
 t171:=Tryz.underlying208
 a171:=Tryz.isAgg208
 z171:=Tryz.sizeOf208
 v171:=Tryz.zeroValue208
 t173:=Tryz.underlying210
 a173:=Tryz.isAgg210
 z173:=Tryz.sizeOf210
 v173:=Tryz.zeroValue210
 t212:=Tryz.underlying235
 a212:=Tryz.isAgg235
 z212:=Tryz.sizeOf235
 v212:=Tryz.zeroValue235
 t213:=Tryz.underlying236
 a213:=Tryz.isAgg236
 z213:=Tryz.sizeOf236
 t232:=Tryz.underlying255
 a232:=Tryz.isAgg255
 z232:=Tryz.sizeOf255
 v232:=Tryz.zeroValue255
 t233:=Tryz.underlying256
 a233:=Tryz.isAgg256
 z233:=Tryz.sizeOf256
 v233:=Tryz.zeroValue256
 g17:=by kernel_rfl
 g18:=by kernel_rfl
 g19:=by kernel_rfl
 i0:=by kernel_rfl
 i2:=by kernel_rfl
 i3:=by kernel_rfl
 i4:=by kernel_rfl
 i5:=by kernel_rfl
 i9:=by kernel_rfl
 i20:=by kernel_rfl
 i37:=by kernel_rfl
 i46:=by kernel_rfl
 i51:=by kernel_rfl
 i53:=by kernel_rfl
 i171:=by kernel_rfl
 i173:=by kernel_rfl
 i212:=by kernel_rfl
 i232:=by kernel_rfl
 i233:=by kernel_rfl
 m17:=by kernel_rfl
 m18:=by kernel_rfl
 m19:=by kernel_rfl }
open Go.RowKit Go.Sort Go.Lib in
theorem Tryz.strconv_FormatInt_10 (n:Int) (h0 : -9223372036854775808≤n) (h1:n≤9223372036854775807) (w:World) (htab:Lib.TabIs Tryz.prog w "internal/strconv.uint64pow10" .u64 Lib.pow10Tab) :
  Calls Tryz.prog 58 #[.int .i64 n,.int .i64 10] w fun e w'=>e = .returned (.string ⟨(Lib.itoa n).toArray⟩)∧∃ k os,w'=grow (w.drewN k) os:=Any.strconv_FormatInt_10 Tryz.laysM173 n h0 h1 w htab
def Tryz.laysC245_ren:Go.Shelf.Ren:=⟨fun | 245=>124 | 279=>153 | 280=>154 | 281=>155 | 282=>156 | 316=>173 | 171=>57 | 205=>174 | 243=>91 | 246=>92 | 283=>126 | 284=>127 | 285=>128 | 286=>129 | 129=>119 | 317=>159 | 318=>160 | 319=>161 | 320=>162 | 337=>176 | 338=>177 | n=>n,fun | 9=>9 | 3=>3 | 75=>31 | 167=>228 | 4=>4 | 168=>229 | 210=>244 | 37=>29 | 0=>0 | 127=>173 | 145=>254 | 143=>252 | 2=>2 | 171=>208 | 53=>163 | 5=>5 | 173=>210 | 212=>235 | 51=>203 | 20=>20 | 213=>236 | 46=>123 | 232=>255 | 233=>256 | 80=>121 | n=>n,fun | 15=>4 | 16=>5 | 17=>3 | 18=>8 | 19=>9 | n=>n⟩
theorem Tryz.laysC245:Go.Proofs.LaysC.n245 Tryz.prog Tryz.laysC245_ren:={
 mixed:=by kernel_rfl
 f129:=Tryz.func119.trans (congrArg some (by kernel_rfl))
 f171:=Tryz.func57.trans (congrArg some (by kernel_rfl))
 f205:=Tryz.func174.trans (congrArg some (by kernel_rfl))
 f243:=Tryz.func91.trans (congrArg some (by kernel_rfl))
 f245:=Tryz.func124.trans (congrArg some (by kernel_rfl))
 f246:=Tryz.func92.trans (congrArg some (by kernel_rfl))
 f279:=Tryz.func153.trans (congrArg some (by kernel_rfl))
 f280:=Tryz.func154.trans (congrArg some (by kernel_rfl))
 f281:=Tryz.func155.trans (congrArg some (by kernel_rfl))
 f282:=Tryz.func156.trans (congrArg some (by kernel_rfl))
 f283:=Tryz.func126.trans (congrArg some (by kernel_rfl))
 f284:=Tryz.func127.trans (congrArg some (by kernel_rfl))
 f285:=Tryz.func128.trans (congrArg some (by kernel_rfl))
 f286:=Tryz.func129.trans (congrArg some (by kernel_rfl))
 f316:=Tryz.func173.trans (congrArg some (by kernel_rfl))
 f317:=Tryz.func159.trans (congrArg some (by kernel_rfl))
 f318:=Tryz.func160.trans (congrArg some (by kernel_rfl))
 f319:=Tryz.func161.trans (congrArg some (by kernel_rfl))
 f320:=Tryz.func162.trans (congrArg some (by kernel_rfl))
 f337:=Tryz.func176.trans (congrArg some (by kernel_rfl))
 f338:=Tryz.func177.trans (congrArg some (by kernel_rfl))
 t0:=Tryz.underlying0
 a0:=Tryz.isAgg0
 z0:=Tryz.sizeOf0
 v0:=Tryz.zeroValue0
 t2:=Tryz.underlying2
 a2:=Tryz.isAgg2
 z2:=Tryz.sizeOf2
 v2:=Tryz.zeroValue2
 t3:=Tryz.underlying3
 a3:=Tryz.isAgg3
 z3:=Tryz.sizeOf3
 v3:=Tryz.zeroValue3
 t4:=Tryz.underlying4
 a4:=Tryz.isAgg4
 z4:=Tryz.sizeOf4
 v4:=Tryz.zeroValue4
 t5:=Tryz.underlying5
 a5:=Tryz.isAgg5
 z5:=Tryz.sizeOf5
 v5:=Tryz.zeroValue5
 t9:=Tryz.underlying9
 a9:=Tryz.isAgg9
 z9:=Tryz.sizeOf9
 v9:=Tryz.zeroValue9
 t20:=Tryz.underlying20
 a20:=Tryz.isAgg20
 z20:=Tryz.sizeOf20
 v20:=Tryz.zeroValue20
 t37:=Tryz.underlying29
 a37:=Tryz.isAgg29
 z37:=Tryz.sizeOf29
 v37:=Tryz.zeroValue29
 t46:=Tryz.underlying123
 a46:=Tryz.isAgg123
 z46:=Tryz.sizeOf123
 v46:=Tryz.zeroValue123
 t51:=Tryz.underlying203
 a51:=Tryz.isAgg203
 z51:=Tryz.sizeOf203
 v51:=Tryz.zeroValue203
 t53:=Tryz.underlying163
 a53:=Tryz.isAgg163
 z53:=Tryz.sizeOf163
 v53:=Tryz.zeroValue163
 t75:=Tryz.underlying31
 a75:=Tryz.isAgg31
 z75:=Tryz.sizeOf31
 v75:=Tryz.zeroValue31
 t127:=Tryz.underlying173
 a127:=Tryz.isAgg173
 z127:=Tryz.sizeOf173
 v127:=Tryz.zeroValue173
 t143:=Tryz.underlying252
 a143:=Tryz.isAgg252
 z143:=Tryz.sizeOf252
 v143:=Tryz.zeroValue252
 t145:=Tryz.underlying254
 a145:=Tryz.isAgg254
 z145:=Tryz.sizeOf254
 v145:=Tryz.zeroValue254
 t167:=Tryz.underlying228
 a167:=Tryz.isAgg228
 z167:=Tryz.sizeOf228
 v167:=Tryz.zeroValue228
 t168:=Tryz.underlying229
 a168:=Tryz.isAgg229
 z168:=Tryz.sizeOf229
 v168:=Tryz.zeroValue229
 t171:=Tryz.underlying208
 a171:=Tryz.isAgg208
 z171:=Tryz.sizeOf208
 v171:=Tryz.zeroValue208
 t173:=Tryz.underlying210
 a173:=Tryz.isAgg210
 z173:=Tryz.sizeOf210
 v173:=Tryz.zeroValue210
 t210:=Tryz.underlying244
 a210:=Tryz.isAgg244
 z210:=Tryz.sizeOf244
 v210:=Tryz.zeroValue244
 t212:=Tryz.underlying235
 a212:=Tryz.isAgg235
 z212:=Tryz.sizeOf235
 v212:=Tryz.zeroValue235
 t213:=Tryz.underlying236
 a213:=Tryz.isAgg236
 z213:=Tryz.sizeOf236
 t232:=Tryz.underlying255
 a232:=Tryz.isAgg255
 z232:=Tryz.sizeOf255
 v232:=Tryz.zeroValue255
 t233:=Tryz.underlying256
 a233:=Tryz.isAgg256
 z233:=Tryz.sizeOf256
 v233:=Tryz.zeroValue256
 g15:=by kernel_rfl
 g16:=by kernel_rfl
 g17:=by kernel_rfl
 g18:=by kernel_rfl
 g19:=by kernel_rfl
 t80:=Tryz.underlying121
 a80:=Tryz.isAgg121
 z80:=Tryz.sizeOf121
 v80:=Tryz.zeroValue121
 i0:=by kernel_rfl
 i2:=by kernel_rfl
 i3:=by kernel_rfl
 i4:=by kernel_rfl
 i5:=by kernel_rfl
 i9:=by kernel_rfl
 i20:=by kernel_rfl
 i37:=by kernel_rfl
 i46:=by kernel_rfl
 i51:=by kernel_rfl
 i53:=by kernel_rfl
 i75:=by kernel_rfl
 i80:=by kernel_rfl
 i127:=by kernel_rfl
 i143:=by kernel_rfl
 i145:=by kernel_rfl
 i167:=by kernel_rfl
 i168:=by kernel_rfl
 i171:=by kernel_rfl
 i173:=by kernel_rfl
 i210:=by kernel_rfl
 i212:=by kernel_rfl
 i232:=by kernel_rfl
 i233:=by kernel_rfl
 m15:=by kernel_rfl
 m16:=by kernel_rfl
 m17:=by kernel_rfl
 m18:=by kernel_rfl
 m19:=by kernel_rfl
 c0:=by kernel_rfl
 c2:=by kernel_rfl
 c3:=by kernel_rfl
 c4:=by kernel_rfl
 c5:=by kernel_rfl
 c9:=by kernel_rfl
 c20:=by kernel_rfl
 c37:=by kernel_rfl
 c46:=by kernel_rfl
 c51:=by kernel_rfl
 c53:=by kernel_rfl
 c75:=by kernel_rfl
 c80:=by kernel_rfl
 c127:=by kernel_rfl
 c143:=by kernel_rfl
 c145:=by kernel_rfl
 c167:=by kernel_rfl
 c168:=by kernel_rfl
 c171:=by kernel_rfl
 c173:=by kernel_rfl
 c210:=by kernel_rfl
 c212:=by kernel_rfl
 c213:=by kernel_rfl
 c232:=by kernel_rfl
 c233:=by kernel_rfl }
open Go.RowKit in
theorem Tryz.strconv_toError_syntax (fn s:ByteArray) (base bits:Int) (ev:Value) (w:World) (hlim:s.size≤281474976710656) (hv:w.cell? ⟨4,0,none⟩=some ev) (hev:ev = .nilIface∨∃ te pe,ev = .iface te pe) :
  Calls Tryz.prog 124 #[.string fn,.string s,.int .i64 base,.int .i64 bits,.iface 228 (.int .i64 2)] w fun e w'=>∃ N,e = .returned (.iface 229 (.pointer (some ⟨N,0,none⟩)))∧w.heap.size≤N∧w'.heap[N]?=some (.cells #[.string fn,.string s,ev] 244 (0,0))∧Below w.heap.size w w':=Any.strconv_toError_syntax Tryz.laysC245 fn s base bits ev w hlim hv hev
open Go.RowKit in
theorem Tryz.strconv_toError_range (fn s:ByteArray) (base bits:Int) (ev:Value) (w:World) (hlim:s.size≤281474976710656) (hv:w.cell? ⟨5,0,none⟩=some ev) (hev:ev = .nilIface∨∃ te pe,ev = .iface te pe) :
  Calls Tryz.prog 124 #[.string fn,.string s,.int .i64 base,.int .i64 bits,.iface 228 (.int .i64 1)] w fun e w'=>∃ N,e = .returned (.iface 229 (.pointer (some ⟨N,0,none⟩)))∧w.heap.size≤N∧w'.heap[N]?=some (.cells #[.string fn,.string s,ev] 244 (0,0))∧Below w.heap.size w w':=Any.strconv_toError_range Tryz.laysC245 fn s base bits ev w hlim hv hev
def Tryz.lays144_ren:Go.Shelf.Ren:=⟨fun | 144=>60 | 143=>100 | 219=>134 | 217=>165 | 225=>166 | 224=>149 | 267=>167 | 266=>178 | 314=>179 | n=>n,fun | 9=>9 | 4=>4 | 3=>3 | 5=>5 | 46=>123 | 146=>241 | 51=>203 | n=>n,fun | 1=>2 | n=>n⟩
theorem Tryz.lays144:Go.Proofs.Lays.n144 Tryz.prog Tryz.lays144_ren:={
 mixed:=by kernel_rfl
 f143:=Tryz.func100.trans (congrArg some (by kernel_rfl))
 f144:=Tryz.func60.trans (congrArg some (by kernel_rfl))
 f217:=Tryz.func165.trans (congrArg some (by kernel_rfl))
 f219:=Tryz.func134.trans (congrArg some (by kernel_rfl))
 f224:=Tryz.func149.trans (congrArg some (by kernel_rfl))
 f225:=Tryz.func166.trans (congrArg some (by kernel_rfl))
 f266:=Tryz.func178.trans (congrArg some (by kernel_rfl))
 f267:=Tryz.func167.trans (congrArg some (by kernel_rfl))
 f314:=Tryz.func179.trans (congrArg some (by kernel_rfl))
 t3:=Tryz.underlying3
 a3:=Tryz.isAgg3
 z3:=Tryz.sizeOf3
 v3:=Tryz.zeroValue3
 t4:=Tryz.underlying4
 a4:=Tryz.isAgg4
 z4:=Tryz.sizeOf4
 v4:=Tryz.zeroValue4
 t5:=Tryz.underlying5
 a5:=Tryz.isAgg5
 z5:=Tryz.sizeOf5
 v5:=Tryz.zeroValue5
 t9:=Tryz.underlying9
 a9:=Tryz.isAgg9
 z9:=Tryz.sizeOf9
 v9:=Tryz.zeroValue9
 t46:=Tryz.underlying123
 a46:=Tryz.isAgg123
 z46:=Tryz.sizeOf123
 v46:=Tryz.zeroValue123
 t51:=Tryz.underlying203
 a51:=Tryz.isAgg203
 z51:=Tryz.sizeOf203
 v51:=Tryz.zeroValue203
 t146:=Tryz.underlying241
 a146:=Tryz.isAgg241
 z146:=Tryz.sizeOf241
 v146:=Tryz.zeroValue241
 g1:=by kernel_rfl }
open Go.RowKit Go.Lib in
theorem Tryz.strings_Contains_one (s:ByteArray) (c:UInt8) (w:World) :
  Calls Tryz.prog 60 #[.string s,.string ⟨#[c]⟩] w fun e w'=>e = .returned (.bool (decide (0≤Lib.indexByte s.data.toList c)))∧w'=w:=Any.strings_Contains_one Tryz.lays144 s c w
def Tryz.lays145_ren:Go.Shelf.Ren:=⟨fun | 145=>109 | 220=>139 | 219=>134 | 217=>165 | 225=>166 | 224=>149 | 267=>167 | 266=>178 | 314=>179 | n=>n,fun | 9=>9 | 4=>4 | 59=>146 | 3=>3 | 5=>5 | 46=>123 | 146=>241 | 51=>203 | n=>n,fun | 1=>2 | n=>n⟩
theorem Tryz.lays145:Go.Proofs.Lays.n145 Tryz.prog Tryz.lays145_ren:={
 mixed:=by kernel_rfl
 f145:=Tryz.func109.trans (congrArg some (by kernel_rfl))
 f217:=Tryz.func165.trans (congrArg some (by kernel_rfl))
 f219:=Tryz.func134.trans (congrArg some (by kernel_rfl))
 f220:=Tryz.func139.trans (congrArg some (by kernel_rfl))
 f224:=Tryz.func149.trans (congrArg some (by kernel_rfl))
 f225:=Tryz.func166.trans (congrArg some (by kernel_rfl))
 f266:=Tryz.func178.trans (congrArg some (by kernel_rfl))
 f267:=Tryz.func167.trans (congrArg some (by kernel_rfl))
 f314:=Tryz.func179.trans (congrArg some (by kernel_rfl))
 t3:=Tryz.underlying3
 a3:=Tryz.isAgg3
 z3:=Tryz.sizeOf3
 v3:=Tryz.zeroValue3
 t4:=Tryz.underlying4
 a4:=Tryz.isAgg4
 z4:=Tryz.sizeOf4
 v4:=Tryz.zeroValue4
 t5:=Tryz.underlying5
 a5:=Tryz.isAgg5
 z5:=Tryz.sizeOf5
 v5:=Tryz.zeroValue5
 t9:=Tryz.underlying9
 a9:=Tryz.isAgg9
 z9:=Tryz.sizeOf9
 v9:=Tryz.zeroValue9
 t46:=Tryz.underlying123
 a46:=Tryz.isAgg123
 z46:=Tryz.sizeOf123
 v46:=Tryz.zeroValue123
 t51:=Tryz.underlying203
 a51:=Tryz.isAgg203
 z51:=Tryz.sizeOf203
 v51:=Tryz.zeroValue203
 t59:=Tryz.underlying146
 a59:=Tryz.isAgg146
 z59:=Tryz.sizeOf146
 v59:=Tryz.zeroValue146
 t146:=Tryz.underlying241
 a146:=Tryz.isAgg241
 z146:=Tryz.sizeOf241
 v146:=Tryz.zeroValue241
 g1:=by kernel_rfl }
open Go.RowKit Go.Lib in
theorem Tryz.strings_Cut (s sep:ByteArray) (m:Int) (w:World) (hs:s.size<4294967281) (hm:w.cell? ⟨2,0,none⟩=some (.int .i64 m)) :
  Calls Tryz.prog 109 #[.string s,.string sep] w fun e w'=>e = .returned (.tuple #[.string ⟨(Lib.cut s.data.toList sep.data.toList).1.toArray⟩,.string ⟨(Lib.cut s.data.toList sep.data.toList).2.1.toArray⟩,.bool (Lib.cut s.data.toList sep.data.toList).2.2])∧∃ n,w'=w.drewN n:=Any.strings_Cut Tryz.lays145 s sep m w hs hm
def Tryz.lays152_ren:Go.Shelf.Ren:=⟨fun | 152=>157 | 137=>136 | 119=>175 | 224=>149 | 225=>166 | 217=>165 | 266=>178 | n=>n,fun | 9=>9 | 21=>21 | 3=>3 | 4=>4 | 5=>5 | 0=>0 | 46=>123 | n=>n,fun | n=>n⟩
theorem Tryz.lays152:Go.Proofs.Lays.n152 Tryz.prog Tryz.lays152_ren:={
 mixed:=by kernel_rfl
 f119:=Tryz.func175.trans (congrArg some (by kernel_rfl))
 f137:=Tryz.func136.trans (congrArg some (by kernel_rfl))
 f152:=Tryz.func157.trans (congrArg some (by kernel_rfl))
 f217:=Tryz.func165.trans (congrArg some (by kernel_rfl))
 f224:=Tryz.func149.trans (congrArg some (by kernel_rfl))
 f225:=Tryz.func166.trans (congrArg some (by kernel_rfl))
 f266:=Tryz.func178.trans (congrArg some (by kernel_rfl))
 t0:=Tryz.underlying0
 a0:=Tryz.isAgg0
 z0:=Tryz.sizeOf0
 v0:=Tryz.zeroValue0
 t3:=Tryz.underlying3
 a3:=Tryz.isAgg3
 z3:=Tryz.sizeOf3
 v3:=Tryz.zeroValue3
 t4:=Tryz.underlying4
 a4:=Tryz.isAgg4
 z4:=Tryz.sizeOf4
 v4:=Tryz.zeroValue4
 t5:=Tryz.underlying5
 a5:=Tryz.isAgg5
 z5:=Tryz.sizeOf5
 v5:=Tryz.zeroValue5
 t9:=Tryz.underlying9
 a9:=Tryz.isAgg9
 z9:=Tryz.sizeOf9
 v9:=Tryz.zeroValue9
 t21:=Tryz.underlying21
 a21:=Tryz.isAgg21
 z21:=Tryz.sizeOf21
 v21:=Tryz.zeroValue21
 t46:=Tryz.underlying123
 a46:=Tryz.isAgg123
 z46:=Tryz.sizeOf123
 v46:=Tryz.zeroValue123 }
open Go.RowKit Go.Lib in
theorem Tryz.strings_IndexRune_ascii (s:ByteArray) (r:Int) (w:World) (h0:0≤r) (h1:r<128) :
  Calls Tryz.prog 157 #[.string s,.int .i32 r] w fun e w'=>e = .returned (.int .i64 (Lib.indexByte s.data.toList r.toNat.toUInt8))∧w'=w:=Any.strings_IndexRune_ascii Tryz.lays152 s r w h0 h1
def Tryz.lays153_ren:Go.Shelf.Ren:=⟨fun | 153=>125 | 152=>157 | 226=>158 | 227=>95 | 228=>130 | 137=>136 | 119=>175 | 224=>149 | 225=>166 | 217=>165 | 266=>178 | n=>n,fun | 9=>9 | 3=>3 | 4=>4 | 5=>5 | 21=>21 | 117=>169 | 116=>168 | 0=>0 | 46=>123 | 124=>172 | n=>n,fun | n=>n⟩
theorem Tryz.lays153:Go.Proofs.Lays.n153 Tryz.prog Tryz.lays153_ren:={
 mixed:=by kernel_rfl
 f119:=Tryz.func175.trans (congrArg some (by kernel_rfl))
 f137:=Tryz.func136.trans (congrArg some (by kernel_rfl))
 f152:=Tryz.func157.trans (congrArg some (by kernel_rfl))
 f153:=Tryz.func125.trans (congrArg some (by kernel_rfl))
 f217:=Tryz.func165.trans (congrArg some (by kernel_rfl))
 f224:=Tryz.func149.trans (congrArg some (by kernel_rfl))
 f225:=Tryz.func166.trans (congrArg some (by kernel_rfl))
 f226:=Tryz.func158.trans (congrArg some (by kernel_rfl))
 f227:=Tryz.func95.trans (congrArg some (by kernel_rfl))
 f228:=Tryz.func130.trans (congrArg some (by kernel_rfl))
 f266:=Tryz.func178.trans (congrArg some (by kernel_rfl))
 t0:=Tryz.underlying0
 a0:=Tryz.isAgg0
 z0:=Tryz.sizeOf0
 v0:=Tryz.zeroValue0
 t3:=Tryz.underlying3
 a3:=Tryz.isAgg3
 z3:=Tryz.sizeOf3
 v3:=Tryz.zeroValue3
 t4:=Tryz.underlying4
 a4:=Tryz.isAgg4
 z4:=Tryz.sizeOf4
 v4:=Tryz.zeroValue4
 t5:=Tryz.underlying5
 a5:=Tryz.isAgg5
 z5:=Tryz.sizeOf5
 v5:=Tryz.zeroValue5
 t9:=Tryz.underlying9
 a9:=Tryz.isAgg9
 z9:=Tryz.sizeOf9
 v9:=Tryz.zeroValue9
 t21:=Tryz.underlying21
 a21:=Tryz.isAgg21
 z21:=Tryz.sizeOf21
 v21:=Tryz.zeroValue21
 t46:=Tryz.underlying123
 a46:=Tryz.isAgg123
 z46:=Tryz.sizeOf123
 v46:=Tryz.zeroValue123
 t116:=Tryz.underlying168
 a116:=Tryz.isAgg168
 z116:=Tryz.sizeOf168
 t117:=Tryz.underlying169
 a117:=Tryz.isAgg169
 z117:=Tryz.sizeOf169
 v117:=Tryz.zeroValue169
 t124:=Tryz.underlying172
 a124:=Tryz.isAgg172
 z124:=Tryz.sizeOf172
 v124:=Tryz.zeroValue172 }
open Go.RowKit Go.Lib in
theorem Tryz.strings_IndexAny_long (hv116:∀ w,(zeroValue 168).run Tryz.prog w = .ok (.agg (Array.replicate 256 (.bool false))) w) (s chars:ByteArray) (w:World) (h2:2≤chars.size) (h8:8<s.size) (hs:s.size<4294967281) (hcs:chars.size<4294967281) (hascii:∀ (j:Nat) b,chars.data.toList[j]?=some b→b.toNat<128) :
  Calls Tryz.prog 125 #[.string s,.string chars] w fun e w'=>e = .returned (.int .i64 (Lib.indexAny s.data.toList chars.data.toList))∧w'=((w.alloc (.cells (Lib.setCells chars.data.toList) 168)).alloc (.cells (Lib.setCells chars.data.toList) 168)):=Any.strings_IndexAny_long Tryz.lays153 hv116 (by kernel_rfl) s chars w h2 h8 hs hcs hascii
end Go.Proofs
namespace Go.Proofs.YtliaddbbmnfioaaGreatDoor
section
open Go.RowKit Go.Sort
variable [Cc]
structure En where
 mode:Int
 name:List UInt8
 id:List UInt8
def Yb (e:En):List UInt8:=if e.mode=16384 then e.name++[47] else e.name
def AoW (e:En):List Value := .int .i64 e.mode :: .string (str e.name)::e.id.map fun b=>Value.int .u8 b.toNat
theorem Bmm {n:List UInt8} {b:UInt8}:str n++(⟨#[b]⟩:ByteArray)=str (n++[b]):=by
 apply ByteArray.ext
 simp [str]
set_option maxHeartbeats 2000000 in
set_option maxRecDepth 100000 in
theorem AzT (e:En) (h20:e.id.length=20) (hnl:e.name.length≤1000000000) (w:World):Calls Tryz.prog 84 #[.agg (AoW e).toArray] w fun r w'=>r = .returned (.string (str (Yb e)))∧w'=w.alloc (.cells (AoW e).toArray 60):=by
 obtain ⟨m,n,d⟩:=e
 simp only [AoW] at *
 have lI:(d.map fun b=>Value.int .u8 b.toNat).length=20:=by simpa using h20
 generalize (d.map fun b=>Value.int .u8 b.toNat)=I at *
 have lx:(Value.int .i64 m::Value.string (str n)::I).toArray.size=22:=by simp [lI]
 have g0:(Value.int .i64 m::Value.string (str n)::I).toArray[0]'(by rw [lx]; omega) = .int .i64 m:=rfl
 have g1:(Value.int .i64 m::Value.string (str n)::I).toArray[1]'(by rw [lx]; omega) = .string (str n):=rfl
 generalize (Value.int .i64 m::Value.string (str n)::I).toArray=xs at *
 by_cases hm:m=16384
 ·subst hm
  go_enter Tryz.func84,Tryz.ntmps84
  have hsz:(str n).size=n.length:=by simp [str,ByteArray.size]
  go_wp2
  go_ret
  refine ⟨?_,rfl⟩
  unfold Yb; rw [if_pos rfl]
  show Ending.returned (.string (str n++⟨#[47]⟩))=_
  rw [Bmm]
 ·go_enter Tryz.func84,Tryz.ntmps84
  go_wp2
  go_ret
  exact ⟨by unfold Yb; rw [if_neg hm]; rfl,rfl⟩
theorem AtJ {P:Program} {w:World} {t:TypeId} {sz b:Nat} {xs:Array Value} {tt:TypeId} {fr:Nat×Nat} (h1:Auz P t=some true) (h2:Aju P t=some sz) (hh:w.heap[b]?=some (.cells xs tt fr)) (hs:xs.size=sz) :
  (Instr.loadAt t (.pointer (some ⟨b,0,none⟩))).run P w = .ok (.agg xs) w:=by
 have hlc:=run_loadCells_list (P:=P) w ⟨b,0,none⟩ xs.toList (fun j u hj=>by
  rw [IW,Nat.zero_add]
  simp only [World.cell?,hh]
  simpa using hj)
 rw [Array.length_toList,hs] at hlc
 simp [Instr.loadAt,Instr.sureAddr,loadVar,NM h1,GM h2,hlc]
theorem BpF {P:Program} {C:World→Prop} {o:Oper} {a:Act} {v:Value} {t:TypeId} {x:Operand} (ho:o.op = .load t x) (hr:∀ w,C w→(Instr.loadAt t (a.eval x)).run P w = .ok v w) {K:Act→Prop} (hK:K (a.put o.dst v)):o.quiet P a C K :=
 ⟨v,fun w hw=>by
  have e:execOp a.eval o=(do pure (.value (←Instr.loadAt t (a.eval x)))):=by simp only [execOp,ho]
  unfold Oper.quietAt
  rw [e]
  simp [hr w hw,Oper.quietUpon],hK⟩
abbrev EnS:={e:En // e.id.length=20∧e.name.length≤1000000000}
def BxF (x y:EnS):Int:=Lib.compareBytes (Yb x.1) (Yb y.1)
set_option maxHeartbeats 4000000 in
set_option maxRecDepth 100000 in
theorem ABY (x y:EnS) (w:World):Calls Tryz.prog 48 #[.agg (AoW x.1).toArray,.agg (AoW y.1).toArray] w fun e w'=>e = .returned (.int .i64 (BxF x y))∧∃ q os',w'=Sort.grow (w.drewN q) os':=by
 have hx:=fun W=>AzT x.1 x.2.1 x.2.2 W
 have hy:=fun W=>AzT y.1 y.2.1 y.2.2 W
 have hc:=fun W=>Tryz.strings_Compare (str (Yb x.1)) (str (Yb y.1)) W
 have e1:(str (Yb x.1)).data.toList=Yb x.1:=by simp [str]
 have e2:(str (Yb y.1)).data.toList=Yb y.1:=by simp [str]
 rw [e1,e2] at hc
 have e3:Lib.compareBytes (Yb x.1) (Yb y.1)=BxF x y:=rfl
 rw [e3] at hc
 generalize BxF x y=z at *
 generalize str (Yb x.1)=kx at *
 generalize str (Yb y.1)=ky at *
 have lx:(AoW x.1).toArray.size=22:=by simp [AoW,x.2.1]
 have ly:(AoW y.1).toArray.size=22:=by simp [AoW,y.2.1]
 generalize (AoW x.1).toArray=xs at *
 generalize (AoW y.1).toArray=ys at *
 go_enter Tryz.func48,Tryz.ntmps48
 go_wp2
 obtain ⟨W0,hW0⟩:∃ W0,W0=(w.alloc (.cells xs 60)).alloc (.cells ys 60):=⟨_,rfl⟩
 rw [←hW0]
 have hx0:∀ q os',(Sort.grow (W0.drewN q) os').heap[w.heap.size]?=some (.cells xs 60 (0,0)):=fun q os'=>by
  show (W0.heap++os')[w.heap.size]?=_
  rw [hW0]
  show (((w.heap.push _).push _)++os')[w.heap.size]?=_
  rw [Array.getElem?_append,if_pos (by simp; omega),Array.getElem?_push,if_neg (by simp),Array.getElem?_push,if_pos rfl]
 have hy0:∀ q os',(Sort.grow (W0.drewN q) os').heap[w.heap.size+1]?=some (.cells ys 60 (0,0)):=fun q os'=>by
  show (W0.heap++os')[w.heap.size+1]?=_
  rw [hW0]
  show (((w.heap.push _).push _)++os')[w.heap.size+1]?=_
  rw [Array.getElem?_append,if_pos (by simp),Array.getElem?_push,if_pos (by simp)]
 have hfin:∀ q os',∃ q2 os2,Sort.grow (W0.drewN q) os'=Sort.grow (w.drewN q2) os2:=fun q os'=>by
  refine ⟨q,#[.cells xs 60 (0,0),.cells ys 60 (0,0)]++os',?_⟩
  rw [hW0]
  have e:((w.heap.push (.cells xs 60 (0,0))).push (.cells ys 60 (0,0)))++os'=w.heap++(#[.cells xs 60 (0,0),.cells ys 60 (0,0)]++os'):=by
   apply Array.ext'; simp
  show { w.drewN q with heap:=((w.heap.push (.cells xs 60 (0,0))).push (.cells ys 60 (0,0)))++os' }=_
  rw [e]; rfl
 have hC0:(fun w'=>∃ q os',w'=Sort.grow (W0.drewN q) os') { W0 with drawn:=W0.drawn+1 }:=⟨1,#[],by simp [Sort.grow]; rfl⟩
 have hgrow:∀ q os' o,(Sort.grow (W0.drewN q) os').alloc o=Sort.grow (W0.drewN q) (os'.push o):=fun q os' o=>by
  have e:(W0.heap++os').push o=W0.heap++os'.push o:=by apply Array.ext'; simp
  show { W0.drewN q with heap:=(W0.heap++os').push o }=_
  rw [e]; rfl
 clear hW0
 refine wp_region_quiet (C:=fun w'=>∃ q os',w'=Sort.grow (W0.drewN q) os') (by kernel_rfl) (by kernel_rfl) hC0 ?_
 refine wpQuiet_step (fun K hK => ?_)
 go_simp
 refine ⟨_,fun _ _ _ _=>rfl,hK _ ?_⟩; clear hK K
 refine wpQuiet_step (fun K hK => ?_)
 rw [if_pos (by rfl)]
 refine BpF (v := .agg xs) rfl ?_ (hK _ ?_)
 ·rintro _ ⟨q,os',rfl⟩
  exact AtJ (by kernel_rfl) (by kernel_rfl) (hx0 q os') lx
 clear hK K
 refine wpQuiet_step (fun K hK => ?_)
 go_simp
 refine ⟨.string kx,?_,hK _ ?_⟩
 ·rintro _ q os' rfl
  exact (hx _).mono fun e w' h=>⟨h.1,q,_,h.2.trans (hgrow q os' _)⟩
 clear hK K
 refine wpQuiet_step (fun K hK => ?_)
 go_simp
 refine ⟨_,fun _ _ _ _=>rfl,hK _ ?_⟩; clear hK K
 refine wpQuiet_step (fun K hK => ?_)
 rw [if_pos (by rfl)]
 refine BpF (v := .agg ys) rfl ?_ (hK _ ?_)
 ·rintro _ ⟨q,os',rfl⟩
  exact AtJ (by kernel_rfl) (by kernel_rfl) (hy0 q os') ly
 clear hK K
 refine wpQuiet_step (fun K hK => ?_)
 go_simp
 refine ⟨.string ky,?_,hK _ ?_⟩
 ·rintro _ q os' rfl
  exact (hy _).mono fun e w' h=>⟨h.1,q,_,h.2.trans (hgrow q os' _)⟩
 clear hK K
 refine wpQuiet_step (fun K hK => ?_)
 go_simp
 refine ⟨.int .i64 z,?_,hK _ ?_⟩
 ·rintro _ q os' rfl
  exact (hc _).mono fun e w' h=>⟨h.1,q,os',h.2⟩
 clear hK K
 refine wpQuiet_step (fun K hK => ?_)
 go_simp
 refine ⟨_,fun _ _ _ _=>rfl,hK _ ?_⟩; clear hK K
 refine wpQuiet_nil ?_
 rintro w' ⟨q,os',rfl⟩
 obtain ⟨q2,os2,e⟩:=hfin q os'
 go_wp2
 go_ret
 exact ⟨rfl,q2,os2,rfl⟩
end
section
variable [Cc]
set_option maxRecDepth 100000
def VU:AP := .seq (.ops [po_ 4 (.mov (.c (.bool false)))] [0,1])
 (.seq (.ops [mv_ 5 0,mv_ 6 1,so_ 7 (.call 125 [.t 5,.t 6]),po_ 8 (.bin 3 .geq (.t 7) (ci_ 0)),mv_ 4 8] [4])
 (.ret))
def U9:List VR:=[.tmp 4]
theorem AjK:Tryz.f90.body.bind (trC Tryz.prog Tryz.f90.ntmps)=some (er VU):=by kernel_rfl
theorem Akf:trR Tryz.prog Tryz.f90.results.toList=some U9:=by kernel_rfl
def AgJ:=Ac VU.eq_1
theorem Agi {K:TV→Prop} {e:Env} {H:List Ob}:res U9 e H K=res [.tmp 4] e H K:=Ap rfl
def Vd:=(aI_ @AgJ @Agi)
def Aje:=ES 9 Tryz.func90 AjK Akf rfl
def Vq:AP := .seq (.ops [mv_ 16 1,po_ 17 (.idxS (.t 16) (ci_ 0)),po_ 18 (.conv .i32 (.t 17)),mv_ 5 18] [0,5])
 (.seq (.seq (.ops [mv_ 19 5,po_ 20 (.bin 21 .geq (.t 19) (.c (.int .i32 ((128:Nat):Int))))] [0,5,20])
 (.cond (.t 20)
 (.ops [po_ 5 (.mov (.c (.int .i32 ((65533:Nat):Int))))] [0,5])
 (.skip)))
 (.seq (.ops [mv_ 21 0,mv_ 22 5,so_ 23 (.call 157 [.t 21,.t 22]),mv_ 4 23] [4])
 (.ret)))
def Vk:AP := .seq (.seq (.ops [mv_ 33 8,mv_ 34 0,po_ 35 (.lenS (.t 34)),po_ 36 (.bin 3 .lss (.t 33) (.t 35))] [0,6,8,36])
 (.cond (.t 36)
 (.skip)
 (.exit 0)))
 (.seq (.block 1 (.seq (.ops [mv_ 39 0,mv_ 40 8,po_ 41 (.idxS (.t 39) (.t 40)),so_ 42 (.call 130 [.t 6,.t 41])] [0,6,8,42])
 (.cond (.t 42)
 (.seq (.ops [mv_ 43 8,mv_ 4 43] [4])
  (.ret))
 (.skip))))
 (.ops [mv_ 37 8,po_ 38 (.bin 3 .add (.t 37) (ci_ 1)),mv_ 8 38] [0,6,8]))
def UE:AP := .block 0 (.loop [0,6,8] Vk)
def Vo:AP := .seq (.ops [po_ 4 (.mov (.c (.int .i64 (-1))))] [4])
 (.ret)
def Vj:AP := .seq (.seq (.ops [po_ 8 (.mov (ci_ 0))] [0,6,8])
 UE)
 Vo
def V9:AP := .cond (.t 32)
 Vj
 (.skip)
def VN:AP := .seq (.ops [mv_ 32 7] [0,1,6,32])
 V9
def VX:AP := .seq (.ops [mv_ 28 1,so_ 29 (.call 95 [.t 28]),mv_ 27 29,po_ 30 (.ext 0 (.t 27)),po_ 31 (.ext 1 (.t 27)),so_ 6 (.alloc (.arr 256 1 [.val (.bool false),.val (.bool false),.val (.bool false),.val (.bool false),.val (.bool false),.val (.bool false),.val (.bool false),.val (.bool false),.val (.bool false),.val (.bool false),.val (.bool false),.val (.bool false),.val (.bool false),.val (.bool false),.val (.bool false),.val (.bool false),.val (.bool false),.val (.bool false),.val (.bool false),.val (.bool false),.val (.bool false),.val (.bool false),.val (.bool false),.val (.bool false),.val (.bool false),.val (.bool false),.val (.bool false),.val (.bool false),.val (.bool false),.val (.bool false),.val (.bool false),.val (.bool false),.val (.bool false),.val (.bool false),.val (.bool false),.val (.bool false),.val (.bool false),.val (.bool false),.val (.bool false),.val (.bool false),.val (.bool false),.val (.bool false),.val (.bool false),.val (.bool false),.val (.bool false),.val (.bool false),.val (.bool false),.val (.bool false),.val (.bool false),.val (.bool false),.val (.bool false),.val (.bool false),.val (.bool false),.val (.bool false),.val (.bool false),.val (.bool false),.val (.bool false),.val (.bool false),.val (.bool false),.val (.bool false),.val (.bool false),.val (.bool false),.val (.bool false),.val (.bool false),.val (.bool false),.val (.bool false),.val (.bool false),.val (.bool false),.val (.bool false),.val (.bool false),.val (.bool false),.val (.bool false),.val (.bool false),.val (.bool false),.val (.bool false),.val (.bool false),.val (.bool false),.val (.bool false),.val (.bool false),.val (.bool false),.val (.bool false),.val (.bool false),.val (.bool false),.val (.bool false),.val (.bool false),.val (.bool false),.val (.bool false),.val (.bool false),.val (.bool false),.val (.bool false),.val (.bool false),.val (.bool false),.val (.bool false),.val (.bool false),.val (.bool false),.val (.bool false),.val (.bool false),.val (.bool false),.val (.bool false),.val (.bool false),.val (.bool false),.val (.bool false),.val (.bool false),.val (.bool false),.val (.bool false),.val (.bool false),.val (.bool false),.val (.bool false),.val (.bool false),.val (.bool false),.val (.bool false),.val (.bool false),.val (.bool false),.val (.bool false),.val (.bool false),.val (.bool false),.val (.bool false),.val (.bool false),.val (.bool false),.val (.bool false),.val (.bool false),.val (.bool false),.val (.bool false),.val (.bool false),.val (.bool false),.val (.bool false),.val (.bool false),.val (.bool false),.val (.bool false),.val (.bool false),.val (.bool false),.val (.bool false),.val (.bool false),.val (.bool false),.val (.bool false),.val (.bool false),.val (.bool false),.val (.bool false),.val (.bool false),.val (.bool false),.val (.bool false),.val (.bool false),.val (.bool false),.val (.bool false),.val (.bool false),.val (.bool false),.val (.bool false),.val (.bool false),.val (.bool false),.val (.bool false),.val (.bool false),.val (.bool false),.val (.bool false),.val (.bool false),.val (.bool false),.val (.bool false),.val (.bool false),.val (.bool false),.val (.bool false),.val (.bool false),.val (.bool false),.val (.bool false),.val (.bool false),.val (.bool false),.val (.bool false),.val (.bool false),.val (.bool false),.val (.bool false),.val (.bool false),.val (.bool false),.val (.bool false),.val (.bool false),.val (.bool false),.val (.bool false),.val (.bool false),.val (.bool false),.val (.bool false),.val (.bool false),.val (.bool false),.val (.bool false),.val (.bool false),.val (.bool false),.val (.bool false),.val (.bool false),.val (.bool false),.val (.bool false),.val (.bool false),.val (.bool false),.val (.bool false),.val (.bool false),.val (.bool false),.val (.bool false),.val (.bool false),.val (.bool false),.val (.bool false),.val (.bool false),.val (.bool false),.val (.bool false),.val (.bool false),.val (.bool false),.val (.bool false),.val (.bool false),.val (.bool false),.val (.bool false),.val (.bool false),.val (.bool false),.val (.bool false),.val (.bool false),.val (.bool false),.val (.bool false),.val (.bool false),.val (.bool false),.val (.bool false),.val (.bool false),.val (.bool false),.val (.bool false),.val (.bool false),.val (.bool false),.val (.bool false),.val (.bool false),.val (.bool false),.val (.bool false),.val (.bool false),.val (.bool false),.val (.bool false),.val (.bool false),.val (.bool false),.val (.bool false),.val (.bool false),.val (.bool false),.val (.bool false),.val (.bool false),.val (.bool false),.val (.bool false),.val (.bool false),.val (.bool false),.val (.bool false),.val (.bool false),.val (.bool false),.val (.bool false),.val (.bool false),.val (.bool false),.val (.bool false),.val (.bool false),.val (.bool false),.val (.bool false),.val (.bool false),.val (.bool false),.val (.bool false),.val (.bool false),.val (.bool false),.val (.bool false),.val (.bool false),.val (.bool false),.val (.bool false),.val (.bool false)])),⟨none,.s (.store 256 (.t 6) (.t 30)),none⟩,mv_ 7 31] [0,1,6,7])
 VN
def VH:AP := .cond (.t 26)
 VX
 (.skip)
def Su:AP := .seq (.ops [so_ 46 (.nxtS (.t 45)),po_ 47 (.ext 0 (.t 46))] [1,45,46,47])
 (.seq (.cond (.t 47)
 (.skip)
 (.exit 2))
 (.block 3 (.seq (.ops [po_ 48 (.ext 1 (.t 46)),po_ 49 (.ext 2 (.t 46)),mv_ 9 48,mv_ 10 49] [1,9,10,45])
 (.seq (.ops [mv_ 50 1,mv_ 51 10,so_ 52 (.call 157 [.t 50,.t 51]),po_ 53 (.bin 3 .geq (.t 52) (ci_ 0))] [1,9,45,53])
 (.cond (.t 53)
 (.seq (.ops [mv_ 54 9,mv_ 4 54] [4])
  (.ret))
 (.skip))))))
def SL:AP := .seq (.ops [po_ 4 (.mov (.c (.int .i64 (-1))))] [4])
 (.ret)
def RI:AP := .seq (.seq (.ops [mv_ 44 0,so_ 45 (.rngS (.t 44))] [1,45])
 (.block 2 (.loop [1,45] Su)))
 SL
def Ri:AP := .seq (.seq (.ops [mv_ 24 0,po_ 25 (.lenS (.t 24)),so_ 26 (.call 158 [.t 25])] [0,1,26])
 VH)
 RI
def QW:AP := .seq (.seq (.ops [mv_ 13 1,po_ 14 (.lenS (.t 13)),po_ 15 (.bin 3 .eql (.t 14) (ci_ 1))] [0,1,15])
 (.cond (.t 15)
 Vq
 (.skip)))
 Ri
def RY:AP := .seq (.seq (.ops [mv_ 11 1,po_ 12 (.bin 9 .eql (.t 11) (.c (.string (str []))))] [0,1,12])
 (.cond (.t 12)
 (.seq (.ops [po_ 4 (.mov (.c (.int .i64 (-1))))] [4])
  (.ret))
 (.skip)))
 QW
def Abj:AP := .seq (.ops [po_ 4 (.mov (ci_ 0))] [0,1])
 RY
def AbH:List VR:=[.tmp 4]
theorem Ark:Tryz.f125.body.bind (trC Tryz.prog Tryz.f125.ntmps)=some (er Abj):=by kernel_rfl
theorem AqA:trR Tryz.prog Tryz.f125.results.toList=some AbH:=by kernel_rfl
def Agt:=Ac Vq.eq_1
def Af6:=Ac Vk.eq_1
def AgF:=Ac UE.eq_1
def Agz:=Ac Vo.eq_1
def Aga:=Ac Vj.eq_1
def Agl:=Ac V9.eq_1
def Agj:=Ac VN.eq_1
def AgZ:=Ac VX.eq_1
def AgD:=Ac VH.eq_1
def AdY:=Ac Su.eq_1
def Ae0:=Ac SL.eq_1
def Ac0:=Ac RI.eq_1
def Ada:=Ac Ri.eq_1
def Af1:=Ac QW.eq_1
def Ac6:=Ac RY.eq_1
def AmP:=Ac Abj.eq_1
theorem Al4 {K:TV→Prop} {e:Env} {H:List Ob}:res AbH e H K=res [.tmp 4] e H K:=Ap rfl
def GY:=(aI_ (aI_ (aI_ (aI_ (aI_ @Agt @Af6) (aI_ @AgF @Agz)) (aI_ (aI_ @Aga @Agl) (aI_ @Agj @AgZ))) (aI_ (aI_ (aI_ @AgD @AdY) (aI_ @Ae0 @Ac0)) (aI_ (aI_ @Ada @Af1) (aI_ @Ac6 @AmP)))) @Al4)
def Aog:=ES 55 Tryz.func125 Ark AqA rfl
def Sz:AP := .seq (.ops [so_ 176 (.nxtS (.t 175)),po_ 177 (.ext 0 (.t 176))] [175,176,177])
 (.seq (.cond (.t 177)
 (.skip)
 (.exit 9))
 (.block 10 (.seq (.ops [po_ 178 (.ext 1 (.t 176)),po_ 179 (.ext 2 (.t 176)),mv_ 5 178,mv_ 6 179] [5,6,175])
 (.seq (.ops [mv_ 180 6,po_ 181 (.bin 21 .eql (.t 180) (.c (.int .i32 ((65533:Nat):Int))))] [5,175,181])
 (.cond (.t 181)
 (.seq (.ops [mv_ 182 5,mv_ 4 182] [4])
  (.ret))
 (.skip))))))
def RQ:AP := .seq (.ops [po_ 4 (.mov (.c (.int .i64 (-1))))] [4])
 (.ret)
def QX:AP := .seq (.seq (.ops [mv_ 174 0,so_ 175 (.rngS (.t 174))] [175])
 (.block 9 (.loop [175] Sz)))
 RQ
def Sv:AP := .seq (.draw 4 [mv_ 34 0,mv_ 35 9,po_ 36 (.bin 3 .add (.t 35) (ci_ 1)),po_ 37 (.slS (.t 34) (some (.t 36)) none),mv_ 38 7,mv_ 39 8,po_ 40 (.idxS (.t 38) (.t 39)),so_ 41 (.call 136 [.t 37,.t 40]),mv_ 11 41] [0,7,8,9,11])
 (.seq (.seq (.ops [mv_ 42 11,po_ 43 (.bin 3 .lss (.t 42) (ci_ 0))] [0,7,8,9,11,43])
 (.cond (.t 43)
 (.seq (.ops [po_ 4 (.mov (.c (.int .i64 (-1))))] [4])
  (.ret))
 (.skip)))
 (.ops [mv_ 44 9,mv_ 45 11,po_ 46 (.bin 3 .add (.t 45) (ci_ 1)),po_ 47 (.bin 3 .add (.t 44) (.t 46)),mv_ 9 47] [0,7,8,9]))
def RJ:AP := .cond (.t 33)
 Sv
 (.skip)
def SN:AP := .seq (.block 4 (.seq (.draw 6 [mv_ 54 0,mv_ 55 9,mv_ 56 12,po_ 57 (.bin 3 .sub (.t 55) (.t 56)),po_ 58 (.idxS (.t 54) (.t 57)),mv_ 59 7,mv_ 60 8,mv_ 61 12,po_ 62 (.bin 3 .sub (.t 60) (.t 61)),po_ 63 (.idxS (.t 59) (.t 62)),po_ 64 (.bin 5 .neq (.t 58) (.t 63))] [0,7,8,9,12,64])
 (.cond (.t 64)
 (.dead)
 (.skip))))
 (.ops [mv_ 52 12,po_ 53 (.bin 3 .add (.t 52) (ci_ 1)),mv_ 12 53] [0,7,8,9,12])
def SY:AP := .seq (.seq (.ops [mv_ 48 12,mv_ 49 7,po_ 50 (.lenS (.t 49)),po_ 51 (.bin 3 .lss (.t 48) (.t 50))] [0,7,8,9,12,51])
 (.cond (.t 51)
 (.skip)
 (.exit 3)))
 SN
def QY:AP := .block 3 (.loop [0,7,8,9,12] SY)
def QV:AP := .seq (.ops [po_ 72 (.mov (.c (.bool true))),⟨some 73,.p (.mov (.t 10)),some ⟨72,true⟩⟩,⟨some 74,.p (.mov (.t 9)),some ⟨72,true⟩⟩,⟨some 75,.s (.call 149 [.t 74]),some ⟨72,true⟩⟩,⟨some 76,.p (.bin 3 .gtr (.t 73) (.t 75)),some ⟨72,true⟩⟩,po_ 77 (.pick (.t 72) (.t 76) (.c (.bool false))),mv_ 78 77,⟨some 79,.p (.mov (.t 9)),some ⟨78,true⟩⟩,⟨some 80,.p (.mov (.t 0)),some ⟨78,true⟩⟩,⟨some 81,.p (.lenS (.t 80)),some ⟨78,true⟩⟩,⟨some 82,.p (.bin 3 .lss (.t 79) (.t 81)),some ⟨78,true⟩⟩,po_ 83 (.pick (.t 78) (.t 82) (.c (.bool false))),mv_ 84 83,⟨some 85,.p (.mov (.c (.bool false))),some ⟨84,false⟩⟩,⟨some 86,.p (.mov (.t 10)),some ⟨85,true⟩⟩,⟨some 87,.p (.mov (.t 9)),some ⟨85,true⟩⟩,⟨some 88,.p (.bin 3 .shr (.t 87) (.c (.int .u64 ((4:Nat):Int)))),some ⟨85,true⟩⟩,⟨some 89,.p (.bin 3 .add (ci_ 4) (.t 88)),some ⟨85,true⟩⟩,⟨some 90,.p (.bin 3 .geq (.t 86) (.t 89)),some ⟨85,true⟩⟩,⟨some 91,.p (.pick (.t 85) (.t 90) (.c (.bool false))),some ⟨84,false⟩⟩,⟨some 92,.p (.mov (.t 91)),some ⟨84,false⟩⟩,⟨some 93,.p (.mov (.t 9)),some ⟨92,true⟩⟩,⟨some 94,.p (.mov (.t 0)),some ⟨92,true⟩⟩,⟨some 95,.p (.lenS (.t 94)),some ⟨92,true⟩⟩,⟨some 96,.p (.bin 3 .lss (.t 93) (.t 95)),some ⟨92,true⟩⟩,⟨some 97,.p (.pick (.t 92) (.t 96) (.c (.bool false))),some ⟨84,false⟩⟩,po_ 98 (.pick (.t 84) (.c (.bool true)) (.t 97))] [0,7,8,9,98])
 (.cond (.t 98)
 (.dead)
 (.skip))
def Ph:AP := .seq (.ops [mv_ 70 9,po_ 71 (.bin 3 .add (.t 70) (ci_ 1)),mv_ 9 71] [0,7,8,9,10])
 QV
def PG:AP := .seq (.ops [mv_ 68 10,po_ 69 (.bin 3 .add (.t 68) (ci_ 1)),mv_ 10 69] [0,7,8,9,10])
 Ph
def Qc:AP := .seq (.skip)
 PG
def P6:AP := .seq (.seq (.ops [mv_ 65 9,mv_ 66 8,po_ 67 (.bin 3 .sub (.t 65) (.t 66)),mv_ 4 67] [4])
 (.ret))
 Qc
def PK:AP := .seq (.seq (.ops [po_ 12 (.mov (ci_ 1))] [0,7,8,9,12])
 QY)
 P6
def O6:AP := .block 2 (.scope (.seq (.seq (.draw 3 [mv_ 27 0,mv_ 28 9,po_ 29 (.idxS (.t 27) (.t 28)),mv_ 30 7,mv_ 31 8,po_ 32 (.idxS (.t 30) (.t 31)),po_ 33 (.bin 5 .neq (.t 29) (.t 32))] [0,7,8,9,33])
 RJ)
 PK))
def Ql:AP := .seq (.seq (.ops [mv_ 23 9,mv_ 24 0,po_ 25 (.lenS (.t 24)),po_ 26 (.bin 3 .lss (.t 23) (.t 25))] [0,7,8,9,26])
 (.cond (.t 26)
 (.skip)
 (.exit 1)))
 O6
def O9:AP := .seq (.dead)
 (.seq (.ops [mv_ 107 13,po_ 108 (.bin 3 .geq (.t 107) (ci_ 0))] [8,9,13,108])
 (.cond (.t 108)
 (.seq (.ops [mv_ 109 9,mv_ 110 13,po_ 111 (.bin 3 .add (.t 109) (.t 110)),mv_ 112 8,po_ 113 (.bin 3 .sub (.t 111) (.t 112)),mv_ 4 113] [4])
  (.ret))
 (.skip)))
def QE:AP := .seq (.block 8 (.seq (.draw 6 [mv_ 146 0,mv_ 147 9,mv_ 148 16,po_ 149 (.bin 3 .sub (.t 147) (.t 148)),po_ 150 (.idxS (.t 146) (.t 149)),mv_ 151 7,mv_ 152 8,mv_ 153 16,po_ 154 (.bin 3 .sub (.t 152) (.t 153)),po_ 155 (.idxS (.t 151) (.t 154)),po_ 156 (.bin 5 .neq (.t 150) (.t 155))] [0,7,8,9,14,15,16,156])
 (.cond (.t 156)
 (.exit 6)
 (.skip))))
 (.ops [mv_ 144 16,po_ 145 (.bin 3 .add (.t 144) (ci_ 1)),mv_ 16 145] [0,7,8,9,14,15,16])
def Qn:AP := .seq (.seq (.ops [mv_ 140 16,mv_ 141 7,po_ 142 (.lenS (.t 141)),po_ 143 (.bin 3 .lss (.t 140) (.t 142))] [0,7,8,9,14,15,16,143])
 (.cond (.t 143)
 (.skip)
 (.exit 7)))
 QE
def Qs:AP := .block 7 (.loop [0,7,8,9,14,15,16] Qn)
def Px:AP := .seq (.ops [mv_ 157 9,mv_ 158 8,po_ 159 (.bin 3 .sub (.t 157) (.t 158)),mv_ 4 159] [4])
 (.ret)
def Py:AP := .seq (.seq (.ops [po_ 16 (.mov (ci_ 2))] [0,7,8,9,14,15,16])
 Qs)
 Px
def PD:AP := .cond (.t 139)
 Py
 (.skip)
def Qm:AP := .ops [mv_ 125 9,po_ 126 (.bin 3 .add (.t 125) (ci_ 1)),mv_ 9 126] [0,7,8,9,14,15]
def Qj:AP := .seq (.block 6 (.seq (.ops [mv_ 127 0,mv_ 128 9,po_ 129 (.idxS (.t 127) (.t 128)),mv_ 130 14,po_ 131 (.bin 5 .eql (.t 129) (.t 130)),mv_ 132 131,⟨some 133,.p (.mov (.t 0)),some ⟨132,true⟩⟩,⟨some 134,.p (.mov (.t 9)),some ⟨132,true⟩⟩,⟨some 135,.p (.bin 3 .sub (.t 134) (ci_ 1)),some ⟨132,true⟩⟩,⟨some 136,.p (.idxS (.t 133) (.t 135)),some ⟨132,true⟩⟩,⟨some 137,.p (.mov (.t 15)),some ⟨132,true⟩⟩,⟨some 138,.p (.bin 5 .eql (.t 136) (.t 137)),some ⟨132,true⟩⟩,po_ 139 (.pick (.t 132) (.t 138) (.c (.bool false)))] [0,7,8,9,14,15,139])
 PD))
 Qm
def PQ:AP := .seq (.seq (.ops [mv_ 121 9,mv_ 122 0,po_ 123 (.lenS (.t 122)),po_ 124 (.bin 3 .lss (.t 121) (.t 123))] [0,7,8,9,14,15,124])
 (.cond (.t 124)
 (.skip)
 (.exit 5)))
 Qj
def PY:AP := .block 5 (.loop [0,7,8,9,14,15] PQ)
def PZ:AP := .seq (.skip)
 PY
def P5:AP := .seq (.ops [mv_ 117 7,mv_ 118 8,po_ 119 (.bin 3 .sub (.t 118) (ci_ 1)),po_ 120 (.idxS (.t 117) (.t 119)),mv_ 15 120] [0,7,8,9,14,15])
 PZ
def QL:AP := .scope (.seq (.ops [mv_ 114 7,mv_ 115 8,po_ 116 (.idxS (.t 114) (.t 115)),mv_ 14 116] [0,7,8,9,14])
 P5)
def Qe:AP := .seq (.ops [po_ 4 (.mov (.c (.int .i64 (-1))))] [4])
 (.ret)
def Qw:AP := .seq (.cond (.c (.bool true))
 O9
 QL)
 Qe
def QM:AP := .seq (.skip)
 Qw
def PX:AP := .seq (.seq (.ops [po_ 4 (.mov (.c (.int .i64 (-1))))] [4])
 (.ret))
 QM
def Pm:AP := .seq (.block 1 (.loop [0,7,8,9] Ql))
 PX
def Qr:AP := .seq (.ops [po_ 10 (.mov (ci_ 0))] [0,7,8,9])
 Pm
def PW:AP := .seq (.ops [mv_ 22 8,mv_ 9 22] [0,7,8,9])
 Qr
def Pi:AP := .seq (.ops [mv_ 19 7,po_ 20 (.lenS (.t 19)),po_ 21 (.bin 3 .sub (.t 20) (ci_ 1)),mv_ 8 21] [0,7,8])
 PW
def QJ:AP := .scope (.seq (.ops [mv_ 17 1,po_ 18 (.gen .r2s [.t 17]),mv_ 7 18] [0,7])
 Pi)
def Qa:AP := .cond (.t 183)
 (.seq (.ops [po_ 4 (.mov (.c (.int .i64 (-1))))] [4])
  (.ret))
 QJ
def QN:AP := .seq (.ops [mv_ 184 1,so_ 185 (.call 175 [.t 184]),po_ 186 (.un .not (.t 185)),mv_ 183 186] [0,1,183])
 Qa
def PV:AP := .cond (.t 171)
 QX
 QN
def O0:AP := .seq (.ops [mv_ 172 1,po_ 173 (.bin 21 .eql (.t 172) (.c (.int .i32 ((65533:Nat):Int)))),mv_ 171 173] [0,1,171])
 PV
def PS:AP := .cond (.t 160)
 (.seq (.ops [mv_ 167 0,mv_ 168 1,po_ 169 (.conv .u8 (.t 168)),so_ 170 (.call 136 [.t 167,.t 169]),mv_ 4 170] [4])
  (.ret))
 O0
def Pq:AP := .block 0 (.seq (.ops [mv_ 161 1,po_ 162 (.bin 21 .leq (.c (.int .i32 ((0:Nat):Int))) (.t 161)),mv_ 163 162,⟨some 164,.p (.mov (.t 1)),some ⟨163,true⟩⟩,⟨some 165,.p (.bin 21 .lss (.t 164) (.c (.int .i32 ((128:Nat):Int)))),some ⟨163,true⟩⟩,po_ 166 (.pick (.t 163) (.t 165) (.c (.bool false))),mv_ 160 166] [0,1,160])
 PS)
def Aab:AP := .seq (.ops [po_ 4 (.mov (ci_ 0))] [0,1])
 Pq
def Zy:List VR:=[.tmp 4]
theorem AoU:Tryz.f157.body.bind (trC Tryz.prog Tryz.f157.ntmps)=some (er Aab):=by kernel_rfl
theorem Ao8:trR Tryz.prog Tryz.f157.results.toList=some Zy:=by kernel_rfl
def AdQ:=Ac Sz.eq_1
def AeL:=Ac RQ.eq_1
def Adq:=Ac QX.eq_1
def AcZ:=Ac Sv.eq_1
def Afc:=Ac RJ.eq_1
def Afg:=Ac SN.eq_1
def Afz:=Ac SY.eq_1
def Ad3:=Ac QY.eq_1
def AdV:=Ac QV.eq_1
def Acr:=Ac Ph.eq_1
def Acg:=Ac PG.eq_1
def Ace:=Ac Qc.eq_1
def AbV:=Ac P6.eq_1
def AcE:=Ac PK.eq_1
def Ab7:=Ac O6.eq_1
def AcF:=Ac Ql.eq_1
def Acy:=Ac O9.eq_1
def Ack:=Ac QE.eq_1
def Ab9:=Ac Qn.eq_1
def AcB:=Ac Qs.eq_1
def Ab1:=Ac Px.eq_1
def Ab6:=Ac Py.eq_1
def AbJ:=Ac PD.eq_1
def AbY:=Ac Qm.eq_1
def Acn:=Ac Qj.eq_1
def AbN:=Ac PQ.eq_1
def AcC:=Ac PY.eq_1
def AbX:=Ac PZ.eq_1
def AcK:=Ac P5.eq_1
def AbO:=Ac QL.eq_1
def Ab4:=Ac Qe.eq_1
def AcD:=Ac Qw.eq_1
def AcI:=Ac QM.eq_1
def AbU:=Ac PX.eq_1
def Acv:=Ac Pm.eq_1
def Acb:=Ac Qr.eq_1
def Aci:=Ac PW.eq_1
def Acj:=Ac Pi.eq_1
def Acm:=Ac QJ.eq_1
def AbQ:=Ac Qa.eq_1
def AbT:=Ac QN.eq_1
def AcH:=Ac PV.eq_1
def Acx:=Ac O0.eq_1
def Acu:=Ac PS.eq_1
def Ab3:=Ac Pq.eq_1
def Ak8:=Ac Aab.eq_1
theorem AjG {K:TV→Prop} {e:Env} {H:List Ob}:res Zy e H K=res [.tmp 4] e H K:=Ap rfl
def D9:=(aI_ (aI_ (aI_ (aI_ (aI_ (aI_ @AdQ @AeL) (aI_ @Adq @AcZ)) (aI_ (aI_ @Afc @Afg) (aI_ @Afz @Ad3))) (aI_ (aI_ (aI_ @AdV @Acr) (aI_ @Acg @Ace)) (aI_ (aI_ @AbV @AcE) (aI_ @Ab7 @AcF)))) (aI_ (aI_ (aI_ (aI_ @Acy @Ack) (aI_ @Ab9 @AcB)) (aI_ (aI_ @Ab1 @Ab6) (aI_ @AbJ @AbY))) (aI_ (aI_ (aI_ @Acn @AbN) (aI_ @AcC @AbX)) (aI_ (aI_ @AcK @AbO) (aI_ @Ab4 @AcD))))) (aI_ (aI_ (aI_ (aI_ @AcI @AbU) (aI_ @Acv @Acb)) (aI_ (aI_ @Aci @Acj) (aI_ @Acm @AbQ))) (aI_ (aI_ (aI_ @AbT @AcH) (aI_ @Acx @Acu)) (aI_ (aI_ @Ab3 @Ak8) @AjG))))
def AmE:=ES 187 Tryz.func157 AoU Ao8 rfl
def Nb:AP := .seq (.ops [po_ 2 (.mov (.c (.bool false)))] [0])
 (.seq (.ops [mv_ 3 0,po_ 4 (.bin 3 .gtr (.t 3) (ci_ 8)),mv_ 2 4] [2])
 (.ret))
def MR:List VR:=[.tmp 2]
theorem Zl:Tryz.f158.body.bind (trC Tryz.prog Tryz.f158.ntmps)=some (er Nb):=by kernel_rfl
theorem Ze:trR Tryz.prog Tryz.f158.results.toList=some MR:=by kernel_rfl
def Wi:=Ac Nb.eq_1
theorem Wj {K:TV→Prop} {e:Env} {H:List Ob}:res MR e H K=res [.tmp 2] e H K:=Ap rfl
def Zx:=(aI_ @Wi @Wj)
def Yc:=ES 5 Tryz.func158 Zl Ze rfl
end
section
open Go.RowKit
class GH [Cc]:Prop where
 k:∃ m,P7 2=some (.one (.int .i64 m))
variable [Cc]
theorem CE.ofBelowT {f:FuncId} {args rs:List Value} (h:∀ (F:Nat→Prop) w,NL F w→Calls Tryz.prog f args.toArray w fun e w'=>e = .returned (.tuple rs.toArray)∧Below w.heap.size w w'):CE Tryz.prog f (args.map .val) (fun x=>x = .tup (rs.map .val)):=by
 intro β F w vs hF hv
 have hvs:vs=args:=by
  clear h hF
  induction args generalizing vs with
  | nil=>rw [List.map_nil,Ei.nil] at hv; exact hv
  | cons a args ih =>
   rw [List.map_cons] at hv
   obtain ⟨v,us,rfl,h1,h2⟩:=Ei.cons.1 hv
   have:=Rep.val.1 (Or.inl h1:Rep _ _ _ _)
   rw [this,ih us h2]
 subst hvs
 refine (h F w hF.2).mono ?_
 rintro e w' ⟨rfl,hb⟩
 have hr:∀ l:List Value,Ei ⟨β,[],F⟩ w' (l.map .val) l:=by
  intro l
  induction l with
  | nil=>rw [List.map_nil,Ei.nil]
  | cons a l ih=>exact Ei.cons.2 ⟨a,l,rfl,.inr (.inl rfl),ih⟩
 exact ⟨_,_,F,rfl,rfl,.inr ⟨_,_,rfl,rfl,hr rs⟩,⟨hb.os,hb.tape,hb.output,hb.size,hb.block,fun _ h=>h,fun _ _ h=>h,fun b hb'=>Nat.lt_of_lt_of_le (hF.1 b hb') hb.size⟩⟩
theorem CE.ofBelow {f:FuncId} {args:List Value} {r:Value} (h:∀ (F:Nat→Prop) w,NL F w→Calls Tryz.prog f args.toArray w fun e w'=>e = .returned r∧Below w.heap.size w w'):CE Tryz.prog f (args.map .val) (fun x=>x = .val r):=by
 intro β F w vs hF hv
 have hvs:vs=args:=by
  clear h hF
  induction args generalizing vs with
  | nil=>rw [List.map_nil,Ei.nil] at hv; exact hv
  | cons a args ih =>
   rw [List.map_cons] at hv
   obtain ⟨v,us,rfl,h1,h2⟩:=Ei.cons.1 hv
   have:=Rep.val.1 (Or.inl h1:Rep _ _ _ _)
   rw [this,ih us h2]
 subst hvs
 refine (h F w hF.2).mono ?_
 rintro e w' ⟨rfl,hb⟩
 exact ⟨_,_,F,rfl,rfl,Rep.of_val,⟨hb.os,hb.tape,hb.output,hb.size,hb.block,fun _ h=>h,fun _ _ h=>h,fun b hb'=>Nat.lt_of_lt_of_le (hF.1 b hb') hb.size⟩⟩
theorem Yn {B:Nat} (w:World):Below B w w:=⟨rfl,rfl,rfl,Nat.le_refl _,fun _ _=>rfl⟩
theorem AD1 {B:Nat} (w:World) (n:Nat):Below B w (w.drewN n):=⟨rfl,rfl,rfl,Nat.le_refl _,fun _ _=>rfl⟩
theorem Aw1 (w:World) (k:Nat) (os:Array Obj):Below w.heap.size w (Sort.grow (w.drewN k) os):=⟨rfl,rfl,rfl,by simp [Sort.grow,World.drewN],fun i hi=>by simp [Sort.grow,World.drewN,Array.getElem?_append_left hi]⟩
theorem ACw (l:List UInt8):(str l).data.toList=l:=by simp [str]
theorem AuA (l:List UInt8):(str l).size=l.length:=by show l.toArray.size=_; simp
theorem Bla [GH] {F:Nat→Prop} {w:World} (hg:NL F w):∃ m,w.cell? ⟨2,0,none⟩=some (.int .i64 m):=by
 obtain ⟨m,hm⟩:=GH.k
 obtain ⟨_,t,fr,hh⟩:=hg _ _ hm
 exact ⟨m,by simp [World.cell?,hh,GV.cells]⟩
theorem Bo0 [GH] (s p:List UInt8) (hs:s.length≤1000000):CE Tryz.prog 109 [ts s,ts p] (fun x=>x = .tup [ts (Lib.cut s p).1,ts (Lib.cut s p).2.1,tb (Lib.cut s p).2.2]):=by
 have h:=CE.ofBelowT (f:=109) (args:=[.string (str s),.string (str p)]) (rs:=[.string (str (Lib.cut s p).1),.string (str (Lib.cut s p).2.1),.bool (Lib.cut s p).2.2]) (fun F w hg=>by
  obtain ⟨m,hm⟩:=Bla hg
  have h1:=Tryz.strings_Cut (str s) (str p) m w (by rw [AuA]; omega) hm
  rw [ACw,ACw] at h1
  refine h1.mono ?_
  rintro e w' ⟨rfl,n,rfl⟩
  exact ⟨rfl,AD1 _ _⟩)
 exact h
theorem AwY (s p:List UInt8):CE Tryz.prog 107 [ts s,ts p] (fun x=>x = .tup [ts (Lib.trimPrefix s p),tb (Lib.hasPrefix s p)]):=by
 have h:=CE.ofBelowT (f:=107) (args:=[.string (str s),.string (str p)]) (rs:=[.string (str (Lib.trimPrefix s p)),.bool (Lib.hasPrefix s p)]) (fun F w hg=>by
  have h1:=Tryz.strings_CutPrefix (str s) (str p) w
  rw [ACw,ACw] at h1
  refine h1.mono ?_
  rintro e w' ⟨rfl,rfl⟩
  exact ⟨rfl,Yn _⟩)
 exact h
theorem AyO (c:UInt8):∀ s:List UInt8,0≤Lib.indexByte s c↔c∈s
 | []=>by simp [Lib.indexByte]
 | b::l=>by
  have ih:=AyO c l
  have hg:=Lib.indexByte_ge l c
  rw [Lib.indexByte]
  by_cases e:b=c
  ·simp [e]
  ·rw [if_neg (by simpa using e)]
   have e2:(c∈b::l)↔c∈l:=by simp [Ne.symm e]
   rw [e2,←ih]
   by_cases h:(Lib.indexByte l c == -1)=true
   ·rw [if_pos h]
    have h3:Lib.indexByte l c = -1:=by simpa using h
    rw [h3]
   ·rw [if_neg h]
    have h3:Lib.indexByte l c ≠ -1:=fun e=>h (by rw [e]; rfl)
    omega
theorem Azv (s:List UInt8) (c:UInt8):CE Tryz.prog 60 [ts s,ts [c]] (fun x=>x=tb (decide (c∈s))):=by
 have h:=CE.ofBelow (f:=60) (args:=[.string (str s),.string (str [c])]) (r := .bool (decide (c∈s))) (fun F w _=>by
  have h1:=Tryz.strings_Contains_one (str s) c w
  rw [ACw] at h1
  refine h1.mono ?_
  rintro e w' ⟨rfl,rfl⟩
  exact ⟨by simp only [AyO],Yn _⟩)
 exact h
theorem Bo6 (s:List UInt8) (c:UInt8) (hc:c.toNat<128) (hs:s.length≤1000000):CE Tryz.prog 59 [ts s,ts [c]] (fun x=>x=ts (Lib.trimB s c)):=by
 have h:=CE.ofBelow (f:=59) (args:=[.string (str s),.string (str [c])]) (r := .string (str (Lib.trimB s c))) (fun F w _=>by
  have h1:=Tryz.strings_Trim_one (str s) c hc w (by rw [AuA]; omega)
  rw [ACw] at h1
  refine h1.mono ?_
  rintro e w' ⟨rfl,rfl | rfl⟩
  ·exact ⟨rfl,Yn _⟩
  ·exact ⟨rfl,rfl,rfl,rfl,Nat.le_refl _,fun _ _=>rfl⟩)
 exact h
theorem Bm6 (s m:List UInt8) (hs:s.length≤1000000) (hl:m.length≤1000) (hm:m.all (fun b=>decide (b.toNat<128))=true):CE Tryz.prog 59 [ts s,ts m] (fun x=>x=ts (Lib.trimS s m)):=by
 have h:=CE.ofBelow (f:=59) (args:=[.string (str s),.string (str m)]) (r := .string (str (Lib.trimS s m))) (fun F w _=>by
  have h1:=Any.strings_Trim_laid Tryz.lays160 (by kernel_rfl) (str s) (str m) w (by rw [AuA]; omega) (by rw [AuA]; omega) (by rw [ACw]; exact ascii_of_all hm)
  rw [ACw,ACw] at h1
  exact h1)
 exact h
section
variable [AX]
theorem AAd {F:Nat→Prop} {w:World} (h:NL F w):Lib.TabIs Tryz.prog w "internal/strconv.uint64pow10" .u64 Lib.pow10Tab:=by
 obtain ⟨_,t,fr,h1⟩:=h 3 _ AX.k
 have h2:Tryz.prog.globalNamed "internal/strconv.uint64pow10" = some 3:=by kernel_rfl
 have h3:BZ.cells.toArray=(Lib.pow10Tab.map fun z=>Value.int .u64 z).toArray:=by kernel_rfl
 unfold Lib.TabIs World.var?
 rw [h2,Option.bind_some,h1,h3]
theorem BtQ (n:Int) (h0 : -9223372036854775808≤n) (h1:n≤9223372036854775807):CE Tryz.prog 57 [i64 n] (fun x=>x=ts (Lib.itoa n)):=by
 have h:=CE.ofBelow (f:=57) (args:=[.int .i64 n]) (r := .string (str (Lib.itoa n))) (fun F w hg=>by
  refine (Tryz.strconv_Itoa n h0 h1 w (AAd hg)).mono ?_
  rintro e w' ⟨rfl,k,os,rfl⟩
  exact ⟨rfl,Aw1 _ _ _⟩)
 exact h
theorem AEH (n:Int) (h0 : -9223372036854775808≤n) (h1:n≤9223372036854775807):CE Tryz.prog 58 [i64 n,i64 ((10:Nat):Int)] (fun x=>x=ts (Lib.itoa n)):=by
 have h:=CE.ofBelow (f:=58) (args:=[.int .i64 n,.int .i64 10]) (r := .string (str (Lib.itoa n))) (fun F w hg=>by
  refine (Tryz.strconv_FormatInt_10 n h0 h1 w (AAd hg)).mono ?_
  rintro e w' ⟨rfl,k,os,rfl⟩
  exact ⟨rfl,Aw1 _ _ _⟩)
 exact h
end
end
section
open Go.RowKit
variable [Cc]
set_option autoImplicit false
section
variable {t:TypeId} {a b:Nat} {k2:IntKind}
theorem BtG {n:Nat} (h:n<256):IntKind.u8.wrap (n:Int)=n:=by rw [IntKind.wrap_u8]; omega
theorem bv8 {n:Nat}:(BitVec.ofInt 8 (n:Int)).toNat=n % 256:=by
 rw [BitVec.toNat_ofInt]; omega
theorem Anb:Jh t .add (.int .u8 (a:Int)) (.int .u8 (b:Int))=some (.int .u8 (((a+b) % 256:Nat):Int)):=by
 rw [show Jh t .add (.int .u8 (a:Int)) (.int .u8 (b:Int))=some (.int .u8 (IntKind.u8.wrap ((a:Int)+b))) from rfl,IntKind.wrap_u8]
 congr 2
theorem Bpz:Jh t .mul (.int .u8 (a:Int)) (.int .u8 (b:Int))=some (.int .u8 (((a*b) % 256:Nat):Int)):=by
 rw [show Jh t .mul (.int .u8 (a:Int)) (.int .u8 (b:Int))=some (.int .u8 (IntKind.u8.wrap ((a:Int)*b))) from rfl,IntKind.wrap_u8]
 congr 2
theorem Ux (h:b≤a) (h2:a<256):Jh t .sub (.int .u8 (a:Int)) (.int .u8 (b:Int))=some (.int .u8 ((a - b:Nat):Int)):=by
 rw [show Jh t .sub (.int .u8 (a:Int)) (.int .u8 (b:Int))=some (.int .u8 (IntKind.u8.wrap ((a:Int) - b))) from rfl,IntKind.wrap_u8]
 congr 2; omega
theorem Bwq (h1:a<256) (h2:b<256):Jh t .or (.int .u8 (a:Int)) (.int .u8 (b:Int))=some (.int .u8 ((a ||| b:Nat):Int)):=by
 rw [show Jh t .or (.int .u8 (a:Int)) (.int .u8 (b:Int))=some (.int .u8 (IntKind.u8.wrap ((BitVec.ofInt 8 a ||| BitVec.ofInt 8 b).toNat:Int))) from rfl,BitVec.toNat_or,bv8,bv8,Nat.mod_eq_of_lt (by omega),Nat.mod_eq_of_lt (by omega)]
 have:=Nat.or_lt_two_pow (n:=8) (x:=a) (y:=b) (by omega) (by omega)
 rw [BtG (by omega)]
theorem BtS (h:b≠0) (h1:a<256):Jh t .quo (.int .u8 (a:Int)) (.int .u8 (b:Int))=some (.int .u8 ((a / b:Nat):Int)):=by
 have hz:¬ (b:Int)=0:=by omega
 have hle:a / b≤a:=Nat.div_le_self _ _
 have e2:(a:Int).tdiv (b:Int)=((a / b:Nat):Int):=by rw [Int.tdiv_eq_ediv_of_nonneg (by omega)]; rfl
 have e:binOp .quo t (.int .u8 (a:Int)) (.int .u8 (b:Int))=pure (.int .u8 ((a / b:Nat):Int)):=by
  unfold binOp
  simp only [ne_eq,not_true_eq_false,if_false,Op.intDiv,hz,e2,BtG (show a / b<256 by omega)]
 unfold Jh; rw [e]; rfl
end
theorem ACy {n:Nat} (h:n<256):TV.val (.int .u8 (n:Int))=by8 (UInt8.ofNat n):=by
 show TV.val (.int .u8 (n:Int))=TV.val (.int .u8 ((UInt8.ofNat n).toNat:Int))
 rw [UInt8.toNat_ofNat',Nat.mod_eq_of_lt (by omega)]
theorem A8 {l:List UInt8}:bl (str l)=l:=by simp [bl,str]
theorem BrP {l m:List UInt8}:str l++str m=str (l++m):=by
 apply ByteArray.ext
 simp [str]
theorem Aam {t:TypeId} {l m:List UInt8} (h:l.length+m.length≤9223372036854775807):Jh t .add (.string (str l)) (.string (str m))=some (.string (str (l++m))):=by
 have e1:(str l).size=l.length:=by show l.toArray.size=_; simp
 have e2:(str m).size=m.length:=by show m.toArray.size=_; simp
 rw [←BrP,Jh,binOp_string_add,Op.stringOp]
 simp only [e1,e2]
 rw [if_neg (by show ¬ ((l.length+m.length:Nat):Int) > 9223372036854775807; omega)]
 rfl
end
section
open Go.RowKit
variable [Cc]
theorem ADZ (r:Int) (h0 : -2147483648≤r) (h1:r≤2147483647):CE Tryz.prog 175 [.val (.int .i32 r)] (fun x=>x=tb (Lib.validRune r)):=by
 have h:=CE.ofBelow (f:=175) (args:=[.int .i32 r]) (r := .bool (Lib.validRune r)) (fun F w _=>by
  refine (Tryz.utf8_ValidRune r w).mono ?_
  rintro e w' ⟨rfl,rfl⟩
  exact ⟨rfl,Yn _⟩)
 exact h
theorem ACq (s:List UInt8) (c:UInt8):CE Tryz.prog 136 [ts s,by8 c] (fun x=>x=i64 (Lib.indexByte s c)):=by
 have h:=CE.ofBelow (f:=136) (args:=[.string (str s),.int .u8 c.toNat]) (r := .int .i64 (Lib.indexByte s c)) (fun F w _=>by
  have h1:=Tryz.strings_IndexByte (str s) c.toNat w
  have e2:((c.toNat:Int)).toNat.toUInt8=c:=by rw [Int.toNat_natCast]; simp
  rw [ACw,e2] at h1
  refine h1.mono ?_
  rintro e w' ⟨rfl,rfl⟩
  exact ⟨rfl,Yn _⟩)
 exact h
theorem BkP (l:List UInt8) (k:Nat) (c:UInt8) (hk:l[k]?=some c) (hc:c.toNat<128):(Utf8.decode (str l) k).1=c.toNat∧(Utf8.decode (str l) k).2=1:=by
 obtain ⟨hl,rfl⟩:=List.getElem?_eq_some_iff.1 hk
 have h:k<(str l).size:=by rw [AuA]; exact hl
 have e:((str l)[k]'h)=l[k]:=rfl
 have:=decode_ascii (str l) k h (by rw [e]; exact hc)
 rw [this,e]; exact ⟨rfl,rfl⟩
theorem u8N {n:Nat} (h:n<256):(UInt8.ofNat n).toNat=n:=by rw [UInt8.toNat_ofNat']; omega
theorem BxM (r:Nat) (h0:128≤r):∃ (L:List UInt8) (x:UInt8),Utf8.encode (r:Int)=str (L++[x])∧1≤L.length∧L.length≤3∧128≤x.toNat:=by
 have key:∀ c:Nat,128≤c→∃ (L:List UInt8) (x:UInt8),(if c<0x80 then (⟨#[UInt8.ofNat c]⟩:ByteArray)
   else if c<0x800 then ⟨#[UInt8.ofNat (0xC0+c / 64),UInt8.ofNat (0x80+c % 64)]⟩
   else if c<0x10000 then ⟨#[UInt8.ofNat (0xE0+c / 4096),UInt8.ofNat (0x80+c / 64 % 64),UInt8.ofNat (0x80+c % 64)]⟩
   else ⟨#[UInt8.ofNat (0xF0+c / 262144),UInt8.ofNat (0x80+c / 4096 % 64),UInt8.ofNat (0x80+c / 64 % 64),UInt8.ofNat (0x80+c % 64)]⟩)=str (L++[x])∧1≤L.length∧L.length≤3∧128≤x.toNat:=by
  intro c hc
  have hx:128≤(UInt8.ofNat (0x80+c % 64)).toNat:=by rw [u8N (by omega)]; omega
  rw [if_neg (by omega)]
  by_cases h1:c<0x800
  ·rw [if_pos h1]; exact ⟨[_],_,rfl,by simp,by simp,hx⟩
  ·rw [if_neg h1]
   by_cases h2:c<0x10000
   ·rw [if_pos h2]; exact ⟨[_,_],_,rfl,by simp,by simp,hx⟩
   ·rw [if_neg h2]; exact ⟨[_,_,_],_,rfl,by simp,by simp,hx⟩
 unfold Utf8.encode
 refine key _ ?_
 split
 ·simpa using h0
 ·decide
theorem BkJ {c:UInt8} {l:List UInt8} (h:c∉l):Lib.indexByte l c = -1:=by
 have h1:=Lib.indexByte_ge l c
 have h2:¬ 0≤Lib.indexByte l c:=fun e=>h ((AyO c l).1 e)
 omega
set_option maxRecDepth 100000 in
theorem ACp (m:List UInt8) (hm:∀ x∈m,x.toNat<128) (hl:m.length≤1000) (r:Nat) (h0:128≤r) (h1:r≤1114111):CE Tryz.prog 157 [ts m,.val (.int .i32 (r:Int))] (fun x=>x=i64 (-1)):=by
 refine BD.toPureV (AmE (by simp) ?_)
 by_cases hr:r=65533
 ·subst hr
  simp -dsimp (disch:=first | assumption | omega) only [↓AB,Aj,AA,Az,eq_self,Nat.reduceLT,Nat.reduceEqDiff,↓reduceIte,Nat.reduceAdd,reduceCtorEq,↓D9]
  rw [A8]
  refine FU (fun q e H=>∃ k:Nat,q=m.length - k∧k≤m.length∧e=[(175,.op 0 0 [])]∧H=[.sit m k]) m.length ?_ ?_
  ·exact ⟨0,rfl,by omega,rfl,rfl⟩
  ·rintro q e H ⟨k,rfl,hk,rfl,rfl⟩
   by_cases hp:k<m.length
   ·obtain ⟨c,hc⟩:∃ c,m[k]?=some c:=⟨_,List.getElem?_eq_getElem hp⟩
    obtain ⟨d1,d2⟩:=BkP m k c hc (hm c (List.mem_of_getElem? hc))
    have hc7:=hm c (List.mem_of_getElem? hc)
    simp -dsimp (disch:=first | assumption | omega) only [↓AB,Aj,AA,Az,eq_self,Nat.reduceEqDiff,↓reduceIte,↓D9,d1,d2]
    exact BQ (m.length - (k+1)) (by omega) (by simp) ⟨k+1,rfl,by omega,rfl,rfl⟩
   ·simp -dsimp (disch:=first | assumption | omega) only [↓AB,Aj,AA,Az,eq_self,Nat.reduceEqDiff,↓reduceIte,↓D9]
 ·simp -dsimp (disch:=first | assumption | omega) only [↓AB,Aj,AA,Az,eq_self,Nat.reduceEqDiff,↓reduceIte,Nat.reduceAdd,reduceCtorEq,↓D9]
  refine (ADZ r (by omega) (by omega)).calls rfl ?_
  rintro _ rfl
  cases hv:Lib.validRune (r:Int) with
  | false =>
   simp -dsimp (disch:=first | assumption | omega) only [↓AB,Aj,AA,Az,eq_self,Nat.reduceEqDiff,↓reduceIte,reduceCtorEq,↓D9]
  | true =>
   obtain ⟨L,x,he,l1,l3,hx⟩:=BxM r h0
   simp -dsimp (disch:=first | assumption | omega) only [↓AB,Aj,AA,Az,eq_self,Nat.reduceEqDiff,↓reduceIte,reduceCtorEq,↓D9,he,A8]
   refine FU (fun q e H=>e=[(0,ts m),(7,.val (.string (str (L++[x])))),(8,i64 (L.length:Int)),(9,i64 (L.length:Int))]∧H=[]) 0 ⟨rfl,rfl⟩ ?_
   rintro q e H ⟨rfl,rfl⟩
   by_cases h2:L.length<m.length
   ·obtain ⟨y,hy⟩:∃ y,m[L.length]?=some y:=⟨_,List.getElem?_eq_getElem h2⟩
    have hy7:=hm y (List.mem_of_getElem? hy)
    have hyx:¬ y.toNat=x.toNat:=by omega
    have hno:Lib.indexByte (m.drop (L.length+1)) x = -1:=BkJ fun h=>by have:=hm x (List.mem_of_mem_drop h); omega
    have hgx:(L++[x])[L.length]?=some x:=by simp
    simp -dsimp (disch:=first | assumption | omega) only [↓AB,Aj,AA,Az,eq_self,Nat.reduceEqDiff,↓reduceIte,reduceCtorEq,↓D9,A8,hy,hyx,hgx]
    refine (ACq (m.drop (L.length+1)) x).calls rfl ?_
    rintro _ rfl
    rw [hno]
    simp -dsimp (disch:=first | assumption | omega) only [↓AB,Aj,AA,Az,eq_self,Nat.reduceEqDiff,↓reduceIte,reduceCtorEq,↓D9]
   ·simp -dsimp (disch:=first | assumption | omega) only [↓AB,Aj,AA,Az,eq_self,Nat.reduceEqDiff,↓reduceIte,reduceCtorEq,↓D9,A8]
theorem Az3 (n b0 b1 b2 b3:Nat):(2≤(Lib.decodeN n b0 b1 b2 b3).2→1<n∧b1 / 64=2)∧(3≤(Lib.decodeN n b0 b1 b2 b3).2→2<n∧b2 / 64=2)∧(4≤(Lib.decodeN n b0 b1 b2 b3).2→3<n∧b3 / 64=2)∧(Lib.decodeN n b0 b1 b2 b3).2≤4:=by
 unfold Lib.decodeN
 by_cases h0:b0<128
 ·rw [if_pos h0]; simp
 rw [if_neg h0]
 by_cases h1:b0 / 32=6∧(1<n∧b1 / 64=2)
 ·rw [if_pos h1]; obtain ⟨_,h2,h3⟩:=h1; split<;>simp [h2,h3]
 rw [if_neg h1]
 by_cases h4:b0 / 16=14∧(1<n∧b1 / 64=2)∧(2<n∧b2 / 64=2)
 ·rw [if_pos h4]; obtain ⟨_,⟨h2,h3⟩,h5,h6⟩:=h4; split<;>simp [h2,h3,h5,h6]
 rw [if_neg h4]
 by_cases h7:b0 / 8=30∧(1<n∧b1 / 64=2)∧(2<n∧b2 / 64=2)∧(3<n∧b3 / 64=2)
 ·rw [if_pos h7]; obtain ⟨_,⟨h2,h3⟩,⟨h5,h6⟩,h8,h9⟩:=h7; split<;>simp [h2,h3,h5,h6,h8,h9]
 rw [if_neg h7]; simp
theorem Bx7 {l:List UInt8} {i:Nat} (h:i<l.length):(str l).get! i=l[i]:=by
 have h':i<(str l).size:=by rw [AuA]; exact h
 have e:(str l).get! i=(str l)[i]'h':=by
  simp [ByteArray.get!,getElem!_pos,h']
  rfl
 rw [e]; rfl
theorem AA9 {l:List UInt8} {pos j:Nat} (hj:pos<j) (hj2:j<pos+(Utf8.decode (str l) pos).2):∃ c,l[j]?=some c∧128≤c.toNat:=by
 rw [Lib.decode_at,AuA] at hj2
 obtain ⟨h1,h2,h3,h4⟩:=Az3 (l.length - pos) ((str l).get! pos).toNat ((str l).get! (pos+1)).toNat ((str l).get! (pos+2)).toNat ((str l).get! (pos+3)).toNat
 generalize (Lib.decodeN (l.length - pos) ((str l).get! pos).toNat ((str l).get! (pos+1)).toNat ((str l).get! (pos+2)).toNat ((str l).get! (pos+3)).toNat).2=k at *
 rcases (by omega:j=pos+1∨j=pos+2∨j=pos+3) with rfl | rfl | rfl
 ·obtain ⟨q1,q2⟩:=h1 (by omega)
  rw [Bx7 (by omega)] at q2
  exact ⟨_,List.getElem?_eq_getElem (by omega),by omega⟩
 ·obtain ⟨q1,q2⟩:=h2 (by omega)
  rw [Bx7 (by omega)] at q2
  exact ⟨_,List.getElem?_eq_getElem (by omega),by omega⟩
 ·obtain ⟨q1,q2⟩:=h3 (by omega)
  rw [Bx7 (by omega)] at q2
  exact ⟨_,List.getElem?_eq_getElem (by omega),by omega⟩
theorem Bnu (l:List UInt8) (k:Nat) (c:UInt8) (hk:l[k]?=some c) (hc:128≤c.toNat):128≤(Utf8.decode (str l) k).1∧(Utf8.decode (str l) k).1≤1114111∧1≤(Utf8.decode (str l) k).2:=by
 obtain ⟨hl,rfl⟩:=List.getElem?_eq_some_iff.1 hk
 have h:k<(str l).size:=by rw [AuA]; exact hl
 have e:((str l)[k]'h)=l[k]:=rfl
 obtain ⟨h1,h2⟩:=decode_high (str l) k h (by rw [e]; exact hc)
 exact ⟨h1,Lib.rune_le _ _,h2⟩
theorem Atw (m:List UInt8):∀ l:List UInt8,0≤Lib.indexAny l m↔∃ x∈l,x∈m
 | []=>by simp [Lib.indexAny]
 | b::l=>by
  have ih:=Atw m l
  have hg:=Lib.indexAny_ge m l
  unfold Lib.indexAny
  by_cases hb:b∈m
  ·simp [hb]
  ·have hb':m.contains b=false:=by simpa using hb
   rw [if_neg (by rw [hb']; simp)]
   by_cases h:Lib.indexAny l m = -1
   ·rw [h]
    have:¬ ∃ x∈l,x∈m:=by rw [←ih,h]; omega
    simp [hb,this]
   ·have h':0≤Lib.indexAny l m:=by omega
    have h2:(Lib.indexAny l m == -1)=false:=by simpa using h
    rw [h2]
    have:=ih.1 h'
    simp [hb,this]
    omega
theorem ABs (m:List UInt8) (c:UInt8) (hc:c.toNat<128):CE Tryz.prog 157 [ts m,.val (.int .i32 ((c.toNat:Nat):Int))] (fun x=>x=i64 (Lib.indexByte m c)):=by
 have h:=CE.ofBelow (f:=157) (args:=[.string (str m),.int .i32 c.toNat]) (r := .int .i64 (Lib.indexByte m c)) (fun F w _=>by
  have h1:=Tryz.strings_IndexRune_ascii (str m) c.toNat w (by omega) (by omega)
  have e2:((c.toNat:Int)).toNat.toUInt8=c:=by rw [Int.toNat_natCast]; simp
  rw [ACw,e2] at h1
  refine h1.mono ?_
  rintro e w' ⟨rfl,rfl⟩
  exact ⟨rfl,Yn _⟩)
 exact h
set_option maxRecDepth 100000 in
theorem BjT (s m:List UInt8) (hs:s.length≤1000) (hm:∀ x∈m,x.toNat<128) (hl:m.length≤1000) (hl2:2≤m.length):CE Tryz.prog 125 [ts s,ts m] (fun x=>∃ i:Int,x=i64 i∧(0≤i↔∃ x∈s,x∈m)):=by
 by_cases h8:8<s.length
 ·have h:=CE.ofBelow (f:=125) (args:=[.string (str s),.string (str m)]) (r := .int .i64 (Lib.indexAny s m)) (fun F w _=>by
   have h1:=Tryz.strings_IndexAny_long (by intro w; kernel_rfl) (str s) (str m) w (by rw [AuA]; exact hl2) (by rw [AuA]; exact h8) (by rw [AuA]; omega) (by rw [AuA]; omega) (fun j x hx=>by
    rw [ACw] at hx
    exact hm x (List.mem_of_getElem? hx))
   rw [ACw,ACw] at h1
   refine h1.mono ?_
   rintro e w' ⟨rfl,rfl⟩
   exact ⟨rfl,rfl,rfl,rfl,by simp; omega,fun i hi=>by rw [G7 _ _ (by simp; omega),G7 _ _ hi]⟩)
  refine CE.mono (args:=[ts s,ts m]) h ?_
  rintro x rfl
  exact ⟨_,rfl,Atw _ _⟩
 ·refine BD.toPureV (Aog (by simp) ?_)
  have n1:¬ m=[]:=by rintro rfl; simp at hl2
  simp -dsimp (disch:=first | assumption | omega) only [↓AB,Aj,AA,Az,eq_self,Nat.reduceEqDiff,↓reduceIte,Nat.reduceAdd,reduceCtorEq,↓GY,A8]
  refine Yc (by simp) ?_
  simp -dsimp (disch:=first | assumption | omega) only [↓AB,Aj,AA,Az,eq_self,Nat.reduceEqDiff,↓reduceIte,reduceCtorEq,↓Zx,↓GY,A8]
  refine FU (fun q e H=>∃ pos:Nat,q=s.length - pos∧(∀ j x,j<pos→s[j]?=some x→x∉m)∧e=[(1,ts m),(45,.op 0 0 [])]∧H=[.sit s pos]) s.length ?_ ?_
  ·exact ⟨0,rfl,fun j x h=>by omega,rfl,rfl⟩
  ·rintro q e H ⟨pos,rfl,hno,rfl,rfl⟩
   by_cases hp:pos<s.length
   ·obtain ⟨c,hc⟩:∃ c,s[pos]?=some c:=⟨_,List.getElem?_eq_getElem hp⟩
    by_cases h7:c.toNat<128
    ·obtain ⟨d1,d2⟩:=BkP s pos c hc h7
     simp -dsimp (disch:=first | assumption | omega) only [↓AB,Aj,AA,Az,eq_self,Nat.reduceEqDiff,↓reduceIte,↓GY,d1,d2]
     refine (ABs m c h7).calls rfl ?_
     rintro _ rfl
     by_cases hcm:c∈m
     ·obtain ⟨k,hk⟩:∃ k:Nat,Lib.indexByte m c=(k:Int):=by
       have:=(AyO c m).2 hcm
       exact ⟨(Lib.indexByte m c).toNat,by omega⟩
      rw [hk]
      simp -dsimp (disch:=first | assumption | omega) only [↓AB,Aj,AA,Az,eq_self,Nat.reduceEqDiff,↓reduceIte,↓GY]
      exact ⟨_,rfl,fun _=>⟨c,List.mem_of_getElem? hc,hcm⟩,fun _=>by omega⟩
     ·have hk:Lib.indexByte m c = -1:=BkJ hcm
      rw [hk]
      simp -dsimp (disch:=first | assumption | omega) only [↓AB,Aj,AA,Az,eq_self,Nat.reduceEqDiff,↓reduceIte]
      refine BQ (s.length - (pos+1)) (by omega) (by simp) ⟨pos+1,rfl,fun j x hj hx => ?_,rfl,rfl⟩
      by_cases e:j=pos
      ·subst e; rw [hc] at hx; cases hx; exact hcm
      ·exact hno j x (by omega) hx
    ·obtain ⟨d1,d2,d3⟩:=Bnu s pos c hc (by omega)
     have hsk:∀ j,pos<j→j<pos+(Utf8.decode (str s) pos).2→∃ c,s[j]?=some c∧128≤c.toNat:=fun j h h2=>AA9 h h2
     simp -dsimp (disch:=first | assumption | omega) only [↓AB,Aj,AA,Az,eq_self,Nat.reduceEqDiff,↓reduceIte,↓GY]
     generalize (Utf8.decode (str s) pos).1=r at *
     generalize (Utf8.decode (str s) pos).2=k at *
     refine (ACp m hm hl r d1 d2).calls rfl ?_
     rintro _ rfl
     simp -dsimp (disch:=first | assumption | omega) only [↓AB,Aj,AA,Az,eq_self,Nat.reduceEqDiff,↓reduceIte]
     have hi2:∀ y:UInt8,128≤y.toNat→y∉m:=fun y hy hy2=>by
      have:=hm y hy2
      omega
     refine BQ (s.length - (pos+k)) (by omega) (by simp) ⟨pos+k,rfl,fun j x hj hx => ?_,rfl,rfl⟩
     by_cases e:j=pos
     ·subst e; rw [hc] at hx; cases hx; exact hi2 _ (by omega)
     ·by_cases h2:j<pos
      ·exact hno j x h2 hx
      ·obtain ⟨y,hy,hy2⟩:=hsk j (by omega) hj
       rw [hy] at hx; cases hx; exact hi2 _ hy2
   ·simp -dsimp (disch:=first | assumption | omega) only [↓AB,Aj,AA,Az,eq_self,Nat.reduceEqDiff,↓reduceIte,↓GY]
    refine ⟨-1,rfl,fun h=>by omega,fun ⟨x,hx,hxm⟩ => ?_⟩
    obtain ⟨j,hj,rfl⟩:=List.mem_iff_getElem.1 hx
    exact absurd hxm (hno j _ (by omega) (List.getElem?_eq_getElem hj))
theorem Atn (s m:List UInt8) (hs:s.length≤1000) (hm:∀ x∈m,x.toNat<128) (hl:m.length≤1000) (hl2:2≤m.length):CE Tryz.prog 90 [ts s,ts m] (fun x=>x=tb (decide (∃ x∈s,x∈m))):=by
 refine BD.toPureV (Aje (by simp) ?_)
 simp -dsimp (disch:=first | assumption | omega) only [↓AB,Aj,AA,Az,eq_self,Nat.reduceEqDiff,↓reduceIte,Nat.reduceAdd,reduceCtorEq,↓Vd]
 refine (BjT s m hs hm hl hl2).calls rfl ?_
 rintro _ ⟨i,rfl,hi⟩
 have e:(decide (∃ x∈s,x∈m))=decide (0≤i):=by simp only [hi]
 rw [e]
 simp -dsimp (disch:=first | assumption | omega) only [↓AB,Aj,AA,Az,eq_self,↓reduceIte,↓Vd]
 simp
end
section
variable [Cc]
set_option maxRecDepth 100000
def WZ:AP := .seq (.draw 8 [mv_ 69 13,po_ 70 (.bin 3 .gtr (.t 69) (ci_ 0)),mv_ 71 70,⟨some 72,.p (.mov (.t 4)),some ⟨71,true⟩⟩,⟨some 73,.p (.mov (.t 13)),some ⟨71,true⟩⟩,⟨some 74,.p (.bin 3 .sub (.t 73) (ci_ 1)),some ⟨71,true⟩⟩,⟨some 75,.p (.idxA 22 (.t 72) (.t 74)),some ⟨71,true⟩⟩,⟨some 76,.p (.load true 22 (.t 75)),some ⟨71,true⟩⟩,⟨some 77,.p (.load true 22 (.t 12)),some ⟨71,true⟩⟩,⟨some 78,.s (.call 48 [.t 76,.t 77]),some ⟨71,true⟩⟩,⟨some 79,.p (.bin 3 .geq (.t 78) (ci_ 0)),some ⟨71,true⟩⟩,po_ 80 (.pick (.t 71) (.t 79) (.c (.bool false)))] [4,6,12,80])
 (.cond (.t 80)
 (.seq (.ops [po_ 81 (.iface 34 (ci_ 21)),po_ 2 (.mov (.c (.slice none 0 0))),mv_ 3 81] [2,3])
  (.ret))
 (.skip))
def XO:AP := .seq (.seq (.ops [mv_ 67 4,po_ 68 (.lenV (.t 67)),mv_ 13 68] [4,6,12,13])
 WZ)
 (.seq (.ops [mv_ 82 4,po_ 83 (.load true 22 (.t 12)),⟨some 84,.s (.bslice 22 1 (.agg [.val (.int .i64 ((0:Nat):Int)),.val (.string (str [])),.arr 20 1 [.val (.int .u8 ((0:Nat):Int)),.val (.int .u8 ((0:Nat):Int)),.val (.int .u8 ((0:Nat):Int)),.val (.int .u8 ((0:Nat):Int)),.val (.int .u8 ((0:Nat):Int)),.val (.int .u8 ((0:Nat):Int)),.val (.int .u8 ((0:Nat):Int)),.val (.int .u8 ((0:Nat):Int)),.val (.int .u8 ((0:Nat):Int)),.val (.int .u8 ((0:Nat):Int)),.val (.int .u8 ((0:Nat):Int)),.val (.int .u8 ((0:Nat):Int)),.val (.int .u8 ((0:Nat):Int)),.val (.int .u8 ((0:Nat):Int)),.val (.int .u8 ((0:Nat):Int)),.val (.int .u8 ((0:Nat):Int)),.val (.int .u8 ((0:Nat):Int)),.val (.int .u8 ((0:Nat):Int)),.val (.int .u8 ((0:Nat):Int)),.val (.int .u8 ((0:Nat):Int))]]) [⟨0,.t 83⟩]),none⟩,so_ 85 (.app 22 48 60 (.t 82) (.t 84)),mv_ 4 85] [4,6])
 (.ops [mv_ 86 6,po_ 87 (.slV 1 (.t 86) (some (ci_ 20)) none),mv_ 0 87] [0,4]))
def WY:AP := .seq (.draw 4 [mv_ 59 10,po_ 60 (.conv .i64 (.t 59)),mv_ 61 8,po_ 62 (.b2s (.t 61)),mv_ 63 6,po_ 64 (.gen (.s2a 20 1) [.t 63]),po_ 65 (.load true 20 (.t 64)),⟨some 66,.p (.build [.val (.int .i64 ((0:Nat):Int)),.val (.string (str [])),.arr 20 1 [.val (.int .u8 ((0:Nat):Int)),.val (.int .u8 ((0:Nat):Int)),.val (.int .u8 ((0:Nat):Int)),.val (.int .u8 ((0:Nat):Int)),.val (.int .u8 ((0:Nat):Int)),.val (.int .u8 ((0:Nat):Int)),.val (.int .u8 ((0:Nat):Int)),.val (.int .u8 ((0:Nat):Int)),.val (.int .u8 ((0:Nat):Int)),.val (.int .u8 ((0:Nat):Int)),.val (.int .u8 ((0:Nat):Int)),.val (.int .u8 ((0:Nat):Int)),.val (.int .u8 ((0:Nat):Int)),.val (.int .u8 ((0:Nat):Int)),.val (.int .u8 ((0:Nat):Int)),.val (.int .u8 ((0:Nat):Int)),.val (.int .u8 ((0:Nat):Int)),.val (.int .u8 ((0:Nat):Int)),.val (.int .u8 ((0:Nat):Int)),.val (.int .u8 ((0:Nat):Int))]] [1,1,20] [⟨0,.t 60⟩,⟨1,.t 62⟩,⟨2,.t 65⟩]),none⟩,so_ 12 (.alloc (.agg [.val (.int .i64 ((0:Nat):Int)),.val (.string (str [])),.arr 20 1 [.val (.int .u8 ((0:Nat):Int)),.val (.int .u8 ((0:Nat):Int)),.val (.int .u8 ((0:Nat):Int)),.val (.int .u8 ((0:Nat):Int)),.val (.int .u8 ((0:Nat):Int)),.val (.int .u8 ((0:Nat):Int)),.val (.int .u8 ((0:Nat):Int)),.val (.int .u8 ((0:Nat):Int)),.val (.int .u8 ((0:Nat):Int)),.val (.int .u8 ((0:Nat):Int)),.val (.int .u8 ((0:Nat):Int)),.val (.int .u8 ((0:Nat):Int)),.val (.int .u8 ((0:Nat):Int)),.val (.int .u8 ((0:Nat):Int)),.val (.int .u8 ((0:Nat):Int)),.val (.int .u8 ((0:Nat):Int)),.val (.int .u8 ((0:Nat):Int)),.val (.int .u8 ((0:Nat):Int)),.val (.int .u8 ((0:Nat):Int)),.val (.int .u8 ((0:Nat):Int))]])),⟨none,.s (.store 22 (.t 12) (.t 66)),none⟩] [4,6,12])
 XO
def WJ:AP := .seq (.seq (.ops [mv_ 37 7,po_ 38 (.un .not (.t 37)),mv_ 39 38,⟨some 40,.p (.mov (.t 9)),some ⟨39,false⟩⟩,⟨some 41,.p (.un .not (.t 40)),some ⟨39,false⟩⟩,po_ 42 (.pick (.t 39) (.c (.bool true)) (.t 41)),mv_ 43 42,⟨some 44,.p (.mov (.t 11)),some ⟨43,false⟩⟩,⟨some 45,.p (.eqN 1 (.t 44) (.c .nilIface) true),some ⟨43,false⟩⟩,po_ 46 (.pick (.t 43) (.c (.bool true)) (.t 45)),mv_ 47 46,⟨some 48,.p (.mov (.t 5)),some ⟨47,false⟩⟩,⟨some 49,.p (.idxA 1 (.t 48) (ci_ 0)),some ⟨47,false⟩⟩,⟨some 50,.p (.load false 1 (.t 49)),some ⟨47,false⟩⟩,⟨some 51,.p (.bin 5 .eql (.t 50) (.c (.int .u8 ((48:Nat):Int)))),some ⟨47,false⟩⟩,po_ 52 (.pick (.t 47) (.c (.bool true)) (.t 51)),mv_ 53 52,⟨some 54,.p (.mov (.t 6)),some ⟨53,false⟩⟩,⟨some 55,.p (.lenV (.t 54)),some ⟨53,false⟩⟩,⟨some 56,.p (.bin 3 .lss (.t 55) (ci_ 20)),some ⟨53,false⟩⟩,po_ 57 (.pick (.t 53) (.c (.bool true)) (.t 56))] [4,6,8,10,57])
 (.cond (.t 57)
 (.seq (.ops [po_ 58 (.iface 34 (ci_ 21)),po_ 2 (.mov (.c (.slice none 0 0))),mv_ 3 58] [2,3])
  (.ret))
 (.skip)))
 WY
def WQ:AP := .seq (.ops [mv_ 32 5,po_ 33 (.b2s (.t 32)),so_ 34 (.call 89 [.t 33,.c (.int .i64 ((8:Nat):Int)),.c (.int .i64 ((20:Nat):Int))]),mv_ 31 34,po_ 35 (.ext 0 (.t 31)),po_ 36 (.ext 1 (.t 31)),mv_ 10 35,mv_ 11 36] [4,5,6,7,8,9,10,11])
 WJ
def XI:AP := .seq (.opsZ [mv_ 25 6,⟨some 26,.s (.bslice 1 1 (.val (.int .u8 ((0:Nat):Int))) [⟨0,.c (.int .u8 ((0:Nat):Int))⟩]),none⟩] [26] [so_ 27 (.call 88 [.t 25,.t 26]),mv_ 24 27,po_ 28 (.ext 0 (.t 24)),po_ 29 (.ext 1 (.t 24)),po_ 30 (.ext 2 (.t 24)),mv_ 8 28,mv_ 6 29,mv_ 9 30] [4,5,6,7,8,9])
 WQ
def XD:AP := .block 1 (.seq (.opsZ [mv_ 18 0,⟨some 19,.s (.bslice 1 1 (.val (.int .u8 ((0:Nat):Int))) [⟨0,.c (.int .u8 ((32:Nat):Int))⟩]),none⟩] [19] [so_ 20 (.call 88 [.t 18,.t 19]),mv_ 17 20,po_ 21 (.ext 0 (.t 17)),po_ 22 (.ext 1 (.t 17)),po_ 23 (.ext 2 (.t 17)),mv_ 5 21,mv_ 6 22,mv_ 7 23] [4,5,6,7])
 XI)
def XQ:AP := .seq (.seq (.ops [mv_ 14 0,po_ 15 (.lenV (.t 14)),po_ 16 (.bin 3 .gtr (.t 15) (ci_ 0))] [0,4,16])
 (.cond (.t 16)
 (.skip)
 (.exit 0)))
 XD
def XA:AP := .seq (.seq (.ops [mv_ 88 4,so_ 89 (.call 45 [.t 88]),po_ 90 (.un .not (.t 89))] [4,90])
 (.cond (.t 90)
 (.seq (.ops [po_ 91 (.iface 34 (ci_ 21)),po_ 2 (.mov (.c (.slice none 0 0))),mv_ 3 91] [2,3])
  (.ret))
 (.skip)))
 (.seq (.ops [mv_ 92 4,mv_ 2 92,po_ 3 (.mov (.c .nilIface))] [2,3])
 (.ret))
def U3:AP := .seq (.block 0 (.own 4 22 (.loop [0,4] XQ)))
 XA
def V5:AP := .seq (.ops [po_ 4 (.mov (.c (.slice none 0 0)))] [0,4])
 U3
def AcY:AP := .seq (.ops [po_ 2 (.mov (.c (.slice none 0 0))),po_ 3 (.mov (.c .nilIface))] [0])
 V5
def Adb:List VR:=[.tmp 2,.tmp 3]
theorem Asf:Tryz.f53.body.bind (trC Tryz.prog Tryz.f53.ntmps)=some (er AcY):=by kernel_rfl
theorem Asi:trR Tryz.prog Tryz.f53.results.toList=some Adb:=by kernel_rfl
def Sl:=Ac WZ.eq_1
def Rw:=Ac XO.eq_1
def Ajx:=Ac WY.eq_1
def DF:=Ac WJ.eq_1
def LW:=Ac WQ.eq_1
def Rh:=Ac XI.eq_1
def Ai1:=Ac XD.eq_1
def Q9:=Ac XQ.eq_1
def Ajs:=Ac XA.eq_1
def Ahh:=Ac U3.eq_1
def AgN:=Ac V5.eq_1
def AoF:=Ac AcY.eq_1
theorem Dl {K:TV→Prop} {e:Env} {H:List Ob}:res Adb e H K=res [.tmp 2,.tmp 3] e H K:=Ap rfl
def ArF:=ES 93 Tryz.func53 Asf Asi rfl
def Af0:AP := .seq (.ops [po_ 20 (.fieldA 0 0 (.t 5)),po_ 21 (.load false 1 (.t 20)),so_ 22 (.call 80 [.t 21]),po_ 23 (.un .not (.t 22)),mv_ 24 23,⟨some 25,.p (.fieldA 1 1 (.t 5)),some ⟨24,false⟩⟩,⟨some 26,.p (.load false 1 (.t 25)),some ⟨24,false⟩⟩,⟨some 27,.s (.call 81 [.t 26]),some ⟨24,false⟩⟩,⟨some 28,.p (.un .not (.t 27)),some ⟨24,false⟩⟩,po_ 29 (.pick (.t 24) (.c (.bool true)) (.t 28)),mv_ 30 29,⟨some 31,.p (.mov (.t 3)),some ⟨30,false⟩⟩,⟨some 32,.p (.fieldA 1 1 (.t 5)),some ⟨30,false⟩⟩,⟨some 33,.p (.load false 1 (.t 32)),some ⟨30,false⟩⟩,⟨some 34,.p (.gen (.look .str (.val (.int .i64 ((0:Nat):Int))) false) [.t 31,.t 33]),some ⟨30,false⟩⟩,⟨some 35,.p (.bin 3 .gtr (.t 34) (ci_ 1)),some ⟨30,false⟩⟩,po_ 36 (.pick (.t 30) (.c (.bool true)) (.t 35))] [0,3,9,10,11,36])
 (.cond (.t 36)
 (.seq (.ops [po_ 2 (.mov (.c (.bool false)))] [2])
  (.ret))
 (.skip))
def AdM:AP := .seq (.ops [mv_ 15 3,po_ 16 (.fieldA 1 1 (.t 5)),po_ 17 (.load false 1 (.t 16)),po_ 18 (.gen (.look .str (.val (.int .i64 ((0:Nat):Int))) false) [.t 15,.t 17]),po_ 19 (.bin 3 .add (.t 18) (ci_ 1)),⟨none,.s (.mupd .str (.t 15) (.t 17) (.t 19)),none⟩] [0,3,5,9,10,11])
 Af0
def Aer:AP := .seq (.block 1 (.seq (.ops [po_ 13 (.idxA 22 (.t 9) (.t 11)),po_ 14 (.load true 22 (.t 13)),so_ 5 (.alloc (.agg [.val (.int .i64 ((0:Nat):Int)),.val (.string (str [])),.arr 20 1 [.val (.int .u8 ((0:Nat):Int)),.val (.int .u8 ((0:Nat):Int)),.val (.int .u8 ((0:Nat):Int)),.val (.int .u8 ((0:Nat):Int)),.val (.int .u8 ((0:Nat):Int)),.val (.int .u8 ((0:Nat):Int)),.val (.int .u8 ((0:Nat):Int)),.val (.int .u8 ((0:Nat):Int)),.val (.int .u8 ((0:Nat):Int)),.val (.int .u8 ((0:Nat):Int)),.val (.int .u8 ((0:Nat):Int)),.val (.int .u8 ((0:Nat):Int)),.val (.int .u8 ((0:Nat):Int)),.val (.int .u8 ((0:Nat):Int)),.val (.int .u8 ((0:Nat):Int)),.val (.int .u8 ((0:Nat):Int)),.val (.int .u8 ((0:Nat):Int)),.val (.int .u8 ((0:Nat):Int)),.val (.int .u8 ((0:Nat):Int)),.val (.int .u8 ((0:Nat):Int))]])),⟨none,.s (.store 22 (.t 5) (.t 14)),none⟩] [0,3,5,9,10,11])
 AdM))
 (.ops [po_ 37 (.bin 3 .add (.t 11) (ci_ 1)),mv_ 11 37] [0,3,9,10,11])
def Adv:AP := .seq (.cond (.t 12)
 (.skip)
 (.exit 0))
 Aer
def Aej:AP := .seq (.ops [po_ 12 (.bin 3 .lss (.t 11) (.t 10))] [0,3,9,10,11,12])
 Adv
def Afr:AP := .block 0 (.loop [0,3,9,10,11] Aej)
def AeY:AP := .seq (.ops [mv_ 38 0,po_ 39 (.lenV (.t 38)),po_ 40 (.bin 3 .leq (.t 39) (ci_ 2000)),mv_ 2 40] [2])
 (.ret)
def Adi:AP := .seq (.seq (.ops [mv_ 9 0,po_ 10 (.lenV (.t 9)),po_ 11 (.mov (ci_ 0))] [0,3,9,10,11])
 Afr)
 AeY
def AeX:AP := .seq (.ops [mv_ 6 0,po_ 7 (.lenV (.t 6)),so_ 8 (.mkm .str (some (.t 7))),mv_ 3 8] [0,3])
 Adi
def AnQ:AP := .seq (.ops [po_ 2 (.mov (.c (.bool false)))] [0])
 AeX
def Am0:List VR:=[.tmp 2]
theorem AwQ:Tryz.f45.body.bind (trC Tryz.prog Tryz.f45.ntmps)=some (er AnQ):=by kernel_rfl
theorem Awz:trR Tryz.prog Tryz.f45.results.toList=some Am0:=by kernel_rfl
def Aod:=Ac Af0.eq_1
def Ao5:=Ac AdM.eq_1
def Aqg:=Ac Aer.eq_1
def Zr:=Ac Adv.eq_1
def Yv:=Ac Aej.eq_1
def ApY:=Ac Afr.eq_1
def Aos:=Ac AeY.eq_1
def Apg:=Ac Adi.eq_1
def Ap2:=Ac AeX.eq_1
def At5:=Ac AnQ.eq_1
theorem Om {K:TV→Prop} {e:Env} {H:List Ob}:res Am0 e H K=res [.tmp 2] e H K:=Ap rfl
def Avb:=ES 41 Tryz.func45 AwQ Awz rfl
def AaT:AP := .seq (.ops [mv_ 3 0,po_ 4 (.bin 58 .eql (.t 3) (ci_ 16384)),mv_ 5 4,⟨some 6,.p (.mov (.t 0)),some ⟨5,false⟩⟩,⟨some 7,.p (.bin 58 .eql (.t 6) (ci_ 33188)),some ⟨5,false⟩⟩,po_ 8 (.pick (.t 5) (.c (.bool true)) (.t 7)),mv_ 9 8,⟨some 10,.p (.mov (.t 0)),some ⟨9,false⟩⟩,⟨some 11,.p (.bin 58 .eql (.t 10) (ci_ 33261)),some ⟨9,false⟩⟩,po_ 12 (.pick (.t 9) (.c (.bool true)) (.t 11)),mv_ 13 12,⟨some 14,.p (.mov (.t 0)),some ⟨13,false⟩⟩,⟨some 15,.p (.bin 58 .eql (.t 14) (ci_ 40960)),some ⟨13,false⟩⟩,po_ 16 (.pick (.t 13) (.c (.bool true)) (.t 15)),mv_ 2 16] [2])
 (.ret)
def AkA:AP := .seq (.ops [po_ 2 (.mov (.c (.bool false)))] [0])
 AaT
def AjE:List VR:=[.tmp 2]
theorem Avj:Tryz.f80.body.bind (trC Tryz.prog Tryz.f80.ntmps)=some (er AkA):=by kernel_rfl
theorem AuN:trR Tryz.prog Tryz.f80.results.toList=some AjE:=by kernel_rfl
def G8:=Ac AaT.eq_1
def KZ:=Ac AkA.eq_1
theorem KU {K:TV→Prop} {e:Env} {H:List Ob}:res AjE e H K=res [.tmp 2] e H K:=Ap rfl
def At3:=ES 17 Tryz.func80 Avj AuN rfl
def YL:AP := .seq (.block 3 (.seq (.draw 5 [mv_ 41 0,mv_ 42 6,po_ 43 (.idxA 22 (.t 41) (.t 42)),po_ 44 (.fieldA 1 1 (.t 43)),po_ 45 (.load false 1 (.t 44)),mv_ 46 0,mv_ 47 4,po_ 48 (.idxA 22 (.t 46) (.t 47)),po_ 49 (.fieldA 1 1 (.t 48)),po_ 50 (.load false 1 (.t 49)),po_ 51 (.bin 9 .eql (.t 45) (.t 50))] [0,4,6,51])
 (.cond (.t 51)
 (.seq (.ops [po_ 2 (.mov (.c (.slice none 0 0))),po_ 3 (.mov (ci_ 21))] [2,3])
  (.ret))
 (.skip))))
 (.ops [mv_ 39 6,po_ 40 (.bin 3 .add (.t 39) (ci_ 1)),mv_ 6 40] [0,4,6])
def YX:AP := .seq (.seq (.ops [mv_ 36 6,mv_ 37 4,po_ 38 (.bin 3 .lss (.t 36) (.t 37))] [0,4,6,38])
 (.cond (.t 38)
 (.skip)
 (.exit 2)))
 YL
def ZC:AP := .block 2 (.loop [0,4,6] YX)
def Zz:AP := .seq (.ops [po_ 6 (.mov (ci_ 0))] [0,4,6])
 ZC
def Y2:AP := .seq (.seq (.ops [mv_ 25 5,po_ 26 (.un .not (.t 25)),mv_ 27 26,⟨some 28,.p (.mov (.t 0)),some ⟨27,false⟩⟩,⟨some 29,.p (.mov (.t 4)),some ⟨27,false⟩⟩,⟨some 30,.p (.idxA 22 (.t 28) (.t 29)),some ⟨27,false⟩⟩,⟨some 31,.p (.fieldA 0 0 (.t 30)),some ⟨27,false⟩⟩,⟨some 32,.p (.load false 1 (.t 31)),some ⟨27,false⟩⟩,⟨some 33,.s (.call 51 [.t 32]),some ⟨27,false⟩⟩,⟨some 34,.p (.bin 9 .eql (.t 33) (.c (.string (str [])))),some ⟨27,false⟩⟩,po_ 35 (.pick (.t 27) (.c (.bool true)) (.t 34))] [0,4,35])
 (.cond (.t 35)
 (.seq (.ops [po_ 2 (.mov (.c (.slice none 0 0))),po_ 3 (.mov (ci_ 21))] [2,3])
  (.ret))
 (.skip)))
 Zz
def Zk:AP := .ops [mv_ 17 4,po_ 18 (.bin 3 .add (.t 17) (ci_ 1)),mv_ 4 18] [0,4]
def Zv:AP := .seq (.block 1 (.seq (.ops [mv_ 19 0,mv_ 20 4,po_ 21 (.idxA 22 (.t 19) (.t 20)),po_ 22 (.fieldA 1 1 (.t 21)),po_ 23 (.load false 1 (.t 22)),so_ 24 (.call 50 [.t 23]),mv_ 5 24] [0,4,5])
 Y2))
 Zk
def Zc:AP := .seq (.seq (.ops [mv_ 13 4,mv_ 14 0,po_ 15 (.lenV (.t 14)),po_ 16 (.bin 3 .lss (.t 13) (.t 15))] [0,4,16])
 (.cond (.t 16)
 (.skip)
 (.exit 0)))
 Zv
def Aac:AP := .block 0 (.loop [0,4] Zc)
def WO:AP := .seq (.ops [mv_ 71 7,mv_ 72 8,mv_ 73 9,po_ 74 (.idxA 22 (.t 72) (.t 73)),po_ 75 (.fieldA 1 1 (.t 74)),po_ 76 (.load false 1 (.t 75)),so_ 77 (.appS 5 (.t 71) (.t 76)),mv_ 7 77] [7,8,9])
 (.seq (.ops [mv_ 78 7,⟨some 79,.s (.bslice 1 1 (.val (.int .u8 ((0:Nat):Int))) [⟨0,.c (.int .u8 ((0:Nat):Int))⟩]),none⟩,so_ 80 (.app 1 1 5 (.t 78) (.t 79)),mv_ 7 80] [7,8,9])
 (.ops [mv_ 81 7,mv_ 82 8,mv_ 83 9,po_ 84 (.idxA 22 (.t 82) (.t 83)),po_ 85 (.fieldA 2 2 (.t 84)),po_ 86 (.slA 20 1 (.t 85) none none),so_ 87 (.app 1 1 5 (.t 81) (.t 86)),mv_ 7 87] [7,8,9]))
def WG:AP := .seq (.ops [mv_ 68 7,⟨some 69,.s (.bslice 1 1 (.val (.int .u8 ((0:Nat):Int))) [⟨0,.c (.int .u8 ((32:Nat):Int))⟩]),none⟩,so_ 70 (.app 1 1 5 (.t 68) (.t 69)),mv_ 7 70] [7,8,9])
 WO
def W9:AP := .seq (.block 5 (.seq (.ops [mv_ 60 7,mv_ 61 8,mv_ 62 9,po_ 63 (.idxA 22 (.t 61) (.t 62)),po_ 64 (.fieldA 0 0 (.t 63)),po_ 65 (.load false 1 (.t 64)),so_ 66 (.call 51 [.t 65]),so_ 67 (.appS 5 (.t 60) (.t 66)),mv_ 7 67] [7,8,9])
 WG))
 (.ops [mv_ 58 9,po_ 59 (.bin 3 .add (.t 58) (ci_ 1)),mv_ 9 59] [7,8,9])
def Xz:AP := .seq (.seq (.ops [mv_ 54 9,mv_ 55 8,po_ 56 (.lenV (.t 55)),po_ 57 (.bin 3 .lss (.t 54) (.t 56))] [7,8,9,57])
 (.cond (.t 57)
 (.skip)
 (.exit 4)))
 W9
def Xu:AP := .block 4 (.own 7 1 (.loop [7,8,9] Xz))
def Xy:AP := .seq (.ops [mv_ 88 7,mv_ 2 88,po_ 3 (.mov (ci_ 0))] [2,3])
 (.ret)
def WP:AP := .seq (.seq (.ops [po_ 9 (.mov (ci_ 0))] [7,8,9])
 Xu)
 Xy
def XC:AP := .seq (.ops [mv_ 52 0,so_ 53 (.call 52 [.t 52]),mv_ 8 53] [7,8])
 WP
def Xl:AP := .seq (.ops [po_ 7 (.mov (.c (.slice none 0 0)))] [0,7])
 XC
def XP:AP := .seq (.seq (.ops [po_ 4 (.mov (ci_ 0))] [0,4])
 Aac)
 Xl
def WL:AP := .seq (.seq (.ops [mv_ 10 0,po_ 11 (.lenV (.t 10)),po_ 12 (.bin 3 .gtr (.t 11) (ci_ 2000))] [0,12])
 (.cond (.t 12)
 (.seq (.ops [po_ 2 (.mov (.c (.slice none 0 0))),po_ 3 (.mov (ci_ 21))] [2,3])
  (.ret))
 (.skip)))
 XP
def Aic:AP := .seq (.ops [po_ 2 (.mov (.c (.slice none 0 0))),po_ 3 (.mov (ci_ 0))] [0])
 WL
def AhB:List VR:=[.tmp 2,.tmp 3]
theorem Auk:Tryz.f19.body.bind (trC Tryz.prog Tryz.f19.ntmps)=some (er Aic):=by kernel_rfl
theorem Aum:trR Tryz.prog Tryz.f19.results.toList=some AhB:=by kernel_rfl
def VE:=Ac YL.eq_1
def MP:=Ac YX.eq_1
def AjN:=Ac ZC.eq_1
def AkW:=Ac Zz.eq_1
def V4:=Ac Y2.eq_1
def AkI:=Ac Zk.eq_1
def AkX:=Ac Zv.eq_1
def Vf:=Ac Zc.eq_1
def Aj0:=Ac Aac.eq_1
def Ai0:=Ac WO.eq_1
def Ai3:=Ac WG.eq_1
def Ai4:=Ac W9.eq_1
def Q7:=Ac Xz.eq_1
def Ajf:=Ac Xu.eq_1
def Ajt:=Ac Xy.eq_1
def Ajl:=Ac WP.eq_1
def Ai2:=Ac XC.eq_1
def AiW:=Ac Xl.eq_1
def AiV:=Ac XP.eq_1
def Sm:=Ac WL.eq_1
def Aau:=Ac Aic.eq_1
theorem Ju {K:TV→Prop} {e:Env} {H:List Ob}:res AhB e H K=res [.tmp 2,.tmp 3] e H K:=Ap rfl
def AsM:=ES 89 Tryz.func19 Auk Aum rfl
def AaY:AP := .seq (.draw 3 [po_ 42 (.fieldA 0 0 (.t 6)),po_ 43 (.load false 1 (.t 42)),po_ 44 (.bin 3 .mul (.t 43) (ci_ 8)),mv_ 45 0,mv_ 46 5,po_ 47 (.idxA 1 (.t 45) (.t 46)),po_ 48 (.load false 1 (.t 47)),po_ 49 (.bin 5 .sub (.t 48) (.c (.int .u8 ((48:Nat):Int)))),po_ 50 (.conv .i64 (.t 49)),po_ 51 (.bin 3 .add (.t 44) (.t 50)),po_ 52 (.fieldA 0 0 (.t 6)),⟨none,.s (.store 1 (.t 52) (.t 51)),none⟩] [0,4,5,6])
 (.ops [mv_ 53 5,po_ 54 (.bin 3 .add (.t 53) (ci_ 1)),mv_ 5 54] [0,4,5,6])
def AaL:AP := .block 3 (.seq (.seq (.ops [mv_ 25 0,mv_ 26 5,po_ 27 (.idxA 1 (.t 25) (.t 26)),po_ 28 (.load false 1 (.t 27)),po_ 29 (.bin 5 .lss (.t 28) (.c (.int .u8 ((48:Nat):Int)))),mv_ 30 29,⟨some 31,.p (.mov (.t 0)),some ⟨30,false⟩⟩,⟨some 32,.p (.mov (.t 5)),some ⟨30,false⟩⟩,⟨some 33,.p (.idxA 1 (.t 31) (.t 32)),some ⟨30,false⟩⟩,⟨some 34,.p (.load false 1 (.t 33)),some ⟨30,false⟩⟩,⟨some 35,.p (.bin 5 .gtr (.t 34) (.c (.int .u8 ((55:Nat):Int)))),some ⟨30,false⟩⟩,po_ 36 (.pick (.t 30) (.c (.bool true)) (.t 35)),mv_ 37 36,⟨some 38,.p (.fieldA 0 0 (.t 6)),some ⟨37,false⟩⟩,⟨some 39,.p (.load false 1 (.t 38)),some ⟨37,false⟩⟩,⟨some 40,.p (.bin 3 .gtr (.t 39) (ci_ 1048576)),some ⟨37,false⟩⟩,po_ 41 (.pick (.t 37) (.c (.bool true)) (.t 40))] [0,4,5,6,41])
 (.cond (.t 41)
 (.seq (.ops [po_ 2 (.mov (.c (.slice none 0 0))),po_ 3 (.mov (.c (.bool false)))] [2,3])
  (.ret))
 (.skip)))
 AaY)
def Aa3:AP := .seq (.seq (.ops [mv_ 14 5,mv_ 15 0,po_ 16 (.lenV (.t 15)),po_ 17 (.bin 3 .lss (.t 14) (.t 16)),mv_ 18 17,⟨some 19,.p (.mov (.t 0)),some ⟨18,true⟩⟩,⟨some 20,.p (.mov (.t 5)),some ⟨18,true⟩⟩,⟨some 21,.p (.idxA 1 (.t 19) (.t 20)),some ⟨18,true⟩⟩,⟨some 22,.p (.load false 1 (.t 21)),some ⟨18,true⟩⟩,⟨some 23,.p (.bin 5 .neq (.t 22) (.c (.int .u8 ((32:Nat):Int)))),some ⟨18,true⟩⟩,po_ 24 (.pick (.t 18) (.t 23) (.c (.bool false)))] [0,4,5,6,24])
 (.cond (.t 24)
 (.skip)
 (.exit 2)))
 AaL
def Aao:AP := .seq (.seq (.ops [mv_ 58 5,mv_ 59 0,po_ 60 (.lenV (.t 59)),po_ 61 (.bin 3 .lss (.t 58) (.t 60)),mv_ 62 61,⟨some 63,.p (.mov (.t 0)),some ⟨62,true⟩⟩,⟨some 64,.p (.mov (.t 5)),some ⟨62,true⟩⟩,⟨some 65,.p (.idxA 1 (.t 63) (.t 64)),some ⟨62,true⟩⟩,⟨some 66,.p (.load false 1 (.t 65)),some ⟨62,true⟩⟩,⟨some 67,.p (.bin 5 .neq (.t 66) (.c (.int .u8 ((0:Nat):Int)))),some ⟨62,true⟩⟩,po_ 68 (.pick (.t 62) (.t 67) (.c (.bool false)))] [0,4,5,6,7,68])
 (.cond (.t 68)
 (.skip)
 (.exit 4)))
 (.block 5 (.ops [mv_ 69 5,po_ 70 (.bin 3 .add (.t 69) (ci_ 1)),mv_ 5 70] [0,4,5,6,7]))
def AaK:AP := .seq (.draw 5 [po_ 82 (.fieldA 2 2 (.t 6)),po_ 83 (.slA 20 1 (.t 82) none none),mv_ 84 0,mv_ 85 5,po_ 86 (.bin 3 .add (.t 85) (ci_ 1)),mv_ 87 5,po_ 88 (.bin 3 .add (.t 87) (ci_ 21)),po_ 89 (.slV 1 (.t 84) (some (.t 86)) (some (.t 88))),so_ 90 (.copy 1 (.t 83) (.t 89))] [0,4,5,6])
 (.seq (.ops [mv_ 91 5,po_ 92 (.bin 3 .add (.t 91) (ci_ 21)),mv_ 5 92] [0,4,5,6])
 (.ops [mv_ 93 4,po_ 94 (.load true 22 (.t 6)),⟨some 95,.s (.bslice 22 1 (.agg [.val (.int .i64 ((0:Nat):Int)),.val (.string (str [])),.arr 20 1 [.val (.int .u8 ((0:Nat):Int)),.val (.int .u8 ((0:Nat):Int)),.val (.int .u8 ((0:Nat):Int)),.val (.int .u8 ((0:Nat):Int)),.val (.int .u8 ((0:Nat):Int)),.val (.int .u8 ((0:Nat):Int)),.val (.int .u8 ((0:Nat):Int)),.val (.int .u8 ((0:Nat):Int)),.val (.int .u8 ((0:Nat):Int)),.val (.int .u8 ((0:Nat):Int)),.val (.int .u8 ((0:Nat):Int)),.val (.int .u8 ((0:Nat):Int)),.val (.int .u8 ((0:Nat):Int)),.val (.int .u8 ((0:Nat):Int)),.val (.int .u8 ((0:Nat):Int)),.val (.int .u8 ((0:Nat):Int)),.val (.int .u8 ((0:Nat):Int)),.val (.int .u8 ((0:Nat):Int)),.val (.int .u8 ((0:Nat):Int)),.val (.int .u8 ((0:Nat):Int))]]) [⟨0,.t 94⟩]),none⟩,so_ 96 (.app 22 48 105 (.t 93) (.t 95)),mv_ 4 96] [0,4,5]))
def AbB:AP := .seq (.ops [mv_ 76 0,mv_ 77 7,mv_ 78 5,po_ 79 (.slV 1 (.t 76) (some (.t 77)) (some (.t 78))),po_ 80 (.b2s (.t 79)),po_ 81 (.fieldA 1 1 (.t 6)),⟨none,.s (.store 1 (.t 81) (.t 80)),none⟩] [0,4,5,6])
 AaK
def Qu:AP := .seq (.seq (.ops [mv_ 71 0,po_ 72 (.lenV (.t 71)),mv_ 73 5,po_ 74 (.bin 3 .sub (.t 72) (.t 73)),po_ 75 (.bin 3 .lss (.t 74) (ci_ 21))] [0,4,5,6,7,75])
 (.cond (.t 75)
 (.seq (.ops [po_ 2 (.mov (.c (.slice none 0 0))),po_ 3 (.mov (.c (.bool false)))] [2,3])
  (.ret))
 (.skip)))
 AbB
def ML:AP := .seq (.block 4 (.loop [0,4,5,6,7] Aao))
 Qu
def AaF:AP := .seq (.ops [mv_ 57 5,mv_ 7 57] [0,4,5,6,7])
 ML
def YR:AP := .seq (.ops [mv_ 55 5,po_ 56 (.bin 3 .add (.t 55) (ci_ 1)),mv_ 5 56] [0,4,5,6])
 AaF
def Zb:AP := .seq (.block 2 (.loop [0,4,5,6] Aa3))
 YR
def Y1:AP := .block 1 (.seq (.ops [so_ 6 (.alloc (.agg [.val (.int .i64 ((0:Nat):Int)),.val (.string (str [])),.arr 20 1 [.val (.int .u8 ((0:Nat):Int)),.val (.int .u8 ((0:Nat):Int)),.val (.int .u8 ((0:Nat):Int)),.val (.int .u8 ((0:Nat):Int)),.val (.int .u8 ((0:Nat):Int)),.val (.int .u8 ((0:Nat):Int)),.val (.int .u8 ((0:Nat):Int)),.val (.int .u8 ((0:Nat):Int)),.val (.int .u8 ((0:Nat):Int)),.val (.int .u8 ((0:Nat):Int)),.val (.int .u8 ((0:Nat):Int)),.val (.int .u8 ((0:Nat):Int)),.val (.int .u8 ((0:Nat):Int)),.val (.int .u8 ((0:Nat):Int)),.val (.int .u8 ((0:Nat):Int)),.val (.int .u8 ((0:Nat):Int)),.val (.int .u8 ((0:Nat):Int)),.val (.int .u8 ((0:Nat):Int)),.val (.int .u8 ((0:Nat):Int)),.val (.int .u8 ((0:Nat):Int))]]))] [0,4,5,6])
 Zb)
def Zq:AP := .seq (.seq (.ops [mv_ 10 5,mv_ 11 0,po_ 12 (.lenV (.t 11)),po_ 13 (.bin 3 .lss (.t 10) (.t 12))] [0,4,5,13])
 (.cond (.t 13)
 (.skip)
 (.exit 0)))
 Y1
def Yz:AP := .seq (.seq (.ops [mv_ 102 9,po_ 103 (.bin 3 .neq (.t 102) (ci_ 0)),mv_ 104 103,⟨some 105,.p (.mov (.t 8)),some ⟨104,false⟩⟩,⟨some 106,.p (.b2s (.t 105)),some ⟨104,false⟩⟩,⟨some 107,.p (.mov (.t 0)),some ⟨104,false⟩⟩,⟨some 108,.p (.b2s (.t 107)),some ⟨104,false⟩⟩,⟨some 109,.p (.bin 9 .neq (.t 106) (.t 108)),some ⟨104,false⟩⟩,po_ 110 (.pick (.t 104) (.c (.bool true)) (.t 109))] [4,110])
 (.cond (.t 110)
 (.seq (.ops [po_ 2 (.mov (.c (.slice none 0 0))),po_ 3 (.mov (.c (.bool false)))] [2,3])
  (.ret))
 (.skip)))
 (.seq (.ops [mv_ 111 4,mv_ 2 111,po_ 3 (.mov (.c (.bool true)))] [2,3])
 (.ret))
def Ov:AP := .seq (.ops [mv_ 98 4,so_ 99 (.call 19 [.t 98]),mv_ 97 99,po_ 100 (.ext 0 (.t 97)),po_ 101 (.ext 1 (.t 97)),mv_ 8 100,mv_ 9 101] [0,4,8,9])
 Yz
def Zf:AP := .seq (.block 0 (.own 4 22 (.loop [0,4,5] Zq)))
 Ov
def Y4:AP := .seq (.ops [po_ 5 (.mov (ci_ 0))] [0,4,5])
 Zf
def Z5:AP := .seq (.ops [po_ 4 (.mov (.c (.slice none 0 0)))] [0,4])
 Y4
def Ak5:AP := .seq (.ops [po_ 2 (.mov (.c (.slice none 0 0))),po_ 3 (.mov (.c (.bool false)))] [0])
 Z5
def Za:List VR:=[.tmp 2,.tmp 3]
theorem AvO:Tryz.f54.body.bind (trC Tryz.prog Tryz.f54.ntmps)=some (er Ak5):=by kernel_rfl
theorem Avz:trR Tryz.prog Tryz.f54.results.toList=some Za:=by kernel_rfl
def Amx:=Ac AaY.eq_1
def KL:=Ac AaL.eq_1
def Gf:=Ac Aa3.eq_1
def Nu:=Ac Aao.eq_1
def AmJ:=Ac AaK.eq_1
def AmD:=Ac AbB.eq_1
def Xm:=Ac Qu.eq_1
def Amy:=Ac ML.eq_1
def WN:=Ac AaF.eq_1
def V8:=Ac YR.eq_1
def AkY:=Ac Zb.eq_1
def Aki:=Ac Y1.eq_1
def V3:=Ac Zq.eq_1
def MQ:=Ac Yz.eq_1
def Aka:=Ac Ov.eq_1
def Ak6:=Ac Zf.eq_1
def AlG:=Ac Y4.eq_1
def Ala:=Ac Z5.eq_1
def AsN:=Ac Ak5.eq_1
theorem Gn {K:TV→Prop} {e:Env} {H:List Ob}:res Za e H K=res [.tmp 2,.tmp 3] e H K:=Ap rfl
def Aue:=ES 112 Tryz.func54 AvO Avz rfl
def AkK:AP := .seq (.ops [po_ 7 (.bin 3 .eql (.t 3) (ci_ 33188)),mv_ 6 7] [3,6])
 (.cond (.t 6)
 (.seq (.ops [po_ 2 (.mov (.c (.string (str [49,48,48,54,52,52]))))] [2])
  (.ret))
 (.seq (.ops [po_ 9 (.bin 3 .eql (.t 3) (ci_ 33261)),mv_ 8 9] [3,8])
  (.cond (.t 8)
  (.seq (.ops [po_ 2 (.mov (.c (.string (str [49,48,48,55,53,53]))))] [2])
   (.ret))
  (.seq (.ops [po_ 11 (.bin 3 .eql (.t 3) (ci_ 40960)),mv_ 10 11] [10])
   (.cond (.t 10)
   (.seq (.ops [po_ 2 (.mov (.c (.string (str [49,50,48,48,48,48]))))] [2])
    (.ret))
   (.skip))))))
def AkN:AP := .seq (.seq (.ops [mv_ 3 0] [3])
 (.block 0 (.seq (.ops [po_ 5 (.bin 3 .eql (.t 3) (ci_ 16384)),mv_ 4 5] [3,4])
 (.cond (.t 4)
 (.seq (.ops [po_ 2 (.mov (.c (.string (str [52,48,48,48,48]))))] [2])
  (.ret))
 AkK))))
 (.seq (.ops [po_ 2 (.mov (.c (.string (str []))))] [2])
 (.ret))
def Atc:AP := .seq (.ops [po_ 2 (.mov (.c (.string (str []))))] [0])
 AkN
def Ato:List VR:=[.tmp 2]
theorem AAB:Tryz.f51.body.bind (trC Tryz.prog Tryz.f51.ntmps)=some (er Atc):=by kernel_rfl
theorem AyZ:trR Tryz.prog Tryz.f51.results.toList=some Ato:=by kernel_rfl
def Nk:=Ac AkK.eq_1
def La:=Ac AkN.eq_1
def NU:=Ac Atc.eq_1
theorem Oa {K:TV→Prop} {e:Env} {H:List Ob}:res Ato e H K=res [.tmp 2] e H K:=Ap rfl
def AxK:=ES 12 Tryz.func51 AAB AyZ rfl
def Ahx:AP := .seq (.seq (.draw 14 [mv_ 13 5,mv_ 14 3,po_ 15 (.lenV (.t 14)),po_ 16 (.bin 3 .lss (.t 13) (.t 15)),mv_ 17 16,⟨some 18,.p (.mov (.t 3)),some ⟨17,true⟩⟩,⟨some 19,.p (.mov (.t 5)),some ⟨17,true⟩⟩,⟨some 20,.p (.idxA 22 (.t 18) (.t 19)),some ⟨17,true⟩⟩,⟨some 21,.p (.load true 22 (.t 20)),some ⟨17,true⟩⟩,⟨some 22,.s (.call 87 [.t 21]),some ⟨17,true⟩⟩,⟨some 23,.p (.mov (.t 0)),some ⟨17,true⟩⟩,⟨some 24,.p (.mov (.t 4)),some ⟨17,true⟩⟩,⟨some 25,.p (.idxA 22 (.t 23) (.t 24)),some ⟨17,true⟩⟩,⟨some 26,.p (.load true 22 (.t 25)),some ⟨17,true⟩⟩,⟨some 27,.s (.call 87 [.t 26]),some ⟨17,true⟩⟩,⟨some 28,.p (.bin 9 .leq (.t 22) (.t 27)),some ⟨17,true⟩⟩,po_ 29 (.pick (.t 17) (.t 28) (.c (.bool false)))] [0,3,4,5,29])
 (.cond (.t 29)
 (.skip)
 (.exit 2)))
 (.block 3 (.ops [mv_ 30 5,po_ 31 (.bin 3 .add (.t 30) (ci_ 1)),mv_ 5 31] [0,3,4,5]))
def AhR:AP := .seq (.ops [mv_ 37 6,mv_ 38 0,mv_ 39 4,po_ 40 (.idxA 22 (.t 38) (.t 39)),po_ 41 (.load true 22 (.t 40)),⟨some 42,.s (.bslice 22 1 (.agg [.val (.int .i64 ((0:Nat):Int)),.val (.string (str [])),.arr 20 1 [.val (.int .u8 ((0:Nat):Int)),.val (.int .u8 ((0:Nat):Int)),.val (.int .u8 ((0:Nat):Int)),.val (.int .u8 ((0:Nat):Int)),.val (.int .u8 ((0:Nat):Int)),.val (.int .u8 ((0:Nat):Int)),.val (.int .u8 ((0:Nat):Int)),.val (.int .u8 ((0:Nat):Int)),.val (.int .u8 ((0:Nat):Int)),.val (.int .u8 ((0:Nat):Int)),.val (.int .u8 ((0:Nat):Int)),.val (.int .u8 ((0:Nat):Int)),.val (.int .u8 ((0:Nat):Int)),.val (.int .u8 ((0:Nat):Int)),.val (.int .u8 ((0:Nat):Int)),.val (.int .u8 ((0:Nat):Int)),.val (.int .u8 ((0:Nat):Int)),.val (.int .u8 ((0:Nat):Int)),.val (.int .u8 ((0:Nat):Int)),.val (.int .u8 ((0:Nat):Int))]]) [⟨0,.t 41⟩]),none⟩,so_ 43 (.app 22 48 105 (.t 37) (.t 42)),mv_ 6 43] [0,3,4,5,6])
 (.ops [mv_ 44 6,mv_ 45 3,mv_ 46 5,po_ 47 (.slV 22 (.t 45) (some (.t 46)) none),so_ 48 (.app 22 48 105 (.t 44) (.t 47)),mv_ 3 48] [0,3,4])
def AiD:AP := .seq (.ops [mv_ 32 6,mv_ 33 3,mv_ 34 5,po_ 35 (.slV 22 (.t 33) none (some (.t 34))),so_ 36 (.app 22 48 105 (.t 32) (.t 35)),mv_ 6 36] [0,3,4,5,6])
 AhR
def WB:AP := .seq (.ops [po_ 6 (.mov (.c (.slice none 0 0)))] [0,3,4,5,6])
 AiD
def Aih:AP := .seq (.block 2 (.own 3 22 (.loop [0,3,4,5] Ahx)))
 WB
def AhO:AP := .ops [mv_ 11 4,po_ 12 (.bin 3 .add (.t 11) (ci_ 1)),mv_ 4 12] [0,3,4]
def AhW:AP := .seq (.block 1 (.seq (.ops [po_ 5 (.mov (ci_ 0))] [0,3,4,5])
 Aih))
 AhO
def Ais:AP := .seq (.seq (.ops [mv_ 7 4,mv_ 8 0,po_ 9 (.lenV (.t 8)),po_ 10 (.bin 3 .lss (.t 7) (.t 9))] [0,3,4,10])
 (.cond (.t 10)
 (.skip)
 (.exit 0)))
 AhW
def Aif:AP := .block 0 (.own 3 22 (.loop [0,3,4] Ais))
def Ac1:AP := .seq (.ops [mv_ 49 3,mv_ 2 49] [2])
 (.ret)
def Aed:AP := .seq (.seq (.ops [po_ 4 (.mov (ci_ 0))] [0,3,4])
 Aif)
 Ac1
def AdO:AP := .seq (.ops [po_ 3 (.mov (.c (.slice none 0 0)))] [0,3])
 Aed
def ArM:AP := .seq (.ops [po_ 2 (.mov (.c (.slice none 0 0)))] [0])
 AdO
def AqL:List VR:=[.tmp 2]
theorem Ayx:Tryz.f52.body.bind (trC Tryz.prog Tryz.f52.ntmps)=some (er ArM):=by kernel_rfl
theorem AyN:trR Tryz.prog Tryz.f52.results.toList=some AqL:=by kernel_rfl
def Aas:=Ac Ahx.eq_1
def ArZ:=Ac AhR.eq_1
def AqT:=Ac AiD.eq_1
def Aqu:=Ac WB.eq_1
def Aq0:=Ac Aih.eq_1
def Aar:=Ac AhO.eq_1
def Aqy:=Ac AhW.eq_1
def Aay:=Ac Ais.eq_1
def ArN:=Ac Aif.eq_1
def Ao7:=Ac Ac1.eq_1
def AoR:=Ac Aed.eq_1
def Ap8:=Ac AdO.eq_1
def AvH:=Ac ArM.eq_1
theorem Avp {K:TV→Prop} {e:Env} {H:List Ob}:res AqL e H K=res [.tmp 2] e H K:=Ap rfl
def Awi:=ES 50 Tryz.func52 Ayx AyN rfl
def Aw5:AP := .seq (.ops [so_ 1 (.box (.t 0)),po_ 2 (.mov (.c (.string (str []))))] [1])
 (.seq (.seq (.ops [po_ 3 (.fieldA 0 0 (.t 1)),po_ 4 (.load false 1 (.t 3)),po_ 5 (.bin 3 .eql (.t 4) (ci_ 16384))] [1,5])
 (.cond (.t 5)
 (.seq (.ops [po_ 6 (.fieldA 1 1 (.t 1)),po_ 7 (.load false 1 (.t 6)),po_ 8 (.bin 9 .add (.t 7) (.c (.string (str [47])))),mv_ 2 8] [2])
  (.ret))
 (.skip)))
 (.seq (.ops [po_ 9 (.fieldA 1 1 (.t 1)),po_ 10 (.load false 1 (.t 9)),mv_ 2 10] [2])
 (.ret)))
def AwZ:List VR:=[.tmp 2]
theorem AD7:Tryz.f87.body.bind (trC Tryz.prog Tryz.f87.ntmps)=some (er Aw5):=by kernel_rfl
theorem AEV:trR Tryz.prog Tryz.f87.results.toList=some AwZ:=by kernel_rfl
def Azs:=Ac Aw5.eq_1
theorem Azz {K:TV→Prop} {e:Env} {H:List Ob}:res AwZ e H K=res [.tmp 2] e H K:=Ap rfl
def Axs:=(aI_ @Azs @Azz)
def ACo:=ES 11 Tryz.func87 AD7 AEV rfl
def Ahy:AP := .seq (.block 1 (.seq (.ops [mv_ 30 0,mv_ 31 3,po_ 32 (.idxS (.t 30) (.t 31)),po_ 33 (.bin 5 .eql (.t 32) (.c (.int .u8 ((0:Nat):Int)))),mv_ 34 33,⟨some 35,.p (.mov (.t 0)),some ⟨34,false⟩⟩,⟨some 36,.p (.mov (.t 3)),some ⟨34,false⟩⟩,⟨some 37,.p (.idxS (.t 35) (.t 36)),some ⟨34,false⟩⟩,⟨some 38,.p (.bin 5 .eql (.t 37) (.c (.int .u8 ((47:Nat):Int)))),some ⟨34,false⟩⟩,po_ 39 (.pick (.t 34) (.c (.bool true)) (.t 38))] [0,3,39])
 (.cond (.t 39)
 (.seq (.ops [po_ 2 (.mov (.c (.bool false)))] [2])
  (.ret))
 (.skip))))
 (.ops [mv_ 28 3,po_ 29 (.bin 3 .add (.t 28) (ci_ 1)),mv_ 3 29] [0,3])
def Aie:AP := .seq (.seq (.ops [mv_ 24 3,mv_ 25 0,po_ 26 (.lenS (.t 25)),po_ 27 (.bin 3 .lss (.t 24) (.t 26))] [0,3,27])
 (.cond (.t 27)
 (.skip)
 (.exit 0)))
 Ahy
def Aik:AP := .block 0 (.loop [0,3] Aie)
def Ahz:AP := .seq (.ops [po_ 2 (.mov (.c (.bool true)))] [2])
 (.ret)
def AiL:AP := .seq (.seq (.ops [po_ 3 (.mov (ci_ 0))] [0,3])
 Aik)
 Ahz
def AhJ:AP := .seq (.seq (.ops [mv_ 4 0,po_ 5 (.lenS (.t 4)),po_ 6 (.bin 3 .lss (.t 5) (ci_ 1)),mv_ 7 6,⟨some 8,.p (.mov (.t 0)),some ⟨7,false⟩⟩,⟨some 9,.p (.lenS (.t 8)),some ⟨7,false⟩⟩,⟨some 10,.p (.bin 3 .gtr (.t 9) (ci_ 50)),some ⟨7,false⟩⟩,po_ 11 (.pick (.t 7) (.c (.bool true)) (.t 10)),mv_ 12 11,⟨some 13,.p (.mov (.t 0)),some ⟨12,false⟩⟩,⟨some 14,.p (.bin 9 .eql (.t 13) (.c (.string (str [46])))),some ⟨12,false⟩⟩,po_ 15 (.pick (.t 12) (.c (.bool true)) (.t 14)),mv_ 16 15,⟨some 17,.p (.mov (.t 0)),some ⟨16,false⟩⟩,⟨some 18,.p (.bin 9 .eql (.t 17) (.c (.string (str [46,46])))),some ⟨16,false⟩⟩,po_ 19 (.pick (.t 16) (.c (.bool true)) (.t 18)),mv_ 20 19,⟨some 21,.p (.mov (.t 0)),some ⟨20,false⟩⟩,⟨some 22,.p (.bin 9 .eql (.t 21) (.c (.string (str [46,103,105,116])))),some ⟨20,false⟩⟩,po_ 23 (.pick (.t 20) (.c (.bool true)) (.t 22))] [0,23])
 (.cond (.t 23)
 (.seq (.ops [po_ 2 (.mov (.c (.bool false)))] [2])
  (.ret))
 (.skip)))
 AiL
def AqS:AP := .seq (.ops [po_ 2 (.mov (.c (.bool false)))] [0])
 AhJ
def Arl:List VR:=[.tmp 2]
theorem Ayt:Tryz.f50.body.bind (trC Tryz.prog Tryz.f50.ntmps)=some (er AqS):=by kernel_rfl
theorem Ax1:trR Tryz.prog Tryz.f50.results.toList=some Arl:=by kernel_rfl
def Arb:=Ac Ahy.eq_1
def AqP:=Ac Aie.eq_1
def Arz:=Ac Aik.eq_1
def AqC:=Ac Ahz.eq_1
def AqE:=Ac AiL.eq_1
def AqB:=Ac AhJ.eq_1
def AuT:=Ac AqS.eq_1
theorem Av3 {K:TV→Prop} {e:Env} {H:List Ob}:res Arl e H K=res [.tmp 2] e H K:=Ap rfl
def Gp:=(aI_ (aI_ (aI_ @Arb @AqP) (aI_ @Arz @AqC)) (aI_ (aI_ @AqE @AqB) (aI_ @AuT @Av3)))
def Awp:=ES 40 Tryz.func50 Ayt Ax1 rfl
def AaD:AP := .seq (.seq (.ops [mv_ 3 0] [0,3])
 (.block 0 (.seq (.seq (.ops [po_ 5 (.bin 9 .eql (.t 3) (.c (.string (str [])))),mv_ 4 5] [0,3,4])
 (.cond (.t 4)
 (.skip)
 (.seq (.ops [po_ 6 (.bin 9 .eql (.t 3) (.c (.string (str [46])))),mv_ 4 6] [0,3,4])
  (.cond (.t 4)
  (.skip)
  (.seq (.ops [po_ 7 (.bin 9 .eql (.t 3) (.c (.string (str [46,46])))),mv_ 4 7] [0,3,4])
   (.cond (.t 4)
   (.skip)
   (.ops [po_ 8 (.bin 9 .eql (.t 3) (.c (.string (str [46,103,105,116])))),mv_ 4 8] [0,4])))))))
 (.cond (.t 4)
 (.seq (.ops [po_ 2 (.mov (.c (.bool false)))] [2])
  (.ret))
 (.skip)))))
 (.seq (.ops [mv_ 9 0,po_ 10 (.lenS (.t 9)),po_ 11 (.bin 3 .leq (.t 10) (ci_ 50)),mv_ 12 11,⟨some 13,.p (.mov (.t 0)),some ⟨12,true⟩⟩,⟨some 14,.s (.call 90 [.t 13,.c (.string (str [47,0]))]),some ⟨12,true⟩⟩,⟨some 15,.p (.un .not (.t 14)),some ⟨12,true⟩⟩,po_ 16 (.pick (.t 12) (.t 15) (.c (.bool false))),mv_ 2 16] [2])
 (.ret))
def AlF:AP := .seq (.ops [po_ 2 (.mov (.c (.bool false)))] [0])
 AaD
def Aj3:List VR:=[.tmp 2]
theorem AvM:Tryz.f81.body.bind (trC Tryz.prog Tryz.f81.ntmps)=some (er AlF):=by kernel_rfl
theorem Au9:trR Tryz.prog Tryz.f81.results.toList=some Aj3:=by kernel_rfl
def Amm:=Ac AaD.eq_1
def AsA:=Ac AlF.eq_1
theorem As3 {K:TV→Prop} {e:Env} {H:List Ob}:res Aj3 e H K=res [.tmp 2] e H K:=Ap rfl
def IM:=(aI_ (aI_ @Amm @AsA) @As3)
def AuB:=ES 17 Tryz.func81 AvM Au9 rfl
end
section
open Go.RowKit
variable [Cc]
set_option autoImplicit false
def dgs:Nat→Nat→List UInt8
 | 0,_=>[]
 | k+1,v=>dgs k (v / 10)++[UInt8.ofNat (48+v % 10)]
theorem AB5:∀ (k v:Nat),(dgs k v).length=k
 | 0,_=>rfl
 | k+1,v=>by rw [dgs,List.length_append,AB5 k]; rfl
theorem AjT:∀ (k m v:Nat),dgs (m+k) v=dgs m (v / 10 ^ k)++dgs k v
 | 0,m,v=>by simp [dgs]
 | k+1,m,v=>by rw [←Nat.add_assoc,dgs,dgs,AjT k m,Nat.div_div_eq_div_mul,Nat.pow_succ,Nat.mul_comm 10,List.append_assoc]
theorem Alq (v:Nat):dgs 2 v=[UInt8.ofNat (48+v % 100 / 10),UInt8.ofNat (48+v % 100 % 10)]:=by
 simp only [dgs,List.nil_append,List.cons_append]
 rw [show v / 10 % 10=v % 100 / 10 by omega,show v % 10=v % 100 % 10 by omega]
theorem ABZ (v:Nat):dgs 1 v=[UInt8.ofNat (48+v % 10)]:=by simp [dgs]
theorem Bj3:∀ (u:Nat),dgs (Lib.nDigits u) u=Lib.decDigits u:=by
 intro u
 induction u using Nat.strongRecOn with
 | _ u ih =>
  by_cases h:u<10
  ·rw [Lib.nDigits_small h,Lib.decDigits_one h,ABZ,Nat.mod_eq_of_lt h]
  ·rw [Lib.nDigits_big h,dgs,ih (u / 10) (by omega),Lib.decDigits.eq_1 u,dif_neg h]
theorem ADP:∀ (u:Nat),u<10 ^ Lib.nDigits u:=by
 intro u
 induction u using Nat.strongRecOn with
 | _ u ih =>
  by_cases h:u<10
  ·rw [Lib.nDigits_small h]; omega
  ·have:=ih (u / 10) (by omega)
   rw [Lib.nDigits_big h,Nat.pow_succ]; omega
end
section
open Go.RowKit
variable [Cc]
section
variable {t:TypeId} {a b:Nat} {k2:IntKind}
theorem AAe {n:Nat} (h:n<4294967296):IntKind.u32.wrap (n:Int)=n:=by rw [IntKind.wrap_u32']; omega
end
end
section
open Go.RowKit
variable [Cc]
section
variable {t:TypeId} {a b:Nat} {k2:IntKind}
theorem Yx {n:Nat} (h:n<18446744073709551616):IntKind.u64.wrap (n:Int)=n:=by rw [IntKind.wrap_u64]; omega
theorem ACD (h:b≠0) (h1:a<18446744073709551616):Jh t .quo (.int .u64 (a:Int)) (.int .u64 (b:Int))=some (.int .u64 ((a / b:Nat):Int)):=by
 have e:binOp .quo t (.int .u64 (a:Int)) (.int .u64 (b:Int))=pure (.int .u64 ((a / b:Nat):Int)):=by
  unfold binOp
  simp only [ne_eq,not_true_eq_false,if_false,Op.intDiv,show ¬ (b:Int)=0 from by omega,Int.tdiv_eq_ediv_of_nonneg (show (0:Int)≤(a:Int) by omega)]
  rw [show (a:Int) / (b:Int)=((a / b:Nat):Int) from rfl,Yx (Nat.lt_of_le_of_lt (Nat.div_le_self _ _) h1)]
 unfold Jh; rw [e]; rfl
theorem AyK (h:b≠0) (h1:a<4294967296):Jh t .quo (.int .u32 (a:Int)) (.int .u32 (b:Int))=some (.int .u32 ((a / b:Nat):Int)):=by
 have e:binOp .quo t (.int .u32 (a:Int)) (.int .u32 (b:Int))=pure (.int .u32 ((a / b:Nat):Int)):=by
  unfold binOp
  simp only [ne_eq,not_true_eq_false,if_false,Op.intDiv,show ¬ (b:Int)=0 from by omega,Int.tdiv_eq_ediv_of_nonneg (show (0:Int)≤(a:Int) by omega)]
  rw [show (a:Int) / (b:Int)=((a / b:Nat):Int) from rfl,AAe (Nat.lt_of_le_of_lt (Nat.div_le_self _ _) h1)]
 unfold Jh; rw [e]; rfl
theorem AxW (h1:a*b<4294967296):Jh t .mul (.int .u32 (a:Int)) (.int .u32 (b:Int))=some (.int .u32 ((a*b:Nat):Int)):=by
 rw [show Jh t .mul (.int .u32 (a:Int)) (.int .u32 (b:Int))=some (.int .u32 (IntKind.u32.wrap ((a:Int)*(b:Int)))) from rfl,show (a:Int)*(b:Int)=((a*b:Nat):Int) from rfl,AAe h1]
theorem AgH (h1:a+b<4294967296):Jh t .add (.int .u32 (a:Int)) (.int .u32 (b:Int))=some (.int .u32 ((a+b:Nat):Int)):=by
 rw [show Jh t .add (.int .u32 (a:Int)) (.int .u32 (b:Int))=some (.int .u32 (IntKind.u32.wrap ((a:Int)+(b:Int)))) from rfl,show (a:Int)+(b:Int)=((a+b:Nat):Int) from by omega,AAe h1]
theorem AuE (h1:a*b<18446744073709551616):Jh t .mul (.int .u64 (a:Int)) (.int .u64 (b:Int))=some (.int .u64 ((a*b:Nat):Int)):=by
 rw [show Jh t .mul (.int .u64 (a:Int)) (.int .u64 (b:Int))=some (.int .u64 (IntKind.u64.wrap ((a:Int)*(b:Int)))) from rfl,show (a:Int)*(b:Int)=((a*b:Nat):Int) from rfl,Yx h1]
theorem Bnm (h1:a+b<18446744073709551616):Jh t .add (.int .u64 (a:Int)) (.int .u64 (b:Int))=some (.int .u64 ((a+b:Nat):Int)):=by
 rw [show Jh t .add (.int .u64 (a:Int)) (.int .u64 (b:Int))=some (.int .u64 (IntKind.u64.wrap ((a:Int)+(b:Int)))) from rfl,show (a:Int)+(b:Int)=((a+b:Nat):Int) from by omega,Yx h1]
theorem AyQ (h1:b≤a) (h2:a<18446744073709551616):Jh t .sub (.int .u64 (a:Int)) (.int .u64 (b:Int))=some (.int .u64 ((a - b:Nat):Int)):=by
 rw [show Jh t .sub (.int .u64 (a:Int)) (.int .u64 (b:Int))=some (.int .u64 (IntKind.u64.wrap ((a:Int) - (b:Int)))) from rfl,show (a:Int) - (b:Int)=((a - b:Nat):Int) from by omega,Yx (by omega)]
theorem AxO (h2:b≤63) (h4:a*2 ^ b<18446744073709551616):Jh t .shl (.int .u64 (a:Int)) (.int k2 (b:Int))=some (.int .u64 ((a*2 ^ b:Nat):Int)):=by
 have e:binOp .shl t (.int .u64 (a:Int)) (.int k2 (b:Int))=pure (.int .u64 ((a*2 ^ b:Nat):Int)):=by
  show Op.shift .shl .u64 a k2 b=_
  unfold Op.shift
  rw [if_neg (by omega)]
  have hm:min ((b:Int)).toNat IntKind.u64.bits=b:=by
   have:IntKind.u64.bits=64:=rfl
   omega
  simp only [hm]
  have e2:(a:Int)*2 ^ b=((a*2 ^ b:Nat):Int):=by rw [Int.natCast_mul,Int.natCast_pow]; rfl
  rw [e2,Yx h4]
 unfold Jh; rw [e]; rfl
end
end
section
variable [Cc]
set_option maxRecDepth 100000
def DD:ByteArray:=str [48,48,48,49,48,50,48,51,48,52,48,53,48,54,48,55,48,56,48,57,49,48,49,49,49,50,49,51,49,52,49,53,49,54,49,55,49,56,49,57,50,48,50,49,50,50,50,51,50,52,50,53,50,54,50,55,50,56,50,57,51,48,51,49,51,50,51,51,51,52,51,53,51,54,51,55,51,56,51,57,52,48,52,49,52,50,52,51,52,52,52,53,52,54,52,55,52,56,52,57,53,48,53,49,53,50,53,51,53,52,53,53,53,54,53,55,53,56,53,57,54,48,54,49,54,50,54,51,54,52,54,53,54,54,54,55,54,56,54,57,55,48,55,49,55,50,55,51,55,52,55,53,55,54,55,55,55,56,55,57,56,48,56,49,56,50,56,51,56,52,56,53,56,54,56,55,56,56,56,57,57,48,57,49,57,50,57,51,57,52,57,53,57,54,57,55,57,56,57,57]
def J9:AP := .seq (.seq (.ops [mv_ 11 0,po_ 12 (.bin 163 .lss (.t 11) (.c (.int .u64 ((100:Nat):Int))))] [0,12])
 (.cond (.t 12)
 (.seq (.ops [mv_ 13 0,po_ 14 (.conv .i64 (.t 13)),so_ 15 (.call 126 [.t 14]),mv_ 4 15] [4])
  (.ret))
 (.skip)))
 (.seq (.ops [so_ 5 (.alloc (.arr 24 1 [.val (.int .u8 ((0:Nat):Int)),.val (.int .u8 ((0:Nat):Int)),.val (.int .u8 ((0:Nat):Int)),.val (.int .u8 ((0:Nat):Int)),.val (.int .u8 ((0:Nat):Int)),.val (.int .u8 ((0:Nat):Int)),.val (.int .u8 ((0:Nat):Int)),.val (.int .u8 ((0:Nat):Int)),.val (.int .u8 ((0:Nat):Int)),.val (.int .u8 ((0:Nat):Int)),.val (.int .u8 ((0:Nat):Int)),.val (.int .u8 ((0:Nat):Int)),.val (.int .u8 ((0:Nat):Int)),.val (.int .u8 ((0:Nat):Int)),.val (.int .u8 ((0:Nat):Int)),.val (.int .u8 ((0:Nat):Int)),.val (.int .u8 ((0:Nat):Int)),.val (.int .u8 ((0:Nat):Int)),.val (.int .u8 ((0:Nat):Int)),.val (.int .u8 ((0:Nat):Int)),.val (.int .u8 ((0:Nat):Int)),.val (.int .u8 ((0:Nat):Int)),.val (.int .u8 ((0:Nat):Int)),.val (.int .u8 ((0:Nat):Int))]))] [0,5])
 (.seq (.ops [mv_ 16 0,so_ 17 (.call 127 [.t 16]),mv_ 6 17] [0,5,6])
 (.seq (.ops [mv_ 18 6,po_ 19 (.slA 24 1 (.t 5) none (some (.t 18))),mv_ 20 0,so_ 21 (.call 128 [.t 19,.t 20])] [5,6])
 (.seq (.ops [mv_ 22 6,po_ 23 (.slA 24 1 (.t 5) none (some (.t 22))),po_ 24 (.b2s (.t 23)),mv_ 4 24] [4])
 (.ret)))))
def JS:AP := .cond (.t 10)
 J9
 (.skip)
def JI:AP := .seq (.seq (.ops [mv_ 9 1,po_ 10 (.bin 3 .eql (.t 9) (ci_ 10))] [0,1,10])
 JS)
 (.seq (.ops [mv_ 26 0,mv_ 27 1,so_ 28 (.call 129 [.c (.slice none 0 0),.t 26,.t 27,.c (.bool false),.c (.bool false)]),mv_ 25 28,po_ 29 (.ext 0 (.t 25)),po_ 30 (.ext 1 (.t 25)),mv_ 7 29,mv_ 8 30] [8])
 (.seq (.ops [mv_ 31 8,mv_ 4 31] [4])
 (.ret)))
def LM:AP := .seq (.ops [po_ 4 (.mov (.c (.string (str []))))] [0,1])
 JI
def LP:List VR:=[.tmp 4]
theorem Ws:Tryz.f180.body.bind (trC Tryz.prog Tryz.f180.ntmps)=some (er LM):=by kernel_rfl
theorem Wp:trR Tryz.prog Tryz.f180.results.toList=some LP:=by kernel_rfl
def OV:=Ac J9.eq_1
def OY:=Ac JS.eq_1
def OZ:=Ac JI.eq_1
def TR:=Ac LM.eq_1
theorem Tt {K:TV→Prop} {e:Env} {H:List Ob}:res LP e H K=res [.tmp 4] e H K:=Ap rfl
def EN:=(aI_ (aI_ (aI_ @OV @OY) (aI_ @OZ @TR)) @Tt)
def VF:=ES 32 Tryz.func180 Ws Wp rfl
def WM:AP := .seq (.ops [po_ 4 (.mov (.c (.string (str []))))] [0,1])
 (.seq (.ops [mv_ 5 0,mv_ 6 1,so_ 7 (.call 180 [.t 5,.t 6]),mv_ 4 7] [4])
 (.ret))
def Xo:List VR:=[.tmp 4]
theorem Amb:Tryz.f168.body.bind (trC Tryz.prog Tryz.f168.ntmps)=some (er WM):=by kernel_rfl
theorem Amw:trR Tryz.prog Tryz.f168.results.toList=some Xo:=by kernel_rfl
def AiX:=Ac WM.eq_1
theorem Ajg {K:TV→Prop} {e:Env} {H:List Ob}:res Xo e H K=res [.tmp 4] e H K:=Ap rfl
def XG:=(aI_ @AiX @Ajg)
def AkT:=ES 8 Tryz.func168 Amb Amw rfl
def Jl:AP := .seq (.draw 11 [mv_ 81 0,mv_ 82 4,po_ 83 (.bin 3 .sub (.t 82) (ci_ 7)),mv_ 84 0,mv_ 85 4,po_ 86 (.bin 3 .sub (.t 85) (ci_ 8)),mv_ 87 10,po_ 88 (.bin 203 .add (.t 87) (.c (.int .u32 ((1:Nat):Int)))),po_ 89 (.idxS (.c (.string DD)) (.t 88)),mv_ 90 10,po_ 91 (.idxS (.c (.string DD)) (.t 90)),po_ 92 (.idxA 1 (.t 81) (.t 83)),⟨none,.s (.store 1 (.t 92) (.t 89)),none⟩,po_ 93 (.idxA 1 (.t 84) (.t 86)),⟨none,.s (.store 1 (.t 93) (.t 91)),none⟩] [0,1,4])
 (.ops [mv_ 94 4,po_ 95 (.bin 3 .sub (.t 94) (ci_ 8)),mv_ 4 95] [0,1,4])
def Jk:AP := .seq (.draw 11 [mv_ 68 0,mv_ 69 4,po_ 70 (.bin 3 .sub (.t 69) (ci_ 5)),mv_ 71 0,mv_ 72 4,po_ 73 (.bin 3 .sub (.t 72) (ci_ 6)),mv_ 74 11,po_ 75 (.bin 203 .add (.t 74) (.c (.int .u32 ((1:Nat):Int)))),po_ 76 (.idxS (.c (.string DD)) (.t 75)),mv_ 77 11,po_ 78 (.idxS (.c (.string DD)) (.t 77)),po_ 79 (.idxA 1 (.t 68) (.t 70)),⟨none,.s (.store 1 (.t 79) (.t 76)),none⟩,po_ 80 (.idxA 1 (.t 71) (.t 73)),⟨none,.s (.store 1 (.t 80) (.t 78)),none⟩] [0,1,4,10])
 Jl
def Jd:AP := .seq (.draw 11 [mv_ 55 0,mv_ 56 4,po_ 57 (.bin 3 .sub (.t 56) (ci_ 3)),mv_ 58 0,mv_ 59 4,po_ 60 (.bin 3 .sub (.t 59) (ci_ 4)),mv_ 61 8,po_ 62 (.bin 203 .add (.t 61) (.c (.int .u32 ((1:Nat):Int)))),po_ 63 (.idxS (.c (.string DD)) (.t 62)),mv_ 64 8,po_ 65 (.idxS (.c (.string DD)) (.t 64)),po_ 66 (.idxA 1 (.t 55) (.t 57)),⟨none,.s (.store 1 (.t 66) (.t 63)),none⟩,po_ 67 (.idxA 1 (.t 58) (.t 60)),⟨none,.s (.store 1 (.t 67) (.t 65)),none⟩] [0,1,4,10,11])
 Jk
def Jc:AP := .seq (.draw 11 [mv_ 42 0,mv_ 43 4,po_ 44 (.bin 3 .sub (.t 43) (ci_ 1)),mv_ 45 0,mv_ 46 4,po_ 47 (.bin 3 .sub (.t 46) (ci_ 2)),mv_ 48 9,po_ 49 (.bin 203 .add (.t 48) (.c (.int .u32 ((1:Nat):Int)))),po_ 50 (.idxS (.c (.string DD)) (.t 49)),mv_ 51 9,po_ 52 (.idxS (.c (.string DD)) (.t 51)),po_ 53 (.idxA 1 (.t 42) (.t 44)),⟨none,.s (.store 1 (.t 53) (.t 50)),none⟩,po_ 54 (.idxA 1 (.t 45) (.t 47)),⟨none,.s (.store 1 (.t 54) (.t 52)),none⟩] [0,1,4,8,10,11])
 Jd
def Ji:AP := .seq (.ops [mv_ 36 6,po_ 37 (.bin 203 .quo (.t 36) (.c (.int .u32 ((100:Nat):Int)))),po_ 38 (.bin 203 .mul (.t 37) (.c (.int .u32 ((2:Nat):Int)))),mv_ 39 6,po_ 40 (.bin 203 .rem (.t 39) (.c (.int .u32 ((100:Nat):Int)))),po_ 41 (.bin 203 .mul (.t 40) (.c (.int .u32 ((2:Nat):Int)))),mv_ 10 38,mv_ 11 41] [0,1,4,8,9,10,11])
 Jc
def Ja:AP := .seq (.ops [mv_ 30 7,po_ 31 (.bin 203 .quo (.t 30) (.c (.int .u32 ((100:Nat):Int)))),po_ 32 (.bin 203 .mul (.t 31) (.c (.int .u32 ((2:Nat):Int)))),mv_ 33 7,po_ 34 (.bin 203 .rem (.t 33) (.c (.int .u32 ((100:Nat):Int)))),po_ 35 (.bin 203 .mul (.t 34) (.c (.int .u32 ((2:Nat):Int)))),mv_ 8 32,mv_ 9 35] [0,1,4,6,8,9])
 Ji
def FN:AP := .seq (.ops [mv_ 26 5,po_ 27 (.bin 203 .quo (.t 26) (.c (.int .u32 ((10000:Nat):Int)))),mv_ 28 5,po_ 29 (.bin 203 .rem (.t 28) (.c (.int .u32 ((10000:Nat):Int)))),mv_ 6 27,mv_ 7 29] [0,1,4,6,7])
 Ja
def Jf:AP := .seq (.ops [mv_ 24 1,po_ 25 (.bin 163 .quo (.t 24) (.c (.int .u64 ((100000000:Nat):Int)))),mv_ 1 25] [0,1,4,5])
 FN
def I9:AP := .block 1 (.seq (.ops [mv_ 21 1,po_ 22 (.bin 163 .rem (.t 21) (.c (.int .u64 ((100000000:Nat):Int)))),po_ 23 (.conv .u32 (.t 22)),mv_ 5 23] [0,1,4,5])
 Jf)
def Ik:AP := .seq (.seq (.ops [mv_ 19 4,po_ 20 (.bin 3 .geq (.t 19) (ci_ 8))] [0,1,4,20])
 (.cond (.t 20)
 (.skip)
 (.exit 0)))
 I9
def Iz:AP := .seq (.draw 11 [mv_ 123 0,mv_ 124 4,po_ 125 (.bin 3 .sub (.t 124) (ci_ 3)),mv_ 126 0,mv_ 127 4,po_ 128 (.bin 3 .sub (.t 127) (ci_ 4)),mv_ 129 14,po_ 130 (.bin 203 .add (.t 129) (.c (.int .u32 ((1:Nat):Int)))),po_ 131 (.idxS (.c (.string DD)) (.t 130)),mv_ 132 14,po_ 133 (.idxS (.c (.string DD)) (.t 132)),po_ 134 (.idxA 1 (.t 123) (.t 125)),⟨none,.s (.store 1 (.t 134) (.t 131)),none⟩,po_ 135 (.idxA 1 (.t 126) (.t 128)),⟨none,.s (.store 1 (.t 135) (.t 133)),none⟩] [0,4,12])
 (.ops [mv_ 136 4,po_ 137 (.bin 3 .sub (.t 136) (ci_ 4)),mv_ 4 137] [0,4,12])
def Iu:AP := .seq (.draw 11 [mv_ 110 0,mv_ 111 4,po_ 112 (.bin 3 .sub (.t 111) (ci_ 1)),mv_ 113 0,mv_ 114 4,po_ 115 (.bin 3 .sub (.t 114) (ci_ 2)),mv_ 116 15,po_ 117 (.bin 203 .add (.t 116) (.c (.int .u32 ((1:Nat):Int)))),po_ 118 (.idxS (.c (.string DD)) (.t 117)),mv_ 119 15,po_ 120 (.idxS (.c (.string DD)) (.t 119)),po_ 121 (.idxA 1 (.t 110) (.t 112)),⟨none,.s (.store 1 (.t 121) (.t 118)),none⟩,po_ 122 (.idxA 1 (.t 113) (.t 115)),⟨none,.s (.store 1 (.t 122) (.t 120)),none⟩] [0,4,12,14])
 Iz
def IV:AP := .seq (.ops [mv_ 104 13,po_ 105 (.bin 203 .quo (.t 104) (.c (.int .u32 ((100:Nat):Int)))),po_ 106 (.bin 203 .mul (.t 105) (.c (.int .u32 ((2:Nat):Int)))),mv_ 107 13,po_ 108 (.bin 203 .rem (.t 107) (.c (.int .u32 ((100:Nat):Int)))),po_ 109 (.bin 203 .mul (.t 108) (.c (.int .u32 ((2:Nat):Int)))),mv_ 14 106,mv_ 15 109] [0,4,12,14,15])
 Iu
def IQ:AP := .seq (.ops [mv_ 102 12,po_ 103 (.bin 203 .quo (.t 102) (.c (.int .u32 ((10000:Nat):Int)))),mv_ 12 103] [0,4,12,13])
 IV
def IG:AP := .seq (.ops [mv_ 100 12,po_ 101 (.bin 203 .rem (.t 100) (.c (.int .u32 ((10000:Nat):Int)))),mv_ 13 101] [0,4,12,13])
 IQ
def IB:AP := .cond (.t 99)
 IG
 (.skip)
def Iy:AP := .seq (.draw 11 [mv_ 145 0,mv_ 146 4,po_ 147 (.bin 3 .sub (.t 146) (ci_ 1)),mv_ 148 0,mv_ 149 4,po_ 150 (.bin 3 .sub (.t 149) (ci_ 2)),mv_ 151 16,po_ 152 (.bin 203 .add (.t 151) (.c (.int .u32 ((1:Nat):Int)))),po_ 153 (.idxS (.c (.string DD)) (.t 152)),mv_ 154 16,po_ 155 (.idxS (.c (.string DD)) (.t 154)),po_ 156 (.idxA 1 (.t 145) (.t 147)),⟨none,.s (.store 1 (.t 156) (.t 153)),none⟩,po_ 157 (.idxA 1 (.t 148) (.t 150)),⟨none,.s (.store 1 (.t 157) (.t 155)),none⟩] [0,4,12])
 (.ops [mv_ 158 4,po_ 159 (.bin 3 .sub (.t 158) (ci_ 2)),mv_ 4 159] [0,4,12])
def Ir:AP := .seq (.ops [mv_ 143 12,po_ 144 (.bin 203 .quo (.t 143) (.c (.int .u32 ((100:Nat):Int)))),mv_ 12 144] [0,4,12,16])
 Iy
def Il:AP := .seq (.ops [mv_ 140 12,po_ 141 (.bin 203 .rem (.t 140) (.c (.int .u32 ((100:Nat):Int)))),po_ 142 (.bin 203 .mul (.t 141) (.c (.int .u32 ((2:Nat):Int)))),mv_ 16 142] [0,4,12,16])
 Ir
def Io:AP := .cond (.t 139)
 Il
 (.skip)
def ER:AP := .seq (.seq (.ops [mv_ 138 4,po_ 139 (.bin 3 .geq (.t 138) (ci_ 2))] [0,4,12,139])
 Io)
 (.seq (.ops [mv_ 160 4,po_ 161 (.bin 3 .gtr (.t 160) (ci_ 0))] [0,12,161])
 (.cond (.t 161)
 (.ops [mv_ 162 0,mv_ 163 12,po_ 164 (.bin 203 .add (.c (.int .u32 ((48:Nat):Int))) (.t 163)),po_ 165 (.conv .u8 (.t 164)),po_ 166 (.idxA 1 (.t 162) (ci_ 0)),⟨none,.s (.store 1 (.t 166) (.t 165)),none⟩] [])
 (.skip)))
def EP:AP := .seq (.seq (.ops [mv_ 98 4,po_ 99 (.bin 3 .geq (.t 98) (ci_ 4))] [0,4,12,99])
 IB)
 ER
def Ip:AP := .seq (.ops [mv_ 96 1,po_ 97 (.conv .u32 (.t 96)),mv_ 12 97] [0,4,12])
 EP
def Iq:AP := .seq (.block 0 (.loop [0,1,4] Ik))
 Ip
def KQ:AP := .seq (.ops [mv_ 17 0,po_ 18 (.lenV (.t 17)),mv_ 4 18] [0,1,4])
 Iq
def Ez:List VR:=[]
theorem TQ:Tryz.f128.body.bind (trC Tryz.prog Tryz.f128.ntmps)=some (er KQ):=by kernel_rfl
theorem Ua:trR Tryz.prog Tryz.f128.results.toList=some Ez:=by kernel_rfl
def NS:=Ac Jl.eq_1
def Oc:=Ac Jk.eq_1
def NZ:=Ac Jd.eq_1
def N8:=Ac Jc.eq_1
def NV:=Ac Ji.eq_1
def N9:=Ac Ja.eq_1
def Oi:=Ac FN.eq_1
def N7:=Ac Jf.eq_1
def Oe:=Ac I9.eq_1
def Hu:=Ac Ik.eq_1
def NE:=Ac Iz.eq_1
def NG:=Ac Iu.eq_1
def ND:=Ac IV.eq_1
def NF:=Ac IQ.eq_1
def NI:=Ac IG.eq_1
def Hr:=Ac IB.eq_1
def Ha:=Ac Iy.eq_1
def HY:=Ac Ir.eq_1
def Hw:=Ac Il.eq_1
def DJ:=Ac Io.eq_1
def DI:=Ac ER.eq_1
def Ht:=Ac EP.eq_1
def Nr:=Ac Ip.eq_1
def Ny:=Ac Iq.eq_1
def Po:=Ac KQ.eq_1
theorem Ej {K:TV→Prop} {e:Env} {H:List Ob}:res Ez e H K=res [] e H K:=Ap rfl
def QP:=ES 167 Tryz.func128 TQ Ua rfl
def TD:AP := .seq (.ops [mv_ 65 0,po_ 66 (.lenS (.t 65)),po_ 67 (.bin 3 .geq (.t 66) (ci_ 3)),mv_ 68 67,⟨some 69,.p (.mov (.t 0)),some ⟨68,true⟩⟩,⟨some 70,.p (.idxS (.t 69) (ci_ 1)),some ⟨68,true⟩⟩,⟨some 71,.s (.call 151 [.t 70]),some ⟨68,true⟩⟩,⟨some 72,.p (.bin 5 .eql (.t 71) (.c (.int .u8 ((120:Nat):Int)))),some ⟨68,true⟩⟩,po_ 73 (.pick (.t 68) (.t 72) (.c (.bool false))),mv_ 64 73] [0,2,8,9,64])
 (.cond (.t 64)
 (.seq (.ops [po_ 1 (.mov (ci_ 16))] [0,1,2,8,9])
  (.ops [mv_ 74 0,po_ 75 (.slS (.t 74) (some (ci_ 2)) none),mv_ 0 75] [0,1,2,8,9]))
 (.seq (.ops [po_ 1 (.mov (ci_ 8))] [0,1,2,8,9])
  (.ops [mv_ 38 0,po_ 39 (.slS (.t 38) (some (ci_ 1)) none),mv_ 0 39] [0,1,2,8,9])))
def Tu:AP := .cond (.t 52)
 (.seq (.ops [po_ 1 (.mov (ci_ 8))] [0,1,2,8,9])
  (.ops [mv_ 62 0,po_ 63 (.slS (.t 62) (some (ci_ 2)) none),mv_ 0 63] [0,1,2,8,9]))
 TD
def TU:AP := .seq (.ops [mv_ 53 0,po_ 54 (.lenS (.t 53)),po_ 55 (.bin 3 .geq (.t 54) (ci_ 3)),mv_ 56 55,⟨some 57,.p (.mov (.t 0)),some ⟨56,true⟩⟩,⟨some 58,.p (.idxS (.t 57) (ci_ 1)),some ⟨56,true⟩⟩,⟨some 59,.s (.call 151 [.t 58]),some ⟨56,true⟩⟩,⟨some 60,.p (.bin 5 .eql (.t 59) (.c (.int .u8 ((111:Nat):Int)))),some ⟨56,true⟩⟩,po_ 61 (.pick (.t 56) (.t 60) (.c (.bool false))),mv_ 52 61] [0,2,8,9,52])
 Tu
def Tz:AP := .cond (.t 40)
 (.seq (.ops [po_ 1 (.mov (ci_ 2))] [0,1,2,8,9])
  (.ops [mv_ 50 0,po_ 51 (.slS (.t 50) (some (ci_ 2)) none),mv_ 0 51] [0,1,2,8,9]))
 TU
def Tv:AP := .block 1 (.seq (.ops [mv_ 41 0,po_ 42 (.lenS (.t 41)),po_ 43 (.bin 3 .geq (.t 42) (ci_ 3)),mv_ 44 43,⟨some 45,.p (.mov (.t 0)),some ⟨44,true⟩⟩,⟨some 46,.p (.idxS (.t 45) (ci_ 1)),some ⟨44,true⟩⟩,⟨some 47,.s (.call 151 [.t 46]),some ⟨44,true⟩⟩,⟨some 48,.p (.bin 5 .eql (.t 47) (.c (.int .u8 ((98:Nat):Int)))),some ⟨44,true⟩⟩,po_ 49 (.pick (.t 44) (.t 48) (.c (.bool false))),mv_ 40 49] [0,2,8,9,40])
 Tz)
def Ud:AP := .cond (.t 37)
 Tv
 (.skip)
def TE:AP := .seq (.ops [mv_ 35 0,po_ 36 (.idxS (.t 35) (ci_ 0)),po_ 37 (.bin 5 .eql (.t 36) (.c (.int .u8 ((48:Nat):Int))))] [0,1,2,8,9,37])
 Ud
def Tf:AP := .seq (.ops [po_ 1 (.mov (ci_ 10))] [0,1,2,8,9])
 TE
def TM:AP := .cond (.t 32)
 Tf
 (.seq (.ops [po_ 24 (.iface 228 (ci_ 3)),po_ 6 (.mov (.c (.int .u64 ((0:Nat):Int)))),mv_ 7 24] [6,7])
  (.ret))
def QR:AP := .seq (.ops [mv_ 33 1,po_ 34 (.bin 3 .eql (.t 33) (ci_ 0)),mv_ 32 34] [0,2,8,9,32])
 TM
def J5:AP := .cond (.t 25)
 (.skip)
 QR
def J7:AP := .seq (.ops [mv_ 78 2,po_ 79 (.bin 3 .lss (.t 78) (ci_ 0)),mv_ 80 79,⟨some 81,.p (.mov (.t 2)),some ⟨80,false⟩⟩,⟨some 82,.p (.bin 3 .gtr (.t 81) (ci_ 64)),some ⟨80,false⟩⟩,po_ 83 (.pick (.t 80) (.c (.bool true)) (.t 82))] [0,1,2,8,9,83])
 (.cond (.t 83)
 (.seq (.ops [po_ 84 (.iface 228 (ci_ 4)),po_ 6 (.mov (.c (.int .u64 ((0:Nat):Int)))),mv_ 7 84] [6,7])
  (.ret))
 (.skip))
def JU:AP := .seq (.ops [po_ 93 (.bin 3 .eql (.t 85) (ci_ 16)),mv_ 92 93] [0,1,2,8,9,92])
 (.cond (.t 92)
 (.ops [po_ 10 (.mov (.c (.int .u64 ((1152921504606846976:Nat):Int))))] [0,1,2,8,9,10])
 (.ops [mv_ 86 1,po_ 87 (.conv .u64 (.t 86)),po_ 88 (.bin 163 .quo (.c (.int .u64 ((18446744073709551615:Nat):Int))) (.t 87)),po_ 89 (.bin 163 .add (.t 88) (.c (.int .u64 ((1:Nat):Int)))),mv_ 10 89] [0,1,2,8,9,10]))
def KD:AP := .seq (.ops [mv_ 122 15,so_ 123 (.call 151 [.t 122]),po_ 124 (.bin 5 .leq (.c (.int .u8 ((97:Nat):Int))) (.t 123)),mv_ 125 124,⟨some 126,.p (.mov (.t 15)),some ⟨125,true⟩⟩,⟨some 127,.s (.call 151 [.t 126]),some ⟨125,true⟩⟩,⟨some 128,.p (.bin 5 .leq (.t 127) (.c (.int .u8 ((122:Nat):Int)))),some ⟨125,true⟩⟩,po_ 129 (.pick (.t 125) (.t 128) (.c (.bool false))),mv_ 121 129] [1,8,9,10,11,12,13,15,99,100,101,121])
 (.cond (.t 121)
 (.ops [mv_ 130 15,so_ 131 (.call 151 [.t 130]),po_ 132 (.bin 5 .sub (.t 131) (.c (.int .u8 ((97:Nat):Int)))),po_ 133 (.bin 5 .add (.t 132) (.c (.int .u8 ((10:Nat):Int)))),mv_ 16 133] [1,8,9,10,11,12,13,16,99,100,101])
 (.seq (.ops [po_ 105 (.iface 228 (ci_ 2)),po_ 6 (.mov (.c (.int .u64 ((0:Nat):Int)))),mv_ 7 105] [6,7])
  (.ret)))
def Kq:AP := .cond (.t 112)
 (.ops [mv_ 119 15,po_ 120 (.bin 5 .sub (.t 119) (.c (.int .u8 ((48:Nat):Int)))),mv_ 16 120] [1,8,9,10,11,12,13,16,99,100,101])
 KD
def J6:AP := .seq (.ops [mv_ 113 15,po_ 114 (.bin 5 .leq (.c (.int .u8 ((48:Nat):Int))) (.t 113)),mv_ 115 114,⟨some 116,.p (.mov (.t 15)),some ⟨115,true⟩⟩,⟨some 117,.p (.bin 5 .leq (.t 116) (.c (.int .u8 ((57:Nat):Int)))),some ⟨115,true⟩⟩,po_ 118 (.pick (.t 115) (.t 117) (.c (.bool false))),mv_ 112 118] [1,8,9,10,11,12,13,15,99,100,101,112])
 Kq
def KC:AP := .cond (.t 106)
 (.seq (.ops [po_ 12 (.mov (.c (.bool true)))] [1,8,9,10,11,12,13,99,100,101])
  (.exit 4))
 J6
def JH:AP := .seq (.seq (.ops [mv_ 152 17,mv_ 153 13,po_ 154 (.bin 163 .lss (.t 152) (.t 153)),mv_ 155 154,⟨some 156,.p (.mov (.t 17)),some ⟨155,false⟩⟩,⟨some 157,.p (.mov (.t 11)),some ⟨155,false⟩⟩,⟨some 158,.p (.bin 163 .gtr (.t 156) (.t 157)),some ⟨155,false⟩⟩,po_ 159 (.pick (.t 155) (.c (.bool true)) (.t 158))] [1,8,9,10,11,12,17,99,100,101,159])
 (.cond (.t 159)
 (.seq (.ops [mv_ 160 11,po_ 161 (.iface 228 (ci_ 1)),mv_ 6 160,mv_ 7 161] [6,7])
  (.ret))
 (.skip)))
 (.ops [mv_ 162 17,mv_ 13 162] [1,8,9,10,11,12,13,99,100,101])
def J3:AP := .seq (.ops [mv_ 148 13,mv_ 149 16,po_ 150 (.conv .u64 (.t 149)),po_ 151 (.bin 163 .add (.t 148) (.t 150)),mv_ 17 151] [1,8,9,10,11,12,13,17,99,100,101])
 JH
def KA:AP := .seq (.ops [mv_ 144 13,mv_ 145 1,po_ 146 (.conv .u64 (.t 145)),po_ 147 (.bin 163 .mul (.t 144) (.t 146)),mv_ 13 147] [1,8,9,10,11,12,13,16,99,100,101])
 J3
def JR:AP := .seq (.seq (.ops [mv_ 139 13,mv_ 140 10,po_ 141 (.bin 163 .geq (.t 139) (.t 140))] [1,8,9,10,11,12,13,16,99,100,101,141])
 (.cond (.t 141)
 (.seq (.ops [mv_ 142 11,po_ 143 (.iface 228 (ci_ 1)),mv_ 6 142,mv_ 7 143] [6,7])
  (.ret))
 (.skip)))
 KA
def Kr:AP := .seq (.seq (.ops [mv_ 134 16,mv_ 135 1,po_ 136 (.conv .u8 (.t 135)),po_ 137 (.bin 5 .geq (.t 134) (.t 136))] [1,8,9,10,11,12,13,16,99,100,101,137])
 (.cond (.t 137)
 (.seq (.ops [po_ 138 (.iface 228 (ci_ 2)),po_ 6 (.mov (.c (.int .u64 ((0:Nat):Int)))),mv_ 7 138] [6,7])
  (.ret))
 (.skip)))
 JR
def KE:AP := .seq (.block 5 (.seq (.ops [mv_ 107 15,po_ 108 (.bin 5 .eql (.t 107) (.c (.int .u8 ((95:Nat):Int)))),mv_ 109 108,⟨some 110,.p (.mov (.t 8)),some ⟨109,true⟩⟩,po_ 111 (.pick (.t 109) (.t 110) (.c (.bool false))),mv_ 106 111] [1,8,9,10,11,12,13,15,99,100,101,106])
 KC))
 Kr
def JP:AP := .seq (.ops [po_ 16 (.mov (.c (.int .u8 ((0:Nat):Int))))] [1,8,9,10,11,12,13,15,99,100,101])
 KE
def JO:AP := .seq (.block 4 (.seq (.ops [po_ 103 (.idxA 1 (.t 99) (.t 101)),po_ 104 (.load false 1 (.t 103)),mv_ 15 104] [1,8,9,10,11,12,13,15,99,100,101])
 JP))
 (.ops [po_ 163 (.bin 3 .add (.t 101) (ci_ 1)),mv_ 101 163] [1,8,9,10,11,12,13,99,100,101])
def J4:AP := .seq (.cond (.t 102)
 (.skip)
 (.exit 3))
 JO
def JX:AP := .seq (.ops [po_ 102 (.bin 3 .lss (.t 101) (.t 100))] [1,8,9,10,11,12,13,99,100,101,102])
 J4
def Kw:AP := .block 3 (.loop [1,8,9,10,11,12,13,99,100,101] JX)
def JY:AP := .seq (.seq (.ops [mv_ 164 12,mv_ 165 164,⟨some 166,.p (.mov (.t 9)),some ⟨165,true⟩⟩,⟨some 167,.s (.call 152 [.t 166]),some ⟨165,true⟩⟩,⟨some 168,.p (.un .not (.t 167)),some ⟨165,true⟩⟩,po_ 169 (.pick (.t 165) (.t 168) (.c (.bool false)))] [13,169])
 (.cond (.t 169)
 (.seq (.ops [po_ 170 (.iface 228 (ci_ 2)),po_ 6 (.mov (.c (.int .u64 ((0:Nat):Int)))),mv_ 7 170] [6,7])
  (.ret))
 (.skip)))
 (.seq (.ops [mv_ 171 13,mv_ 6 171,po_ 7 (.mov (.c .nilIface))] [6,7])
 (.ret))
def JJ:AP := .seq (.seq (.ops [mv_ 98 0,so_ 99 (.s2b (.t 98)),po_ 100 (.lenV (.t 99)),po_ 101 (.mov (ci_ 0))] [1,8,9,10,11,12,13,99,100,101])
 Kw)
 JY
def JV:AP := .seq (.ops [po_ 13 (.mov (.c (.int .u64 ((0:Nat):Int))))] [0,1,8,9,10,11,12,13])
 JJ
def JK:AP := .seq (.ops [po_ 12 (.mov (.c (.bool false)))] [0,1,8,9,10,11,12])
 JV
def JQ:AP := .seq (.ops [mv_ 94 2,po_ 95 (.conv .u64 (.t 94)),po_ 96 (.bin 163 .shl (.c (.int .u64 ((1:Nat):Int))) (.t 95)),po_ 97 (.bin 163 .sub (.t 96) (.c (.int .u64 ((1:Nat):Int)))),mv_ 11 97] [0,1,8,9,10,11])
 JK
def JL:AP := .seq (.seq (.ops [mv_ 85 1] [0,1,2,8,9,85])
 (.block 2 (.seq (.ops [po_ 91 (.bin 3 .eql (.t 85) (ci_ 10)),mv_ 90 91] [0,1,2,8,9,85,90])
 (.cond (.t 90)
 (.ops [po_ 10 (.mov (.c (.int .u64 ((1844674407370955162:Nat):Int))))] [0,1,2,8,9,10])
 JU))))
 JQ
def JM:AP := .seq (.ops [po_ 10 (.mov (.c (.int .u64 ((0:Nat):Int))))] [0,1,2,8,9])
 JL
def JW:AP := .seq (.seq (.ops [mv_ 76 2,po_ 77 (.bin 3 .eql (.t 76) (ci_ 0))] [0,1,2,8,9,77])
 (.cond (.t 77)
 (.ops [po_ 2 (.mov (ci_ 64))] [0,1,2,8,9])
 J7))
 JM
def KG:AP := .seq (.block 0 (.seq (.ops [mv_ 26 1,po_ 27 (.bin 3 .leq (ci_ 2) (.t 26)),mv_ 28 27,⟨some 29,.p (.mov (.t 1)),some ⟨28,true⟩⟩,⟨some 30,.p (.bin 3 .leq (.t 29) (ci_ 36)),some ⟨28,true⟩⟩,po_ 31 (.pick (.t 28) (.t 30) (.c (.bool false))),mv_ 25 31] [0,1,2,8,9,25])
 J5))
 JW
def KI:AP := .seq (.ops [mv_ 23 0,mv_ 9 23] [0,1,2,8,9])
 KG
def Kz:AP := .seq (.ops [mv_ 21 1,po_ 22 (.bin 3 .eql (.t 21) (ci_ 0)),mv_ 8 22] [0,1,2,8])
 KI
def Ko:AP := .seq (.seq (.ops [mv_ 18 0,po_ 19 (.bin 9 .eql (.t 18) (.c (.string (str []))))] [0,1,2,19])
 (.cond (.t 19)
 (.seq (.ops [po_ 20 (.iface 228 (ci_ 2)),po_ 6 (.mov (.c (.int .u64 ((0:Nat):Int)))),mv_ 7 20] [6,7])
  (.ret))
 (.skip)))
 Kz
def MI:AP := .seq (.ops [po_ 6 (.mov (.c (.int .u64 ((0:Nat):Int)))),po_ 7 (.mov (.c .nilIface))] [0,1,2])
 Ko
def MH:List VR:=[.tmp 6,.tmp 7]
theorem X3:Tryz.f123.body.bind (trC Tryz.prog Tryz.f123.ntmps)=some (er MI):=by kernel_rfl
theorem X8:trR Tryz.prog Tryz.f123.results.toList=some MH:=by kernel_rfl
def Fz:=Ac J5.eq_1
def FC:=Ac J7.eq_1
def OU:=Ac JU.eq_1
def BF:=Ac KD.eq_1
def AY:=Ac Kq.eq_1
def Bv:=Ac J6.eq_1
def Bq:=Ac KC.eq_1
def Fv:=Ac JH.eq_1
def EZ:=Ac J3.eq_1
def FQ:=Ac KA.eq_1
def Ec:=Ac JR.eq_1
def BB:=Ac Kr.eq_1
def BA:=Ac KE.eq_1
def Bi:=Ac JP.eq_1
def Bh:=Ac JO.eq_1
def AZ:=Ac J4.eq_1
def A7:=Ac JX.eq_1
def FP:=Ac Kw.eq_1
def FI:=Ac JY.eq_1
def FB:=Ac JJ.eq_1
def FM:=Ac JV.eq_1
def FK:=Ac JK.eq_1
def FH:=Ac JQ.eq_1
def Fa:=Ac JL.eq_1
def Fe:=Ac JM.eq_1
def FO:=Ac JW.eq_1
def E5:=Ac KG.eq_1
def FD:=Ac KI.eq_1
def E8:=Ac Kz.eq_1
def CO:=Ac Ko.eq_1
def CW:=Ac MI.eq_1
theorem AV {K:TV→Prop} {e:Env} {H:List Ob}:res MH e H K=res [.tmp 6,.tmp 7] e H K:=Ap rfl
def G6:=ES 172 Tryz.func123 X3 X8 rfl
def OT:AP := .seq (.ops [po_ 2 (.mov (.c (.int .u8 ((0:Nat):Int))))] [0])
 (.seq (.ops [mv_ 3 0,po_ 4 (.bin 5 .or (.t 3) (.c (.int .u8 ((32:Nat):Int)))),mv_ 2 4] [2])
 (.ret))
def OE:List VR:=[.tmp 2]
theorem Ad4:Tryz.f151.body.bind (trC Tryz.prog Tryz.f151.ntmps)=some (er OT):=by kernel_rfl
theorem Ae1:trR Tryz.prog Tryz.f151.results.toList=some OE:=by kernel_rfl
def Aaf:=Ac OT.eq_1
theorem Aak {K:TV→Prop} {e:Env} {H:List Ob}:res OE e H K=res [.tmp 2] e H K:=Ap rfl
def Adl:=(aI_ @Aaf @Aak)
def Acs:=ES 5 Tryz.func151 Ad4 Ae1 rfl
def RG:AP := .seq (.ops [mv_ 19 8,mv_ 20 0,mv_ 21 1,mv_ 22 2,mv_ 23 9,so_ 24 (.call 124 [.c (.string (str [80,97,114,115,101,85,105,110,116])),.t 20,.t 21,.t 22,.t 23]),mv_ 6 19,mv_ 7 24] [6,7])
 (.ret)
def Rq:AP := .seq (.seq (.ops [mv_ 17 9,po_ 18 (.eqN 1 (.t 17) (.c .nilIface) true)] [0,1,2,8,9,18])
 (.cond (.t 18)
 RG
 (.skip)))
 (.seq (.ops [mv_ 25 8,mv_ 6 25,po_ 7 (.mov (.c .nilIface))] [6,7])
 (.ret))
def RH:AP := .seq (.ops [mv_ 11 0,mv_ 12 1,mv_ 13 2,so_ 14 (.call 123 [.t 11,.t 12,.t 13]),mv_ 10 14,po_ 15 (.ext 0 (.t 10)),po_ 16 (.ext 1 (.t 10)),mv_ 8 15,mv_ 9 16] [0,1,2,8,9])
 Rq
def Z4:AP := .seq (.ops [po_ 6 (.mov (.c (.int .u64 ((0:Nat):Int)))),po_ 7 (.mov (.c .nilIface))] [0,1,2])
 RH
def Zp:List VR:=[.tmp 6,.tmp 7]
theorem ApS:Tryz.f89.body.bind (trC Tryz.prog Tryz.f89.ntmps)=some (er Z4):=by kernel_rfl
theorem AoA:trR Tryz.prog Tryz.f89.results.toList=some Zp:=by kernel_rfl
def AcO:=Ac RG.eq_1
def AeN:=Ac Rq.eq_1
def AeE:=Ac RH.eq_1
def Akg:=Ac Z4.eq_1
theorem AjL {K:TV→Prop} {e:Env} {H:List Ob}:res Zp e H K=res [.tmp 6,.tmp 7] e H K:=Ap rfl
def CQ:=(aI_ (aI_ (aI_ @AcO @AeN) (aI_ @AeE @Akg)) @AjL)
def NC:=ES 26 Tryz.func89 ApS AoA rfl
def AfX:AP := .seq (.seq (.ops [mv_ 6 0,po_ 7 (.bin 3 .gtr (.t 6) (ci_ 0))] [0,3,7])
 (.cond (.t 7)
 (.skip)
 (.exit 0)))
 (.block 1 (.seq (.ops [mv_ 8 0,po_ 9 (.bin 3 .rem (.t 8) (ci_ 10)),po_ 10 (.bin 3 .add (ci_ 48) (.t 9)),po_ 11 (.conv .u8 (.t 10)),⟨some 12,.s (.bslice 1 1 (.val (.int .u8 ((0:Nat):Int))) [⟨0,.t 11⟩]),none⟩,po_ 13 (.b2s (.t 12)),mv_ 14 3,po_ 15 (.bin 9 .add (.t 13) (.t 14)),mv_ 3 15] [0,3])
 (.ops [mv_ 16 0,po_ 17 (.bin 3 .quo (.t 16) (ci_ 10)),mv_ 0 17] [0,3])))
def Adj:AP := .seq (.ops [mv_ 18 3,mv_ 2 18] [2])
 (.ret)
def AcQ:AP := .seq (.block 0 (.loop [0,3] AfX))
 Adj
def Aef:AP := .seq (.ops [po_ 3 (.mov (.c (.string (str []))))] [0,3])
 AcQ
def Afn:AP := .seq (.seq (.ops [mv_ 4 0,po_ 5 (.bin 3 .eql (.t 4) (ci_ 0))] [0,5])
 (.cond (.t 5)
 (.seq (.ops [po_ 2 (.mov (.c (.string (str [48]))))] [2])
  (.ret))
 (.skip)))
 Aef
def Anq:AP := .seq (.ops [po_ 2 (.mov (.c (.string (str []))))] [0])
 Afn
def AnV:List VR:=[.tmp 2]
theorem Aws:Tryz.f69.body.bind (trC Tryz.prog Tryz.f69.ntmps)=some (er Anq):=by kernel_rfl
theorem AwW:trR Tryz.prog Tryz.f69.results.toList=some AnV:=by kernel_rfl
def ApU:=Ac AfX.eq_1
def Aoy:=Ac Adj.eq_1
def AoJ:=Ac AcQ.eq_1
def Aou:=Ac Aef.eq_1
def Ao2:=Ac Afn.eq_1
def Auw:=Ac Anq.eq_1
theorem At9 {K:TV→Prop} {e:Env} {H:List Ob}:res AnV e H K=res [.tmp 2] e H K:=Ap rfl
def Uf:=(aI_ (aI_ (aI_ @ApU @Aoy) (aI_ @AoJ @Aou)) (aI_ (aI_ @Ao2 @Auw) @At9))
def Avm:=ES 19 Tryz.func69 Aws AwW rfl
end
section
open Go.RowKit
variable [Cc]
theorem Aaq:∀ q:Nat,q<100→(bl DD)[q*2]?=some (UInt8.ofNat (48+q / 10))∧(bl DD)[q*2+1]?=some (UInt8.ofNat (48+q % 10)):=by
 have h:((List.range 100).all fun q=>decide ((bl DD)[q*2]?=some (UInt8.ofNat (48+q / 10))∧(bl DD)[q*2+1]?=some (UInt8.ofNat (48+q % 10))))=true:=by kernel_rfl
 intro q hq
 have:=List.all_eq_true.1 h q (List.mem_range.2 hq)
 simpa using this
theorem Bs1 {x:Nat} (h:x<100000000):x % 10000 % 100<100∧x % 10000 / 100<100∧x / 10000 % 100<100∧x / 10000 / 100<100:=by omega
theorem Brt (m:Nat):m+8 - 1=m+7∧m+8 - 2=m+6∧m+8 - 3=m+5∧m+8 - 4=m+4∧m+8 - 5=m+3∧m+8 - 6=m+2∧m+8 - 7=m+1∧m+8 - 8=m:=by omega
theorem ByB (x:Nat):dgs 8 x=[UInt8.ofNat (48+x / 10000 / 100 % 100 / 10),UInt8.ofNat (48+x / 10000 / 100 % 100 % 10),UInt8.ofNat (48+x / 10000 % 100 / 10),UInt8.ofNat (48+x / 10000 % 100 % 10),UInt8.ofNat (48+x % 10000 / 100 / 10),UInt8.ofNat (48+x % 10000 / 100 % 10),UInt8.ofNat (48+x % 10000 % 100 / 10),UInt8.ofNat (48+x % 10000 % 100 % 10)]:=by
 rw [show 8=2+6 from rfl,AjT 6 2,show 6=2+4 from rfl,AjT 4 2,show 4=2+2 from rfl,AjT 2 2,Alq,Alq,Alq,Alq]
 simp only [Nat.reducePow,List.cons_append,List.nil_append]
 rw [show x / 10000 % 100=x / 10000 % 100 from rfl,show x / 1000000=x / 10000 / 100 by omega,show x / 100 % 100=x % 10000 / 100 by omega,show x % 100=x % 10000 % 100 by omega]
set_option maxHeartbeats 1000000 in
theorem BrM {x m' nd:Nat} (hxl:x<100000000) (hm:m'+8≤nd) (hn24:nd≤24) {P':List UInt8} (hP':P'.length=m'+8) {R:List TV} {id v cp N:Nat} {H:List Ob} (hid:id<H.length) {y:TV} {Q:VEx→Env→List Ob→Prop}
  (hQ:∀ P4:List UInt8,P4.length=m'→Q .nor [(0,.os 1 id v [] 0 nd cp),(1,y),(4,i64 (m':Int))] (H.set id (.obj v (.arr N 1 (P4.map by8++((dgs 8 x).map by8++R)))))) :
  vwp Tryz.prog FN Q [(0,.os 1 id v [] 0 nd cp),(1,y),(4,i64 ((m'+8:Nat):Int)),(5,.val (.int .u32 (x:Int)))] (H.set id (.obj v (.arr N 1 (P'.map by8++R)))):=by
 have hat:∀ o,(H.set id o)[id]?=some o:=fun o=>List.getElem?_set_self hid
 obtain ⟨P4,p0,p1,p2,p3,p4,p5,p6,p7,rfl,l4⟩:∃ P4 p0 p1 p2 p3 p4 p5 p6 p7,P'=P4++[p0,p1,p2,p3,p4,p5,p6,p7]∧P4.length=m':=by
  have h1:P'=P'.take m'++P'.drop m':=(List.take_append_drop m' P').symm
  have h2:(P'.drop m').length=8:=by simp [hP']
  match hD:P'.drop m',h2 with
  | [p0,p1,p2,p3,p4,p5,p6,p7],_=>exact ⟨P'.take m',p0,p1,p2,p3,p4,p5,p6,p7,by rw [←hD]; exact h1,by simp [hP']⟩
 have l5:(P4.map by8).length=m':=by simp [l4]
 have gA:∀ (j:Nat) (L:List TV),(P4.map by8++L)[m'+j]?=L[j]?:=fun j L=>by rw [List.getElem?_append_right (by omega),l5,Nat.add_sub_cancel_left]
 have gA0:∀ (L:List TV),(P4.map by8++L)[m']?=L[0]?:=fun L=>gA 0 L
 have sA:∀ (j:Nat) (L:List TV) c,(P4.map by8++L).set (m'+j) c=P4.map by8++L.set j c:=fun j L c=>by rw [List.set_append_right _ _ (by omega),l5,Nat.add_sub_cancel_left]
 have sA0:∀ (L:List TV) c,(P4.map by8++L).set m' c=P4.map by8++L.set 0 c:=fun L c=>sA 0 L c
 rw [List.map_append,List.append_assoc]
 obtain ⟨n1,n2,n3,n4,n5,n6,n7,n8⟩:=Brt m'
 obtain ⟨q1,q2,q3,q4⟩:=Bs1 hxl
 obtain ⟨a1,b1⟩:=Aaq (x % 10000 % 100) q1
 obtain ⟨a2,b2⟩:=Aaq (x % 10000 / 100) q2
 obtain ⟨a3,b3⟩:=Aaq (x / 10000 % 100) q3
 obtain ⟨a4,b4⟩:=Aaq (x / 10000 / 100) q4
 have hQ4:=hQ P4 l4
 rw [ByB,Nat.mod_eq_of_lt q4] at hQ4
 clear hQ
 simp -dsimp (disch:=first | assumption | omega | (simp only [Aa];try omega)) only [↓AB,Aj,AA,Az,eq_self,Nat.reduceEqDiff,↓reduceIte,reduceCtorEq,↓Oi,AyK,AxW,↓N9,↓NV]
 generalize x % 10000 % 100=z1 at *
 generalize x % 10000 / 100=z2 at *
 generalize x / 10000 % 100=z3 at *
 generalize x / 10000 / 100=z4 at *
 simp -dsimp (disch:=first | assumption | omega | (simp only [Aa];try omega)) only [↓AB,Aj,AA,Az,eq_self,Nat.reduceEqDiff,↓reduceIte,reduceCtorEq,↓N8,AgH,a1,b1,hat,n1,n2,gA,sA]
 simp -dsimp (disch:=first | assumption | omega | (simp only [Aa];try omega)) only [↓AB,Aj,AA,Az,eq_self,Nat.reduceEqDiff,↓reduceIte,reduceCtorEq,↓NZ,AgH,a2,b2,hat,n3,n4,gA,sA]
 simp -dsimp (disch:=first | assumption | omega | (simp only [Aa];try omega)) only [↓AB,Aj,AA,Az,eq_self,Nat.reduceEqDiff,↓reduceIte,reduceCtorEq,↓Oc,AgH,a3,b3,hat,n5,n6,gA,sA]
 simp -dsimp (disch:=first | assumption | omega | (simp only [Aa];try omega)) only [↓AB,Aj,AA,Az,eq_self,Nat.reduceEqDiff,↓reduceIte,reduceCtorEq,↓NS,AgH,a4,b4,hat,n7,n8,gA,gA0,sA,sA0]
 exact hQ4
theorem BzA (x:Nat):dgs 4 x=[UInt8.ofNat (48+x % 10000 / 100 / 10),UInt8.ofNat (48+x % 10000 / 100 % 10),UInt8.ofNat (48+x % 10000 % 100 / 10),UInt8.ofNat (48+x % 10000 % 100 % 10)]:=by
 rw [show 4=2+2 from rfl,AjT 2 2,Alq,Alq]
 simp only [Nat.reducePow,List.cons_append,List.nil_append]
 rw [show x / 100 % 100=x % 10000 / 100 by omega,show x % 100=x % 10000 % 100 by omega]
theorem BxE {x:Nat}:x % 10000 % 100<100∧x % 10000 / 100<100∧x % 100<100:=by omega
theorem Buw (m:Nat):m+4 - 1=m+3∧m+4 - 2=m+2∧m+4 - 3=m+1∧m+4 - 4=m:=by omega
set_option maxHeartbeats 1000000 in
theorem BpE {x m nd:Nat} (hx:x<10 ^ m) (hm4:m<4) (hm:m≤nd) (hn24:nd≤24) {P':List UInt8} (hP':P'.length=m) {R:List TV} {id v cp N:Nat} {H:List Ob} (hid:id<H.length) {K:TV→List Ob→Prop}
  (hQ:K (.tup []) (H.set id (.obj v (.arr N 1 ((dgs m x).map by8++R))))) :
  vwp Tryz.prog ER (Awf Ez K) [(0,.os 1 id v [] 0 nd cp),(4,i64 (m:Int)),(12,.val (.int .u32 (x:Int)))] (H.set id (.obj v (.arr N 1 (P'.map by8++R)))):=by
 have hat:∀ o,(H.set id o)[id]?=some o:=fun o=>List.getElem?_set_self hid
 have hw8:∀ n:Nat,n<10→TV.val (.int .u8 (IntKind.u8.wrap ((48+n:Nat):Int)))=by8 (UInt8.ofNat (48+n)):=fun n hn=>by
  show TV.val (.int .u8 (IntKind.u8.wrap ((48+n:Nat):Int))) = .val (.int .u8 ((UInt8.ofNat (48+n)).toNat:Int))
  rw [BpG]
 match m,P',hP' with
 | 0,[],_ =>
  simp -dsimp (disch:=first | assumption | omega | (simp only [Aa];try omega)) only [↓AB,Aj,AA,Az,eq_self,Nat.reduceLT,Nat.reduceEqDiff,↓reduceIte,reduceCtorEq,Nat.reduceLeDiff,↓DI,↓DJ,↓Ej]
  exact hQ
 | 1,[p0],_ =>
  have hx1:x<10:=by simpa using hx
  have hw:=hw8 x hx1
  rw [ABZ,Nat.mod_eq_of_lt hx1] at hQ
  simp -dsimp (disch:=first | assumption | omega | (simp only [Aa];try omega)) only [↓AB,Aj,AA,Az,eq_self,Nat.reduceLT,Nat.reduceEqDiff,↓reduceIte,reduceCtorEq,Nat.reduceLeDiff,↓DI,↓DJ,↓Ej,AgH,hat]
  exact hQ
 | 2,[p0,p1],_ =>
  have hx1:x<100:=by simpa using hx
  obtain ⟨a1,b1⟩:=Aaq x hx1
  rw [Alq,Nat.mod_eq_of_lt hx1] at hQ
  have hxm:x % 100=x:=Nat.mod_eq_of_lt hx1
  simp -dsimp (disch:=first | assumption | omega | (simp only [Aa];try omega)) only [↓AB,Aj,AA,Az,eq_self,Nat.reduceLT,Nat.reduceEqDiff,Nat.reduceSub,↓reduceIte,reduceCtorEq,Nat.reduceLeDiff,↓DI,↓DJ,↓Hw,AxW,AyK,hxm,↓HY,↓Ha,↓Ej,AgH,hat,a1,b1]
  exact hQ
 | 3,[p0,p1,p2],_ =>
  have hx1:x<1000:=by simpa using hx
  have hx2:x / 100<10:=by omega
  have hx3:x % 100<100:=by omega
  obtain ⟨a1,b1⟩:=Aaq (x % 100) hx3
  have hw:=hw8 (x / 100) hx2
  rw [show 3=1+2 from rfl,AjT 2 1,Alq,ABZ] at hQ
  rw [show x / 10 ^ 2 % 10=x / 100 by omega] at hQ
  simp -dsimp (disch:=first | assumption | omega | (simp only [Aa];try omega)) only [↓AB,Aj,AA,Az,eq_self,Nat.reduceEqDiff,↓reduceIte,reduceCtorEq,Nat.reduceLeDiff,↓DI,↓DJ,↓Hw,AxW,AyK,↓HY]
  generalize x % 100=z at *
  generalize x / 100=z2 at *
  simp -dsimp (disch:=first | assumption | omega | (simp only [Aa];try omega)) only [↓AB,Aj,AA,Az,eq_self,Nat.reduceLT,Nat.reduceEqDiff,Nat.reduceSub,↓reduceIte,reduceCtorEq,↓Ha,↓Ej,AgH,hat,a1,b1]
  exact hQ
set_option maxHeartbeats 1000000 in
theorem Buo {x m nd:Nat} (hx:x<10 ^ m) (hm8:m<8) (hx8:x<100000000) (hm:m≤nd) (hn24:nd≤24) {P':List UInt8} (hP':P'.length=m) {R:List TV} {id v cp N:Nat} {H:List Ob} (hid:id<H.length) {K:TV→List Ob→Prop}
  (hQ:K (.tup []) (H.set id (.obj v (.arr N 1 ((dgs m x).map by8++R))))) :
  vwp Tryz.prog EP (Awf Ez K) [(0,.os 1 id v [] 0 nd cp),(4,i64 (m:Int)),(12,.val (.int .u32 (x:Int)))] (H.set id (.obj v (.arr N 1 (P'.map by8++R)))):=by
 have hat:∀ o,(H.set id o)[id]?=some o:=fun o=>List.getElem?_set_self hid
 by_cases c:4≤m
 ·obtain ⟨m',rfl⟩:∃ m',m=m'+4:=⟨m - 4,by omega⟩
  obtain ⟨P4,p0,p1,p2,p3,rfl,l4⟩:∃ P4 p0 p1 p2 p3,P'=P4++[p0,p1,p2,p3]∧P4.length=m':=by
   have h1:P'=P'.take m'++P'.drop m':=(List.take_append_drop m' P').symm
   have h2:(P'.drop m').length=4:=by simp [hP']
   match hD:P'.drop m',h2 with
   | [p0,p1,p2,p3],_=>exact ⟨P'.take m',p0,p1,p2,p3,by rw [←hD]; exact h1,by simp [hP']⟩
  have l5:(P4.map by8).length=m':=by simp [l4]
  have gA:∀ (j:Nat) (L:List TV),(P4.map by8++L)[m'+j]?=L[j]?:=fun j L=>by rw [List.getElem?_append_right (by omega),l5,Nat.add_sub_cancel_left]
  have gA0:∀ (L:List TV),(P4.map by8++L)[m']?=L[0]?:=fun L=>gA 0 L
  have sA:∀ (j:Nat) (L:List TV) c,(P4.map by8++L).set (m'+j) c=P4.map by8++L.set j c:=fun j L c=>by rw [List.set_append_right _ _ (by omega),l5,Nat.add_sub_cancel_left]
  have sA0:∀ (L:List TV) c,(P4.map by8++L).set m' c=P4.map by8++L.set 0 c:=fun L c=>sA 0 L c
  rw [List.map_append,List.append_assoc]
  have hx4:x / 10000<10 ^ m':=by rw [Nat.pow_add] at hx; omega
  rw [show m'+4=m'+4 from rfl,AjT 4 m',show (10:Nat) ^ 4=10000 from rfl,BzA,List.map_append,List.append_assoc] at hQ
  clear hx
  obtain ⟨n1,n2,n3,n4⟩:=Buw m'
  obtain ⟨q1,q2,_⟩:=BxE (x:=x)
  obtain ⟨a1,b1⟩:=Aaq (x % 10000 % 100) q1
  obtain ⟨a2,b2⟩:=Aaq (x % 10000 / 100) q2
  have fin:=BpE (R:=[by8 (UInt8.ofNat (48+x % 10000 / 100 / 10)),by8 (UInt8.ofNat (48+x % 10000 / 100 % 10)),by8 (UInt8.ofNat (48+x % 10000 % 100 / 10)),by8 (UInt8.ofNat (48+x % 10000 % 100 % 10))]++R) (cp:=cp) hx4 (by omega) (nd:=nd) (by omega) hn24 l4 hid (K:=K) hQ
  clear hQ hx4
  simp -dsimp (disch:=first | assumption | omega | (simp only [Aa];try omega)) only [↓AB,Aj,AA,Az,eq_self,Nat.reduceEqDiff,↓reduceIte,reduceCtorEq,Nat.reduceLeDiff,↓Ht,↓Hr,↓NI,↓NF,AyK,AxW,↓ND]
  generalize x % 10000 % 100=z1 at *
  generalize x % 10000 / 100=z2 at *
  simp -dsimp (disch:=first | assumption | omega | (simp only [Aa];try omega)) only [↓AB,Aj,AA,Az,eq_self,Nat.reduceEqDiff,↓reduceIte,reduceCtorEq,↓NG,AgH,a1,b1,hat,n1,n2,gA,sA]
  simp -dsimp (disch:=first | assumption | omega | (simp only [Aa];try omega)) only [↓AB,Aj,AA,Az,eq_self,Nat.reduceEqDiff,↓reduceIte,reduceCtorEq,↓NE,AgH,a2,b2,hat,n3,n4,gA,gA0,sA,sA0]
  exact fin
 ·have fin:=BpE (R:=R) (cp:=cp) hx (by omega) hm hn24 hP' hid hQ
  clear hx hx8 hQ
  simp -dsimp (disch:=first | assumption | omega | (simp only [Aa];try omega)) only [↓AB,Aj,AA,Az,eq_self,Nat.reduceEqDiff,↓reduceIte,reduceCtorEq,↓Ht,↓Hr]
  exact fin
theorem Byw:∀ {nd:Nat} {u:Nat} (hu:u<10 ^ nd) (hnd:1≤nd) (hn24:nd≤24) (hu2:u<18446744073709551616) {P:List UInt8} {Q:List TV} (hP:P.length=nd) {id v cp N:Nat} {H:List Ob} (ho:H[id]?=some (.obj v (.arr N 1 (P.map by8++Q)))) {K:TV→List Ob→Prop}
  (hK:K (.tup []) (H.set id (.obj v (.arr N 1 ((dgs nd u).map by8++Q))))),BD Tryz.prog 128 [.os 1 id v [] 0 nd cp,.val (.int .u64 (u:Int))] H K:=by
 intro nd u hu hnd hn24 hu2 P Q hP id v cp N H ho K hK
 refine QP (by simp) ?_
 have hid:id<H.length:=(List.getElem?_eq_some_iff.1 ho).1
 have hsame:∀ o,H[id]?=some o→H.set id o=H:=fun o h=>by
  apply List.ext_getElem?
  intro j
  rw [List.getElem?_set]
  split
  ·rename_i e; subst e; simp [h]
  ·rfl
 simp -dsimp (disch:=first | assumption | omega | (simp only [Aa];try omega)) only [↓AB,Aj,AA,Az,eq_self,Nat.reduceEqDiff,↓reduceIte,Nat.reduceAdd,reduceCtorEq,↓Po,↓Ny]
 refine FU (fun q e H'=>∃ (m u':Nat) (P' S:List UInt8),q=m∧m≤nd∧u'<10 ^ m∧u'<18446744073709551616∧P'.length=m∧dgs nd u=dgs m u'++S∧H'=H.set id (.obj v (.arr N 1 (P'.map by8++(S.map by8++Q))))∧e=[(0,.os 1 id v [] 0 nd cp),(1,.val (.int .u64 (u':Int))),(4,i64 (m:Int))]) nd ?_ ?_
 ·refine ⟨nd,u,P,[],rfl,Nat.le_refl _,hu,hu2,hP,by simp,?_,by simp [forget,get]⟩
  rw [List.map_nil,List.nil_append]
  exact (hsame _ ho).symm
 ·rintro q e H' ⟨m,u',P',S,rfl,hm,hu',hu2',hP',hS,rfl,rfl⟩
  have hat:∀ o,(H.set id o)[id]?=some o:=fun o=>List.getElem?_set_self hid
  by_cases c:8≤q
  ·obtain ⟨m',rfl⟩:∃ m',q=m'+8:=⟨q - 8,by omega⟩
   obtain ⟨x,hx⟩:∃ x,x=u' % 100000000:=⟨_,rfl⟩
   have hxl:x<100000000:=by omega
   have hw:IntKind.u32.wrap (x:Int)=(x:Int):=AAe (by omega)
   simp -dsimp (disch:=first | assumption | omega | (simp only [Aa];try omega)) only [↓AB,Aj,AA,Az,eq_self,Nat.reduceEqDiff,↓reduceIte,reduceCtorEq,Nat.reduceLeDiff,↓Hu,↓Oe,↓N7,ACD]
   rw [←hx,hw]
   have hu8:u' / 100000000<10 ^ m':=by rw [Nat.pow_add] at hu'; omega
   have hd8:dgs (m'+8) u'=dgs m' (u' / 100000000)++dgs 8 x:=by
    rw [AjT 8 m',ByB,ByB,show (10:Nat) ^ 8=100000000 from rfl]
    congr 1
    rw [show x / 10000 / 100 % 100=u' / 10000 / 100 % 100 by omega,show x / 10000 % 100=u' / 10000 % 100 by omega,show x % 10000=u' % 10000 by omega]
   refine BrM (R:=S.map by8++Q) hxl hm hn24 hP' hid fun P4 hP4 => ?_
   simp -dsimp (disch:=first | assumption | omega | (simp only [Aa];try omega)) only [↓AB]
   refine BQ m' (by omega) (by simp) ⟨m',u' / 100000000,P4,dgs 8 x++S,rfl,by omega,hu8,by omega,hP4,by rw [hS,hd8,List.append_assoc],by rw [List.map_append,List.append_assoc],by simp [forget,get]⟩
  ·have hu8:u'<100000000:=Nat.lt_of_lt_of_le hu' (Nat.le_trans (Nat.pow_le_pow_right (by omega) (show q≤8 by omega)) (by decide))
   have hw:IntKind.u32.wrap (u':Int)=(u':Int):=AAe (by omega)
   rw [hS,List.map_append,List.append_assoc] at hK
   have fin:=Buo (R:=S.map by8++Q) (cp:=cp) hu' (by omega) hu8 hm hn24 hP' hid hK
   clear hK hu hu'
   simp -dsimp (disch:=first | assumption | omega | (simp only [Aa];try omega)) only [↓AB,Aj,AA,Az,eq_self,Nat.reduceEqDiff,↓reduceIte,reduceCtorEq,↓Hu,↓Nr,hw]
   exact fin
end
section
open Go.RowKit
variable [Cc]
theorem CE.ofSame {f:FuncId} {args:List Value} {r:Value} (h:∀ (F:Nat→Prop) w,NL F w→Calls Tryz.prog f args.toArray w fun e w'=>e = .returned r∧w'=w):CE Tryz.prog f (args.map .val) (fun x=>x = .val r):=by
 intro β F w vs hF hv
 have hvs:vs=args:=by
  clear h hF
  induction args generalizing vs with
  | nil=>rw [List.map_nil,Ei.nil] at hv; exact hv
  | cons a args ih =>
   rw [List.map_cons] at hv
   obtain ⟨v,us,rfl,h1,h2⟩:=Ei.cons.1 hv
   have:=Rep.val.1 (Or.inl h1:Rep _ _ _ _)
   rw [this,ih us h2]
 subst hvs
 refine (h F w hF.2).mono ?_
 rintro e w' ⟨rfl,rfl⟩
 exact ⟨_,_,F,rfl,rfl,Rep.of_val,⟨rfl,rfl,rfl,Nat.le_refl _,fun _ _=>rfl,fun _ h=>h,fun _ _ h=>h,hF.1⟩⟩
theorem BuK (i:Nat) (hi:i<100):CE Tryz.prog 126 [i64 (i:Int)] (fun x=>x=ts (Lib.decDigits i)) :=
 CE.ofSame (f:=126) (args:=[.int .i64 (i:Int)]) (r := .string (str (Lib.decDigits i))) fun F w _=>Tryz.internal_strconv_small i hi w
variable [AX]
theorem Bn2 {F:Nat→Prop} {w:World} (h:NL F w):Lib.TabIs Tryz.prog w "internal/strconv.uint64pow10" .u64 Lib.pow10Tab:=by
 obtain ⟨_,t,fr,h1⟩:=h 3 _ AX.k
 have h2:Tryz.prog.globalNamed "internal/strconv.uint64pow10" = some 3:=by kernel_rfl
 have h3:BZ.cells.toArray=(Lib.pow10Tab.map fun z=>Value.int .u64 z).toArray:=by kernel_rfl
 unfold Lib.TabIs World.var?
 rw [h2,Option.bind_some,h1,h3]
theorem ADV (u:Nat) (h1:1≤u) (h2:u<18446744073709551616):CE Tryz.prog 127 [.val (.int .u64 (u:Int))] (fun x=>x=i64 (Lib.nDigits u:Int)) :=
 CE.ofSame (f:=127) (args:=[.int .u64 (u:Int)]) (r := .int .i64 (Lib.nDigits u:Int)) fun F w hg=>Tryz.internal_strconv_numDigits u h1 h2 w (Bn2 hg)
theorem ADC (u:Nat):(Lib.decDigits u).length=Lib.nDigits u:=by rw [←Bj3,AB5]
theorem BkA {n:Nat} (h:n≤24):(List.replicate 24 (TV.val (.int .u8 ((0:Nat):Int))))=((List.replicate n (0:UInt8)).map by8)++List.replicate (24 - n) (.val (.int .u8 ((0:Nat):Int))):=by
 have e:(TV.val (.int .u8 ((0:Nat):Int)))=by8 0:=rfl
 rw [e,List.map_replicate,List.replicate_append_replicate,show n+(24 - n)=24 by omega]
theorem ABJ (u:Nat) (hu:u<18446744073709551616):CE Tryz.prog 180 [.val (.int .u64 (u:Int)),i64 ((10:Nat):Int)] (fun x=>x=ts (Lib.decDigits u)):=by
 refine BD.toPureV (VF (by simp) ?_)
 have hw:u≤9223372036854775807→IntKind.i64.wrap (u:Int)=(u:Int):=fun h=>Gl (by omega) (by omega)
 by_cases c:u<100
 ·have hw:=hw (by omega)
  simp -dsimp (disch:=first | assumption | omega | (simp only [Aa];try omega)) only [↓AB,Aj,AA,Az,eq_self,Nat.reduceEqDiff,↓reduceIte,Nat.reduceAdd,reduceCtorEq,↓EN,hw]
  refine (BuK u c).calls rfl fun r hr => ?_
  subst hr
  simp -dsimp (disch:=first | assumption | omega | (simp only [Aa];try omega)) only [↓AB,Aj,AA,Az,eq_self,↓reduceIte,↓EN]
 ·have hn:=Lib.nDigits_le20 u hu
  have hp:=Lib.nDigits_pos u
  have hlt:=ADP u
  have hz:=BkA (n:=Lib.nDigits u) (by omega)
  simp only [List.replicate] at hz
  simp -dsimp (disch:=first | assumption | omega | (simp only [Aa];try omega)) only [↓AB,Aj,AA,Az,eq_self,Nat.reduceEqDiff,↓reduceIte,Nat.reduceAdd,reduceCtorEq,↓EN]
  refine (ADV u (by omega) hu).calls rfl fun r hr => ?_
  subst hr
  simp -dsimp (disch:=first | assumption | omega | (simp only [Aa];try omega)) only [↓AB,Aj,AA,Az,eq_self,Nat.reduceEqDiff,↓reduceIte,reduceCtorEq,Nat.reduceLeDiff]
  rw [hz]
  refine Aqa (Byw hlt hp (by omega) hu (by simp) rfl ?_)
  have hdl:(dgs (Lib.nDigits u) u).length=Lib.nDigits u:=AB5 _ _
  have htk:∀ R:List TV,((dgs (Lib.nDigits u) u).map by8++R).take (Lib.nDigits u)=(dgs (Lib.nDigits u) u).map by8:=fun R=>List.take_left' (by simp [hdl])
  have hall:∀ y∈(dgs (Lib.nDigits u) u).map by8,ACl y:=fun y hy=>by obtain ⟨b,_,rfl⟩:=List.mem_map.1 hy; exact AlU b
  have hda:=Bj3 u
  simp -dsimp (disch:=first | assumption | omega | (simp only [Aa];try omega)) only [↓AB,Aj,AA,Az,eq_self,Nat.reduceEqDiff,↓reduceIte,reduceCtorEq,Nat.reduceLeDiff,↓EN,htk,hdl]
  rw [hda]
theorem AB2 (u:Nat) (hu:u<18446744073709551616):CE Tryz.prog 168 [.val (.int .u64 (u:Int)),i64 ((10:Nat):Int)] (fun x=>x=ts (Lib.decDigits u)):=by
 refine BD.toPureV (AkT (by simp) ?_)
 simp -dsimp (disch:=first | assumption | omega | (simp only [Aa];try omega)) only [↓AB,Aj,AA,Az,eq_self,Nat.reduceEqDiff,↓reduceIte,Nat.reduceAdd,reduceCtorEq,↓XG]
 refine (ABJ u hu).calls rfl fun r hr => ?_
 subst hr
 simp -dsimp (disch:=first | assumption | omega | (simp only [Aa];try omega)) only [↓AB,Aj,AA,Az,eq_self,↓reduceIte,↓XG]
end
end Go.Proofs.YtliaddbbmnfioaaGreatDoor
