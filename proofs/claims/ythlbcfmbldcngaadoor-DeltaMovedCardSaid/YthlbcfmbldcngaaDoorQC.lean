/- What the proof of DeltaMovedCard stands on (texts merged; names shortened by a program): part 3. -/
import Derived.Test.YthlbcfmbldcngaaDoorQB
import Derived.Deep.LoopGhost
import Derived.Scope
import Derived.Orders
import Derived.OrdersIn
set_option linter.unusedSectionVars false
set_option linter.unusedSimpArgs false
set_option linter.unusedVariables false
namespace Go.Proofs.YthlbcfmbldcngaaDoor
section
open Go.RowKit
variable [A7]
set_option autoImplicit false
def Opd.rd:Opd→List Nat
 | .t n=>[n]
 | .c _=>[]
 | .g _=>[]
def rdO:Option Opd→List Nat
 | none=>[]
 | some x=>x.rd
def POp.rd:POp→List Nat
 | .mov x | .un _ x | .conv _ x | .s2s x | .b2s x | .load _ _ x | .fieldA _ _ x | .field _ _ _ _ x | .ext _ x | .lenS x | .lenV x | .iface _ x | .nilc x=>x.rd
 | .bin _ _ x y | .idxA _ x y | .idxAA _ _ x y | .idx _ _ _ x y | .idxS x y | .min x y | .max x y | .eqB x y _ | .eqN _ x y _=>x.rd++y.rd
 | .pick x y z=>x.rd++(y.rd++z.rd)
 | .slS x lo hi | .slV _ x lo hi | .slA _ _ x lo hi=>x.rd++(rdO lo++rdO hi)
 | .mkf _ a b=>(a++b).flatMap Opd.rd
 | .build _ _ ps | .buildA _ _ _ ps | .bsl _ _ _ ps=>ps.flatMap fun q=>q.2.rd
 | .gen _ xs=>xs.flatMap Opd.rd
theorem Aq {e e':Env} {x:Opd} (h:∀ s∈x.rd,get e s=get e' s):x.ev e=x.ev e':=by
 cases x with
 | t n=>exact h n (by simp [Opd.rd])
 | c v=>rfl
 | g n=>rfl
theorem UT {e e':Env} {lo hi:Option Opd} (h:∀ s∈rdO lo++rdO hi,get e s=get e' s) (n lim:Nat) (K:Nat→Nat→Prop):bnd e lo hi n lim K=bnd e' lo hi n lim K:=by
 unfold bnd
 cases lo with
 | none=>cases hi with
  | none=>rfl
  | some y=>simp only [Aq (x:=y) (e:=e) (e':=e') fun s hs=>h s (by simp [rdO,hs])]
 | some x =>
  have h1:=Aq (x:=x) (e:=e) (e':=e') fun s hs=>h s (by simp [rdO,hs])
  cases hi with
  | none=>simp only [h1]
  | some y=>simp only [h1,Aq (x:=y) (e:=e) (e':=e') fun s hs=>h s (by simp [rdO,hs])]
theorem JO {e e':Env}:∀ {ps:List (Nat×Opd)} (h:∀ s∈ps.flatMap (fun q=>q.2.rd),get e s=get e' s) (zs:List TV) (szs:List Nat),EE e zs ps=EE e' zs ps∧DD e szs ps=DD e' szs ps∧Bg e ps=Bg e' ps
 | [],h,zs,szs=>⟨rfl,rfl,rfl⟩
 | (i,x)::ps,h,zs,szs=>by
  have h1:=Aq (x:=x) (e:=e) (e':=e') fun s hs=>h s (by simp [hs])
  have h2:∀ s∈ps.flatMap (fun q=>q.2.rd),get e s=get e' s:=fun s hs=>h s (by rw [List.flatMap_cons]; exact List.mem_append_right _ hs)
  obtain ⟨k1,k2,k3⟩:=JO h2 (zs.set i (x.ev e')) szs
  refine ⟨by rw [EE,EE,h1,k1],by rw [DD,DD,h1,k2],by rw [Bg,Bg,h1,k3]⟩
theorem Ci {e e':Env}:∀ {xs:List Opd} (h:∀ s∈xs.flatMap Opd.rd,get e s=get e' s),xs.map (·.ev e)=xs.map (·.ev e')
 | [],h=>rfl
 | x::xs,h=>by
  rw [List.map_cons,List.map_cons,Aq (x:=x) (e:=e) (e':=e') fun s hs=>h s (by simp [hs]),Ci fun s hs=>h s (by rw [List.flatMap_cons]; exact List.mem_append_right _ hs)]
theorem Xy {o:POp} {e e':Env} (h:∀ s∈o.rd,get e s=get e' s) (H:List Ob) (K:TV→Prop):pop o e H K=pop o e' H K:=by
 have two:∀ {x y:Opd},(∀ s∈x.rd++y.rd,get e s=get e' s)→x.ev e=x.ev e'∧y.ev e=y.ev e':=fun h=>⟨Aq fun s hs=>h s (List.mem_append_left _ hs),Aq fun s hs=>h s (List.mem_append_right _ hs)⟩
 cases o with
 | mov x=>simp only [pop,Aq h]
 | un op x=>simp only [pop,Aq h]
 | conv k x=>simp only [pop,Aq h]
 | s2s x=>simp only [pop,Aq h]
 | b2s x=>simp only [pop,Aq h]
 | load ag sz x=>simp only [pop,Aq h]
 | fieldA i off x=>simp only [pop,Aq h]
 | field ag sz i off x=>simp only [pop,Aq h]
 | ext i x=>simp only [pop,Aq h]
 | lenS x=>simp only [pop,Aq h]
 | lenV x=>simp only [pop,Aq h]
 | iface t x=>simp only [pop,Aq h]
 | nilc x=>simp only [pop,Aq h]
 | bin t op x y=>obtain ⟨h1,h2⟩:=two h; simp only [pop,h1,h2]
 | idxA k x y=>obtain ⟨h1,h2⟩:=two h; simp only [pop,h1,h2]
 | idxAA n k x y=>obtain ⟨h1,h2⟩:=two h; simp only [pop,h1,h2]
 | idx ag n k x y=>obtain ⟨h1,h2⟩:=two h; simp only [pop,h1,h2]
 | idxS x y=>obtain ⟨h1,h2⟩:=two h; simp only [pop,h1,h2]
 | min x y=>obtain ⟨h1,h2⟩:=two h; simp only [pop,h1,h2]
 | max x y=>obtain ⟨h1,h2⟩:=two h; simp only [pop,h1,h2]
 | eqB x y n=>obtain ⟨h1,h2⟩:=two h; simp only [pop,h1,h2]
 | eqN kd x y n=>obtain ⟨h1,h2⟩:=two h; simp only [pop,h1,h2]
 | pick x y z =>
  have h1:=Aq (x:=x) (e:=e) (e':=e') fun s hs=>h s (List.mem_append_left _ hs)
  obtain ⟨h2,h3⟩:=two fun s hs=>h s (List.mem_append_right _ hs)
  simp only [pop,h1,h2,h3]
 | slS x lo hi =>
  have h1:=Aq (x:=x) (e:=e) (e':=e') fun s hs=>h s (List.mem_append_left _ hs)
  have h2:=fun n lim K=>UT (lo:=lo) (hi:=hi) (e:=e) (e':=e') (fun s hs=>h s (List.mem_append_right _ hs)) n lim K
  simp only [pop,h1,h2]
 | slV k x lo hi =>
  have h1:=Aq (x:=x) (e:=e) (e':=e') fun s hs=>h s (List.mem_append_left _ hs)
  have h2:=fun n lim K=>UT (lo:=lo) (hi:=hi) (e:=e) (e':=e') (fun s hs=>h s (List.mem_append_right _ hs)) n lim K
  simp only [pop,h1,h2]
 | slA n k x lo hi =>
  have h1:=Aq (x:=x) (e:=e) (e':=e') fun s hs=>h s (List.mem_append_left _ hs)
  have h2:=fun n lim K=>UT (lo:=lo) (hi:=hi) (e:=e) (e':=e') (fun s hs=>h s (List.mem_append_right _ hs)) n lim K
  simp only [pop,h1,h2]
 | mkf f a b =>
  have h1:=Ci (xs:=a) (e:=e) (e':=e') fun s hs=>h s (by show s∈(a++b).flatMap Opd.rd; rw [List.flatMap_append]; exact List.mem_append_left _ hs)
  have h2:=Ci (xs:=b) (e:=e) (e':=e') fun s hs=>h s (by show s∈(a++b).flatMap Opd.rd; rw [List.flatMap_append]; exact List.mem_append_right _ hs)
  have h3:(∀ x∈a++b,CE (x.ev e)=false)=(∀ x∈a++b,CE (x.ev e')=false):=by
   refine propext ⟨fun k x hx => ?_,fun k x hx => ?_⟩
   ·rw [←Aq (e:=e) (e':=e') fun s hs=>h s (List.mem_flatMap.2 ⟨x,hx,hs⟩)]; exact k x hx
   ·rw [Aq (e:=e) (e':=e') fun s hs=>h s (List.mem_flatMap.2 ⟨x,hx,hs⟩)]; exact k x hx
  simp only [pop,h1,h2,h3]
 | gen g xs=>simp only [pop,Ci (xs:=xs) (e:=e) (e':=e') h]
 | build zs szs ps =>
  obtain ⟨k1,k2,k3⟩:=JO h zs szs
  simp only [pop,k1,k2]
 | bsl k n z ps =>
  obtain ⟨k1,k2,k3⟩:=JO h (List.replicate n z) (List.replicate n k)
  simp only [pop,k1,k2,k3]
 | buildA n k zs ps =>
  obtain ⟨k1,k2,k3⟩:=JO h zs (List.replicate n k)
  simp only [pop,k1,k2,k3]
theorem TC {e:Env} {lo hi:Option Opd} {n lim:Nat} {K:Nat→Nat→Prop} (h:bnd e lo hi n lim K):∃ l m,(∀ K',bnd e lo hi n lim K'=(True∧K' l m))∧K l m:=by
 unfold bnd at h
 split at h
 ·rename_i l m h1 h2
  refine ⟨l.toNat,m.toNat,fun K' => ?_,h.2⟩
  unfold bnd
  simp only [h1,h2,h.1,true_and,and_self]
 ·exact h.elim
theorem YC {o:POp} {e:Env} {H:List Ob} {K:TV→Prop} (h:pop o e H K):∃ x,(∀ K':TV→Prop,K' x→pop o e H K')∧K x:=by
 cases o with
 | mov x=>exact ⟨_,fun K' k=>k,h⟩
 | iface t x=>exact ⟨_,fun K' k=>⟨h.1,k⟩,h.2⟩
 | mkf f a b=>exact ⟨_,fun K' k=>⟨h.1,k⟩,h.2⟩
 | build zs szs ps=>exact ⟨_,fun K' k=>⟨h.1,k⟩,h.2⟩
 | gen g xs =>
  simp only [pop] at h
  split at h
  ·rename_i y hy; exact ⟨y,fun K' k=>by simp only [pop,hy]; exact k,h⟩
  ·exact h.elim
 | bsl k n z ps=>exact ⟨_,fun K' k=>⟨h.1,k⟩,h.2⟩
 | buildA n k zs ps=>exact ⟨_,fun K' k=>⟨h.1,h.2.1,k⟩,h.2.2⟩
 | slS x lo hi =>
  simp only [pop] at h
  split at h
  ·rename_i s hs
   obtain ⟨l,m,h1,h2⟩:=TC h
   exact ⟨_,fun K' k=>by simp only [pop,hs,h1,true_and]; exact k,h2⟩
  ·exact h.elim
 | slV k x lo hi =>
  simp only [pop] at h
  split at h
  ·rename_i k' cs hs
   obtain ⟨rfl,h⟩:=h
   obtain ⟨l,m,h1,h2⟩:=TC h
   exact ⟨_,fun K' k=>by simp only [pop,hs,h1,true_and]; exact k,h2⟩
  ·rename_i k' id ver p off n cp hs
   obtain ⟨rfl,h⟩:=h
   obtain ⟨l,m,h1,h2⟩:=TC h
   exact ⟨_,fun K' k=>by simp only [pop,hs,h1,true_and]; exact k,h2⟩
  ·rename_i ad hs
   obtain ⟨l,m,h1,h2⟩:=TC h
   exact ⟨_,fun K' k=>by simp only [pop,hs,h1,true_and]; exact k,h2⟩
  ·exact h.elim
 | slA n k x lo hi =>
  simp only [pop] at h
  split at h
  ·rename_i n' k' cs hs
   obtain ⟨rfl,rfl,hn,h⟩:=h
   obtain ⟨l,m,h1,h2⟩:=TC h
   exact ⟨_,fun K' k=>by simp only [pop,hs,h1,true_and,hn]; exact k,h2⟩
  ·rename_i id ver p hs
   split at h
   ·rename_i v z hid
    obtain ⟨rfl,hn,h⟩:=h
    split at h
    ·rename_i n' k' cs hg
     obtain ⟨rfl,rfl,h⟩:=h
     obtain ⟨l,m,h1,h2⟩:=TC h
     exact ⟨_,fun K' k=>by simp only [pop,hs,hid,hg,h1,true_and,hn]; exact k,h2⟩
    ·exact h.elim
   ·exact h.elim
  ·exact h.elim
 | min x y =>
  simp only [pop] at h
  split at h
  ·rename_i k a k' b h1 h2; exact ⟨_,fun K' k=>by simp only [pop,h1,h2]; exact k,h⟩
  ·exact h.elim
 | max x y =>
  simp only [pop] at h
  split at h
  ·rename_i k a k' b h1 h2; exact ⟨_,fun K' k=>by simp only [pop,h1,h2]; exact k,h⟩
  ·exact h.elim
 | idx ag n k x y =>
  simp only [pop] at h
  split at h
  ·rename_i n' k' cs ik j h1 h2
   obtain ⟨rfl,rfl,h3,h⟩:=h
   split at h
   ·rename_i y h4; exact ⟨_,fun K' k=>by simp only [pop,h1,h2,h4,true_and]; exact ⟨h3,h.1,k⟩,h.2⟩
   ·exact h.elim
  ·exact h.elim
 | _ =>
  simp only [pop] at h
  (repeat' split at h)<;>first
   | exact h.elim
   | exact ⟨_,fun K' k=>by simp_all [pop],h⟩
   | exact ⟨_,fun K' k=>by simp_all [pop],h.2⟩
   | exact ⟨_,fun K' k=>by simp_all [pop],h.2.2⟩
   | exact ⟨_,fun K' k=>by simp_all [pop],h.2.2.2⟩
   | exact h.2.elim
   | exact h.2.2.elim
   | exact h.2.2.2.elim
end
section
open Go.RowKit
variable [A7]
set_option autoImplicit false
inductive VOp where
 | p (o:POp)
 | s (o:SOp)
 deriving Inhabited
structure VO where
 dst:Option Nat
 op:VOp
 g:Option (Nat×Bool)
 deriving Inhabited
def trV (bz:Bool) (P:Program) (op:Op):Option VOp:=match trP P op with
 | some o=>some (.p o)
 | none=>(trS P op).map fun o=>match bz,o with
  | true,.bslice k n z ps => .p (.bsl k n z ps)
  | _,o => .s o
def trG (ops:List Oper):Option (Nat×Bool)→Option (Option (Nat×Bool))
 | none=>some none
 | some (j,b)=>match (ops[j]?).bind (·.dst) with
  | some s=>some (some (s,b))
  | none=>none
def trL (bz:Bool) (P:Program) (N:Nat) (all:List Oper):List Oper→Option (List VO)
 | []=>some []
 | o::os=>match trV bz P o.op,trG all o.guard,trL bz P N all os with
  | some v,some g,some r=>if o.dst.all (· < N) then some (⟨o.dst,v,g⟩::r) else none
  | _,_,_=>none
def Um (e:Env):Option Nat→TV→Env
 | none,_=>e
 | some d,x=>(d,x)::e
def forget (kp:List Nat) (e:Env):Env:=kp.map fun s=>(s,get e s)
def vop (P:Program) (o:VOp) (e:Env) (H:List Ob) (K:TV→List Ob→Prop):Prop:=match o with
 | .p o=>pop o e H fun x=>K x H
 | .s o=>sop P o e H K
def isB:Value→Option Bool
 | .bool b=>some b
 | _=>none
def UN (e:Env) (s:Nat) (K:Env→Option Bool→Prop):Prop:=match get e s with
 | .val v=>K e (isB v)
 | .any=>(∀ t,K ((s,.val (.bool t))::e) (some t))∧∀ v,isB v=none→K ((s,.val v)::e) none
 | _=>False
def Lc (W:VOp→Env→List Ob→(TV→List Ob→Prop)→Prop):List VO→(Env→List Ob→Prop)→Env→List Ob→Prop
 | [],K,e,H=>K e H
 | o::r,K,e,H=>match o.g with
  | none=>W o.op e H fun x H=>Lc W r K (Um e o.dst x) H
  | some (s,b)=>UN e s fun e q=>match q with
   | some t=>if t=b then W o.op e H fun x H=>Lc W r K (Um e o.dst x) H else Lc W r K (Um e o.dst (.val undef)) H
   | none=>Lc W r K (Um e o.dst (.val undef)) H
def TK (P:Program) (l:List VO) (K:Env→List Ob→Prop) (e:Env) (H:List Ob):Prop:=Lc (vop P) l K e H
def pvop (P:Program) (KP:Value→List Ob→Prop) (o:VOp) (e:Env) (H:List Ob) (K:TV→List Ob→Prop):Prop:=match o with
 | .s (.call f xs)=>(∀ x∈xs,CE (x.ev e)=false)∧Tc P f (xs.map (·.ev e)) H K KP
 | .s (.pan x)=>(match x.ev e with
  | .val (.iface t v)=>KP (.iface t v) H
  | .ifc t (.val v)=>KP (.iface t v) H
  | _=>False)
 | o=>vop P o e H K
def P9 (P:Program) (KP:Value→List Ob→Prop) (l:List VO) (K:Env→List Ob→Prop) (e:Env) (H:List Ob):Prop:=Lc (pvop P KP) l K e H
section sound
variable {P:Program} {bz:Bool}
structure Fr (N:Nat) (D:List Deferred) (c:Ctx) (w:World) (e:Env) (a:Act):Prop where
 env:AC c w e a
 size:a.tmps.size=N
 defers:a.defers=D
theorem Bz (k s:Nat) (x:TV) (e:Env):get ((k,x)::e) s=if k=s then x else get e s:=rfl
theorem DL:∀ (kp:List Nat) (e:Env) (s:Nat),get (forget kp e) s=if s∈kp then get e s else .any
 | [],e,s=>by simp [forget,get]
 | k::kp,e,s=>by
  have:=DL kp e s
  simp only [forget,List.map_cons] at this ⊢
  rw [Bz,this]
  by_cases h:k=s
  ·subst h; simp
  ·rw [if_neg h]
   have h':¬ s=k:=fun e=>h e.symm
   simp only [List.mem_cons,h',false_or]
theorem Fr.forget {N:Nat} {D:List Deferred} {c:Ctx} {w:World} {e:Env} {a:Act} (h:Fr N D c w e a) (kp:List Nat):Fr N D c w (forget kp e) a :=
 ⟨⟨fun s=>by
  rw [DL]; split
  ·exact h.env.1 s
  ·exact Rep.any,h.env.2⟩,h.size,h.defers⟩
theorem Fr.put {N:Nat} {D:List Deferred} {c c':Ctx} {w w':World} {e:Env} {a:Act} (h:Fr N D c w e a) (hm:Hm c w c' w') {dst:Option Nat} (hd:dst.all (· < N)=true) {x:TV} {v:Value} (hx:Rep c' w' x v):Fr N D c' w' (Um e dst x) (a.put dst v):=by
 cases dst with
 | none=>exact ⟨⟨fun s=>Rep.mono hm (h.env.1 s),h.env.2.keep hm.stay⟩,h.size,h.defers⟩
 | some d =>
  have hd':d<N:=by simpa using hd
  refine ⟨⟨fun s => ?_,h.env.2.keep hm.stay⟩,by simp [Act.put,h.size],h.defers⟩
  show Rep c' w' (get ((d,x)::e) s) ((a.tmps.setIfInBounds d v).getD s undef)
  rw [Bz]
  by_cases hs:d=s
  ·subst hs
   rw [if_pos rfl]
   have:(a.tmps.setIfInBounds d v).getD d undef=v:=by
    simp [Array.getD,h.size,hd']
   rw [this]; exact hx
  ·rw [if_neg hs]
   have:(a.tmps.setIfInBounds d v).getD s undef=a.tmps.getD s undef:=by
    simp [Array.getElem?_setIfInBounds_ne hs]
   rw [this]; exact Rep.mono hm (h.env.1 s)
theorem Ach {β:Nat→Nat→Option (Nat×Nat)} {H:List Ob} {F:Nat→Prop} {w:World} {a:Act} {e:Env} {K:TV→List Ob→Prop} (hs:Sim ⟨β,H,F⟩ w) (he:AC ⟨β,H,F⟩ w e a) {op:Op} {k n:Nat} {z:TV} {ps:List (Nat×Opd)} (ht:trS P op=some (.bslice k n z ps)) (h:pop (.bsl k n z ps) e H fun x=>K x H):Gy P β H F w a K op:=by
 cases op
 case buildSlice t m qs =>
  simp only [trS] at ht
  split at ht
  ·rename_i h1; split at ht
   ·rename_i h2; split at ht
    ·rename_i h3; split at ht
     ·rename_i h4
      obtain ⟨zx,h5,e⟩:=Option.map_eq_some_iff.1 ht
      simp only [SOp.bslice.injEq] at e
      obtain ⟨rfl,rfl,rfl,rfl⟩:=e
      exact Aoz hs he h1 h2 h3 h4 h5 h
     ·cases ht
    ·cases ht
   ·cases ht
  ·cases ht
 case next x b=>cases b<;>simp [trS] at ht
 all_goals (simp only [trS] at ht; (repeat' split at ht)<;>first | (simp at ht; done) | skip)
theorem U8 {β:Nat→Nat→Option (Nat×Nat)} {H:List Ob} {F:Nat→Prop} {w:World} {a:Act} {e:Env} {K:TV→List Ob→Prop} (hs:Sim ⟨β,H,F⟩ w) (he:AC ⟨β,H,F⟩ w e a) {op:Op} {vo:VOp} (ht:trV bz P op=some vo) (h:vop P vo e H K):Gy P β H F w a K op:=by
 unfold trV at ht
 split at ht
 ·rename_i po hp; cases ht
  exact Ap.does hs fun ty=>AbS hs he hp h
 ·obtain ⟨so,hso,hv⟩:=Option.map_eq_some_iff.1 ht
  split at hv
  ·subst hv; exact Ach hs he hso h
  ·subst hv; exact AdJ hs he hso h
def Aoi (P:Program) (β:Nat→Nat→Option (Nat×Nat)) (H:List Ob) (F:Nat→Prop) (w:World) (a:Act) (K:TV→List Ob→Prop) (KP:Value→List Ob→Prop) (op:Op):Prop :=
 ∀ (o:Oper) (KK:Act→World→Prop) (Q:Exit→Act→World→Prop),o.op=op→(∀ c,op ≠ .defer c) →
  (∀ x H' β' F' w' v,K x H'→Sim ⟨β',H',F'⟩ w'→Ar ⟨β,H,F⟩ w ⟨β',H',F'⟩ w'→Rep ⟨β',H',F'⟩ w' x v→KK (a.put o.dst v) w') →
  (∀ u H' β' F' w',KP u H'→Sim ⟨β',H',F'⟩ w'→Ar ⟨β,H,F⟩ w ⟨β',H',F'⟩ w'→Q (.panic [{ v:=u,recovered:=false }]) a w')→OW P o a w KK Q
def L8 (P:Program) (W:VOp→Env→List Ob→(TV→List Ob→Prop)→Prop) (KP:Value→List Ob→Prop):Prop :=
 ∀ {β:Nat→Nat→Option (Nat×Nat)} {H:List Ob} {F:Nat→Prop} {w:World} {a:Act} {e:Env} {K:TV→List Ob→Prop},Sim ⟨β,H,F⟩ w→AC ⟨β,H,F⟩ w e a→∀ {bz:Bool} {op:Op} {vo:VOp},trV bz P op=some vo→W vo e H K→Aoi P β H F w a K KP op
theorem L8.vop {KP:Value→List Ob→Prop}:L8 P (vop P) KP:=fun hs he _ _ _ ht h o KK Q ho hn hk _=>U8 hs he ht h o KK Q ho hn hk
theorem SV {ops:Array Oper} {a:Act} {j s:Nat} (hj:(ops[j]?).bind (·.dst)=some s):yielded ops a.tmps j=isB (a.tmps.getD s undef):=by
 unfold yielded
 rw [hj]
 simp only [Option.bind_some]
 rw [Array.getD_eq_getD_getElem?]
 cases h:a.tmps[s]? with
 | none=>rfl
 | some v=>cases v<;>rfl
theorem Fr.know {N:Nat} {D:List Deferred} {c:Ctx} {w:World} {e:Env} {a:Act} (h:Fr N D c w e a) (s:Nat):Fr N D c w ((s,.val (a.tmps.getD s undef))::e) a :=
 ⟨⟨fun s'=>by
  rw [Bz]
  split
  ·rename_i hs; subst hs; exact Rep.of_val
  ·exact h.env.1 s',h.env.2⟩,h.size,h.defers⟩
theorem Zj {N:Nat} {D:List Deferred} {c:Ctx} {w:World} {e:Env} {a:Act} {s:Nat} {K:Env→Option Bool→Prop} (hf:Fr N D c w e a) (h:UN e s K):∃ e',Fr N D c w e' a∧K e' (isB (a.tmps.getD s undef)):=by
 unfold UN at h
 split at h
 ·rename_i v hv
  have:=hf.env.1 s
  rw [hv,Rep.val] at this
  exact ⟨e,hf,by rw [this]; exact h⟩
 ·refine ⟨_,hf.know s,?_⟩
  cases hb:isB (a.tmps.getD s undef) with
  | none=>exact h.2 _ hb
  | some t =>
   have:a.tmps.getD s undef = .bool t:=by
    generalize a.tmps.getD s undef=v at hb
    cases v<;>simp [isB] at hb
    rw [hb]
   rw [this]; exact h.1 t
 ·exact h.elim
theorem Z5 {op:Op} {v:VOp} (h:trV bz P op=some v):∀ c,op ≠ .defer c:=by
 intro c hc; subst hc; simp [trV,trP,trS] at h
theorem Wh {a:Act} {dst:Option Nat} {v:Value} {s:Nat} (h:dst≠some s):(a.put dst v).tmps.getD s undef=a.tmps.getD s undef:=by
 cases dst with
 | none=>rfl
 | some d =>
  have hd:d≠s:=fun e=>h (by rw [e])
  show (a.tmps.setIfInBounds d v).getD s undef=_
  simp only [Array.getD_eq_getD_getElem?]
  rw [Array.getElem?_setIfInBounds_ne hd]
def Zf (l:List VO) (e:Env):Env:=e.filter fun p=>l.all fun o=>o.dst != some p.1
theorem XI {l:List VO}:∀ (e:Env) (s:Nat),get (Zf l e) s=if l.all (fun o=>o.dst != some s) then get e s else .any
 | [],s=>by simp [Zf,get]
 | (k,x)::e,s=>by
  have ih:=XI (l:=l) e s
  unfold Zf at ih ⊢
  rw [List.filter_cons]
  by_cases hk:l.all (fun o=>o.dst != some k)=true
  ·rw [if_pos hk,Bz,Bz,ih]
   by_cases e1:k=s
   ·subst e1; rw [if_pos rfl,if_pos hk,if_pos rfl]
   ·rw [if_neg e1,if_neg e1]
  ·rw [if_neg hk,ih,Bz]
   by_cases e1:k=s
   ·subst e1; rw [if_neg hk,if_neg hk]
   ·rw [if_neg e1]
theorem AbN {P:Program} {N:Nat} {all:List Oper}:∀ {os:List Oper} {l:List VO},trL bz P N all os=some l→l.map (·.dst)=os.map (·.dst)
 | [],l,h=>by simp only [trL,Option.some.injEq] at h; subst h; rfl
 | o::os,l,h=>by
  rw [trL] at h
  split at h
  ·split at h
   ·rename_i r _ _ hr _
    cases h
    simp [AbN hr]
   ·cases h
  ·cases h
theorem Fr.drop {N:Nat} {D:List Deferred} {c c':Ctx} {w w':World} {e:Env} {a a':Act} (hf:Fr N D c w e a) (hm:Hm c w c' w') (h0:Fr N D c' w' [] a') {all:List Oper} {os:List Oper} {l:List VO} (ht:trL bz P N all os=some l) (h:∀ s,(∀ o∈os,o.dst≠some s)→a'.tmps.getD s undef=a.tmps.getD s undef):Fr N D c' w' (Zf l e) a':=by
 refine ⟨⟨fun s => ?_,h0.env.2⟩,h0.size,h0.defers⟩
 rw [XI]
 split
 ·rename_i hl
  rw [h s fun o ho e1 => ?_]
  ·exact Rep.mono hm (hf.env.1 s)
  ·have:some s∈l.map (·.dst):=by rw [AbN ht]; exact List.mem_map.2 ⟨o,ho,e1⟩
   obtain ⟨v,hv,hv2⟩:=List.mem_map.1 this
   have:=List.all_eq_true.1 hl v hv
   rw [hv2] at this
   simp at this
 ·exact Rep.any
theorem JA {W:VOp→Env→List Ob→(TV→List Ob→Prop)→Prop} {KP:Value→List Ob→Prop} (hW:L8 P W KP) {N:Nat} {D:List Deferred} {ro:Option Nat} {nn:Nat} {all:Array Oper} {rest:List Oper}:∀ {os:List Oper} {l:List VO},trL bz P N all.toList os=some l→∀ {K:Env→List Ob→Prop} {e:Env} {H:List Ob} {β:Nat→Nat→Option (Nat×Nat)} {F:Nat→Prop} {w:World} {a:Act} {QQ:Exit→Act→World→Prop},
  Lc W l K e H→Sim ⟨β,H,F⟩ w→Fr N D ⟨β,H,F⟩ w e a →
  (∀ e' H' β' F' w' a',K e' H'→Sim ⟨β',H',F'⟩ w'→Fr N D ⟨β',H',F'⟩ w' e' a'→Ar ⟨β,H,F⟩ w ⟨β',H',F'⟩ w'→wpListIn (fz ro) nn P all QQ rest a' w') →
  (∀ u H' β' F' w' a',KP u H'→Sim ⟨β',H',F'⟩ w'→Fr N D ⟨β',H',F'⟩ w' [] a'→(∀ s,(∀ o∈os,o.dst≠some s)→a'.tmps.getD s undef=a.tmps.getD s undef)→Ar ⟨β,H,F⟩ w ⟨β',H',F'⟩ w'→QQ (.panic [{ v:=u,recovered:=false }]) a' w')→wpListIn (fz ro) nn P all QQ (os++rest) a w
 | [],l,ht,K,e,H,β,F,w,a,QQ,h,hs,hf,hk,hp=>by
  simp only [trL,Option.some.injEq] at ht; subst ht
  exact hk e H β F w a h hs hf (Ar.refl _ _)
 | o::os,l,ht,K,e,H,β,F,w,a,QQ,h,hs,hf,hk,hp=>by
  rw [trL] at ht
  split at ht
  ·rename_i v g r hv hg hr
   split at ht
   ·rename_i hd
    cases ht
    have go:W v e H (fun x H=>Lc W r K (Um e o.dst x) H)→o.wpIn (fz ro) nn P a w (wpListIn (fz ro) nn P all QQ (os++rest)) QQ:=fun h=>by
     refine hW hs hf.env hv h o _ QQ rfl (Z5 hv) ?_ (fun u H' β' F' w' hK hs' hl=>hp u H' β' F' w' a hK hs' ⟨⟨fun _=>Rep.any,hs'.glob⟩,hf.size,hf.defers⟩ (fun _ _=>rfl) hl) ro nn
     intro x H' β' F' w' u hK hs' hl hx
     have hm:=hl.mono hs
     exact JA hW hr hK hs' (hf.put hm hd hx) (fun e' H'' β'' F'' w'' a' k1 k2 k3 k4=>hk _ _ _ _ _ _ k1 k2 k3 (hl.trans k4)) fun u H'' β'' F'' w'' a' k1 k2 k3 k5 k4=>hp _ _ _ _ _ _ k1 k2 k3 (fun s hs=>(k5 s fun o ho=>hs o (List.mem_cons_of_mem _ ho)).trans (Wh (hs o (by simp)))) (hl.trans k4)
    rw [List.cons_append,wpListIn]
    have hgd:=hg
    rw [Lc] at h
    cases hog:o.guard with
    | none =>
     rw [hog] at hg
     simp only [trG,Option.some.injEq] at hg; subst hg
     have:Region.wanted o (yielded all a.tmps)=true:=by simp [Region.wanted,hog]
     rw [if_pos this]
     exact go h
    | some jb =>
     obtain ⟨j,b⟩:=jb
     rw [hog] at hg
     simp only [trG] at hg
     split at hg
     ·rename_i s hj
      cases hg
      simp only at h
      obtain ⟨e',hf',h⟩:=Zj hf h
      have hy:yielded all a.tmps j=isB (a.tmps.getD s undef):=SV (by simpa using hj)
      have skip:Lc W r K (Um e' o.dst (.val undef)) H→wpListIn (fz ro) nn P all QQ (os++rest) (a.put o.dst undef) w:=fun h=>JA hW hr h hs (hf'.put ⟨fun b hb=>⟨hb,rfl⟩,fun _ _ h=>⟨h,rfl⟩,fun _ _=>rfl⟩ hd Rep.of_val) hk fun u H'' β'' F'' w'' a' k1 k2 k3 k5 k4=>hp _ _ _ _ _ _ k1 k2 k3 (fun s hs=>(k5 s fun o ho=>hs o (List.mem_cons_of_mem _ ho)).trans (Wh (hs o (by simp)))) k4
      have go':W v e' H (fun x H=>Lc W r K (Um e' o.dst x) H)→o.wpIn (fz ro) nn P a w (wpListIn (fz ro) nn P all QQ (os++rest)) QQ:=fun h=>by
       refine hW hs hf'.env hv h o _ QQ rfl (Z5 hv) ?_ (fun u H' β' F' w' hK hs' hl=>hp u H' β' F' w' a hK hs' ⟨⟨fun _=>Rep.any,hs'.glob⟩,hf.size,hf.defers⟩ (fun _ _=>rfl) hl) ro nn
       intro x H' β' F' w' u hK hs' hl hx
       have hm:=hl.mono hs
       exact JA hW hr hK hs' (hf'.put hm hd hx) (fun e' H'' β'' F'' w'' a' k1 k2 k3 k4=>hk _ _ _ _ _ _ k1 k2 k3 (hl.trans k4)) fun u H'' β'' F'' w'' a' k1 k2 k3 k5 k4=>hp _ _ _ _ _ _ k1 k2 k3 (fun s hs=>(k5 s fun o ho=>hs o (List.mem_cons_of_mem _ ho)).trans (Wh (hs o (by simp)))) (hl.trans k4)
      cases hq:isB (a.tmps.getD s undef) with
      | some t =>
       rw [hq] at h hy
       by_cases htb:t=b
       ·subst htb
        have:Region.wanted o (yielded all a.tmps)=true:=by simp [Region.wanted,hog,hy]
        rw [if_pos this]
        simp only [if_true] at h
        exact go' h
       ·have:¬ (Region.wanted o (yielded all a.tmps)=true):=by simp [Region.wanted,hog,hy,htb]
        rw [if_neg this]
        simp only [htb,if_false] at h
        exact ⟨fun _ _=>trivial,skip h⟩
      | none =>
       rw [hq] at h hy
       have:¬ (Region.wanted o (yielded all a.tmps)=true):=by simp [Region.wanted,hog,hy]
       rw [if_neg this]
       exact ⟨fun _ _=>trivial,skip h⟩
     ·cases hg
   ·cases ht
  ·cases ht
theorem UF {W:VOp→Env→List Ob→(TV→List Ob→Prop)→Prop} {KP:Value→List Ob→Prop} (hW:L8 P W KP) {N:Nat} {D:List Deferred} {ro:Option Nat} {nn:Nat} {all:Array Oper} {rest:List Oper} {os:List Oper} {l:List VO} (ht:trL bz P N all.toList os=some l) {K:Env→List Ob→Prop} {e:Env} {H:List Ob} {β:Nat→Nat→Option (Nat×Nat)} {F:Nat→Prop} {w:World} {a:Act} {QQ:Exit→Act→World→Prop}
  (h:Lc W l K e H) (hs:Sim ⟨β,H,F⟩ w) (hf:Fr N D ⟨β,H,F⟩ w e a)
  (hk:∀ e' H' β' F' w' a',K e' H'→Sim ⟨β',H',F'⟩ w'→Fr N D ⟨β',H',F'⟩ w' e' a'→Ar ⟨β,H,F⟩ w ⟨β',H',F'⟩ w'→wpListIn (fz ro) nn P all QQ rest a' w')
  (hp:∀ u H' β' F' w' a',KP u H'→Sim ⟨β',H',F'⟩ w'→Fr N D ⟨β',H',F'⟩ w' [] a'→Ar ⟨β,H,F⟩ w ⟨β',H',F'⟩ w'→QQ (.panic [{ v:=u,recovered:=false }]) a' w'):wpListIn (fz ro) nn P all QQ (os++rest) a w :=
 JA hW ht h hs hf hk fun u H' β' F' w' a' k1 k2 k3 _ k4=>hp u H' β' F' w' a' k1 k2 k3 k4
theorem VQ {N:Nat} {D:List Deferred} {ro:Option Nat} {nn:Nat} {all:Array Oper} {os:List Oper} {l:List VO} (ht:trL bz P N all.toList os=some l) {K:Env→List Ob→Prop} {e:Env} {H:List Ob} {β:Nat→Nat→Option (Nat×Nat)} {F:Nat→Prop} {w:World} {a:Act} {QQ:Exit→Act→World→Prop}
  (h:TK P l K e H) (hs:Sim ⟨β,H,F⟩ w) (hf:Fr N D ⟨β,H,F⟩ w e a)
  (hk:∀ e' H' β' F' w' a',K e' H'→Sim ⟨β',H',F'⟩ w'→Fr N D ⟨β',H',F'⟩ w' e' a'→Ar ⟨β,H,F⟩ w ⟨β',H',F'⟩ w'→QQ .normal a' w'):wpListIn (fz ro) nn P all QQ os a w:=by
 have:=UF (L8.vop (KP:=fun _ _=>False)) (rest:=[]) (QQ:=QQ) (ro:=ro) (nn:=nn) ht h hs hf hk (fun _ _ _ _ _ _ h=>h.elim)
 rwa [List.append_nil] at this
theorem Aja {op:Op} {so:SOp} (h:trV bz P op=some (.s so)):trS P op=some so:=by
 unfold trV at h
 split at h
 ·cases h
 ·obtain ⟨x,h1,h2⟩:=Option.map_eq_some_iff.1 h
  split at h2
  ·cases h2
  ·cases h2; exact h1
theorem AfE {op:Op} {f:FuncId} {xs:List Opd} (h:trV bz P op=some (.s (.call f xs))):SK P f=true∧∃ (args:List Operand) (ts:Array TypeId),xs=args.map trO∧op = .call { callee := .value (.func f),args:=args.toArray,argTypes:=ts }:=by
 replace h:=Aja h
 cases op
 case call c =>
  obtain ⟨callee,cargs,cts⟩:=c
  simp only [trS] at h
  split at h
  ·(repeat' split at h)<;>simp at h
  ·(repeat' split at h)<;>simp at h
  ·(repeat' split at h)<;>simp at h
  ·(repeat' split at h)<;>simp at h
  ·rename_i g args _
   split at h
   ·rename_i hgo
    split at h
    ·split at h
     ·simp at h
     ·simp only [Option.some.injEq,SOp.call.injEq] at h
      obtain ⟨rfl,rfl⟩:=h
      refine ⟨hgo,cargs.toList,cts,?_,by simp⟩
      simp [*]
    ·simp only [Option.some.injEq,SOp.call.injEq] at h
     obtain ⟨rfl,rfl⟩:=h
     exact ⟨hgo,cargs.toList,cts,rfl,by simp⟩
   ·simp at h
  ·simp at h
  ·simp at h
  ·simp at h
 case next x b=>cases b<;>simp [trS] at h
 all_goals (simp only [trS] at h; (repeat' split at h)<;>first | (simp at h; done) | skip)
theorem Air {op:Op} {x:Opd} (h:trV bz P op=some (.s (.pan x))):∃ y,x=trO y∧op = .panic y:=by
 replace h:=Aja h
 cases op
 case panic y=>simp only [trS,Option.some.injEq,SOp.pan.injEq] at h; exact ⟨y,h.symm,rfl⟩
 case next x b=>cases b<;>simp [trS] at h
 all_goals (simp only [trS] at h; (repeat' split at h)<;>first | (simp at h; done) | skip)
theorem YF {β:Nat→Nat→Option (Nat×Nat)} {H:List Ob} {F:Nat→Prop} {w:World} {a:Act} {e:Env} {R:TV→List Ob→Prop} {RP:Value→List Ob→Prop} {o:Oper} {KK:Act→World→Prop} {Q:Exit→Act→World→Prop} (hs:Sim ⟨β,H,F⟩ w) (he:AC ⟨β,H,F⟩ w e a) {f:FuncId} (hg:SK P f=true) {args:List Operand} {ts:Array TypeId} (ho:o.op = .call { callee := .value (.func f),args:=args.toArray,argTypes:=ts })
  (ht:∀ x∈args.map trO,CE (x.ev e)=false) (h:Tc P f ((args.map trO).map (·.ev e)) H R RP)
  (hk:∀ x H' β' F' w' v,R x H'→Sim ⟨β',H',F'⟩ w'→Ar ⟨β,H,F⟩ w ⟨β',H',F'⟩ w'→Rep ⟨β',H',F'⟩ w' x v→KK (a.put o.dst v) w')
  (hp:∀ u H' β' F' w',RP u H'→Sim ⟨β',H',F'⟩ w'→Ar ⟨β,H,F⟩ w ⟨β',H',F'⟩ w'→Q (.panic [{ v:=u,recovered:=false }]) a w'):OW P o a w KK Q:=by
 have hv:=NH he args fun x hx=>ht _ (List.mem_map_of_mem hx)
 refine OW.of_wp (by rw [ho]; simp) ?_
 have:=h β F w _ hs hv
 unfold Oper.wp
 simp only [execOp,ho,resolve,Act.eval,Deferred.ofValue,Sem.run_bind,Sem.run_pure,Result.andThen_ok,invoke,Fa hg]
 rw [Oper.upon_enter]
 have e1:(args.map a.eval).toArray ++ #[]=(args.map a.eval).toArray:=by simp
 refine Calls.mono (R:=fun e w'=>∃ β' H' F',Sim ⟨β',H',F'⟩ w'∧Ar ⟨β,H,F⟩ w ⟨β',H',F'⟩ w'∧((∃ v x,e = .returned v∧R x H'∧Rep ⟨β',H',F'⟩ w' x v)∨∃ u,e = .panicked [{ v:=u,recovered:=false }]∧RP u H')) (by simpa using this) ?_
 rintro e' w' ⟨β',H',F',h1,h2,⟨v,x,rfl,h3,h4⟩ | ⟨u,rfl,h3⟩⟩
 ·exact hk _ _ _ _ _ _ h3 h1 h2 h4
 ·exact hp _ _ _ _ _ h3 h1 h2
theorem L8.pvop {KP:Value→List Ob→Prop}:L8 P (pvop P KP) KP:=by
 intro β H F w a e K hs he bz op vo ht h o KK Q ho hn hk hp
 unfold Go.Proofs.YthlbcfmbldcngaaDoor.pvop at h
 split at h
 ·rename_i f xs
  obtain ⟨h1,h2⟩:=h
  obtain ⟨hgo,args,ts,rfl,hop⟩:=AfE ht
  exact YF hs he hgo (ho.trans hop) h1 h2 hk hp
 ·rename_i x
  obtain ⟨y,rfl,hop⟩:=Air ht
  split at h
  ·rename_i t v hx
   have hev:a.eval y = .iface t v:=he.val hx
   refine OW.of_wp (by rw [ho]; exact hn) ?_
   unfold Oper.wp
   simp only [execOp,ho.trans hop,hev,Sem.run_bind]
   exact hp _ _ _ _ _ h hs (Ar.refl _ _)
  ·rename_i t v hx
   have hev:a.eval y = .iface t v:=by
    have hr:=he.rep (x:=y) hx
    have h1:=hr.inv1 (by simp) (by simp) (by simp) (by simp) (by simp)
    rw [Ag] at h1
    obtain ⟨u,hu,vs,h2,rfl⟩:=h1
    rw [Ag] at h2
    obtain ⟨rfl,_⟩:=h2
    simpa [mkV] using hu
   refine OW.of_wp (by rw [ho]; exact hn) ?_
   unfold Oper.wp
   simp only [execOp,ho.trans hop,hev,Sem.run_bind]
   exact hp _ _ _ _ _ h hs (Ar.refl _ _)
  ·exact h.elim
 ·exact U8 hs he ht h o KK Q ho hn hk
theorem Y4 {N:Nat} {D:List Deferred} {ro:Option Nat} {nn:Nat} {all:Array Oper} {os:List Oper} {l:List VO} (ht:trL bz P N all.toList os=some l) {K:Env→List Ob→Prop} {KP:Value→List Ob→Prop} {e:Env} {H:List Ob} {β:Nat→Nat→Option (Nat×Nat)} {F:Nat→Prop} {w:World} {a:Act} {QQ:Exit→Act→World→Prop}
  (h:P9 P KP l K e H) (hs:Sim ⟨β,H,F⟩ w) (hf:Fr N D ⟨β,H,F⟩ w e a)
  (hk:∀ e' H' β' F' w' a',K e' H'→Sim ⟨β',H',F'⟩ w'→Fr N D ⟨β',H',F'⟩ w' e' a'→Ar ⟨β,H,F⟩ w ⟨β',H',F'⟩ w'→QQ .normal a' w')
  (hp:∀ u H' β' F' w' a',KP u H'→Sim ⟨β',H',F'⟩ w'→Fr N D ⟨β',H',F'⟩ w' (Zf l e) a'→Ar ⟨β,H,F⟩ w ⟨β',H',F'⟩ w'→QQ (.panic [{ v:=u,recovered:=false }]) a' w'):wpListIn (fz ro) nn P all QQ os a w:=by
 have:=JA (L8.pvop (KP:=KP)) (rest:=[]) (QQ:=QQ) (ro:=ro) (nn:=nn) ht h hs hf hk fun u H' β' F' w' a' k1 k2 k3 k5 k4=>hp u H' β' F' w' a' k1 k2 (hf.drop (k4.mono hs) k3 ht k5) k4
 rwa [List.append_nil] at this
end sound
end
section
open Go.RowKit
variable [A7]
set_option autoImplicit false
def PW (o:Oper):List Nat:=(o.after.toList.filter (Region.binds .any)).map (·.on)
def AbQ (ps:List Nat) (acc:List Nat):Nat:=ps.foldl (fun s p=>s ||| 2 ^ p ||| acc.getD p 0) 0
def Abc:List Oper→List Nat→List Nat
 | [],acc=>acc
 | o::r,acc=>Abc r (acc++[AbQ (PW o) acc])
def cls (ops:List Oper):List Nat:=Abc ops []
def ZR (ops:List Oper) (S:Nat→Prop):Prop:=∀ i o,ops[i]?=some o→S i→∀ p∈PW o,S p
theorem Y3 {ps acc:List Nat} {k:Nat} (h:(AbQ ps acc).testBit k=true):∃ p∈ps,k=p∨(acc.getD p 0).testBit k=true:=by
 unfold AbQ at h
 have key:∀ (ps:List Nat) (s:Nat),(ps.foldl (fun s p=>s ||| 2 ^ p ||| acc.getD p 0) s).testBit k=true→s.testBit k=true∨∃ p∈ps,k=p∨(acc.getD p 0).testBit k=true:=by
  intro ps
  induction ps with
  | nil=>intro s h; exact .inl h
  | cons p ps ih =>
   intro s h
   rcases ih _ h with h1 | ⟨q,hq,h1⟩
   ·rw [Nat.testBit_or,Nat.testBit_or,Bool.or_eq_true,Bool.or_eq_true] at h1
    rcases h1 with (h1 | h1) | h1
    ·exact .inl h1
    ·rw [Nat.testBit_two_pow] at h1
     exact .inr ⟨p,by simp,.inl (by simpa using h1:p=k).symm⟩
    ·exact .inr ⟨p,by simp,.inr h1⟩
   ·exact .inr ⟨q,by simp [hq],h1⟩
 rcases key ps 0 h with h | h
 ·simp at h
 ·exact h
theorem TI {all:List Oper}:∀ (rest done:List Oper) (acc:List Nat),all=done++rest→acc.length=done.length →
  (∀ (j m:Nat) (o:Oper),acc[j]?=some m→all[j]?=some o→∀ S,ZR all S→(∀ p∈PW o,S p)→∀ k,m.testBit k=true→S k) →
  (Abc rest acc).length=all.length∧∀ (j m:Nat) (o:Oper),(Abc rest acc)[j]?=some m→all[j]?=some o→∀ S,ZR all S→(∀ p∈PW o,S p)→∀ k,m.testBit k=true→S k
 | [],done,acc,h1,h2,h3=>⟨by rw [Abc,h1]; simpa using h2,h3⟩
 | o::rest,done,acc,h1,h2,h3=>by
  rw [Abc]
  refine TI rest (done++[o]) _ (by rw [h1]; simp) (by simp [h2]) ?_
  intro j m o' hm ho S hS hp k hk
  rcases Nat.lt_trichotomy j acc.length with h | h | h
  ·rw [List.getElem?_append_left h] at hm
   exact h3 j m o' hm ho S hS hp k hk
  ·subst h
   simp at hm; subst hm
   have ho':o'=o:=by
    rw [h1,h2,List.getElem?_append_right (Nat.le_refl _)] at ho
    simpa using ho.symm
   subst ho'
   obtain ⟨p,hpp,hkp⟩:=Y3 hk
   rcases hkp with rfl | hkp
   ·exact hp k hpp
   ·cases hq:acc[p]? with
    | none=>rw [List.getD_eq_getElem?_getD,hq] at hkp; simp at hkp
    | some mp =>
     rw [List.getD_eq_getElem?_getD,hq] at hkp
     have hpl:p<done.length:=by rw [←h2]; exact (List.getElem?_eq_some_iff.1 hq).1
     have hop:all[p]?=some done[p]:=by rw [h1,List.getElem?_append_left hpl]; simp [hpl]
     exact h3 p mp _ hq hop S hS (hS p _ hop (hp p hpp)) k hkp
  ·rw [List.getElem?_eq_none (by simp; omega)] at hm; cases hm
theorem ZE {all:List Oper} {i m:Nat} {o:Oper} (hm:(cls all)[i]?=some m) (ho:all[i]?=some o) {S:Nat→Prop} (hS:ZR all S) (hp:∀ p∈PW o,S p) {k:Nat} (hk:m.testBit k=true):S k :=
 (TI all [] [] rfl rfl (by simp)).2 i m o hm ho S hS hp k hk
theorem PG (all:List Oper):(cls all).length=all.length:=(TI all [] [] rfl rfl (by simp)).1
def SOp.rd:SOp→List Nat
 | .alloc _ | .allocT _ _=>[]
 | .pan x | .eqS x _ | .box x | .s2b x | .cvS x | .boxT x _ | .bstr _ x | .rngS x | .nxtS x | .rngM x | .nxtM x | .clrS _ _ x=>x.rd
 | .bslice _ _ _ ps=>ps.flatMap fun q=>q.2.rd
 | .store _ x y | .mks _ _ _ x y | .app _ _ _ x y | .appS _ x y | .appZ _ _ _ _ x y | .copy _ x y | .copyS x y | .ment _ _ x y | .delM _ x y=>x.rd++y.rd
 | .call _ args=>args.flatMap Opd.rd
 | .callv x args | .inv x _ args=>x.rd++args.flatMap Opd.rd
 | .mkm _ h=>rdO h
 | .mupd _ x y z | .mest x y z=>x.rd++(y.rd++z.rd)
theorem Abr {P:Program} {o:SOp} {e e':Env} (h:∀ s∈o.rd,get e s=get e' s) (H:List Ob) (K:TV→List Ob→Prop):sop P o e H K=sop P o e' H K:=by
 have two:∀ {x y:Opd},(∀ s∈x.rd++y.rd,get e s=get e' s)→x.ev e=x.ev e'∧y.ev e=y.ev e':=fun h=>⟨Aq fun s hs=>h s (List.mem_append_left _ hs),Aq fun s hs=>h s (List.mem_append_right _ hs)⟩
 have tups:∀ {xs:List Opd},(∀ s∈xs.flatMap Opd.rd,get e s=get e' s)→(∀ x∈xs,CE (x.ev e)=false)=(∀ x∈xs,CE (x.ev e')=false):=fun {xs} h=>propext
  ⟨fun k x hx=>by rw [←Aq (e:=e) (e':=e') fun s hs=>h s (List.mem_flatMap.2 ⟨x,hx,hs⟩)]; exact k x hx,fun k x hx=>by rw [Aq (e:=e) (e':=e') fun s hs=>h s (List.mem_flatMap.2 ⟨x,hx,hs⟩)]; exact k x hx⟩
 cases o with
 | alloc z=>rfl
 | pan x=>rfl
 | allocT z t=>rfl
 | boxT x t=>simp only [sop,Aq (x:=x) h]
 | eqS x n=>simp only [sop,Aq (x:=x) h]
 | bstr f x=>simp only [sop,Aq (x:=x) h]
 | rngS x=>simp only [sop,Aq (x:=x) h]
 | nxtS x=>simp only [sop,Aq (x:=x) h]
 | rngM x=>simp only [sop,Aq (x:=x) h]
 | nxtM x=>simp only [sop,Aq (x:=x) h]
 | clrS k z x=>simp only [sop,Aq (x:=x) h]
 | box x=>simp only [sop,Aq (x:=x) h]
 | s2b x=>simp only [sop,Aq (x:=x) h]
 | cvS x=>simp only [sop,Aq (x:=x) h]
 | bslice k n z ps =>
  obtain ⟨k1,k2,k3⟩:=JO h (List.replicate n z) (List.replicate n k)
  simp only [sop,k1,k2,k3]
 | store sz x y=>obtain ⟨h1,h2⟩:=two h; simp only [sop,h1,h2]
 | mks k b z x y=>obtain ⟨h1,h2⟩:=two h; simp only [sop,h1,h2]
 | app k b et x y=>obtain ⟨h1,h2⟩:=two h; simp only [sop,h1,h2]
 | appS et x y=>obtain ⟨h1,h2⟩:=two h; simp only [sop,h1,h2]
 | appZ k b et z x y=>obtain ⟨h1,h2⟩:=two h; simp only [sop,h1,h2]
 | copy k x y=>obtain ⟨h1,h2⟩:=two h; simp only [sop,h1,h2]
 | copyS x y=>obtain ⟨h1,h2⟩:=two h; simp only [sop,h1,h2]
 | ment kk z x y=>obtain ⟨h1,h2⟩:=two h; simp only [sop,h1,h2]
 | delM kk x y=>obtain ⟨h1,h2⟩:=two h; simp only [sop,h1,h2]
 | call f args=>simp only [sop,Ci (xs:=args) (e:=e) (e':=e') h,tups (xs:=args) h]
 | inv x nm args =>
  have h1:=Aq (x:=x) (e:=e) (e':=e') fun s hs=>h s (List.mem_append_left _ hs)
  have h2:=fun s hs=>h s (List.mem_append_right x.rd hs)
  simp only [sop,h1,Ci (xs:=args) (e:=e) (e':=e') h2,tups (xs:=args) h2]
 | callv x args =>
  have h1:=Aq (x:=x) (e:=e) (e':=e') fun s hs=>h s (List.mem_append_left _ hs)
  have h2:=fun s hs=>h s (List.mem_append_right x.rd hs)
  simp only [sop,h1,Ci (xs:=args) (e:=e) (e':=e') h2,tups (xs:=args) h2]
 | mkm kk r =>
  cases r with
  | none=>rfl
  | some x=>simp only [sop,Aq (x:=x) (e:=e) (e':=e') h]
 | mupd kk x y z =>
  have h1:=Aq (x:=x) (e:=e) (e':=e') fun s hs=>h s (List.mem_append_left _ hs)
  obtain ⟨h2,h3⟩:=two (x:=y) (y:=z) fun s hs=>h s (List.mem_append_right x.rd hs)
  simp only [sop,h1,h2,h3]
 | mest x y z =>
  have h1:=Aq (x:=x) (e:=e) (e':=e') fun s hs=>h s (List.mem_append_left _ hs)
  obtain ⟨h2,h3⟩:=two (x:=y) (y:=z) fun s hs=>h s (List.mem_append_right x.rd hs)
  simp only [sop,h1,h2,h3]
def VO.rd (o:VO):List Nat:=(match o.op with | .p o=>o.rd | .s o=>o.rd)++(match o.g with | none=>[] | some (s,_)=>[s])
theorem Ack {P:Program} {v:VO} {e e':Env} (h:∀ s∈v.rd,get e s=get e' s) (H:List Ob) (K:TV→List Ob→Prop):vop P v.op e H K=vop P v.op e' H K:=by
 have h1:∀ s∈(match v.op with | .p o=>o.rd | .s o=>o.rd),get e s=get e' s:=fun s hs=>h s (List.mem_append_left _ hs)
 cases ho:v.op with
 | p o=>rw [ho] at h1; exact Xy h1 H fun x=>K x H
 | s o=>rw [ho] at h1; exact Abr h1 H K
def noH:POp→Bool
 | .b2s _ | .load _ _ _ | .slA _ _ _ _ _=>false
 | .gen (.s2a _ _) _=>true
 | .gen _ _=>false
 | _=>true
theorem Ajk {o:POp} (h:noH o=true) {e:Env} {H H':List Ob} {K:TV→Prop}:pop o e H K=pop o e H' K:=by
 cases o with
 | gen g xs =>
  cases g with
  | s2a n k =>
   have e1:∀ ys:List TV,gev (.s2a n k) H ys=gev (.s2a n k) H' ys:=fun ys=>by unfold gev; split<;>simp_all
   simp only [pop,e1]
  | _=>simp [noH] at h
 | _=>first | rfl | simp [noH] at h
def Adb:POp→Option (MK×TV×Nat×Nat)
 | .gen (.look kk z false) [.t a,.t b]=>some (kk,z,a,b)
 | _=>none
theorem Y5 {o:POp} {kk:MK} {z:TV} {a b:Nat} (h:Adb o=some (kk,z,a,b)):o = .gen (.look kk z false) [.t a,.t b]:=by
 unfold Adb at h
 split at h
 ·cases h; rfl
 ·cases h
def AhA:TV→TV→Bool
 | .val (.int k a),.val (.int k' b)=>decide (k=k') && decide (a=b)
 | _,_=>false
theorem Aa9 {x y:TV} (h:AhA x y=true):x=y:=by
 unfold AhA at h
 split at h
 ·simp only [Bool.and_eq_true,decide_eq_true_eq] at h; rw [h.1,h.2]
 ·cases h
def TU:POp→Option Nat
 | .load _ _ (.t s)=>some s
 | .b2s (.t s)=>some s
 | .slA _ _ (.t s) _ _=>some s
 | _=>none
theorem Y6 {o:POp} {s:Nat} (h:TU o=some s):(∃ ag sz,o = .load ag sz (.t s))∨o = .b2s (.t s)∨∃ n k lo hi,o = .slA n k (.t s) lo hi:=by
 unfold TU at h
 split at h
 ·cases h; exact .inl ⟨_,_,rfl⟩
 ·cases h; exact .inr (.inl rfl)
 ·cases h; exact .inr (.inr ⟨_,_,_,_,rfl⟩)
 ·cases h
def Amj:TV→Option Nat
 | .op id _ _=>some id
 | .os _ id _ _ _ _ _=>some id
 | _=>none
def Aij (l:List VO):List Nat:=l.filterMap fun v=>match v.op with
 | .p o=>TU o
 | _=>none
def AoP (T:List Nat):List VO→Bool
 | []=>false
 | u::r =>
  let t:=(match u.op with | .p o=>o.rd | .s o=>o.rd).any T.contains || (match u.g with | none=>false | some (s,_)=>T.contains s)
  (match u.op with | .s (.store _ _ _) => !t | _=>false) || AoP (match u.dst with | some d=>if t then d::T else T | none=>T) r
def Acz:List VO→List Nat
 | []=>[]
 | v::r=>match v.op,v.dst with
  | .p o,some d=>(match TU o with
   | some s=>if AoP [d] r then s::Acz r else Acz r
   | none=>Acz r)
  | _,_=>Acz r
def OA (Ss:List Nat) (e:Env) (H H':List Ob):Prop:=∀ s∈Ss,∀ id,Amj (get e s)=some id→H'[id]?=H[id]?
theorem OA.nil {e:Env} {H H':List Ob}:OA [] e H H':=fun _ h=>by cases h
structure SsT where
 l:List Nat
 st:List Nat
 ap:Bool
abbrev ss0:SsT:=⟨[],[],false⟩
def VI (Ss:SsT) (o:POp):VOp→Bool
 | .p _=>true
 | .s (.alloc _) | .s (.bstr _ _) | .s (.bslice _ _ _ _) | .s (.s2b _) | .s (.mks _ _ _ _ _)=>true
 | .s (.call _ _)=>(match TU o with
  | some s=>Ss.l.contains s
  | none=>false)
 | .s (.store _ _ _)=>(match TU o with
  | some s=>Ss.st.contains s
  | none=>false)
 | .s (.app _ _ _ _ _)=>Ss.ap && (match TU o with
  | some s=>Ss.l.contains s
  | none=>false)
 | .s (.ment kk' z' (.t a') (.t b'))=>(match Adb o with
  | some (kk,z,a,b)=>decide (kk'=kk) && AhA z' z && decide (a'=a) && decide (b'=b)
  | none=>false)
 | _=>false
def X6 (Ss:SsT) (u:VOp) (e:Env) (H H':List Ob):Prop:=match u with
 | .p _=>H'=H
 | .s (.alloc _) | .s (.bslice _ _ _ _) | .s (.s2b _) | .s (.mks _ _ _ _ _)=>∃ o,H'=H++[o]
 | .s (.call _ _)=>OA Ss.l e H H'
 | .s (.store _ _ _)=>OA Ss.st e H H'
 | .s (.app _ _ _ _ _)=>Ss.ap=true→OA Ss.l e H H'
 | .s (.bstr _ _)=>∃ j v t l,H[j]?=some (.bld v t l)∧H'=H.set j (.gone v)
 | .s (.ment kk z x y)=>∃ id kb es,x.ev e = .mp id 0∧Bq kk (y.ev e)=some kb∧H[id]?=some (.mpo kk es)∧H'=H.set id (.mpo kk (UW kb ((OB kb es).getD z) es))
 | _=>True
theorem AdG {P:Program} {u:VOp} {e:Env} {H:List Ob} {K:TV→List Ob→Prop} (h:vop P u e H K):vop P u e H (fun x H'=>K x H'∧X6 ss0 u e H H'):=by
 cases u with
 | p o =>
  have h':pop o e H fun x=>K x H:=h
  obtain ⟨x,h1,h2⟩:=YC h'
  exact h1 (fun x=>K x H∧H=H) ⟨h2,rfl⟩
 | s o =>
  cases o with
  | alloc z=>exact ⟨h,_,rfl⟩
  | bslice k n z ps=>exact ⟨h.1,h.2,_,rfl⟩
  | s2b x =>
   have h':sop P (.s2b x) e H K:=h
   show sop P (.s2b x) e H fun v H'=>K v H'∧X6 ss0 (.s (.s2b x)) e H H'
   simp only [sop] at h' ⊢
   split at h'
   ·exact ⟨h'.1,h'.2,_,rfl⟩
   ·exact h'.elim
  | mks k by' z x y =>
   have h':sop P (.mks k by' z x y) e H K:=h
   show sop P (.mks k by' z x y) e H fun v H'=>K v H'∧X6 ss0 (.s (.mks k by' z x y)) e H H'
   simp only [sop] at h' ⊢
   split at h'
   ·exact ⟨h'.1,h'.2,_,rfl⟩
   ·exact h'.elim
  | call f args =>
   have e1:(fun x H'=>K x H'∧X6 ss0 (.s (.call f args)) e H H')=K:=funext fun x=>funext fun H'=>propext ⟨fun h=>h.1,fun h=>⟨h,OA.nil⟩⟩
   rw [e1]; exact h
  | store sz y z =>
   have e1:(fun x H'=>K x H'∧X6 ss0 (.s (.store sz y z)) e H H')=K:=funext fun x=>funext fun H'=>propext ⟨fun h=>h.1,fun h=>⟨h,OA.nil⟩⟩
   rw [e1]; exact h
  | app k b t y z =>
   have e1:(fun x H'=>K x H'∧X6 ss0 (.s (.app k b t y z)) e H H')=K:=funext fun x=>funext fun H'=>propext ⟨fun h=>h.1,fun h=>⟨h,fun h=>by cases h⟩⟩
   rw [e1]; exact h
  | bstr f x =>
   have h':sop P (.bstr f x) e H K:=h
   show sop P (.bstr f x) e H fun v H'=>K v H'∧X6 ss0 (.s (.bstr f x)) e H H'
   simp only [sop] at h' ⊢
   refine ⟨h'.1,?_⟩
   have h2:=h'.2
   split at h2
   ·rename_i j v l hr
    obtain ⟨_,_,_,_,_,_,_,_,_,_,h5⟩:=VV hr
    exact ⟨h2.1,h2.2,j,v,_,l,h5,rfl⟩
   ·exact h2.elim
  | ment kk z x y =>
   have h':sop P (.ment kk z x y) e H K:=h
   show sop P (.ment kk z x y) e H fun v H'=>K v H'∧X6 ss0 (.s (.ment kk z x y)) e H H'
   simp only [sop] at h' ⊢
   split at h'
   ·rename_i id kb hx hy
    split at h'
    ·rename_i kk' es hid
     obtain ⟨rfl,h'⟩:=h'
     simp only [hid,true_and]
     exact ⟨h',id,kb,es,hx,hy,hid,rfl⟩
    ·exact h'.elim
   ·exact h'.elim
  | _ =>
   have e1:(fun x H'=>K x H'∧True)=K:=funext fun x=>funext fun H'=>propext ⟨fun h=>h.1,fun h=>⟨h,trivial⟩⟩
   rw [←e1] at h; exact h
theorem V3 {k:List UInt8} {x:TV}:∀ {es:List (List UInt8×TV)},OB k (UW k x es)=some x
 | []=>by simp [UW,OB]
 | (q,y)::es=>by
  rw [UW]
  by_cases hq:q=k
  ·subst hq; simp [OB]
  ·rw [if_neg hq,OB,if_neg hq,V3]
theorem Vg {H:List Ob} {k:Nat} {x:TV} {cs:List TV} {o:Ob} (h:BA H k x=some cs):BA (H++[o]) k x=some cs:=by
 cases x with
 | os k' id ver p off n cp =>
  simp only [BA] at h ⊢
  split at h
  ·rename_i hk
   split at h
   ·rename_i v y hid
    rw [List.getElem?_append_left (List.getElem?_eq_some_iff.1 hid).1,hid]
    simp only [hk,if_true]
    exact h
   ·cases h
  ·cases h
 | _=>first | exact h | (simp [BA] at h)
theorem XU {H:List Ob} {k j v:Nat} {t:TypeId} {l:List UInt8} {x:TV} {cs:List TV} (hj:H[j]?=some (.bld v t l)) (h:BA H k x=some cs):BA (H.set j (.gone v)) k x=some cs:=by
 cases x with
 | os k' id ver p off n cp =>
  simp only [BA] at h ⊢
  split at h
  ·rename_i hk
   split at h
   ·rename_i v2 y hid
    have hne:j≠id:=fun e=>by subst e; rw [hj] at hid; cases hid
    rw [List.getElem?_set_ne hne,hid]
    simp only [hk,if_true]
    exact h
   ·cases h
  ·cases h
 | _=>first | exact h | (simp [BA] at h)
theorem ZI {o:POp} {e:Env} {H H':List Ob} {K:TV→Prop} (hk:∀ (id:Nat) ob,H[id]?=some ob→(∀ v t l,ob ≠ .bld v t l)→H'[id]?=some ob) (he:∀ k x cs,BA H k x=some cs→BA H' k x=some cs) (h:pop o e H K):pop o e H' K:=by
 cases o with
 | load ag sz x =>
  simp only [pop] at h ⊢
  split at h
  ·exact h
  ·split at h
   ·rename_i v y hid
    rw [hk _ _ hid (by simp)]; exact h
   ·exact h.elim
  ·exact h.elim
 | b2s x =>
  simp only [pop] at h ⊢
  split at h
  ·rename_i cs hc; rw [he _ _ _ hc]; exact h
  ·exact h.elim
 | slA n k x lo hi =>
  simp only [pop] at h ⊢
  split at h
  ·exact h
  ·split at h
   ·rename_i v y hid
    rw [hk _ _ hid (by simp)]; exact h
   ·exact h.elim
  ·exact h.elim
 | gen g xs =>
  simp only [pop] at h ⊢
  have hg:∀ (ys:List TV) r,gev g H ys=some r→gev g H' ys=some r:=by
   intro ys r hr
   unfold gev at hr ⊢
   split at hr
   ·exact hr
   ·exact hr
   ·exact hr
   ·rename_i kk z ok x k
    simp only [WI] at hr ⊢
    split at hr
    ·split at hr
     ·rename_i id kk' es kb h1 h2
      rw [hk _ _ h1 (by simp),h2]; exact hr
     ·rename_i id kk' zs cl kb h1 h2
      rw [hk _ _ h1 (by simp),h2]; exact hr
     ·cases hr
    ·exact hr
    ·cases hr
   ·rename_i x
    simp only [AeY] at hr ⊢
    split at hr
    ·split at hr
     ·rename_i h1
      rw [hk _ _ h1 (by simp)]; exact hr
     ·rename_i h1
      rw [hk _ _ h1 (by simp)]; exact hr
     ·cases hr
    ·exact hr
    ·cases hr
   ·exact hr
   ·rename_i id
    have hst:∀ (m:Nat) z,stO H[m]?=some z→stO H'[m]?=some z:=by
     intro m z hz
     cases hm:H[m]? with
     | none=>rw [hm] at hz; simp [stO] at hz
     | some ob =>
      rw [hm] at hz
      rw [hk _ _ hm (by intro v t l e; subst e; simp [stO] at hz)]; exact hz
    simp only [AmE] at hr ⊢
    split at hr
    ·rename_i h1
     rw [hk _ _ h1 (by simp)]
     split at hr
     ·rename_i h2 h3
      dsimp only
      rw [hst _ _ h2,h3]; exact hr
     ·cases hr
    ·cases hr
   ·exact hr
   ·exact hr
   ·exact hr
   ·exact hr
   ·cases hr
  cases hgl:gev g H (xs.map (·.ev e)) with
  | none=>rw [hgl] at h; exact h.elim
  | some r=>rw [hgl] at h; rw [hg _ r hgl]; exact h
 | _=>exact h
theorem UR {Ss:List Nat} {o:POp} {s:Nat} {e es:Env} {H H':List Ob} (hl:TU o=some s) (hm:s∈Ss) (hr:OA Ss e H H') (hes:∀ s∈o.rd,get es s=get e s∨get es s = .any) {K:TV→Prop} (h9:pop o es H K):pop o es H' K:=by
 rcases Y6 hl with ⟨ag,sz,rfl⟩ | rfl | ⟨n,k,lo,hi,rfl⟩
 ·have hs:=hes s (by simp [POp.rd,Opd.rd])
  simp only [pop,Opd.ev] at h9 ⊢
  rcases hs with hs | hs
  case inr=>rw [hs] at h9; exact h9.elim
  split at h9
  ·exact h9
  ·rename_i id ver p hx
   rw [hr s hm id (by rw [←hs,hx]; rfl)]
   exact h9
  ·exact h9.elim
 ·have hs:=hes s (by simp [POp.rd,Opd.rd])
  simp only [pop,Opd.ev] at h9 ⊢
  have he:BA H' 1 (get es s)=BA H 1 (get es s):=by
   rcases hs with hs | hs
   case inr=>rw [hs]; rfl
   cases hx:get es s with
   | os k id v p off n cp=>rw [BA,BA,hr s hm id (by rw [←hs,hx]; rfl)]
   | _=>rfl
  rw [he]; exact h9
 ·have hs:=hes s (by simp [POp.rd,Opd.rd])
  simp only [pop,Opd.ev] at h9 ⊢
  rcases hs with hs | hs
  case inr=>rw [hs] at h9; exact h9.elim
  split at h9
  ·exact h9
  ·rename_i id ver p hx
   rw [hr s hm id (by rw [←hs,hx]; rfl)]
   exact h9
  ·exact h9.elim
theorem XZ {Ss:SsT} {o:POp} {u:VOp} {e es:Env} {H H':List Ob} {x:TV} (hf:noH o=true∨VI Ss o u=true) (hr:X6 Ss u e H H') (hes:∀ s∈o.rd,get es s=get e s∨get es s = .any) (h:∀ K:TV→Prop,K x→pop o es H K):∀ K:TV→Prop,K x→pop o es H' K:=by
 intro K hK
 have app:(∃ o,H'=H++[o])→pop o es H' K:=by
  rintro ⟨ob,rfl⟩
  exact ZI (fun id ob' h1 _=>by rw [List.getElem?_append_left (List.getElem?_eq_some_iff.1 h1).1]; exact h1) (fun k x cs=>Vg) (h K hK)
 rcases hf with hf | hf
 ·rw [Ajk hf (H':=H)]; exact h K hK
 ·unfold VI at hf
  split at hf
  ·have hr':H'=H:=hr
   rw [hr']; exact h K hK
  ·exact app hr
  ·obtain ⟨j,v,t,l,hj,rfl⟩:=hr
   exact ZI (fun id ob h1 h2=>by
    have hne:j≠id:=fun e=>by subst e; rw [hj] at h1; cases h1; exact h2 _ _ _ rfl
    rw [List.getElem?_set_ne hne]; exact h1) (fun k x cs=>XU hj) (h K hK)
  ·exact app hr
  ·exact app hr
  ·exact app hr
  ·split at hf
   ·rename_i s hl
    exact UR hl (by simpa using hf) hr hes (h K hK)
   ·cases hf
  ·split at hf
   ·rename_i s hl
    exact UR hl (by simpa using hf) hr hes (h K hK)
   ·cases hf
  ·rw [Bool.and_eq_true] at hf
   obtain ⟨hap,hf⟩:=hf
   split at hf
   ·rename_i s hl
    exact UR hl (by simpa using hf) (hr hap) hes (h K hK)
   ·cases hf
  ·rename_i kk' z' a' b'
   split at hf
   ·rename_i kk z a b hl
    simp only [Bool.and_eq_true,decide_eq_true_eq] at hf
    obtain ⟨⟨⟨rfl,hz⟩,rfl⟩,rfl⟩:=hf
    obtain rfl:=Aa9 hz
    have ho:=Y5 hl
    subst ho
    obtain ⟨id,kb,es0,h1,h2,h3,h4⟩:=hr
    have h9:=h K hK
    have hA:get e a' = .mp id 0:=h1
    have hB:Bq kk' (get e b')=some kb:=h2
    have ha:=hes a' (by simp [POp.rd,Opd.rd])
    have hb:=hes b' (by simp [POp.rd,Opd.rd])
    have h10:=h (fun y=>y=x) rfl
    simp only [pop,gev,List.map_cons,List.map_nil,Opd.ev] at h9 h10 ⊢
    rcases ha with ha | ha
    case inr=>rw [ha] at h9; simp [WI] at h9
    rcases hb with hb | hb
    case inr=>rw [ha,hA,hb] at h9; simp [WI,Bq] at h9
    rw [ha,hA,hb] at h9 h10 ⊢
    have hlt:id<H.length:=(List.getElem?_eq_some_iff.1 h3).1
    simp only [WI,h3,hB,if_true] at h9 h10
    rw [h4]
    simp only [WI,List.getElem?_set_self hlt,hB,if_true,V3]
    simp only [Ul,if_false] at h9 h10 ⊢
    simpa using h9
   ·cases hf
  ·cases hf
def Abh (g:Option (Nat×Bool)) (o:POp) (e:Env) (H:List Ob) (K:TV→Prop):Prop:=match g with
 | none=>pop o e H K
 | some (s,b)=>match get e s with
  | .val x=>if isB x=some b then pop o e H K else K (.val undef)
  | _=>False
theorem VX {Ss:SsT} {d:Option Nat} {g:Option (Nat×Bool)} {o:POp} {u:VOp} {e es:Env} {H H':List Ob} {x:TV} (hf:noH o=true∨VI Ss o u=true) (hr:X6 Ss u e H H') (hes:∀ s∈(VO.mk d (.p o) g).rd,get es s=get e s∨get es s = .any) (h:∀ K:TV→Prop,K x→Abh g o es H K):∀ K:TV→Prop,K x→Abh g o es H' K:=by
 have hes':∀ s∈o.rd,get es s=get e s∨get es s = .any:=fun s hs=>hes s (List.mem_append_left _ hs)
 cases g with
 | none=>exact XZ hf hr hes' h
 | some sb =>
  obtain ⟨s,b⟩:=sb
  intro K hK
  have h1:=h K hK
  unfold Abh at h1 ⊢
  simp only at h1 ⊢
  split at h1
  ·rename_i v hv
   by_cases ht:isB v=some b
   ·rw [if_pos ht] at h1 ⊢
    refine XZ hf hr hes' (x:=x) (fun K hK => ?_) K hK
    have h2:=h K hK
    unfold Abh at h2
    simp only [hv,ht,if_true] at h2
    exact h2
   ·rw [if_neg ht] at h1 ⊢; exact h1
  ·exact h1.elim
def Ll (Ss:SsT) (m:List Nat) (l:List VO) (nA i:Nat):Bool:=match l[i]? with
 | some ⟨some d,.p o,g⟩=>decide (i<nA) && (noH o || ((List.range l.length).all fun j=>decide (j<nA) || (m.getD j 0).testBit i || (match l[j]? with | some u=>VI Ss o u.op | none=>true))) && !(VO.mk (some d) (.p o) g).rd.contains d &&
   (List.range l.length).all fun j=>j == i || (match l[j]? with | some u=>(match u.dst with | some d'=>d' != d && (!(VO.mk (some d) (.p o) g).rd.contains d' || decide (j<i) || (decide (nA≤j) && (m.getD j 0).testBit i)) | none=>true) | none=>true)
 | _=>false
theorem Dy {Ss:SsT} {m:List Nat} {l:List VO} {nA i:Nat} (h:Ll Ss m l nA i=true):∃ d o g,l[i]?=some ⟨some d,.p o,g⟩∧i<nA∧(∀ (j:Nat) u,nA≤j→l[j]?=some u→noH o=true∨(m.getD j 0).testBit i=true∨VI Ss o u.op=true)∧¬ d∈(VO.mk (some d) (.p o) g).rd∧∀ (j:Nat) u d',l[j]?=some u→j≠i→u.dst=some d'→d'≠d∧(¬ d'∈(VO.mk (some d) (.p o) g).rd∨j<i∨(nA≤j∧(m.getD j 0).testBit i=true)):=by
 unfold Ll at h
 split at h
 ·rename_i d o g hi
  simp only [Bool.and_eq_true,decide_eq_true_eq,List.all_eq_true,List.mem_range,Bool.or_eq_true,beq_iff_eq,Bool.not_eq_true',←Bool.not_eq_true,List.contains_iff_mem] at h
  obtain ⟨⟨⟨h1,h2⟩,h3⟩,h4⟩:=h
  refine ⟨d,o,g,hi,h1,fun j u hnj hj => ?_,h3,fun j u d' hj hne hu => ?_⟩
  ·rcases h2 with h2 | h5
   ·exact .inl h2
   ·have hjl:j<l.length:=(List.getElem?_eq_some_iff.1 hj).1
    have h6:=h5 j hjl
    rw [hj] at h6
    rcases h6 with (h6 | h6) | h6
    ·omega
    ·exact .inr (.inl h6)
    ·exact .inr (.inr h6)
  have hjl:j<l.length:=(List.getElem?_eq_some_iff.1 hj).1
  have h5:=(h4 j hjl).resolve_left hne
  rw [hj] at h5
  simp only [hu] at h5
  simpa [or_assoc] using h5
 ·cases h
def Vq:SOp→Option (TV×Option (Nat×Nat))
 | .alloc z=>some (z,none)
 | .mks k bytes z (.c (.int _ l)) (.c (.int _ c))=>if l=c∧Aw z=k then some (.arr c.toNat k (List.replicate c.toNat z),some (k,c.toNat)) else none
 | _=>none
def mkT (q:Option (Nat×Nat)) (id:Nat):TV:=match q with
 | none => .op id 0 []
 | some (k,n) => .os k id 0 [] 0 n n
def Abe (q:Option (Nat×Nat)) (b:Nat):Value:=match q with
 | none => .pointer (some ⟨b,0,none⟩)
 | some (_,n) => .slice (some ⟨b,0,none⟩) n n
def Aaj:SOp→Bool
 | .mks _ bytes _ _ (.c (.int _ c))=>decide (0≤c∧(bytes:Int)*c≤281474976710656∧c≤9223372036854775807)
 | _=>true
theorem Ahe {P:Program} {so:SOp} {z:TV} {q:Option (Nat×Nat)} {e:Env} {H:List Ob} {K:TV→List Ob→Prop} (hq:Vq so=some (z,q)) (h:vop P (.s so) e H K):K (mkT q H.length) (H++[.obj 0 z]):=by
 cases so with
 | alloc z0=>simp only [Vq,Option.some.injEq,Prod.mk.injEq] at hq; obtain ⟨rfl,rfl⟩:=hq; exact h
 | mks k bytes z0 x y =>
  have h':sop P (.mks k bytes z0 x y) e H K:=h
  unfold Vq at hq
  split at hq
  ·rename_i so' _ he; cases he
  ·rename_i k' b' z' kl l kc c he
   cases he
   split at hq
   ·rename_i hl
    simp only [Option.some.injEq,Prod.mk.injEq] at hq
    obtain ⟨rfl,rfl⟩:=hq
    obtain ⟨rfl,_⟩:=hl
    simp only [sop,Opd.ev] at h'
    exact h'.2
   ·cases hq
  ·cases hq
 | _=>simp [Vq] at hq
theorem Rep.mkT {q:Option (Nat×Nat)} {β:Nat→Nat→Option (Nat×Nat)} {H:List Ob} {F:Nat→Prop} {w:World} {z:TV} {b:Nat} {vs:List Value} {t:TypeId} (hq:∀ k n,q=some (k,n)→Aw z=n*k∧n≤9223372036854775807) (hz:Ag ⟨upd β H.length 0 (some (b,0)),H++[.obj 0 z],F⟩ w z vs) (hb:w.heap[b]?=some (.cells vs.toArray t (0,0))) :
  Rep ⟨upd β H.length 0 (some (b,0)),H++[.obj 0 z],F⟩ w (mkT q H.length) (Abe q b):=by
 cases q with
 | none=>exact Rep.mk_op (E9 _ _ _ _ _ (Nat.le_refl _)) AA rfl
 | some kn =>
  obtain ⟨k,n⟩:=kn
  obtain ⟨h1,h2⟩:=hq k n rfl
  refine Rep.of1 ?_ (by simp [Go.Proofs.YthlbcfmbldcngaaDoor.mkT]) (by simp [Go.Proofs.YthlbcfmbldcngaaDoor.mkT])
  unfold Go.Proofs.YthlbcfmbldcngaaDoor.mkT
  rw [Ag]
  refine ⟨E9 _ _ _ _ _ (Nat.le_refl _),.inr ⟨b,0,n,t,vs.length,AA,by simp [Abe,C9],Nat.le_refl _,h2,?_,?_,Nat.le_refl _⟩⟩
  ·simp only [World.shape?,hb,List.size_toArray]
  ·rw [hz.length,h1]; simp [C9]
theorem AaG {so:SOp} {z:TV} {q:Option (Nat×Nat)} (hq:Vq so=some (z,q)) (hf:Aaj so=true):∀ k n,q=some (k,n)→Aw z=n*k∧n≤9223372036854775807:=by
 intro k n hk
 subst hk
 unfold Vq at hq
 split at hq
 ·simp at hq
 ·rename_i k' b' z' kl l kc c
  split at hq
  ·simp only [Option.some.injEq,Prod.mk.injEq] at hq
   obtain ⟨rfl,rfl,rfl⟩:=hq
   simp only [Aaj,decide_eq_true_eq] at hf
   exact ⟨rfl,by omega⟩
  ·cases hq
 ·cases hq
theorem Ahq {so:SOp} {z:TV} {q:Option (Nat×Nat)} {d:Option Nat} (hq:Vq so=some (z,q)):(VO.mk d (.s so) none).rd=[]:=by
 unfold Vq at hq
 split at hq
 ·simp [VO.rd,SOp.rd]
 ·simp [VO.rd,SOp.rd,Opd.rd]
 ·cases hq
def Ea (m:List Nat) (l:List VO) (nA i:Nat):Bool:=match l[i]? with
 | some ⟨some d,.s so,none⟩=>(Vq so).isSome && Aaj so && decide (nA≤i) &&
   (List.range l.length).all fun j=>j == i || (match l[j]? with | some u=>u.dst != some d && (!u.rd.contains d || (m.getD j 0).testBit i) | none=>true)
 | _=>false
theorem BD {m:List Nat} {l:List VO} {nA i:Nat} (h:Ea m l nA i=true):∃ d so z q,l[i]?=some ⟨some d,.s so,none⟩∧Vq so=some (z,q)∧Aaj so=true∧nA≤i∧∀ (j:Nat) u,l[j]?=some u→j≠i→u.dst≠some d∧(d∈u.rd→(m.getD j 0).testBit i=true):=by
 unfold Ea at h
 split at h
 ·rename_i d so hi
  simp only [Bool.and_eq_true,decide_eq_true_eq,List.all_eq_true,List.mem_range,Bool.or_eq_true,beq_iff_eq,Option.isSome_iff_exists] at h
  obtain ⟨⟨⟨⟨⟨z,q⟩,h1⟩,h0⟩,h2⟩,h3⟩:=h
  refine ⟨d,so,z,q,hi,h1,h0,h2,fun j u hj hne => ?_⟩
  have hjl:j<l.length:=(List.getElem?_eq_some_iff.1 hj).1
  have h5:=(h3 j hjl).resolve_left hne
  rw [hj] at h5
  simp only [Bool.and_eq_true,bne_iff_ne,ne_eq,Bool.or_eq_true,Bool.not_eq_true',←Bool.not_eq_true,List.contains_iff_mem] at h5
  exact ⟨h5.1,fun hd=>h5.2.resolve_left fun hn=>hn hd⟩
 ·cases h
def D7 (m:List Nat) (l:List VO) (nA j:Nat):Bool:=match l[j]? with
 | some ⟨some d,.p (.mov (.t t)),none⟩=>decide (nA≤j) && (d != t) &&
   (List.range l.length).all fun k=>k == j || (match l[k]? with | some u=>u.dst != some d && (!u.rd.contains d || (m.getD k 0).testBit j) && (u.dst != some t || (m.getD j 0).testBit k) | none=>true)
 | _=>false
theorem CY {m:List Nat} {l:List VO} {nA j:Nat} (h:D7 m l nA j=true):∃ d t,nA≤j∧l[j]?=some ⟨some d,.p (.mov (.t t)),none⟩∧d≠t∧(∀ (k:Nat) u,l[k]?=some u→k≠j→u.dst=some t→(m.getD j 0).testBit k=true)∧∀ (k:Nat) u,l[k]?=some u→k≠j→u.dst≠some d∧(d∈u.rd→(m.getD k 0).testBit j=true):=by
 unfold D7 at h
 split at h
 ·rename_i d t hj
  simp only [Bool.and_eq_true,decide_eq_true_eq,bne_iff_ne,ne_eq,List.mem_range,List.all_eq_true,Bool.or_eq_true,beq_iff_eq] at h
  obtain ⟨⟨h1,h2⟩,h7⟩:=h
  refine ⟨d,t,h1,hj,h2,fun k u hk hne hd => ?_,fun k u hk hne => ?_⟩
  ·have hkl:k<l.length:=(List.getElem?_eq_some_iff.1 hk).1
   have h8:=(h7 k hkl).resolve_left hne
   rw [hk] at h8
   simp only [Bool.and_eq_true,bne_iff_ne,ne_eq,Bool.or_eq_true] at h8
   exact h8.2.resolve_left fun hn=>hn hd
  ·have hkl:k<l.length:=(List.getElem?_eq_some_iff.1 hk).1
   have h8:=(h7 k hkl).resolve_left hne
   rw [hk] at h8
   simp only [Bool.and_eq_true,bne_iff_ne,ne_eq,Bool.or_eq_true,Bool.not_eq_true',←Bool.not_eq_true,List.contains_iff_mem] at h8
   exact ⟨h8.1.1,fun hd=>h8.1.2.resolve_left fun hn=>hn hd⟩
 ·cases h
def Gn (m:List Nat) (l:List VO) (nA i:Nat):Bool:=Ea m l nA i || D7 m l nA i
theorem SS {m:List Nat} {l:List VO} {nA i:Nat} (h:Gn m l nA i=true):∃ d op,l[i]?=some ⟨some d,op,none⟩∧nA≤i∧∀ (j:Nat) u,l[j]?=some u→j≠i→u.dst≠some d∧(d∈u.rd→(m.getD j 0).testBit i=true):=by
 unfold Gn at h
 rw [Bool.or_eq_true] at h
 rcases h with h | h
 ·obtain ⟨d,so,z,q,hz,_,_,hn,h'⟩:=BD h
  exact ⟨d,_,hz,hn,h'⟩
 ·obtain ⟨d,t,h0,hz,_,_,h'⟩:=CY h
  exact ⟨d,_,hz,h0,h'⟩
def KG (m:List Nat) (l:List VO) (nA i:Nat):Bool:=match l[i]? with
 | some ⟨some d,.p o,none⟩=>decide (nA≤i) && noH o && !Gn m l nA i && !o.rd.contains d &&
   (List.range l.length).all fun j=>j == i || (match l[j]? with | some u=>u.dst != some d && (!u.rd.contains d || (m.getD j 0).testBit i) && (match u.dst with | some d' => !o.rd.contains d' || (m.getD i 0).testBit j | none=>true) | none=>true)
 | _=>false
theorem Du {m:List Nat} {l:List VO} {nA i:Nat} (h:KG m l nA i=true):∃ d o,l[i]?=some ⟨some d,.p o,none⟩∧nA≤i∧noH o=true∧Gn m l nA i≠true∧¬ d∈o.rd∧∀ (j:Nat) u,l[j]?=some u→j≠i→u.dst≠some d∧(d∈u.rd→(m.getD j 0).testBit i=true)∧∀ d',u.dst=some d'→d'∈o.rd→(m.getD i 0).testBit j=true:=by
 unfold KG at h
 split at h
 ·rename_i d o hi
  simp only [Bool.and_eq_true,decide_eq_true_eq,List.all_eq_true,List.mem_range,Bool.or_eq_true,beq_iff_eq,Bool.not_eq_true',←Bool.not_eq_true,List.contains_iff_mem] at h
  obtain ⟨⟨⟨⟨h1,h2⟩,h3⟩,h4⟩,h5⟩:=h
  refine ⟨d,o,hi,h1,h2,h3,h4,fun j u hj hne => ?_⟩
  have hjl:j<l.length:=(List.getElem?_eq_some_iff.1 hj).1
  have h6:=(h5 j hjl).resolve_left hne
  rw [hj] at h6
  simp only [Bool.and_eq_true,bne_iff_ne,ne_eq,Bool.or_eq_true,Bool.not_eq_true',←Bool.not_eq_true,List.contains_iff_mem] at h6
  refine ⟨h6.1.1,fun hd=>h6.1.2.resolve_left fun hn=>hn hd,fun d' hd' hm => ?_⟩
  have h7:=h6.2
  rw [hd'] at h7
  simp only [Bool.or_eq_true,Bool.not_eq_true',←Bool.not_eq_true,List.contains_iff_mem] at h7
  exact h7.resolve_left fun hn=>hn hm
 ·cases h
def Rq (lt:Bool) (Ss:SsT) (ops:List Oper) (l:List VO) (nA:Nat):Bool :=
 let m:=cls ops
 let n:=ops.length
 decide (nA≤n) &&
 ((List.range n).all fun i=>(match ops[i]? with | some o=>(PW o).all (· < i) | none=>false)) &&
 ((
  List.range n).all fun j=>decide (j<nA) || Gn m l nA j || (List.range j).all fun k=>(m.getD j 0).testBit k || (lt && KG m l nA k) || (Ll Ss m l nA k && (match l[j]?,l[k]? with
  | some v,some u=>(match u.dst with | some d => !v.rd.contains d | none=>false)
  | _,_=>false))) &&
 ((
  List.range nA).all fun i=>(match l[i]? with
  | some v=>(List.range nA).all fun j=>(match l[j]? with
   | some u=>(match u.dst with
    | some d=>(if v.rd.contains d then ((m.getD i 0).testBit j || (m.getD j 0).testBit i) else true) && (i == j || v.dst != some d)
    | none=>true)
   | none=>false)
  | none=>false))
def PL (Ss:SsT) (ops:List Oper) (l:List VO) (nA:Nat):Bool:=Rq false Ss ops l nA
def CQ (Ss:SsT) (ops:List Oper) (l:List VO) (nA:Nat):Bool:=Rq true Ss ops l nA
theorem JJ {Ss:SsT} {ops:List Oper} {l:List VO} {nA:Nat} (h:PL Ss ops l nA=true):CQ Ss ops l nA=true:=by
 unfold PL Rq at h
 unfold CQ Rq
 simp only [Bool.and_eq_true,decide_eq_true_eq,List.all_eq_true,List.mem_range,Bool.or_eq_true,Bool.false_and,Bool.false_eq_true,or_false,Bool.true_and] at h ⊢
 exact ⟨⟨⟨h.1.1.1,h.1.1.2⟩,fun j hj=>(h.1.2 j hj).imp id fun h5 k hk=>(h5 k hk).imp .inl id⟩,h.2⟩
def Vj (P:Program) (o:VOp) (e:Env) (H:List Ob) (k:TV→Prop):Prop:=match o with
 | .p o=>pop o e H k
 | .s (.call f args)=>(∀ x∈args,CE (x.ev e)=false)∧∃ x,Au P f (args.map (·.ev e)) H (fun y H'=>y=x∧H'=H)∧k x
 | .s (.callv f args)=>∃ x,sop P (.callv f args) e H (fun y H'=>y=x∧H'=H)∧k x
 | _=>False
def vq (P:Program):List VO→(Env→Prop)→Env→List Ob→Prop
 | [],K,e,H=>K e
 | o::r,K,e,H=>match o.g with
  | none=>Vj P o.op e H fun x=>vq P r K (Um e o.dst x) H
  | some (s,b)=>match get e s with
   | .val v=>if isB v=some b then Vj P o.op e H fun x=>vq P r K (Um e o.dst x) H else vq P r K (Um e o.dst (.val undef)) H
   | _=>False
def Qt (P:Program) (o:VOp) (e:Env) (H:List Ob) (x:TV):Prop:=match o with
 | .p o=>∀ K:TV→Prop,K x→pop o e H K
 | .s (.call f args)=>(∀ y∈args,CE (y.ev e)=false)∧Au P f (args.map (·.ev e)) H fun y H'=>y=x∧H'=H
 | .s (.callv f args)=>sop P (.callv f args) e H fun y H'=>y=x∧H'=H
 | _=>False
def Okq (P:Program) (o:VO) (e:Env) (H:List Ob) (x:TV):Prop:=match o.g with
 | none=>Qt P o.op e H x
 | some (s,b)=>match get e s with
  | .val v=>if isB v=some b then Qt P o.op e H x else x = .val undef
  | _=>False
theorem Z4 {P:Program} {o:VOp} {e e':Env} {H:List Ob} {x:TV} (h:∀ s∈(match o with | .p o=>o.rd | .s o=>o.rd),get e s=get e' s) (hq:Qt P o e H x):Qt P o e' H x:=by
 cases o with
 | p o=>exact fun K hK=>by rw [←Xy h]; exact hq K hK
 | s o =>
  cases o with
  | call f args =>
   obtain ⟨h1,h2⟩:=hq
   have hm:=Ci (xs:=args) h
   refine ⟨fun y hy => ?_,?_⟩
   ·rw [←Aq (e:=e) (e':=e') fun s hs=>h s (List.mem_flatMap.2 ⟨y,hy,hs⟩)]; exact h1 y hy
   ·rw [←hm]; exact h2
  | callv f args =>
   have hx:f.ev e=f.ev e':=Aq fun s hs=>h s (List.mem_append_left _ hs)
   have hm:=Ci (xs:=args) (e:=e) (e':=e') fun s hs=>h s (List.mem_append_right _ hs)
   have ha:∀ y∈args,y.ev e=y.ev e':=fun y hy=>Aq fun s hs=>h s (List.mem_append_right _ (List.mem_flatMap.2 ⟨y,hy,hs⟩))
   unfold Qt at hq ⊢
   simp only [sop] at hq ⊢
   rw [←hx,←hm]
   exact ⟨fun y hy=>by rw [←ha y hy]; exact hq.1 y hy,hq.2⟩
  | _=>exact hq
theorem Xp {P:Program} {o:VO} {e e':Env} {H:List Ob} {x:TV} (h:∀ s∈o.rd,get e s=get e' s) (hq:Okq P o e H x):Okq P o e' H x:=by
 have h1:∀ s∈(match o.op with | .p o=>o.rd | .s o=>o.rd),get e s=get e' s:=fun s hs=>h s (List.mem_append_left _ hs)
 unfold Okq at hq ⊢
 cases hg:o.g with
 | none=>rw [hg] at hq; exact Z4 h1 hq
 | some sb =>
  obtain ⟨s,b⟩:=sb
  rw [hg] at hq
  have h2:get e s=get e' s:=h s (List.mem_append_right _ (by rw [hg]; simp))
  simp only [h2] at hq ⊢
  split at hq
  ·split at hq
   ·rename_i ht; rw [if_pos ht]; exact Z4 h1 hq
   ·rename_i ht; rw [if_neg ht]; exact hq
  ·exact hq.elim
theorem YV {P:Program} {d:Option Nat} {g:Option (Nat×Bool)} {o:POp} {e:Env} {H:List Ob} {x:TV} (h:∀ K:TV→Prop,K x→Abh g o e H K):Okq P ⟨d,.p o,g⟩ e H x:=by
 cases g with
 | none=>exact h
 | some sb =>
  obtain ⟨s,b⟩:=sb
  have h1:=h (fun y=>y=x) rfl
  unfold Abh at h1
  unfold Okq
  simp only at h1 ⊢
  split at h1
  ·rename_i v hv
   by_cases ht:isB v=some b
   ·simp only [hv,ht,if_true]
    intro K hK
    have h2:=h K hK
    unfold Abh at h2
    simp only [hv,ht,if_true] at h2
    exact h2
   ·rw [if_neg ht] at h1
    simp only [hv,ht,if_false]
    exact h1.symm
  ·exact h1.elim
theorem YU {P:Program} {d:Option Nat} {g:Option (Nat×Bool)} {o:POp} {e:Env} {H:List Ob} {x:TV} (h:Okq P ⟨d,.p o,g⟩ e H x):∀ K:TV→Prop,K x→Abh g o e H K:=by
 intro K hK
 cases g with
 | none=>exact h K hK
 | some sb =>
  obtain ⟨s,b⟩:=sb
  unfold Okq at h
  unfold Abh
  simp only at h ⊢
  split at h
  ·rename_i v hv
   by_cases ht:isB v=some b
   ·simp only [hv,ht,if_true] at h ⊢
    exact h K hK
   ·simp only [hv,ht,if_false] at h ⊢
    rw [←h]; exact hK
  ·exact h.elim
def Ii (e:Env):List VO→List TV→Env
 | o::r,x::xs=>Ii (Um e o.dst x) r xs
 | _,_=>e
theorem Yp {P:Program} {o:VOp} {e:Env} {H:List Ob} {k:TV→Prop} (h:Vj P o e H k):∃ x,Qt P o e H x∧k x:=by
 cases o with
 | p o=>exact YC h
 | s o =>
  cases o with
  | call f args=>obtain ⟨h1,x,h2,h3⟩:=h; exact ⟨x,⟨h1,h2⟩,h3⟩
  | callv f args=>exact h
  | _=>exact h.elim
theorem Ahc {P:Program} {H:List Ob}:∀ {l:List VO} {K:Env→Prop} {e:Env},vq P l K e H→∃ xs:List TV,xs.length=l.length∧K (Ii e l xs) ∧
  ∀ (i:Nat) o x,l[i]?=some o→xs[i]?=some x→Okq P o (Ii e (l.take i) (xs.take i)) H x
 | [],K,e,h=>⟨[],rfl,h,by simp⟩
 | o::r,K,e,h=>by
  have go:∀ x,vq P r K (Um e o.dst x) H→Okq P o e H x→∃ xs:List TV,xs.length=(o::r).length∧K (Ii e (o::r) xs)∧∀ (i:Nat) o' x,(o::r)[i]?=some o'→xs[i]?=some x→Okq P o' (Ii e ((o::r).take i) (xs.take i)) H x:=fun x h1 h2=>by
   obtain ⟨xs,k1,k2,k3⟩:=Ahc h1
   refine ⟨x::xs,by simp [k1],k2,?_⟩
   intro i o' y ho hx
   cases i with
   | zero=>simp at ho hx; subst ho; subst hx; exact h2
   | succ i=>exact k3 i o' y (by simpa using ho) (by simpa using hx)
  rw [vq] at h
  cases hg:o.g with
  | none =>
   rw [hg] at h
   obtain ⟨x,h1,h2⟩:=Yp h
   exact go x h2 (by unfold Okq; rw [hg]; exact h1)
  | some sb =>
   obtain ⟨s,b⟩:=sb
   rw [hg] at h
   simp only at h
   split at h
   ·rename_i t ht
    by_cases htb:isB t=some b
    ·rw [if_pos htb] at h
     obtain ⟨x,h1,h2⟩:=Yp h
     exact go x h2 (by unfold Okq; rw [hg]; simp only [ht,htb,if_true]; exact h1)
    ·rw [if_neg htb] at h
     exact go (.val undef) h (by unfold Okq; rw [hg]; simp only [ht,htb,if_false])
   ·exact h.elim
theorem CJ {s:Nat}:∀ {l:List VO} {xs:List TV} {e:Env},(∀ (j:Nat) o,l[j]?=some o→o.dst≠some s)→get (Ii e l xs) s=get e s
 | [],xs,e,_=>by cases xs<;>rfl
 | o::r,[],e,_=>rfl
 | o::r,x::xs,e,h=>by
  rw [Ii,CJ fun j o' ho=>h (j+1) o' (by simpa using ho)]
  have:=h 0 o rfl
  cases hd:o.dst with
  | none=>rfl
  | some d =>
   rw [hd] at this
   show get ((d,x)::e) s=_
   rw [Bz,if_neg (fun e=>this (by rw [e]))]
theorem Df {s:Nat}:∀ {l:List VO} {xs:List TV} {e:Env} {i:Nat} {o:VO} {x:TV},l[i]?=some o→xs[i]?=some x→o.dst=some s→(∀ (j:Nat) o',l[j]?=some o'→j≠i→o'.dst≠some s)→get (Ii e l xs) s=x
 | [],xs,e,i,o,x,h,_,_,_=>by simp at h
 | o'::r,[],e,i,o,x,_,h,_,_=>by simp at h
 | o'::r,y::xs,e,i,o,x,ho,hx,hd,hu=>by
  rw [Ii]
  cases i with
  | zero =>
   simp at ho hx; subst ho; subst hx
   rw [CJ fun j o2 ho2=>hu (j+1) o2 (by simpa using ho2) (by omega),hd]
   show get ((s,y)::e) s=y
   rw [Bz,if_pos rfl]
  | succ i=>exact Df (by simpa using ho) (by simpa using hx) hd fun j o2 ho2 hj=>hu (j+1) o2 (by simpa using ho2) (by omega)
section sound
variable {P:Program} {N:Nat} {D:List Deferred} {ro:Option Nat} {nn:Nat} {ops:List Oper} {l:List VO} {nA:Nat} {Ss:SsT} {bz:Bool}
theorem WJ {all:List Oper}:∀ {os:List Oper} {l:List VO},trL bz P N all os=some l→l.length=os.length∧∀ (i:Nat) o,os[i]?=some o→∃ v,l[i]?=some v∧trV bz P o.op=some v.op∧trG all o.guard=some v.g∧v.dst=o.dst∧o.dst.all (· < N)=true
 | [],l,h=>by simp only [trL,Option.some.injEq] at h; subst h; simp
 | o::os,l,h=>by
  rw [trL] at h
  split at h
  ·rename_i v g r hv hg hr
   split at h
   ·rename_i hd
    cases h
    obtain ⟨h1,h2⟩:=WJ hr
    refine ⟨by simp [h1],fun i o' ho => ?_⟩
    cases i with
    | zero=>simp at ho; subst ho; exact ⟨_,rfl,hv,hg,rfl,hd⟩
    | succ i=>simpa using h2 i o' (by simpa using ho)
   ·cases h
  ·cases h
structure Chk (Ss:SsT) (ops:List Oper) (l:List VO) (nA:Nat):Prop where
 le:nA≤ops.length
 lt:∀ i o,ops[i]?=some o→∀ p∈PW o,p<i
 wait:∀ j,j<ops.length→nA≤j→Gn (cls ops) l nA j≠true→∀ k,k<j→((cls ops).getD j 0).testBit k=true∨KG (cls ops) l nA k=true∨(Ll Ss (cls ops) l nA k=true∧∀ v u d,l[j]?=some v→l[k]?=some u→u.dst=some d→¬ d∈v.rd)
 read:∀ i j v u d,i<nA→j<nA→l[i]?=some v→l[j]?=some u→u.dst=some d→d∈v.rd→((cls ops).getD i 0).testBit j=true∨((cls ops).getD j 0).testBit i=true
 once:∀ i j v u d,i<nA→j<nA→l[i]?=some v→l[j]?=some u→u.dst=some d→v.dst=some d→i=j
theorem Chk.of (h:CQ Ss ops l nA=true):Chk Ss ops l nA:=by
 unfold CQ Rq at h
 simp only [Bool.and_eq_true,decide_eq_true_eq,List.all_eq_true,List.mem_range,Bool.or_eq_true,Bool.true_and] at h
 obtain ⟨⟨⟨h1,h2⟩,h3⟩,h4⟩:=h
 refine ⟨h1,fun i o ho p hp => ?_,fun j hj hn he k hk => ?_,fun i j v u d hi hj hv hu hd hr => ?_,fun i j v u d hi hj hv hu hd hv2 => ?_⟩
 ·have hi:i<ops.length:=(List.getElem?_eq_some_iff.1 ho).1
  have:=h2 i hi
  rw [ho] at this
  simp only [List.all_eq_true,decide_eq_true_eq] at this
  exact this p hp
 ·rcases h3 j hj with (h | h) | h
  ·omega
  ·exact absurd h he
  ·rcases h k hk with (h | h) | ⟨h,h'⟩
   ·exact .inl h
   ·exact .inr (.inl h)
   ·refine .inr <| .inr ⟨h,fun v u d hv hu hd => ?_⟩
    rw [hv,hu] at h'
    simp only [hd] at h'
    simpa using h'
 ·have:=h4 i hi
  rw [hv] at this
  simp only [List.all_eq_true,List.mem_range] at this
  have:=this j hj
  rw [hu] at this
  simp only [hd,Bool.and_eq_true] at this
  have hc:v.rd.contains d=true:=by simpa using hr
  rw [if_pos hc] at this
  simpa using this.1
 ·have:=h4 i hi
  rw [hv] at this
  simp only [List.all_eq_true,List.mem_range] at this
  have:=this j hj
  rw [hu] at this
  simp only [hd,Bool.and_eq_true,Bool.or_eq_true,beq_iff_eq,bne_iff_ne] at this
  rcases this.2 with h | h
  ·exact h
  ·exact absurd hv2 h
theorem FW {ops:List Oper} {L:Array Bool} {i:Nat} (h:i∈Region.ready .any ops.toArray L):∃ o,ops[i]?=some o∧L.getD i true=false∧∀ p∈PW o,L.getD p false=true:=by
 unfold Region.ready at h
 simp only [List.mem_filter,List.mem_range,Bool.and_eq_true,Bool.not_eq_true'] at h
 obtain ⟨h1,h2,h3⟩:=h
 have hi:i<ops.length:=by simpa using h1
 refine ⟨ops[i],by simp [hi],h2,fun p hp => ?_⟩
 simp only [List.getElem?_toArray,List.getElem?_eq_getElem hi,Option.map_some,Option.getD_some,Array.all_eq_true] at h3
 unfold PW at hp
 obtain ⟨e,he,rfl⟩:=List.mem_map.1 hp
 obtain ⟨he1,he2⟩:=List.mem_filter.1 he
 obtain ⟨k,hk,hke⟩:=List.mem_iff_getElem.1 he1
 have:=h3 k (by simpa using hk)
 have hke':ops[i].after[k]'(by simpa using hk)=e:=by simpa using hke
 rw [hke',he2] at this
 simpa using this
theorem W9 {ops:List Oper} {L:Array Bool} {i:Nat} {o:Oper} (ho:ops[i]?=some o) (h2:L.getD i true=false) (h3:∀ p∈PW o,L.getD p false=true):i∈Region.ready .any ops.toArray L:=by
 have hi:i<ops.length:=(List.getElem?_eq_some_iff.1 ho).1
 unfold Region.ready
 simp only [List.mem_filter,List.mem_range,Bool.and_eq_true,Bool.not_eq_true']
 refine ⟨by simpa using hi,h2,?_⟩
 simp only [List.getElem?_toArray,ho,Option.map_some,Option.getD_some,Array.all_eq_true]
 intro k hk
 rw [Bool.or_eq_true]
 by_cases hb:Region.binds .any o.after[k]=true
 ·right
  refine h3 _ ?_
  unfold PW
  exact List.mem_map.2 ⟨o.after[k],List.mem_filter.2 ⟨by simp,hb⟩,rfl⟩
 ·left; simpa using hb
structure ZC (ops:List Oper) (L:Array Bool):Prop where
 size:L.size=ops.length
 closed:ZR ops fun i=>L.getD i false=true
theorem ZC.set {L:Array Bool} (h:ZC ops L) {i:Nat} (hr:i∈Region.ready .any ops.toArray L):ZC ops (L.setIfInBounds i true):=by
 obtain ⟨o,ho,h1,h2⟩:=FW hr
 have hi:i<L.size:=by rw [h.size]; exact (List.getElem?_eq_some_iff.1 ho).1
 have hmono:∀ p,L.getD p false=true→(L.setIfInBounds i true).getD p false=true:=by
  intro p hp
  by_cases hpi:i=p
  ·subst hpi; simp [hi]
  ·rw [Array.getD_eq_getD_getElem?,Array.getElem?_setIfInBounds_ne hpi,←Array.getD_eq_getD_getElem?]; exact hp
 refine ⟨by simp [h.size],fun j o' ho' hj p hp => ?_⟩
 by_cases hji:i=j
 ·subst hji
  rw [ho] at ho'; cases ho'
  exact hmono p (h2 p hp)
 ·refine hmono p (h.closed j o' ho' ?_ p hp)
  have hj':(L.setIfInBounds i true).getD j false=true:=hj
  rw [Array.getD_eq_getD_getElem?,Array.getElem?_setIfInBounds_ne hji,←Array.getD_eq_getD_getElem?] at hj'
  exact hj'
theorem Hq (hc:Chk Ss ops l nA) {L:Array Bool} (hd:ZC ops L) {i:Nat} (hr:i∈Region.ready .any ops.toArray L) {k:Nat} (hk:((cls ops).getD i 0).testBit k=true):L.getD k false=true:=by
 obtain ⟨o,ho,_,h2⟩:=FW hr
 have hi:i<(cls ops).length:=by rw [PG]; exact (List.getElem?_eq_some_iff.1 ho).1
 have hm:(cls ops)[i]?=some ((cls ops).getD i 0):=by
  rw [List.getD_eq_getElem?_getD,List.getElem?_eq_getElem hi]; rfl
 exact ZE hm ho hd.closed h2 hk
theorem NR (hc:Chk Ss ops l nA) {i k:Nat} (hi:i<ops.length) (hk:((cls ops).getD i 0).testBit k=true):k<i:=by
 have hi':i<(cls ops).length:=by rw [PG]; exact hi
 have hm:(cls ops)[i]?=some ((cls ops).getD i 0):=by
  rw [List.getD_eq_getElem?_getD,List.getElem?_eq_getElem hi']; rfl
 exact ZE (S:=fun k=>k<i) hm (List.getElem?_eq_getElem hi) (fun j o ho hj p hp=>Nat.lt_trans (hc.lt j o ho p hp) hj) (hc.lt i _ (List.getElem?_eq_getElem hi)) hk
def RH (ops:List Oper) (L:Array Bool):Nat:=((List.range ops.length).filter fun i => !L.getD i false).length
theorem VD {L:Array Bool} (hd:ZC ops L) {i:Nat} (hr:i∈Region.ready .any ops.toArray L):RH ops (L.setIfInBounds i true)+1=RH ops L:=by
 obtain ⟨o,ho,h1,h2⟩:=FW hr
 have hi:i<ops.length:=(List.getElem?_eq_some_iff.1 ho).1
 have hiL:i<L.size:=by rw [hd.size]; exact hi
 have h1':L.getD i false=false:=by
  rw [Array.getD_eq_getD_getElem?,Array.getElem?_eq_getElem hiL] at h1 ⊢; simpa using h1
 have key:∀ (r:List Nat),r.Nodup→i∈r→(r.filter fun j => !(L.setIfInBounds i true).getD j false).length+1=(r.filter fun j => !L.getD j false).length:=by
  intro r
  induction r with
  | nil=>intro _ h; simp at h
  | cons j r ih =>
   intro hn hm
   rw [List.nodup_cons] at hn
   by_cases hji:i=j
   ·subst hji
    have e1:(L.setIfInBounds i true).getD i false=true:=by simp [hiL]
    have e2:r.filter (fun j => !(L.setIfInBounds i true).getD j false)=r.filter fun j => !L.getD j false:=by
     apply List.filter_congr
     intro x hx
     have:i≠x:=fun e=>hn.1 (e▸hx)
     rw [Array.getD_eq_getD_getElem?,Array.getElem?_setIfInBounds_ne this,←Array.getD_eq_getD_getElem?]
    rw [List.filter_cons,List.filter_cons,e1,e2,h1']; simp
   ·have e1:(L.setIfInBounds i true).getD j false=L.getD j false:=by
     rw [Array.getD_eq_getD_getElem?,Array.getElem?_setIfInBounds_ne hji,←Array.getD_eq_getD_getElem?]
    have:=ih hn.2 ((List.mem_cons.1 hm).resolve_left hji)
    rw [List.filter_cons,List.filter_cons,e1]
    split
    ·rw [List.length_cons,List.length_cons]; omega
    ·exact this
 exact key _ List.nodup_range (by simpa using hi)
theorem UI (hc:Chk Ss ops l nA) {L:Array Bool} (hd:ZC ops L) (h0:Region.ready .any ops.toArray L=[]):∀ i,i<ops.length→L.getD i false=true:=by
 intro i
 induction i using Nat.strongRecOn with
 | _ i ih =>
  intro hi
  by_cases h:L.getD i false=true
  ·exact h
  ·exfalso
   have hiL:i<L.size:=by rw [hd.size]; exact hi
   have hr:=W9 (ops:=ops) (L:=L) (List.getElem?_eq_getElem hi) (by
    rw [Array.getD_eq_getD_getElem?,Array.getElem?_eq_getElem hiL] at h ⊢; simpa using h) fun p hp=>ih p (hc.lt i _ (List.getElem?_eq_getElem hi) p hp) (Nat.lt_trans (hc.lt i _ (List.getElem?_eq_getElem hi) p hp) hi)
   rw [h0] at hr; simp at hr
theorem Ux {all:List Oper} {o:Oper} {v:VO} (hv:trV bz P o.op=some v.op) (hg:trG all o.guard=some v.g) {β:Nat→Nat→Option (Nat×Nat)} {H:List Ob} {F:Nat→Prop} {w:World} {a:Act} {e:Env} (hs:Sim ⟨β,H,F⟩ w) (he:AC ⟨β,H,F⟩ w e a) {x:TV} (h:Okq P v e H x)
  {KK:Act→World→Prop} {Q:Exit→Act→World→Prop} {i:Nat} (hi:all[i]?=some o)
  (hk:∀ β' F' w' u,Sim ⟨β',H,F'⟩ w'→Ar ⟨β,H,F⟩ w ⟨β',H,F'⟩ w'→Rep ⟨β',H,F'⟩ w' x u→KK (a.put o.dst u) w'):wpOpIn (fz ro) nn P all.toArray Q i KK a w:=by
 have go:Qt P v.op e H x→o.wpIn (fz ro) nn P a w KK Q:=fun hq=>by
  have hvop:vop P v.op e H fun y H'=>y=x∧H'=H:=by
   obtain ⟨dst,op,g⟩:=v
   cases op with
   | p po =>
    show pop po e H fun y=>y=x∧H=H
    exact hq _ ⟨rfl,rfl⟩
   | s so =>
    cases so with
    | call f args=>exact hq
    | callv f args=>exact hq
    | _=>exact hq.elim
  refine U8 hs he hv hvop o KK Q rfl (Z5 hv) ?_ ro nn
  rintro y H' β' F' w' u ⟨rfl,rfl⟩ k1 k2 k3
  exact hk β' F' w' u k1 k2 k3
 unfold wpOpIn
 simp only [List.getElem?_toArray,hi]
 unfold Okq at h
 cases hog:o.guard with
 | none =>
  rw [hog] at hg
  simp only [trG,Option.some.injEq] at hg
  rw [←hg] at h
  have:Region.wanted o (yielded all.toArray a.tmps)=true:=by simp [Region.wanted,hog]
  rw [if_pos this]
  exact (go h)
 | some jb =>
  obtain ⟨j,b⟩:=jb
  rw [hog] at hg
  simp only [trG] at hg
  split at hg
  ·rename_i s hj
   simp only [Option.some.injEq] at hg
   rw [←hg] at h
   simp only at h
   split at h
   ·rename_i t hgs
    have hy:yielded all.toArray a.tmps j=isB t:=by
     have h9:=he.1 s
     rw [hgs,Rep.val] at h9
     rw [SV (ops:=all.toArray) (a:=a) (by simpa using hj),h9]
    by_cases htb:isB t=some b
    ·have:Region.wanted o (yielded all.toArray a.tmps)=true:=by simp [Region.wanted,hog,hy,htb]
     rw [if_pos this]
     rw [if_pos htb] at h
     exact (go h)
    ·have:¬ (Region.wanted o (yielded all.toArray a.tmps)=true):=by simp [Region.wanted,hog,hy,htb]
     rw [if_neg this]
     rw [if_neg htb] at h
     subst h
     exact ⟨fun _ _=>trivial,hk β F w undef hs (Ar.refl _ _) Rep.of_val⟩
   ·exact h.elim
  ·cases hg
theorem CW {a:Act} {dst:Option Nat} {u:Value} {s:Nat} (h:dst≠some s):(a.put dst u).tmps.getD s undef=a.tmps.getD s undef:=by
 cases dst with
 | none=>rfl
 | some d =>
  have:d≠s:=fun e=>h (by rw [e])
  show (a.tmps.setIfInBounds d u).getD s undef=_
  simp [Array.getElem?_setIfInBounds_ne this]
theorem SB {a:Act} {d:Nat} {u:Value} (h:d<a.tmps.size):(a.put (some d) u).tmps.getD d undef=u:=by
 show (a.tmps.setIfInBounds d u).getD d undef=u
 simp [h]
theorem PN {a:Act} {dst:Option Nat} {u:Value}:(a.put dst u).tmps.size=a.tmps.size:=by cases dst<;>simp [Act.put]
theorem Js {a:Act} {dst:Option Nat} {u:Value}:(a.put dst u).defers=a.defers:=by cases dst<;>rfl
theorem AX {e:Env} {dst:Option Nat} {x:TV} {s:Nat} (h:dst≠some s):get (Um e dst x) s=get e s:=by
 cases dst with
 | none=>rfl
 | some d =>
  show get ((d,x)::e) s=_
  rw [Bz,if_neg (fun e=>h (by rw [e]))]
theorem Jo {e:Env} {d:Nat} {x:TV}:get (Um e (some d) x) d=x:=by
 show get ((d,x)::e) d=x
 rw [Bz,if_pos rfl]
theorem Sim.extra {c:Ctx} {w:World} (hs:Sim c w) (o:Obj):Sim c (w.alloc o)∧Ar c w c (w.alloc o):=by
 have hm:Hm c w c (w.alloc o):=⟨fun b hb=>⟨hb,CU w o (hs.lt b hb)⟩,fun _ _ h=>⟨h,rfl⟩,fun b hb=>Bh (CU w o hb)⟩
 refine ⟨⟨fun id ob ho=>Xk.mono hm (Ctx.has_of ho) (fun hl b off hb=>CU w o (hs.own_lt (Ctx.own_of ho hl hb))) (hs.ob id ob ho),hs.inj,hs.apart,fun b hb => ?_,hs.glob.keep hm.stay⟩,⟨rfl,rfl,rfl,by simp,hm.has,hm.shape,fun b hb _=>CU w o hb,fun _ h=>h,fun _ _ h => .inl h,fun _ _ h=>h⟩⟩
 have h1:=hs.lt b hb
 have h2:w.heap.size≤(w.alloc o).heap.size:=by simp
 omega
def MG (z:TV) (vs:List Value):Prop:=∀ (c:Ctx) (w:World),Ag c w z vs
theorem Sim.adopt {β:Nat→Nat→Option (Nat×Nat)} {H:List Ob} {F:Nat→Prop} {w:World} (hs:Sim ⟨β,H,F⟩ w) {z:TV} {vs:List Value} {b:Nat} {t:TypeId} (hz:MG z vs) (hb:w.heap[b]?=some (.cells vs.toArray t (0,0))) (h1:¬ Ctx.own ⟨β,H,F⟩ b) (h2:¬ F b) :
  Sim ⟨upd β H.length 0 (some (b,0)),H++[.obj 0 z],F⟩ w∧Hm ⟨β,H,F⟩ w ⟨upd β H.length 0 (some (b,0)),H++[.obj 0 z],F⟩ w∧∀ b',Ctx.own ⟨upd β H.length 0 (some (b,0)),H++[.obj 0 z],F⟩ b'→Ctx.own ⟨β,H,F⟩ b'∨b'=b:=by
 have hm:=Wv hs (.obj 0 z) (some (b,0)) w (fun _ _=>rfl)
 have hget:∀ id y,(H++[Ob.obj 0 z])[id]?=some y→(id<H.length∧H[id]?=some y)∨(id=H.length∧y = .obj 0 z):=by
  intro id y h
  rcases Nat.lt_trichotomy id H.length with h1 | h1 | h1
  ·exact .inl ⟨h1,by rwa [List.getElem?_append_left h1] at h⟩
  ·subst h1; simp at h; exact .inr ⟨rfl,h.symm⟩
  ·rw [List.getElem?_eq_none (by simp; omega)] at h; cases h
 have hβ:∀ id y,H[id]?=some y→upd β H.length 0 (some (b,0)) id y.ver=β id y.ver:=fun id y h=>(hm.has id y.ver ⟨y,h,Nat.le_refl _⟩).2
 have hown:∀ b',Ctx.own ⟨upd β H.length 0 (some (b,0)),H++[.obj 0 z],F⟩ b'→Ctx.own ⟨β,H,F⟩ b'∨b'=b:=by
  rintro b' ⟨id,y,off,h1,h2,h3⟩
  rcases hget id y h1 with ⟨h4,h5⟩ | ⟨rfl,rfl⟩
  ·exact .inl ⟨id,y,off,h5,h2,by show β id y.ver=_; rw [←hβ id y h5]; exact h3⟩
  ·right
   have h3':upd β H.length 0 (some (b,0)) H.length 0=some (b',off):=h3
   rw [AA] at h3'; cases h3'; rfl
 refine ⟨⟨fun id y hy => ?_,fun i j x y b' o1 o2 hx hy hlx hly e1 e2 => ?_,fun b' hb' hF => ?_,hs.lt,hs.glob⟩,hm,hown⟩
 ·rcases hget id y hy with ⟨h4,h5⟩ | ⟨rfl,rfl⟩
  ·exact Xk.mono hm ⟨y,h5,Nat.le_refl _⟩ (fun _ _ _ _=>rfl) (hs.ob id y h5)
  ·exact .inr ⟨b,0,[],vs,[],t,(0,0),AA,by simpa using hb,XL _,rfl,hz _ _⟩
 ·have e1':upd β H.length 0 (some (b,0)) i x.ver=some (b',o1):=e1
  have e2':upd β H.length 0 (some (b,0)) j y.ver=some (b',o2):=e2
  rcases hget i x hx with ⟨h4,h5⟩ | ⟨rfl,rfl⟩<;>rcases hget j y hy with ⟨k4,k5⟩ | ⟨rfl,rfl⟩
  ·rw [hβ i x h5] at e1'; rw [hβ j y k5] at e2'
   exact hs.inj i j x y b' o1 o2 h5 k5 hlx hly e1' e2'
  ·exfalso
   have e3:upd β H.length 0 (some (b,0)) H.length 0=some (b',o2):=e2'
   rw [AA] at e3; cases e3
   rw [hβ i x h5] at e1'
   exact h1 ⟨i,x,o1,h5,hlx,e1'⟩
  ·exfalso
   have e3:upd β H.length 0 (some (b,0)) H.length 0=some (b',o1):=e1'
   rw [AA] at e3; cases e3
   rw [hβ j y k5] at e2'
   exact h1 ⟨j,y,o2,k5,hly,e2'⟩
  ·rfl
 ·rcases hown b' hb' with h | h
  ·exact hs.apart b' h hF
  ·subst h; exact h2 hF
theorem Ar.adopt {c0:Ctx} {w0 w:World} {β:Nat→Nat→Option (Nat×Nat)} {H:List Ob} {F:Nat→Prop} (hl:Ar c0 w0 ⟨β,H,F⟩ w) {c':Ctx} {b:Nat} (hb:w0.heap.size≤b) (hF:c'.F=F) (hm:Hm ⟨β,H,F⟩ w c' w) (ho:∀ b',c'.own b'→Ctx.own ⟨β,H,F⟩ b'∨b'=b):Ar c0 w0 c' w where
 os:=hl.os
 tape:=hl.tape
 output:=hl.output
 size:=hl.size
 has id ver hh:=⟨(hm.has id ver (hl.has id ver hh).1).1,(hm.has id ver (hl.has id ver hh).1).2.trans (hl.has id ver hh).2⟩
 shape:=hl.shape
 same:=hl.same
 keepF b' hb':=by rw [hF]; exact hl.keepF b' hb'
 oldF b' hlt h:=hl.oldF b' hlt (by rw [hF] at h; exact h)
 oldOwn b' hlt h:=hl.oldOwn b' hlt ((ho b' h).resolve_right fun e=>by omega)
def AbZ (ops:List Oper) (l:List VO) (nA m:Nat) (L:Array Bool) (w0:World) (c:Ctx) (w:World) (a:Act):Prop :=
 ∃ bl:Nat→Nat,(∀ i d so z q,m≤i→Ea (cls ops) l nA i=true→L.getD i false=true→l[i]?=some ⟨some d,.s so,none⟩→Vq so=some (z,q) →
   a.tmps.getD d undef=Abe q (bl i)∧(∃ vs t,w.heap[bl i]?=some (.cells vs.toArray t (0,0))∧MG z vs)∧w0.heap.size≤bl i∧¬ c.own (bl i)∧¬ c.F (bl i)) ∧
  ∀ i j,m≤i→m≤j→Ea (cls ops) l nA i=true→Ea (cls ops) l nA j=true→L.getD i false=true→L.getD j false=true→bl i=bl j→i=j
theorem AbZ.empty {ops:List Oper} {l:List VO} {nA m:Nat} {L:Array Bool} {w0:World} {c:Ctx} {w:World} {a:Act} (h:∀ i,m≤i→Ea (cls ops) l nA i=true→L.getD i false≠true):AbZ ops l nA m L w0 c w a :=
 ⟨fun _=>0,fun i d so z q h1 h2 h3=>absurd h3 (h i h1 h2),fun i j h1 _ h2 _ h3=>absurd h3 (h i h1 h2)⟩
theorem AbZ.step {ops:List Oper} {l:List VO} {nA m m' i0:Nat} {L:Array Bool} {w0 w w':World} {c c':Ctx} {a:Act} {dst:Option Nat} {u:Value} (h:AbZ ops l nA m L w0 c w a) (hl:Ar c w c' w') (hmm:m≤m')
  (hne:∀ i d so,m'≤i→Ea (cls ops) l nA i=true→l[i]?=some ⟨some d,.s so,none⟩→(L.setIfInBounds i0 true).getD i false=true→dst≠some d) (hi0:m'≤i0→Ea (cls ops) l nA i0≠true) :
  AbZ ops l nA m' (L.setIfInBounds i0 true) w0 c' w' (a.put dst u):=by
 obtain ⟨bl,h1,h2⟩:=h
 have hL:∀ i,m'≤i→Ea (cls ops) l nA i=true→(L.setIfInBounds i0 true).getD i false=true→L.getD i false=true:=by
  intro i hi he hh
  by_cases e:i0=i
  ·subst e; exact absurd he (hi0 hi)
  ·rw [Array.getD_eq_getD_getElem?,Array.getElem?_setIfInBounds_ne e,←Array.getD_eq_getD_getElem?] at hh; exact hh
 refine ⟨bl,fun i d so z q hi he hLi hz hq => ?_,fun i j hi hj he1 he2 hLi hLj e=>h2 i j (by omega) (by omega) he1 he2 (hL i hi he1 hLi) (hL j hj he2 hLj) e⟩
 obtain ⟨k1,⟨vs,t,k2,k3⟩,k4,k5,k6⟩:=h1 i d so z q (by omega) he (hL i hi he hLi) hz hq
 have hlt:bl i<w.heap.size:=(Array.getElem?_eq_some_iff.1 k2).1
 refine ⟨by rw [CW (hne i d so hi he hz hLi)]; exact k1,⟨vs,t,by rw [hl.same _ hlt k5]; exact k2,k3⟩,k4,fun ho=>k5 (hl.oldOwn _ hlt ho),fun hF=>(hl.oldF _ hlt hF).elim k6 k5⟩
theorem AbZ.more {ops:List Oper} {l:List VO} {nA m i0:Nat} {L:Array Bool} {w0 w:World} {c:Ctx} {a:Act} {d0:Nat} {so0:SOp} {z0:TV} {q0:Option (Nat×Nat)} {vs:List Value} {t:TypeId} (hsm:Sim c w) (h:AbZ ops l nA m L w0 c w a) (hsz:w0.heap.size≤w.heap.size) (hz0:l[i0]?=some ⟨some d0,.s so0,none⟩) (hq0:Vq so0=some (z0,q0)) (he0:Ea (cls ops) l nA i0=true) (hr:MG z0 vs) (hd0:d0<a.tmps.size) :
  AbZ ops l nA m (L.setIfInBounds i0 true) w0 c (w.alloc (.cells vs.toArray t (0,0))) (a.put (some d0) (Abe q0 w.heap.size)):=by
 obtain ⟨bl,h1,h2⟩:=h
 have hL:∀ i,i≠i0→(L.setIfInBounds i0 true).getD i false=true→L.getD i false=true:=by
  intro i e hh
  rw [Array.getD_eq_getD_getElem?,Array.getElem?_setIfInBounds_ne (Ne.symm e),←Array.getD_eq_getD_getElem?] at hh; exact hh
 have hlt:∀ i,m≤i→Ea (cls ops) l nA i=true→L.getD i false=true→bl i<w.heap.size:=by
  intro i hi he hLi
  obtain ⟨d,so,z,q,hz,hq,_⟩:=BD he
  obtain ⟨_,⟨vs,t,k2,_⟩,_⟩:=h1 i d so z q hi he hLi hz hq
  exact (Array.getElem?_eq_some_iff.1 k2).1
 refine ⟨fun k=>if k=i0 then w.heap.size else bl k,fun i d so z q hi he hLi hz hq => ?_,fun i j hi hj he1 he2 hLi hLj e => ?_⟩
 ·by_cases e:i=i0
  ·subst e
   rw [hz0] at hz; cases hz
   rw [hq0] at hq; cases hq
   simp only [if_true]
   exact ⟨SB hd0,⟨vs,t,AU w _,hr⟩,hsz,fun ho=>Nat.lt_irrefl _ (hsm.own_lt ho),fun hF=>Nat.lt_irrefl _ (hsm.lt _ hF)⟩
  ·simp only [if_neg e]
   obtain ⟨k1,⟨vs',t',k2,k3⟩,k4,k5,k6⟩:=h1 i d so z q hi he (hL i e hLi) hz hq
   obtain ⟨d',so',z',q',hz',_,_,_,hn⟩:=BD he
   rw [hz] at hz'; cases hz'
   refine ⟨?_,⟨vs',t',by rw [CU w _ (hlt i hi he (hL i e hLi))]; exact k2,k3⟩,k4,k5,k6⟩
   rw [CW (fun h9=>(hn i0 _ hz0 (Ne.symm e)).1 h9)]; exact k1
 ·by_cases e1:i=i0<;>by_cases e2:j=i0
  ·rw [e1,e2]
  ·simp only [if_pos e1,if_neg e2] at e
   have:=hlt j hj he2 (hL j e2 hLj); omega
  ·simp only [if_neg e1,if_pos e2] at e
   have:=hlt i hi he1 (hL i e1 hLi); omega
  ·simp only [if_neg e1,if_neg e2] at e
   exact h2 i j hi hj he1 he2 (hL i e1 hLi) (hL j e2 hLj) e
theorem AbC {op:Op} {z:TV} (h:trS P op=some (.alloc z)):∃ t,op = .alloc t:=by
 cases op
 case alloc t=>exact ⟨t,rfl⟩
 case next x b=>cases b<;>simp [trS] at h
 all_goals (simp only [trS] at h; (repeat' split at h)<;>first | (simp at h; done) | skip)
theorem Aig {op:Op} {k b:Nat} {z:TV} {x y:Opd} (h:trS P op=some (.mks k b z x y)):∃ t l c,op = .makeSlice t l c∧x=trO l∧y=trO c:=by
 cases op
 case makeSlice t l c =>
  refine ⟨t,l,c,rfl,?_⟩
  simp only [trS] at h
  (repeat' split at h)<;>first | (cases h; done) | skip
  obtain ⟨x,h4,e⟩:=Option.map_eq_some_iff.1 h
  simp only [SOp.mks.injEq] at e
  exact ⟨e.2.2.2.1.symm,e.2.2.2.2.symm⟩
 case next x b=>cases b<;>simp [trS] at h
 all_goals (simp only [trS] at h; (repeat' split at h)<;>first | (simp at h; done) | skip)
theorem XG {x:Operand} {k:IntKind} {n:Int} (h:trO x = .c (.int k n)) (a:Act):a.eval x = .int k n:=by
 cases x with
 | const v=>simp only [trO,Opd.c.injEq] at h; rw [h]; rfl
 | _=>simp [trO] at h
theorem VA {z:Array Value} {x:TV} (hz:∀ (c:Ctx) (w:World),Ag c w x z.toList) (h0:z.size≠0) (n:Nat):MG (.arr n z.size (List.replicate n x)) (madeCells z (n*z.size)).toList:=by
 intro c w
 rw [Ag]
 refine ⟨by simp,fun y hy => ?_,KJ (hz c.bare w) h0 n⟩
 rw [List.eq_of_mem_replicate hy,←(hz c w).length]; simp
theorem Ahi {o:Oper} {so:SOp} {z:TV} {q:Option (Nat×Nat)} (ht:trV bz P o.op=some (.s so)) (hq:Vq so=some (z,q)) (hf:Aaj so=true) {a:Act} {w:World} {KK:Act→World→Prop} {Q:Exit→Act→World→Prop}
  (hk:∀ vs t',MG z vs→KK (a.put o.dst (Abe q w.heap.size)) (w.alloc (.cells vs.toArray t' (0,0)))):OW P o a w KK Q:=by
 have hts:=Aja ht
 cases so with
 | alloc z0 =>
  simp only [Vq,Option.some.injEq,Prod.mk.injEq] at hq
  obtain ⟨rfl,rfl⟩:=hq
  obtain ⟨t,ho⟩:=AbC hts
  refine OW.of_wp (by rw [ho]; intro c h; cases h) ?_
  rw [ho] at hts
  simp only [trS] at hts
  split at hts
  ·rename_i i h1
   split at hts
   ·rename_i z1 h2
    obtain ⟨x,h3,e⟩:=Option.map_eq_some_iff.1 hts
    split at e
    ·cases e
    cases e
    have hr:MG z0 z1.cells.toList:=fun c w=>(II h3).1
    have:=hk z1.cells.toList t hr
    rw [Array.toArray_toList] at this
    have hrun:(execOp a.eval o).run P w = .ok (.value (.pointer (some ⟨w.heap.size,0,none⟩))) (w.alloc (.cells z1.cells t (0,0))):=by
     simp [execOp,ho,Instr.alloc,zeroValue,typeInfo,h1,h2,newVar,newRow,newObj,Sem.run]
    unfold Oper.wp
    rw [hrun]
    exact this
   ·cases hts
  ·cases hts
 | mks k bytes z0 x y =>
  unfold Vq at hq
  split at hq
  ·rename_i so' _ he; cases he
  ·rename_i k' b' z' kl l kc c he
   cases he
   split at hq
   ·rename_i hl
    simp only [Option.some.injEq,Prod.mk.injEq] at hq
    obtain ⟨rfl,rfl⟩:=hq
    obtain ⟨rfl,hwz⟩:=hl
    obtain ⟨t,lo,co,ho,e1,e2⟩:=Aig hts
    refine OW.of_wp (by rw [ho]; intro c h; cases h) ?_
    rw [ho] at hts
    simp only [trS] at hts
    split at hts
    ·rename_i k2 et h0
     split at hts
     ·rename_i i h1
      split at hts
      ·rename_i z1 h2
       split at hts
       ·rename_i h3
        obtain ⟨x,h4,e⟩:=Option.map_eq_some_iff.1 hts
        simp only [SOp.mks.injEq] at e
        obtain ⟨e5,e6,e7,_,_⟩:=e
        subst e5; subst e6; subst e7
        obtain ⟨g1,g2⟩:=AQ h0
        have hik:i.size=k2:=by unfold Oe at g2; rw [h1] at g2; simpa using g2
        simp only [Aaj,decide_eq_true_eq] at hf
        obtain ⟨b1,b3,b4⟩:=hf
        have hr:=run_make (P:=P) w t et i z1 g1 h1 h2 kl kc l l b1 (Int.le_refl _) b3 b4
        have hA:=VA (x:=x) (fun c w=>(II h4).1) (by rw [h3.1]; exact h3.2) l.toNat
        rw [h3.1] at hA
        have:=hk _ et hA
        unfold Oper.wp
        simp only [execOp,ho,XG e1.symm a,XG e2.symm a,Sem.run_bind,hr]
        rw [Array.toArray_toList] at this
        simp [Abe,hik,h3.1] at this ⊢
        exact this
       ·cases hts
      ·cases hts
     ·cases hts
    ·cases hts
   ·cases hq
  ·cases hq
 | _=>simp [Vq] at hq
def Pd (Ss:SsT) (ops:List Oper) (l:List VO) (nA m i:Nat):Prop:=Ll Ss (cls ops) l nA i=true∨(KG (cls ops) l nA i=true∧i<m)
section
variable {Ss:SsT} {ops:List Oper} {l:List VO} {nA m m' i:Nat}
theorem Pd.lt (h:Pd Ss ops l nA m i) (hm:nA≤m):i<m:=by
 rcases h with h | h
 ·obtain ⟨_,_,_,_,h1,_⟩:=Dy h; omega
 ·exact h.2
theorem Pd.mono (h:Pd Ss ops l nA m i) (hm:m≤m'):Pd Ss ops l nA m' i:=h.imp id fun h=>⟨h.1,by omega⟩
theorem Pd.prev (h:Pd Ss ops l nA (m+1) i) (hm:i≠m):Pd Ss ops l nA m i:=h.imp id fun h=>⟨h.1,by omega⟩
theorem Pd.first (h:Pd Ss ops l nA nA i):Ll Ss (cls ops) l nA i=true:=by
 rcases h with h | h
 ·exact h
 ·obtain ⟨_,_,_,h1,_⟩:=Du h.1; omega
theorem Pd.form (h:Pd Ss ops l nA m i):∃ d o g,l[i]?=some ⟨some d,.p o,g⟩:=by
 rcases h with h | h
 ·obtain ⟨d,o,g,h1,_⟩:=Dy h; exact ⟨d,o,g,h1⟩
 ·obtain ⟨d,o,h1,_⟩:=Du h.1; exact ⟨d,o,none,h1⟩
theorem Pd.spec (h:Pd Ss ops l nA m i) {d:Nat} {o:POp} {g:Option (Nat×Bool)} (hi:l[i]?=some ⟨some d,.p o,g⟩):(∀ (j:Nat) u,nA≤j→l[j]?=some u→noH o=true∨((cls ops).getD j 0).testBit i=true∨VI Ss o u.op=true)∧¬ d∈(VO.mk (some d) (.p o) g).rd ∧
  ∀ (j:Nat) u d',l[j]?=some u→j≠i→u.dst=some d'→d'≠d∧(¬ d'∈(VO.mk (some d) (.p o) g).rd∨j<i∨(nA≤j∧((cls ops).getD j 0).testBit i=true)∨((cls ops).getD i 0).testBit j=true):=by
 rcases h with h | h
 ·obtain ⟨d2,o2,g2,f1,f2,f3,f4,f5⟩:=Dy h
  rw [hi] at f1; cases f1
  exact ⟨f3,f4,fun j u d' hj hne hd=>⟨(f5 j u d' hj hne hd).1,(f5 j u d' hj hne hd).2.imp id (Or.imp id .inl)⟩⟩
 ·obtain ⟨d2,o2,f1,f2,f3,f4,f5,f6⟩:=Du h.1
  rw [hi] at f1; cases f1
  have e:(VO.mk (some d) (.p o) none).rd=o.rd:=by simp [VO.rd]
  rw [e]
  refine ⟨fun _ _ _ _ => .inl f3,f5,fun j u d' hj hne hd=>⟨fun e=>(f6 j u hj hne).1 (by rw [hd,e]),?_⟩⟩
  by_cases hm:d'∈o.rd
  ·exact .inr (.inr (.inr ((f6 j u hj hne).2.2 d' hd hm)))
  ·exact .inl hm
theorem Pd.read (hc:Chk Ss ops l nA) (h:Pd Ss ops l nA m i) {k:Nat} (hk:Pd Ss ops l nA m k) {v vk:VO} (hv:l[i]?=some v) (hvk:l[k]?=some vk) (hne:k≠i) {s:Nat} (hd:vk.dst=some s) (hs:s∈v.rd):((cls ops).getD i 0).testBit k=true∨((cls ops).getD k 0).testBit i=true:=by
 rcases h with h | h
 ·rcases hk with hk | hk
  ·obtain ⟨_,_,_,_,hiA,_⟩:=Dy h
   obtain ⟨_,_,_,_,hkA,_⟩:=Dy hk
   exact hc.read i k v vk s hiA hkA hv hvk hd hs
  ·obtain ⟨d2,o2,f1,f2,f3,f4,f5,f6⟩:=Du hk.1
   rw [hvk] at f1; cases f1; cases hd
   exact .inl ((f6 i v hv (Ne.symm hne)).2.1 hs)
 ·obtain ⟨d2,o2,f1,f2,f3,f4,f5,f6⟩:=Du h.1
  rw [hv] at f1; cases f1
  have e:(VO.mk (some d2) (.p o2) none).rd=o2.rd:=by simp [VO.rd]
  rw [e] at hs
  exact .inl ((f6 k vk hvk hne).2.2 s hd hs)
end
structure InB (Ss:SsT) (ops:List Oper) (l:List VO) (nA N:Nat) (D:List Deferred) (m:Nat) (e:Env) (L:Array Bool) (w0:World) (c:Ctx) (w:World) (a:Act):Prop where
 rep:∀ s,(∀ i v,Pd Ss ops l nA m i→L.getD i false≠true→l[i]?=some v→v.dst≠some s)→(∀ i v,m≤i→Gn (cls ops) l nA i=true→L.getD i false=true→l[i]?=some v→v.dst≠some s)→Rep c w (get e s) (a.tmps.getD s undef)
 pend:∀ i d o g,Pd Ss ops l nA m i→L.getD i false≠true→l[i]?=some ⟨some d,.p o,g⟩→∃ es:Env,(∀ s∈(VO.mk (some d) (.p o) g).rd,get es s=get e s∨get es s = .any)∧∀ K:TV→Prop,K (get e d)→Abh g o es c.H K
 earl:AbZ ops l nA m L w0 c w a
 emov:∀ j d t,m≤j→D7 (cls ops) l nA j=true→L.getD j false=true→l[j]?=some ⟨some d,.p (.mov (.t t)),none⟩→a.tmps.getD d undef=a.tmps.getD t undef
 glob:MB c.F w
 size:a.tmps.size=N
 defers:a.defers=D
theorem QK {L:Array Bool} (hd:ZC ops L) {j i:Nat} (hj:j<ops.length) (hLj:L.getD j false=true) (hb:((cls ops).getD j 0).testBit i=true):L.getD i false=true:=by
 have hjl:j<(cls ops).length:=by rw [PG]; exact hj
 have hmj:(cls ops)[j]?=some ((cls ops).getD j 0):=by
  rw [List.getD_eq_getElem?_getD,List.getElem?_eq_getElem hjl]; rfl
 have hoj:ops[j]?=some ops[j]:=List.getElem?_eq_getElem hj
 exact ZE hmj hoj hd.closed (hd.closed j _ hoj hLj) hb
theorem SY {L:Array Bool} (hll:l.length=ops.length) (hd:ZC ops L) {m i0:Nat} {v:VO} {dst:Option Nat} {u:Value} {a:Act} (hv:l[i0]?=some v) (hvd:v.dst=dst) (h3:¬ L.getD i0 false=true)
  (h:∀ j d t,m≤j→D7 (cls ops) l nA j=true→L.getD j false=true→l[j]?=some ⟨some d,.p (.mov (.t t)),none⟩→a.tmps.getD d undef=a.tmps.getD t undef)
  {j d t:Nat} (hj:m≤j) (he:D7 (cls ops) l nA j=true) (hne:j≠i0) (hLj:(L.setIfInBounds i0 true).getD j false=true) (hz:l[j]?=some ⟨some d,.p (.mov (.t t)),none⟩):(a.put dst u).tmps.getD d undef=(a.put dst u).tmps.getD t undef:=by
 have hLj':L.getD j false=true:=by
  rw [Array.getD_eq_getD_getElem?,Array.getElem?_setIfInBounds_ne (Ne.symm hne),←Array.getD_eq_getD_getElem?] at hLj; exact hLj
 obtain ⟨d',t',_,hz',_,hwr,hn⟩:=CY he
 rw [hz] at hz'; cases hz'
 have hjl:j<ops.length:=by rw [←hll]; exact (List.getElem?_eq_some_iff.1 hz).1
 have h1:dst≠some d:=by rw [←hvd]; exact (hn i0 v hv (Ne.symm hne)).1
 have h2:dst≠some t:=fun e=>h3 (QK hd hjl hLj' (hwr i0 v hv (Ne.symm hne) (by rw [hvd]; exact e)))
 rw [CW h1,CW h2]
 exact h j d t hj he hLj' hz
theorem Pg {L:Array Bool} (hll:l.length=ops.length) (hd:ZC ops L) {m m' i0:Nat} {v:VO} {dst:Option Nat} {u:Value} {a:Act} (hv:l[i0]?=some v) (hvd:v.dst=dst) (h3:¬ L.getD i0 false=true) (hm:m≤m') (hji:∀ j,m'≤j→D7 (cls ops) l nA j=true→j≠i0)
  (h:∀ j d t,m≤j→D7 (cls ops) l nA j=true→L.getD j false=true→l[j]?=some ⟨some d,.p (.mov (.t t)),none⟩→a.tmps.getD d undef=a.tmps.getD t undef) :
  ∀ j d t,m'≤j→D7 (cls ops) l nA j=true→(L.setIfInBounds i0 true).getD j false=true→l[j]?=some ⟨some d,.p (.mov (.t t)),none⟩→(a.put dst u).tmps.getD d undef=(a.put dst u).tmps.getD t undef :=
 fun j d t hj he hLj hz=>SY hll hd hv hvd h3 h (by omega) he (hji j hj he) hLj hz
structure WOk (P:Program) (W:VOp→Env→List Ob→(TV→List Ob→Prop)→Prop) (KP:Value→List Ob→Prop) (Ss:SsT):Prop where
 sound:L8 P W KP
 weak:∀ {v:VO} {e:Env} {H:List Ob} {K:TV→List Ob→Prop},W v.op e H K→W v.op (forget v.rd e) H K
 rel:∀ {u:VOp} {e:Env} {H:List Ob} {K:TV→List Ob→Prop},W u e H K→W u e H (fun x H'=>K x H'∧X6 Ss u e H H')
 mov:∀ {t:Nat} {e:Env} {H:List Ob} {K:TV→List Ob→Prop},W (.p (.mov (.t t))) e H K→K (get e t) H
 pur:∀ {o:POp} {e:Env} {H:List Ob} {K:TV→List Ob→Prop},W (.p o) e H K→pop o e H fun x=>K x H
 made:∀ {so:SOp} {z:TV} {q:Option (Nat×Nat)} {e:Env} {H:List Ob} {K:TV→List Ob→Prop},Vq so=some (z,q)→W (.s so) e H K→K (mkT q H.length) (H++[.obj 0 z])
theorem ZO {P:Program} {v:VO} {e:Env} {H:List Ob} {K:TV→List Ob→Prop} (h:vop P v.op e H K):vop P v.op (forget v.rd e) H K:=by
 rw [←Ack (e:=e) fun s hs=>by rw [DL,if_pos hs]]; exact h
theorem WOk.vop {P:Program} {KP:Value→List Ob→Prop}:WOk P (vop P) KP ss0:=⟨L8.vop,ZO,fun h=>AdG h,fun h=>h,fun h=>h,fun hq h=>Ahe hq h⟩
theorem XN {P:Program} {KP:Value→List Ob→Prop} {o:VOp} {e:Env} {H:List Ob} {K:TV→List Ob→Prop} (h1:¬ ∃ f xs,o = .s (.call f xs)) (h2:¬ ∃ x,o = .s (.pan x)):Go.Proofs.YthlbcfmbldcngaaDoor.pvop P KP o e H K=vop P o e H K:=by
 cases o with
 | p o=>rfl
 | s so =>
  cases so with
  | call f xs=>exact absurd ⟨f,xs,rfl⟩ h1
  | pan x=>exact absurd ⟨x,rfl⟩ h2
  | _=>rfl
theorem Ph {P:Program} {KP:Value→List Ob→Prop} {v:VO} {e:Env} {H:List Ob} {K:TV→List Ob→Prop} (h:pvop P KP v.op e H K):pvop P KP v.op (forget v.rd e) H K:=by
 have h1:∀ s∈(match v.op with | .p o=>o.rd | .s o=>o.rd),get e s=get (forget v.rd e) s:=fun s hs=>by rw [DL,if_pos (show s∈v.rd from List.mem_append_left _ hs)]
 by_cases hc:∃ f xs,v.op = .s (.call f xs)
 ·obtain ⟨f,xs,hv⟩:=hc
  rw [hv] at h h1 ⊢
  refine ⟨fun x hx => ?_,?_⟩
  ·rw [←Aq (e:=e) (e':=forget v.rd e) fun s hs=>h1 s (List.mem_flatMap.2 ⟨x,hx,hs⟩)]
   exact h.1 x hx
  ·rw [←Ci (xs:=xs) (e:=e) (e':=forget v.rd e) h1]
   exact h.2
 ·by_cases hp:∃ x,v.op = .s (.pan x)
  ·obtain ⟨x,hv⟩:=hp
   rw [hv] at h h1 ⊢
   have e1:x.ev e=x.ev (forget v.rd e):=Aq h1
   unfold Go.Proofs.YthlbcfmbldcngaaDoor.pvop at h ⊢
   simp only [←e1]
   exact h
  ·rw [XN hc hp] at h ⊢
   exact ZO h
theorem Zt {P:Program} {KP:Value→List Ob→Prop} {u:VOp} {e:Env} {H:List Ob} {K:TV→List Ob→Prop} (h:pvop P KP u e H K):pvop P KP u e H (fun x H'=>K x H'∧X6 ss0 u e H H'):=by
 by_cases hc:∃ f xs,u = .s (.call f xs)
 ·obtain ⟨f,xs,rfl⟩:=hc
  exact ⟨h.1,h.2.mono (fun x H' hx=>⟨hx,OA.nil⟩) fun _ _ h=>h⟩
 ·by_cases hp:∃ x,u = .s (.pan x)
  ·obtain ⟨x,rfl⟩:=hp
   exact h
  ·rw [XN hc hp] at h ⊢
   exact AdG h
theorem AcM {P:Program} {KP:Value→List Ob→Prop} {so:SOp} {z:TV} {q:Option (Nat×Nat)} {e:Env} {H:List Ob} {K:TV→List Ob→Prop} (hq:Vq so=some (z,q)) (h:pvop P KP (.s so) e H K):K (mkT q H.length) (H++[.obj 0 z]):=by
 cases so with
 | call f xs=>simp [Vq] at hq
 | pan x=>simp [Vq] at hq
 | _=>exact Ahe (P:=P) (e:=e) hq h
theorem WOk.pvop {P:Program} {KP:Value→List Ob→Prop}:WOk P (pvop P KP) KP ss0:=⟨L8.pvop,Ph,fun h=>Zt h,fun h=>h,fun h=>h,fun hq h=>AcM hq h⟩
def pvopS (P:Program) (KP:Value→List Ob→Prop) (Ss:SsT) (o:VOp) (e:Env) (H:List Ob) (K:TV→List Ob→Prop):Prop:=match o with
 | .s (.call f xs)=>Go.Proofs.YthlbcfmbldcngaaDoor.pvop P KP (.s (.call f xs)) e H fun x H'=>K x H'∧OA Ss.l e H H'
 | .s (.store sz x v)=>Go.Proofs.YthlbcfmbldcngaaDoor.pvop P KP (.s (.store sz x v)) e H fun x H'=>K x H'∧OA Ss.st e H H'
 | .s (.app k b t x y)=>Go.Proofs.YthlbcfmbldcngaaDoor.pvop P KP (.s (.app k b t x y)) e H fun x H'=>K x H'∧(Ss.ap=true→OA Ss.l e H H')
 | o=>Go.Proofs.YthlbcfmbldcngaaDoor.pvop P KP o e H K
theorem Tj {P:Program} {KP:Value→List Ob→Prop} {sz:Nat} {x v:Opd} {e:Env} {H:List Ob} {K K':TV→List Ob→Prop} (h:Go.Proofs.YthlbcfmbldcngaaDoor.pvop P KP (.s (.store sz x v)) e H K) (hk:∀ x H',K x H'→K' x H'):Go.Proofs.YthlbcfmbldcngaaDoor.pvop P KP (.s (.store sz x v)) e H K':=by
 have h':sop P (.store sz x v) e H K:=h
 show sop P (.store sz x v) e H K'
 simp only [sop] at h' ⊢
 refine ⟨h'.1,?_⟩
 have h2:=h'.2
 split at h2
 ·split at h2
  ·obtain ⟨rfl,h3⟩:=h2
   refine ⟨rfl,?_⟩
   split at h3
   ·exact hk _ _ h3
   ·exact h3.elim
  ·exact h2.elim
 ·exact h2.elim
theorem Xa {P:Program} {KP:Value→List Ob→Prop} {k b:Nat} {t:TypeId} {x y:Opd} {e:Env} {H:List Ob} {K K':TV→List Ob→Prop} (h:Go.Proofs.YthlbcfmbldcngaaDoor.pvop P KP (.s (.app k b t x y)) e H K) (hk:∀ x H',K x H'→K' x H'):Go.Proofs.YthlbcfmbldcngaaDoor.pvop P KP (.s (.app k b t x y)) e H K':=by
 have h':sop P (.app k b t x y) e H K:=h
 show sop P (.app k b t x y) e H K'
 simp only [sop] at h' ⊢
 split at h'
 ·unfold Vl at h' ⊢
  split at h'
  ·exact ⟨h'.1,hk _ _ h'.2⟩
  ·refine ⟨h'.1,?_⟩
   have h2:=h'.2
   split at h2
   ·exact ⟨h2.1,hk _ _ h2.2⟩
   ·exact h2.elim
  ·exact h'.elim
 ·exact h'.elim
theorem TY {P:Program} {KP:Value→List Ob→Prop} {Ss:SsT} {u:VOp} {e:Env} {H:List Ob} {K:TV→List Ob→Prop} (h:pvopS P KP Ss u e H K):Go.Proofs.YthlbcfmbldcngaaDoor.pvop P KP u e H K:=by
 unfold pvopS at h
 split at h
 ·exact ⟨h.1,h.2.mono (fun x H' hx=>hx.1) fun _ _ h=>h⟩
 ·exact Tj h fun x H' hx=>hx.1
 ·exact Xa h fun x H' hx=>hx.1
 ·exact h
theorem OA.forget {Ss kp:List Nat} {e:Env} {H H':List Ob} (h:OA Ss e H H'):OA Ss (Go.Proofs.YthlbcfmbldcngaaDoor.forget kp e) H H':=fun s hs id hg=>by
 rw [DL] at hg
 split at hg
 ·exact h s hs id hg
 ·cases hg
theorem V8 {P:Program} {KP:Value→List Ob→Prop} {Ss:SsT} {o:VOp} {e:Env} {H:List Ob} {K:TV→List Ob→Prop} (h1:¬ ∃ f xs,o = .s (.call f xs)) (h2:¬ ∃ sz x v,o = .s (.store sz x v)) (h3:¬ ∃ k b t x y,o = .s (.app k b t x y)):Go.Proofs.YthlbcfmbldcngaaDoor.pvopS P KP Ss o e H K=pvop P KP o e H K:=by
 cases o with
 | p o=>rfl
 | s so =>
  cases so with
  | call f xs=>exact absurd ⟨f,xs,rfl⟩ h1
  | store sz x v=>exact absurd ⟨sz,x,v,rfl⟩ h2
  | app k b t x y=>exact absurd ⟨k,b,t,x,y,rfl⟩ h3
  | _=>rfl
theorem WOk.pvopS {P:Program} {KP:Value→List Ob→Prop} {Ss:SsT}:WOk P (pvopS P KP Ss) KP Ss:=by
 refine ⟨fun hs he _ _ _ ht h=>L8.pvop hs he ht (TY h),fun {v e H K} h => ?_,fun {u e H K} h => ?_,fun {t e H K} h=>h,fun {o e H K} h=>h,fun {so z q e H K} hq h=>AcM hq (TY h)⟩
 ·by_cases hc:∃ f xs,v.op = .s (.call f xs)
  ·obtain ⟨f,xs,hv⟩:=hc
   have h':Go.Proofs.YthlbcfmbldcngaaDoor.pvop P KP v.op e H fun x H'=>K x H'∧OA Ss.l e H H':=by rw [hv] at h ⊢; exact h
   have:=Ph h'
   rw [hv] at this ⊢
   exact ⟨this.1,this.2.mono (fun x H' hx=>⟨hx.1,hx.2.forget⟩) fun _ _ h=>h⟩
  ·by_cases hst:∃ sz x y,v.op = .s (.store sz x y)
   ·obtain ⟨sz,x,y,hv⟩:=hst
    have h':Go.Proofs.YthlbcfmbldcngaaDoor.pvop P KP v.op e H fun x H'=>K x H'∧OA Ss.st e H H':=by rw [hv] at h ⊢; exact h
    have:=Ph h'
    rw [hv] at this ⊢
    show Go.Proofs.YthlbcfmbldcngaaDoor.pvop P KP (.s (.store sz x y)) (forget v.rd e) H fun x H'=>K x H'∧OA Ss.st (forget v.rd e) H H'
    exact Tj this fun x H' hx=>⟨hx.1,hx.2.forget⟩
   ·by_cases hap:∃ k b t x y,v.op = .s (.app k b t x y)
    ·obtain ⟨k,b,t,x,y,hv⟩:=hap
     have h':Go.Proofs.YthlbcfmbldcngaaDoor.pvop P KP v.op e H fun x H'=>K x H'∧(Ss.ap=true→OA Ss.l e H H'):=by rw [hv] at h ⊢; exact h
     have:=Ph h'
     rw [hv] at this ⊢
     show Go.Proofs.YthlbcfmbldcngaaDoor.pvop P KP (.s (.app k b t x y)) (forget v.rd e) H fun x H'=>K x H'∧(Ss.ap=true→OA Ss.l (forget v.rd e) H H')
     exact Xa this fun x H' hx=>⟨hx.1,fun h=>(hx.2 h).forget⟩
    rw [V8 hc hst hap] at h ⊢
    exact Ph h
 ·by_cases hc:∃ f xs,u = .s (.call f xs)
  ·obtain ⟨f,xs,rfl⟩:=hc
   exact ⟨h.1,h.2.mono (fun x H' hx=>⟨⟨hx.1,hx.2⟩,hx.2⟩) fun _ _ h=>h⟩
  ·by_cases hst:∃ sz x y,u = .s (.store sz x y)
   ·obtain ⟨sz,x,y,rfl⟩:=hst
    have h':Go.Proofs.YthlbcfmbldcngaaDoor.pvop P KP (.s (.store sz x y)) e H fun x H'=>K x H'∧OA Ss.st e H H':=h
    show Go.Proofs.YthlbcfmbldcngaaDoor.pvop P KP (.s (.store sz x y)) e H fun x' H'=>(K x' H'∧X6 Ss (.s (.store sz x y)) e H H')∧OA Ss.st e H H'
    exact Tj h' fun x H' hx=>⟨⟨hx.1,hx.2⟩,hx.2⟩
   by_cases hap:∃ k b t x y,u = .s (.app k b t x y)
   ·obtain ⟨k,b,t,x,y,rfl⟩:=hap
    have h':Go.Proofs.YthlbcfmbldcngaaDoor.pvop P KP (.s (.app k b t x y)) e H fun x H'=>K x H'∧(Ss.ap=true→OA Ss.l e H H'):=h
    show Go.Proofs.YthlbcfmbldcngaaDoor.pvop P KP (.s (.app k b t x y)) e H fun x' H'=>(K x' H'∧X6 Ss (.s (.app k b t x y)) e H H')∧(Ss.ap=true→OA Ss.l e H H')
    exact Xa h' fun x H' hx=>⟨⟨hx.1,hx.2⟩,hx.2⟩
   rw [V8 hc hst hap] at h ⊢
   have h2:=Zt h
   have e1:(fun x H'=>K x H'∧X6 Ss u e H H')=fun x H'=>K x H'∧X6 ss0 u e H H':=by
    funext x H'
    cases u with
    | p o=>rfl
    | s o =>
     cases o with
     | call f xs=>exact absurd ⟨f,xs,rfl⟩ hc
     | store sz x v=>exact absurd ⟨sz,x,v,rfl⟩ hst
     | app k b t x y=>exact absurd ⟨k,b,t,x,y,rfl⟩ hap
     | _=>rfl
   rw [e1]; exact h2
def Acs (N:Nat) (D:List Deferred) (c0:Ctx) (w0:World) (QQ:Exit→Act→World→Prop) (K:Env→List Ob→Prop) (KP:Value→List Ob→Prop):Prop :=
 (∀ e' H' β' F' w' a',K e' H'→Sim ⟨β',H',F'⟩ w'→Fr N D ⟨β',H',F'⟩ w' e' a'→Ar c0 w0 ⟨β',H',F'⟩ w'→QQ .normal a' w') ∧
 ∀ u H' β' F' w' a',KP u H'→Sim ⟨β',H',F'⟩ w'→Fr N D ⟨β',H',F'⟩ w' [] a'→Ar c0 w0 ⟨β',H',F'⟩ w'→QQ (.panic [{ v:=u,recovered:=false }]) a' w'
theorem InB.adopt {W:VOp→Env→List Ob→(TV→List Ob→Prop)→Prop} {KP:Value→List Ob→Prop} (hW:WOk P W KP Ss) (hc:Chk Ss ops l nA) (hll:l.length=ops.length) {c0:Ctx} {w0:World} {L:Array Bool} (hd:ZC ops L):∀ (k m:Nat),ops.length - m=k→∀ {K:Env→List Ob→Prop} {e:Env} {H:List Ob} {β:Nat→Nat→Option (Nat×Nat)} {F:Nat→Prop} {w:World} {a:Act},nA≤m→m≤ops.length →
  (∀ i,i<ops.length→nA≤i→(i<m→L.getD i false=true∨KG (cls ops) l nA i=true)∧(m≤i→L.getD i false=true→Gn (cls ops) l nA i=true)) →
  Lc W (l.drop m) K e H→Sim ⟨β,H,F⟩ w→Ar c0 w0 ⟨β,H,F⟩ w→InB Ss ops l nA N D m e L w0 ⟨β,H,F⟩ w a →
  ∃ (m':Nat) (e':Env) (H':List Ob) (β':Nat→Nat→Option (Nat×Nat)),nA≤m'∧m'≤ops.length∧(m'<ops.length→L.getD m' false≠true)∧(m≤m'∧∀ j,m≤j→j<m'→L.getD j false=true)∧(∀ i,i<ops.length→nA≤i→(i<m'→L.getD i false=true∨KG (cls ops) l nA i=true)∧(m'≤i→L.getD i false=true→Gn (cls ops) l nA i=true)) ∧
   Lc W (l.drop m') K e' H'∧Sim ⟨β',H',F⟩ w∧Ar c0 w0 ⟨β',H',F⟩ w∧InB Ss ops l nA N D m' e' L w0 ⟨β',H',F⟩ w a:=by
 intro k
 induction k with
 | zero =>
  intro m hk K e H β F w a h1 h2 hL h hs hl hB
  exact ⟨m,e,H,β,h1,h2,fun h=>by omega,⟨Nat.le_refl _,fun j h1 h2=>by omega⟩,hL,h,hs,hl,hB⟩
 | succ k ih =>
  intro m hk K e H β F w a h1 h2 hL h hs hl hB
  by_cases hLm:L.getD m false=true
  ·have more:∀ {Q:Nat→Env→List Ob→(Nat→Nat→Option (Nat×Nat))→Prop},(∃ (m':Nat) (e':Env) (H':List Ob) (β':Nat→Nat→Option (Nat×Nat)),nA≤m'∧m'≤ops.length∧(m'<ops.length→L.getD m' false≠true)∧(m+1≤m'∧∀ j,m+1≤j→j<m'→L.getD j false=true)∧Q m' e' H' β') →
     ∃ (m':Nat) (e':Env) (H':List Ob) (β':Nat→Nat→Option (Nat×Nat)),nA≤m'∧m'≤ops.length∧(m'<ops.length→L.getD m' false≠true)∧(m≤m'∧∀ j,m≤j→j<m'→L.getD j false=true)∧Q m' e' H' β' :=
    fun ⟨m',e',H',β',q1,q2,q3,⟨q4,q5⟩,q6⟩=>⟨m',e',H',β',q1,q2,q3,⟨by omega,fun j hj hj'=>by
     by_cases e9:j=m
     ·subst e9; exact hLm
     ·exact q5 j (by omega) hj'⟩,q6⟩
   have hml:m<ops.length:=by omega
   have he:=(hL m hml h1).2 (Nat.le_refl _) hLm
   cases hop:Ea (cls ops) l nA m with
   | false =>
    have hmv:D7 (cls ops) l nA m=true:=by unfold Gn at he; rwa [hop,Bool.false_or] at he
    obtain ⟨d,t,h0,hz,hdt,hwr,hn⟩:=CY hmv
    have hdrop:l.drop m=⟨some d,.p (.mov (.t t)),none⟩::l.drop (m+1):=by
     obtain ⟨hlt,e9⟩:=List.getElem?_eq_some_iff.1 hz
     rw [List.drop_eq_getElem_cons hlt,e9]
    rw [hdrop,Lc] at h
    have h':Lc W (l.drop (m+1)) K (Um e (some d) (get e t)) H:=hW.mov h
    have hval:=hB.emov m d t (Nat.le_refl _) hmv hLm hz
    have hrt:Rep ⟨β,H,F⟩ w (get e t) (a.tmps.getD t undef):=hB.rep t (fun i v hf hLi hv hdd=>by
      have hlt:=hf.lt h1
      exact hLi (QK hd hml hLm (hwr i v hv (by omega) hdd))) (fun i v him hei _ hv hdd=>by
      by_cases e9:i=m
      ·subst e9; rw [hz] at hv; cases hv; cases hdd; exact hdt rfl
      ·have:=NR hc hml (hwr i v hv e9 hdd); omega)
    refine more (ih (m+1) (by omega) (by omega) (by omega) (fun i hi hni=>⟨fun him => ?_,fun him hLi=>(hL i hi hni).2 (by omega) hLi⟩) h' hs hl ⟨fun s hs1 hs2 => ?_,fun i d' o g' hf hLi hi=>(by
      have hf:=hf.prev fun e=>hLi (e▸hLm)
      have hlt:=hf.lt h1
      obtain ⟨es,p1,p2⟩:=hB.pend i d' o g' hf hLi hi
      obtain ⟨q1,q2⟩:=hn i _ hi (by omega)
      refine ⟨es,fun s hs' => ?_,fun K' hK'=>p2 K' ?_⟩
      ·rw [AX (by
        intro e8; cases e8
        have:=NR hc (by have:=(List.getElem?_eq_some_iff.1 hi).1; omega) (q2 hs'); omega)]
       exact p1 s hs'
      ·rwa [AX (by intro e8; cases e8; exact q1 rfl)] at hK'),?_,fun j d' t' hj=>hB.emov j d' t' (by omega),hB.glob,hB.size,hB.defers⟩)
    ·by_cases e9:i=m
     ·subst e9; exact .inl hLm
     ·exact (hL i hi hni).1 (by omega)
    ·by_cases e9:d=s
     ·subst e9
      rw [Jo,hval]
      exact hrt
     ·rw [AX (by simpa using e9)]
      refine hB.rep s (fun i v hp=>hs1 i v (hp.mono (by omega))) fun i v him he' hLi hv => ?_
      by_cases e8:i=m
      ·subst e8; rw [hz] at hv; cases hv; simpa using e9
      ·exact hs2 i v (by omega) he' hLi hv
    ·obtain ⟨bl,b1,b2⟩:=hB.earl
     exact ⟨bl,fun i d' so' z' q' him he'=>b1 i d' so' z' q' (by omega) he',fun i j hi hj=>b2 i j (by omega) (by omega)⟩
   | true =>
    obtain ⟨d,so,z,q,hz,hq,hfit,_,hn⟩:=BD hop
    have hdrop:l.drop m=⟨some d,.s so,none⟩::l.drop (m+1):=by
     obtain ⟨hlt,e9⟩:=List.getElem?_eq_some_iff.1 hz
     rw [List.drop_eq_getElem_cons hlt,e9]
    rw [hdrop,Lc] at h
    have h':Lc W (l.drop (m+1)) K (Um e (some d) (mkT q H.length)) (H++[.obj 0 z]):=hW.made hq h
    obtain ⟨bl,b1,b2⟩:=hB.earl
    obtain ⟨k1,⟨vs,t,k2,k3⟩,k4,k5,k6⟩:=b1 m d so z q (Nat.le_refl _) hop hLm hz hq
    obtain ⟨s1,s2,s3⟩:=hs.adopt k3 k2 k5 k6
    refine more (ih (m+1) (by omega) (by omega) (by omega) (fun i hi hni=>⟨fun him => ?_,fun him hLi=>(hL i hi hni).2 (by omega) hLi⟩) h' s1 (hl.adopt k4 rfl s2 s3) ⟨fun s hs1 hs2 => ?_,fun i d' o g' hf hLi hi => ?_,⟨bl,fun i d' so' z' q' him he' hLi hz' hq' => ?_,fun i j hi hj=>b2 i j (by omega) (by omega)⟩,fun j d' t' hj=>hB.emov j d' t' (by omega),hB.glob,hB.size,hB.defers⟩)
    ·by_cases e9:i=m
     ·subst e9; exact .inl hLm
     ·exact (hL i hi hni).1 (by omega)
    ·by_cases e9:d=s
     ·subst e9
      rw [Jo,k1]
      exact Rep.mkT (AaG hq hfit) (k3 _ _) k2
     ·rw [AX (by simpa using e9)]
      refine Rep.mono s2 (hB.rep s (fun i v hp=>hs1 i v (hp.mono (by omega))) fun i v him he' hLi hv => ?_)
      by_cases e8:i=m
      ·subst e8; rw [hz] at hv; cases hv; simpa using e9
      ·exact hs2 i v (by omega) he' hLi hv
    ·have hf:=hf.prev fun e=>hLi (e▸hLm)
     obtain ⟨f3,f4,f5⟩:=hf.spec hi
     have hmi2:=hf.lt h1
     have hmi:m≠i:=by omega
     obtain ⟨es,p1,p2⟩:=hB.pend i d' o g' hf hLi hi
     have hcal:∀ K:TV→Prop,K (get e d')→Abh g' o es (H++[.obj 0 z]) K:=VX (Ss:=Ss) (u := .s so) (e:=e) (by
      rcases f3 m _ (by omega) hz with g | g | g
      ·exact .inl g
      ·exact absurd (QK hd (by omega) hLm g) hLi
      ·exact .inr g) (by cases so<;>first | exact ⟨_,rfl⟩ | (simp [Vq] at hq)) p1 p2
     refine ⟨es,fun s hs' => ?_,fun K' hK'=>hcal K' ?_⟩
     ·rw [AX (by
       intro e8; cases e8
       have h7:=(hn i _ hi (Ne.symm hmi)).2 hs'
       have:=NR hc (by have:=(List.getElem?_eq_some_iff.1 hi).1; omega) h7; omega)]
      exact p1 s hs'
     ·rwa [AX (by simpa using (f5 m _ d hz hmi rfl).1)] at hK'
    ·obtain ⟨q1,⟨vs',t',q2,q3⟩,q4,q5,q6⟩:=b1 i d' so' z' q' (by omega) he' hLi hz' hq'
     refine ⟨q1,⟨vs',t',q2,q3⟩,q4,fun ho => ?_,q6⟩
     rcases s3 _ ho with ho | ho
     ·exact q5 ho
     ·have:=b2 i m (by omega) (Nat.le_refl _) he' hop hLi hLm ho; omega
  ·exact ⟨m,e,H,β,h1,h2,fun _=>hLm,⟨Nat.le_refl _,fun j h1 h2=>by omega⟩,hL,h,hs,hl,hB⟩
theorem InB.pass {W:VOp→Env→List Ob→(TV→List Ob→Prop)→Prop} {KP:Value→List Ob→Prop} (hW:WOk P W KP Ss) (hc:Chk Ss ops l nA) (hll:l.length=ops.length) {w0:World} {L:Array Bool} {m:Nat} (hml:m<ops.length) (hlt:KG (cls ops) l nA m=true) (hLm:L.getD m false≠true) {K:Env→List Ob→Prop} {e:Env} {H:List Ob} {β:Nat→Nat→Option (Nat×Nat)} {F:Nat→Prop} {w:World} {a:Act} (h1:nA≤m)
  (h:Lc W (l.drop m) K e H) (hB:InB Ss ops l nA N D m e L w0 ⟨β,H,F⟩ w a):∃ e',Lc W (l.drop (m+1)) K e' H∧InB Ss ops l nA N D (m+1) e' L w0 ⟨β,H,F⟩ w a:=by
 obtain ⟨d,o,hz,g1,g2,g3,g4,g5⟩:=Du hlt
 have hdrop:l.drop m=⟨some d,.p o,none⟩::l.drop (m+1):=by
  obtain ⟨hl,e9⟩:=List.getElem?_eq_some_iff.1 hz
  rw [List.drop_eq_getElem_cons hl,e9]
 rw [hdrop,Lc] at h
 have h':pop o e H fun x=>Lc W (l.drop (m+1)) K (Um e (some d) x) H:=hW.pur h
 obtain ⟨x,k1,k2⟩:=YC h'
 have old:∀ {i d' o' g'},Pd Ss ops l nA m i→l[i]?=some ⟨some d',.p o',g'⟩→¬ d∈(VO.mk (some d') (.p o') g').rd∧d≠d':=fun {i d' o' g'} hf hi=>by
  have hlt:=hf.lt h1
  obtain ⟨q1,q2,_⟩:=g5 i _ hi (by omega)
  refine ⟨fun hd => ?_,fun e=>q1 (by rw [e])⟩
  have:=NR hc (by have:=(List.getElem?_eq_some_iff.1 hi).1; omega) (q2 hd); omega
 refine ⟨Um e (some d) x,k2,⟨fun s hs1 hs2 => ?_,fun i d' o' g' hf hLi hi => ?_,?_,fun j d' t' hj=>hB.emov j d' t' (by omega),hB.glob,hB.size,hB.defers⟩⟩
 ·have hsd:d≠s:=fun e=>hs1 m _ (.inr ⟨hlt,by omega⟩) hLm hz (by rw [e])
  rw [AX (by simpa using hsd)]
  refine hB.rep s (fun i v hp=>hs1 i v (hp.mono (by omega))) fun i v him he' hLi hv=>hs2 i v ?_ he' hLi hv
  by_cases e9:i=m
  ·subst e9; exact absurd he' g3
  ·omega
 ·by_cases e9:i=m
  ·subst e9
   rw [hz] at hi; cases hi
   refine ⟨e,fun s hs => .inl ?_,fun K' hK'=>k1 K' (by rwa [Jo] at hK')⟩
   rw [AX]
   intro e; cases e
   exact g4 (by simpa [VO.rd] using hs)
  ·have hf':=hf.prev e9
   obtain ⟨q1,q2⟩:=old hf' hi
   obtain ⟨es,p1,p2⟩:=hB.pend i d' o' g' hf' hLi hi
   refine ⟨es,fun s hs => ?_,fun K' hK'=>p2 K' ?_⟩
   ·rw [AX (by intro e; cases e; exact q1 hs)]; exact p1 s hs
   ·rwa [AX (by simpa using q2)] at hK'
 ·obtain ⟨bl,b1,b2⟩:=hB.earl
  exact ⟨bl,fun i d' so' z' q' him he'=>b1 i d' so' z' q' (by omega) he',fun i j hi hj=>b2 i j (by omega) (by omega)⟩
theorem InB.reach {W:VOp→Env→List Ob→(TV→List Ob→Prop)→Prop} {KP:Value→List Ob→Prop} (hW:WOk P W KP Ss) (hc:Chk Ss ops l nA) (hll:l.length=ops.length) {c0:Ctx} {w0:World} {L:Array Bool} (hd:ZC ops L) {i:Nat} (hi:i∈Region.ready .any ops.toArray L) (hil:i<ops.length) (hin:nA≤i) (hea:Gn (cls ops) l nA i≠true) (h3:L.getD i false≠true) {K:Env→List Ob→Prop} {F:Nat→Prop} {w:World} {a:Act}:∀ (k m:Nat),i - m≤k→∀ {e:Env} {H:List Ob} {β:Nat→Nat→Option (Nat×Nat)},nA≤m→m≤i →
  (∀ i,i<ops.length→nA≤i→(i<m→L.getD i false=true∨KG (cls ops) l nA i=true)∧(m≤i→L.getD i false=true→Gn (cls ops) l nA i=true)) →
  Lc W (l.drop m) K e H→Sim ⟨β,H,F⟩ w→Ar c0 w0 ⟨β,H,F⟩ w→InB Ss ops l nA N D m e L w0 ⟨β,H,F⟩ w a →
  ∃ (e':Env) (H':List Ob) (β':Nat→Nat→Option (Nat×Nat)),(∀ j,j<ops.length→nA≤j→(j<i→L.getD j false=true∨KG (cls ops) l nA j=true)∧(i≤j→L.getD j false=true→Gn (cls ops) l nA j=true)) ∧
   Lc W (l.drop i) K e' H'∧Sim ⟨β',H',F⟩ w∧Ar c0 w0 ⟨β',H',F⟩ w∧InB Ss ops l nA N D i e' L w0 ⟨β',H',F⟩ w a:=by
 intro k
 induction k with
 | zero =>
  intro m hk e H β h1 h2 hL h hs hl hB
  have:m=i:=by omega
  subst this
  exact ⟨e,H,β,hL,h,hs,hl,hB⟩
 | succ k ih =>
  intro m hk e H β h1 h2 hL h hs hl hB
  by_cases hmi:m=i
  ·subst hmi; exact ⟨e,H,β,hL,h,hs,hl,hB⟩
  by_cases hLm:L.getD m false=true
  ·obtain ⟨m1,e1,H1,β1,a1,a2,a3,⟨a4,a5⟩,a6,a7,a8,a9,a10⟩:=InB.adopt hW hc hll hd _ m rfl h1 (by omega) hL h hs hl hB
   have hm1:m1≤i:=by
    rcases Nat.lt_or_ge i m1 with hlt | hge
    ·exact absurd (a5 i h2 hlt) h3
    ·exact hge
   have hm2:m<m1:=by
    by_cases e9:m=m1
    ·subst e9; exact absurd hLm (a3 (by omega))
    ·omega
   exact ih m1 (by omega) a1 hm1 a6 a7 a8 a9 a10
  ·have hlate:KG (cls ops) l nA m=true:=by
    rcases hc.wait i hil hin hea m (by omega) with hw | hw | hw
    ·exact absurd (Hq hc hd hi hw) hLm
    ·exact hw
    ·obtain ⟨_,_,_,_,h9,_⟩:=Dy hw.1; omega
   obtain ⟨e',k1,k2⟩:=InB.pass hW hc hll (by omega) hlate hLm h1 h hB
   refine ih (m+1) (by omega) (by omega) (by omega) (fun j hj hnj=>⟨fun hjm => ?_,fun hmj hh=>(hL j hj hnj).2 (by omega) hh⟩) k1 hs hl k2
   by_cases e9:j=m
   ·subst e9; exact .inr hlate
   ·exact (hL j hj hnj).1 (by omega)
theorem XT {W:VOp→Env→List Ob→(TV→List Ob→Prop)→Prop} {KP:Value→List Ob→Prop} (hW:WOk P W KP Ss) (hc:Chk Ss ops l nA) (htr:trL bz P N ops ops=some l) {c0:Ctx} {w0:World} {QQ:Exit→Act→World→Prop}:∀ (fuel m0:Nat) {K:Env→List Ob→Prop} {e0:Env} {H0:List Ob} {β0:Nat→Nat→Option (Nat×Nat)} {F:Nat→Prop} {w:World} {a:Act} {L:Array Bool},nA≤m0→m0≤ops.length→ZC ops L →
  (∀ i,i<ops.length→nA≤i→(i<m0→L.getD i false=true∨KG (cls ops) l nA i=true)∧(m0≤i→L.getD i false=true→Gn (cls ops) l nA i=true)) →
  (∀ i,i<nA→Ll Ss (cls ops) l nA i≠true→L.getD i false=true)→RH ops L≤fuel →
  Lc W (l.drop m0) K e0 H0→Sim ⟨β0,H0,F⟩ w→Ar c0 w0 ⟨β0,H0,F⟩ w→InB Ss ops l nA N D m0 e0 L w0 ⟨β0,H0,F⟩ w a →
  Acs N D c0 w0 QQ K KP→wpAnyIn (fz ro) nn P .any ops.toArray QQ fuel L a w:=by
 obtain ⟨hll,hlg⟩:=WJ htr
 have hle:=hc.le
 have fin:∀ {m:Nat} {K:Env→List Ob→Prop} {e:Env} {H:List Ob} {β:Nat→Nat→Option (Nat×Nat)} {F:Nat→Prop} {w:World} {a:Act} {L:Array Bool},m≤ops.length→(m<ops.length→L.getD m false≠true)→(∀ i,i<ops.length→L.getD i false=true) →
   Lc W (l.drop m) K e H→InB Ss ops l nA N D m e L w0 ⟨β,H,F⟩ w a→K e H∧Fr N D ⟨β,H,F⟩ w e a:=by
  intro m K e H β F w a L h2 hmL hall h hB
  have hm:m=ops.length:=by
   rcases Nat.lt_or_ge m ops.length with hlt | hge
   ·exact absurd (hall m hlt) (hmL hlt)
   ·omega
  subst hm
  rw [List.drop_eq_nil_of_le (by omega)] at h
  refine ⟨h,⟨⟨fun s=>hB.rep s (fun i v hfi hLi hv _ => ?_) (fun i v him he _ hv _ => ?_),hB.glob⟩,hB.size,hB.defers⟩⟩
  ·exact hLi (hall i (by rw [←hll]; exact (List.getElem?_eq_some_iff.1 hv).1))
  ·have:=(List.getElem?_eq_some_iff.1 hv).1; omega
 intro fuel
 induction fuel with
 | zero =>
  intro m0 K e0 H0 β0 F w a L h1 h2 hd hL hF hf h hs hl hB hk
  obtain ⟨m,e,H,β,h1,h2,hmL,_,hL,h,hs,hl,hB⟩:=InB.adopt hW hc hll hd _ m0 rfl h1 h2 hL h hs hl hB
  have hall:∀ i,i<ops.length→L.getD i false=true:=by
   intro i hi
   have h0:RH ops L=0:=by omega
   unfold RH at h0
   rw [List.length_eq_zero_iff,List.filter_eq_nil_iff] at h0
   have:=h0 i (by simpa using hi)
   simpa using this
  obtain ⟨k1,k2⟩:=fin h2 hmL hall h hB
  refine ⟨?_,hk.1 _ _ _ _ _ _ k1 hs k2 hl⟩
  rw [List.eq_nil_iff_forall_not_mem]
  intro i hi
  obtain ⟨o,ho,h3,_⟩:=FW hi
  have hil:i<ops.length:=(List.getElem?_eq_some_iff.1 ho).1
  have:=hall i hil
  have hiL:i<L.size:=by rw [hd.size]; exact hil
  rw [Array.getD_eq_getD_getElem?,Array.getElem?_eq_getElem hiL] at h3 this
  simp at h3 this; rw [h3] at this; cases this
 | succ fuel ih =>
  intro m0 K e0 H0 β0 F w a L h1 h2 hd hL hF hf h hs hl hB hk
  obtain ⟨m,e,H,β,h1,h2,hmL,_,hL,h,hs,hl,hB⟩:=InB.adopt hW hc hll hd _ m0 rfl h1 h2 hL h hs hl hB
  refine ⟨fun h0 => ?_,fun i hi => ?_⟩
  ·obtain ⟨k1,k2⟩:=fin h2 hmL (UI hc hd h0) h hB
   exact hk.1 _ _ _ _ _ _ k1 hs k2 hl
  ·obtain ⟨o,ho,h3,h4⟩:=FW hi
   have hil:i<ops.length:=(List.getElem?_eq_some_iff.1 ho).1
   have hiL:i<L.size:=by rw [hd.size]; exact hil
   have h3':¬ (L.getD i false=true):=by
    rw [Array.getD_eq_getD_getElem?,Array.getElem?_eq_getElem hiL] at h3 ⊢; simp at h3 ⊢; exact h3
   have hd':=hd.set hi
   have hu:=VD hd hi
   have hmono:∀ j,(L.setIfInBounds i true).getD j false=true→j=i∨L.getD j false=true:=by
    intro j hj
    by_cases hij:i=j
    ·exact .inl hij.symm
    ·right
     rw [Array.getD_eq_getD_getElem?,Array.getElem?_setIfInBounds_ne hij,←Array.getD_eq_getD_getElem?] at hj; exact hj
   have hkeep:∀ j,L.getD j false=true→(L.setIfInBounds i true).getD j false=true:=by
    intro j hj
    by_cases hij:i=j
    ·subst hij; simp [hiL]
    ·rw [Array.getD_eq_getD_getElem?,Array.getElem?_setIfInBounds_ne hij,←Array.getD_eq_getD_getElem?]; exact hj
   have hset:(L.setIfInBounds i true).getD i false=true:=by simp [hiL]
   obtain ⟨v,hv1,hv2,hv3,hv4,hv5⟩:=hlg i o ho
   have hd5:v.dst.all (· < N)=true:=by rw [hv4]; exact hv5
   have hF':∀ j,j<nA→Ll Ss (cls ops) l nA j≠true→(L.setIfInBounds i true).getD j false=true:=fun j hj hfj=>hkeep j (hF j hj hfj)
   rcases Nat.lt_or_ge i m with him | him
   ·-- one that is free
    have hfr:Pd Ss ops l nA m i:=by
     rcases Nat.lt_or_ge i nA with hin | hin
     ·cases hb:Ll Ss (cls ops) l nA i with
      | true=>exact .inl hb
      | false=>exact absurd (hF i hin (by rw [hb]; simp)) h3'
     ·exact .inr ⟨((hL i hil hin).1 him).resolve_left h3',him⟩
    obtain ⟨d,po,gg,e1⟩:=hfr.form
    obtain ⟨e2,e3,e4⟩:=hfr.spec e1
    obtain ⟨es,p1,hp⟩:=hB.pend i d po gg hfr h3' e1
    rw [hv1] at e1
    obtain rfl:=Option.some.inj e1
    have hdN:d<a.tmps.size:=by rw [hB.size]; simpa using hd5
    have hod:o.dst=some d:=hv4.symm
    have hnearly:m≤i→Ea (cls ops) l nA i≠true:=fun h=>by omega
    refine Ux (all:=ops) (x:=get e d) (e:=forget (VO.mk (some d) (.p po) gg).rd es) hv2 hv3 hs ⟨fun s' => ?_,hs.glob⟩ ?_ ho ?_
    ·rw [DL]
     split
     ·rename_i hs'
      rcases p1 s' hs' with p1 | p1
      case inr=>rw [p1]; exact Rep.any
      rw [p1]
      refine hB.rep s' (fun k vk hfk hLk hvk hdk => ?_) (fun k vk hmk hek hLk hvk hdk => ?_)
      ·-- what it looks at stands ahead of it
       have hki:k≠i:=fun h9=>by subst h9; rw [hv1] at hvk; cases hvk; cases hdk; exact e3 hs'
       have hsrd:s'∈(VO.mk (some d) (.p po) gg).rd:=hs'
       rcases hfr.read hc hfk hv1 hvk hki hdk hsrd with hb | hb
       ·exact hLk (Hq hc hd hi hb)
       ·have hik:=NR hc (by have:=hfk.lt h1; omega) hb
        rcases (e4 k vk s' hvk hki hdk).2 with g | g | g | g
        ·exact g hs'
        ·omega
        ·exact absurd g.1 (by have:=hfk.lt h1; rcases hfk with hfk | hfk<;>rcases hfr with hfr | hfr<;>first | (obtain ⟨_,_,_,_,h8,_⟩:=Dy hfk; omega) | (obtain ⟨_,_,q1,q2,q3,q4,q5,q6⟩:=Du hfk.1; rw [hvk] at q1; cases q1; cases hdk; have h8:=NR hc hil ((q6 i _ hv1 (Ne.symm hki)).2.1 hs'); omega))
        ·exact hLk (Hq hc hd hi g)
      ·obtain ⟨_,_,hz,_,hn⟩:=SS hek
       rw [hz] at hvk; cases hvk; cases hdk
       have hb:=(hn i _ hv1 (by omega)).2 hs'
       have:=NR hc hil hb; omega
     ·exact Rep.any
    ·exact Xp (e:=es) (fun s hs'=>by rw [DL,if_pos hs']) (YV hp)
    ·intro β' F' w' u hs' hl' hx
     have hm:=hl'.mono hs
     refine ih m h1 h2 hd' (fun j hj hnj=>⟨fun hjm=>((hL j hj hnj).1 hjm).imp (hkeep j) id,fun hmj hh=>(hL j hj hnj).2 hmj ((hmono j hh).resolve_left (by omega))⟩) hF' (by omega) h hs' (hl.trans hl') ⟨fun s hs1 hs2 => ?_,fun k dk ok gk hfk hLk hk' => ?_,?_,Pg hll hd hv1 hv4 h3' (Nat.le_refl _) (fun j hj he e=>by omega) hB.emov,hB.glob.keep hm.stay,by rw [PN]; exact hB.size,by rw [Js]; exact hB.defers⟩ hk
     ·by_cases hsd:d=s
      ·subst hsd; rw [hod,SB hdN]; exact hx
      ·rw [CW (by rw [hod]; simpa using hsd)]
       refine Rep.mono hm (hB.rep s (fun k vk hfk hLk hvk hdk => ?_) (fun k vk hmk hek hLk hvk=>hs2 k vk hmk hek (hkeep k hLk) hvk))
       by_cases hki:k=i
       ·subst hki; rw [hv1] at hvk; cases hvk; exact hsd (by simpa using hdk)
       ·exact hs1 k vk hfk (fun hh=>(hmono k hh).elim hki hLk) hvk hdk
     ·exact hB.pend k dk ok gk hfk (fun hh=>hLk (hkeep k hh)) hk'
     ·refine hB.earl.step hl' (Nat.le_refl _) (fun k dk so hmk hek hz _ => ?_) hnearly
      obtain ⟨_,_,_,_,hz',_,_,_,hn⟩:=BD hek
      rw [hz] at hz'; cases hz'
      rw [hod]; exact (hn i _ hv1 (by omega)).1
   ·have hin:nA≤i:=by omega
    have hnf:∀ k,nA≤k→Ll Ss (cls ops) l nA k≠true:=fun k hk hf'=>by obtain ⟨_,_,_,_,h9,_⟩:=Dy hf'; omega
    obtain ⟨m,e,H,β,h1,h2,him,hee,hL,h,hs,hl,hB⟩:∃ (m:Nat) (e:Env) (H:List Ob) (β:Nat→Nat→Option (Nat×Nat)),nA≤m∧m≤ops.length∧m≤i∧(i=m∨Gn (cls ops) l nA i=true)∧(∀ i,i<ops.length→nA≤i→(i<m→L.getD i false=true∨KG (cls ops) l nA i=true)∧(m≤i→L.getD i false=true→Gn (cls ops) l nA i=true)) ∧
      Lc W (l.drop m) K e H∧Sim ⟨β,H,F⟩ w∧Ar c0 w0 ⟨β,H,F⟩ w∧InB Ss ops l nA N D m e L w0 ⟨β,H,F⟩ w a:=by
     by_cases hea:Gn (cls ops) l nA i=true
     ·exact ⟨m,e,H,β,h1,h2,him,.inr hea,hL,h,hs,hl,hB⟩
     ·obtain ⟨e',H',β',k1,k2,k3,k4,k5⟩:=InB.reach hW hc hll hd hi hil hin hea h3' (i - m) m (Nat.le_refl _) h1 him hL h hs hl hB
      exact ⟨i,e',H',β',hin,by omega,Nat.le_refl _,.inl rfl,k1,k2,k3,k4,k5⟩
    have hml:m<ops.length:=by omega
    by_cases hieq:i=m
    ·subst hieq
     have hdrop:l.drop i=v::l.drop (i+1):=by
      obtain ⟨hlt,rfl⟩:=List.getElem?_eq_some_iff.1 hv1
      rw [List.drop_eq_getElem_cons hlt]
     rw [hdrop,Lc] at h
     have hL':∀ j,j<ops.length→nA≤j→(j<i+1→(L.setIfInBounds i true).getD j false=true∨KG (cls ops) l nA j=true)∧(i+1≤j→(L.setIfInBounds i true).getD j false=true→Gn (cls ops) l nA j=true):=by
      intro j hj hnj
      refine ⟨fun hji => ?_,fun hij hh=>(hL j hj hnj).2 (by omega) ((hmono j hh).resolve_left (by omega))⟩
      by_cases e9:j=i
      ·subst e9; exact .inl hset
      ·exact ((hL j hj hnj).1 (by omega)).imp (hkeep j) id
     -- what it reads is neither to be done AcC nor made ahead
     have hread:∀ s∈v.rd,(∀ k u,Pd Ss ops l nA i k→L.getD k false≠true→l[k]?=some u→u.dst≠some s)∧(∀ k u,i≤k→Gn (cls ops) l nA k=true→L.getD k false=true→l[k]?=some u→u.dst≠some s):=by
      intro s hsr
      refine ⟨fun k u hfk hLk hu hud => ?_,fun k u hik hek hLk hu hud => ?_⟩
      ·by_cases hea:Gn (cls ops) l nA i=true
       ·unfold Gn at hea
        rw [Bool.or_eq_true] at hea
        rcases hea with hea | hea
        ·obtain ⟨_,so,_,_,hz,hq,_⟩:=BD hea
         rw [hv1] at hz; cases hz
         rw [Ahq hq] at hsr; cases hsr
        ·obtain ⟨d9,t9,_,hz9,_,hwr9,_⟩:=CY hea
         rw [hv1] at hz9; cases hz9
         have hkA:=hfk.lt hin
         have hst:s=t9:=by simpa [VO.rd,POp.rd,Opd.rd] using hsr
         exact hLk (Hq hc hd hi (hwr9 k u hu (by omega) (by rw [hud,hst])))
       ·have hkA:=hfk.lt hin
        rcases hc.wait i hil hin hea k (by omega) with hw | hw | ⟨_,hw⟩
        ·exact hLk (Hq hc hd hi hw)
        ·obtain ⟨_,_,q1,_,_,_,_,q6⟩:=Du hw
         rw [hu] at q1; cases q1; cases hud
         exact hLk (Hq hc hd hi ((q6 i v hv1 (by omega)).2.1 hsr))
        ·exact hw v u s hv1 hu hud hsr
      ·obtain ⟨_,_,hz,_,hn⟩:=SS hek
       rw [hz] at hu; cases hu; cases hud
       have hki:i≠k:=fun h9=>h3' (h9▸hLk)
       have:=NR hc hil ((hn i v hv1 hki).2 hsr); omega
     have hpdst:∀ k dk ok gk,Pd Ss ops l nA i k→L.getD k false≠true→l[k]?=some ⟨some dk,.p ok,gk⟩→v.dst≠some dk∧∀ d,v.dst=some d→¬ d∈(VO.mk (some dk) (.p ok) gk).rd:=by
      intro k dk ok gk hfk hLk hk'
      obtain ⟨f2,f3,f4⟩:=hfk.spec hk'
      have hki:=hfk.lt hin
      refine ⟨fun hvd=>(f4 i v dk hv1 (by omega) hvd).1 rfl,fun d hvd => ?_⟩
      rcases (f4 i v d hv1 (by omega) hvd).2 with g | g | ⟨_,g⟩ | g
      ·exact g
      ·omega
      ·exact absurd (Hq hc hd hi g) hLk
      ·have:=NR hc (by omega) g; omega
     have step:∀ {e:Env} {x:TV} {H':List Ob} {β':Nat→Nat→Option (Nat×Nat)} {F':Nat→Prop} {w':World} {u:Value},InB Ss ops l nA N D i e L w0 ⟨β,H,F⟩ w a→Lc W (l.drop (i+1)) K (Um e v.dst x) H'→Sim ⟨β',H',F'⟩ w'→Ar ⟨β,H,F⟩ w ⟨β',H',F'⟩ w'→Rep ⟨β',H',F'⟩ w' x u→(H'=H∨X6 Ss v.op e H H')→wpAnyIn (fz ro) nn P .any ops.toArray QQ fuel (L.setIfInBounds i true) (a.put o.dst u) w':=by
      intro e x H' β' F' w' u hB hK hs' hl' hx hrel
      have hm:=hl'.mono hs
      rw [←hv4]
      refine ih (i+1) (by omega) (by omega) hd' hL' hF' (by omega) hK hs' (hl.trans hl') ⟨fun s hs1 hs2 => ?_,fun k dk ok gk hfk hLk hk' => ?_,?_,Pg hll hd hv1 rfl h3' (by omega) (fun j hj he e=>by omega) hB.emov,hB.glob.keep hm.stay,by rw [PN]; exact hB.size,by rw [Js]; exact hB.defers⟩ hk
      ·by_cases hvs:v.dst=some s
       ·rw [hvs,Jo,SB (by rw [hB.size]; rw [hvs] at hd5; simpa using hd5)]; exact hx
       ·rw [AX hvs,CW hvs]
        refine Rep.mono hm (hB.rep s (fun k vk hfk hLk hvk hdk=>hs1 k vk (hfk.mono (by omega)) (fun hh=>(hmono k hh).elim (fun e=>by have:=hfk.lt hin; omega) hLk) hvk hdk) (fun k vk hmk hek hLk hvk => ?_))
        have hki:k≠i:=fun h9=>h3' (h9▸hLk)
        exact hs2 k vk (by omega) hek (hkeep k hLk) hvk
      ·have hLk':L.getD k false≠true:=fun hh=>hLk (hkeep k hh)
       have hfk:=hfk.prev fun e=>hLk (by rw [e]; exact hset)
       obtain ⟨g1,g2⟩:=hpdst k dk ok gk hfk hLk' hk'
       obtain ⟨es,p1,p2⟩:=hB.pend k dk ok gk hfk hLk' hk'
       have hcal:∀ K:TV→Prop,K (get e dk)→Abh gk ok es H' K:=by
        rcases hrel with rfl | hrel
        ·exact p2
        ·obtain ⟨f2,f3,f4⟩:=hfk.spec hk'
         refine VX (u:=v.op) (e:=e) ?_ hrel p1 p2
         rcases f2 i v hin hv1 with g | g | g
         ·exact .inl g
         ·exact absurd (Hq hc hd hi g) hLk'
         ·exact .inr g
       exact ⟨es,fun s hs'=>by rw [AX fun h9=>g2 s h9 hs']; exact p1 s hs',fun K' hK'=>hcal K' (by rwa [AX g1] at hK')⟩
      ·refine hB.earl.step hl' (by omega) (fun k dk so hmk hek hz _ => ?_) (fun h9=>by omega)
       obtain ⟨_,_,_,_,hz',_,_,_,hn⟩:=BD hek
       rw [hz] at hz'; cases hz'
       exact (hn i v hv1 (by omega)).1
     have go:∀ {e:Env},InB Ss ops l nA N D i e L w0 ⟨β,H,F⟩ w a→W v.op e H (fun x H=>Lc W (l.drop (i+1)) K (Um e v.dst x) H)→o.wpIn (fz ro) nn P a w (wpAnyIn (fz ro) nn P .any ops.toArray QQ fuel (L.setIfInBounds i true)) QQ:=fun {e} hB h=>by
      replace h:=hW.rel h
      replace h:=hW.weak h
      have henv:AC ⟨β,H,F⟩ w (forget v.rd e) a:=⟨fun s=>by
       rw [DL]
       split
       ·rename_i hs'; exact hB.rep s (hread s hs').1 (hread s hs').2
       ·exact Rep.any,hs.glob⟩
      refine hW.sound hs henv hv2 h o _ QQ rfl (Z5 hv2) ?_ (fun u H' β' F' w' hK hs' hl'=>hk.2 u H' β' F' w' a hK hs' ⟨⟨fun _=>Rep.any,hs'.glob⟩,hB.size,hB.defers⟩ (hl.trans hl')) ro nn
      intro x H' β' F' w' u hK hs' hl hx
      exact step hB hK.1 hs' hl hx (.inr hK.2)
     unfold wpOpIn
     simp only [List.getElem?_toArray,ho]
     cases hog:o.guard with
     | none =>
      rw [hog] at hv3
      simp only [trG,Option.some.injEq] at hv3
      rw [←hv3] at h
      have:Region.wanted o (yielded ops.toArray a.tmps)=true:=by simp [Region.wanted,hog]
      rw [if_pos this]
      exact (go hB h)
     | some jb =>
      obtain ⟨j,b⟩:=jb
      rw [hog] at hv3
      simp only [trG] at hv3
      split at hv3
      ·rename_i s hj
       simp only [Option.some.injEq] at hv3
       rw [←hv3] at h
       simp only at h
       have hsrd:s∈v.rd:=by unfold VO.rd; rw [←hv3]; simp
       have hsr:=hB.rep s (hread s hsrd).1 (hread s hsrd).2
       obtain ⟨e',hB',h⟩:∃ e',InB Ss ops l nA N D i e' L w0 ⟨β,H,F⟩ w a∧(match isB (a.tmps.getD s undef) with
         | some t=>if t=b then W v.op e' H fun x H=>Lc W (l.drop (i+1)) K (Um e' v.dst x) H else Lc W (l.drop (i+1)) K (Um e' v.dst (.val undef)) H
         | none=>Lc W (l.drop (i+1)) K (Um e' v.dst (.val undef)) H):=by
        unfold UN at h
        split at h
        ·rename_i v0 hv0
         rw [hv0,Rep.val] at hsr
         exact ⟨e,hB,by rw [hsr]; exact h⟩
        ·rename_i hany
         refine ⟨(s,.val (a.tmps.getD s undef))::e,⟨fun s' hs1 hs2 => ?_,fun k dk ok gk hfk hLk hk' => ?_,hB.earl,hB.emov,hB.glob,hB.size,hB.defers⟩,?_⟩
         ·rw [Bz]
          split
          ·rename_i hss; subst hss; exact Rep.of_val
          ·exact hB.rep s' hs1 hs2
         ·obtain ⟨es,p1,p2⟩:=hB.pend k dk ok gk hfk hLk hk'
          refine ⟨es,fun s' hs' => ?_,fun K' hK'=>p2 K' ?_⟩
          ·rw [Bz]
           split
           ·rename_i hss; subst hss
            rcases p1 s hs' with p1 | p1
            ·exact .inr (p1.trans hany)
            ·exact .inr p1
           ·exact p1 s' hs'
          ·rwa [Bz,if_neg (fun e=>(hread s hsrd).1 k _ hfk hLk hk' (by rw [e]))] at hK'
         ·cases hb:isB (a.tmps.getD s undef) with
          | none=>exact h.2 _ hb
          | some t =>
           have:a.tmps.getD s undef = .bool t:=by
            generalize a.tmps.getD s undef=v at hb
            cases v<;>simp [isB] at hb
            rw [hb]
           rw [this]; exact h.1 t
        ·exact h.elim
       have hy:yielded ops.toArray a.tmps j=isB (a.tmps.getD s undef):=SV (by simpa using hj)
       have skip:Lc W (l.drop (i+1)) K (Um e' v.dst (.val undef)) H→wpAnyIn (fz ro) nn P .any ops.toArray QQ fuel (L.setIfInBounds i true) (a.put o.dst undef) w:=fun h=>step hB' h hs (Ar.refl _ _) Rep.of_val (.inl rfl)
       cases hq:isB (a.tmps.getD s undef) with
       | some t =>
        rw [hq] at h hy
        by_cases htb:t=b
        ·subst htb
         have:Region.wanted o (yielded ops.toArray a.tmps)=true:=by simp [Region.wanted,hog,hy]
         rw [if_pos this]
         simp only [if_true] at h
         exact (go hB' h)
        ·have:¬ (Region.wanted o (yielded ops.toArray a.tmps)=true):=by simp [Region.wanted,hog,hy,htb]
         rw [if_neg this]
         simp only [htb,if_false] at h
         exact ⟨fun _ _=>trivial,skip h⟩
       | none =>
        rw [hq] at h hy
        have:¬ (Region.wanted o (yielded ops.toArray a.tmps)=true):=by simp [Region.wanted,hog,hy]
        rw [if_neg this]
        exact ⟨fun _ _=>trivial,skip h⟩
      ·cases hv3
    ·-- made ahead of its turn
     have hea:Gn (cls ops) l nA i=true:=hee.resolve_left hieq
     cases hop:Ea (cls ops) l nA i with
     | false =>
      have hmv:D7 (cls ops) l nA i=true:=by unfold Gn at hea; rwa [hop,Bool.false_or] at hea
      obtain ⟨d,t,hnA0,hz,hdt,hwr,hn⟩:=CY hmv
      rw [hv1] at hz; cases hz
      have hod:o.dst=some d:=hv4.symm
      have hdN:d<a.tmps.size:=by rw [hB.size]; simpa using hd5
      have hg:o.guard=none:=by
       cases hog:o.guard with
       | none=>rfl
       | some jb=>obtain ⟨j,b⟩:=jb; rw [hog] at hv3; simp only [trG] at hv3; split at hv3<;>simp at hv3
      refine Ux (all:=ops) (x := .val (a.tmps.getD t undef)) (e:=[(t,.val (a.tmps.getD t undef))]) hv2 hv3 hs ⟨fun s' => ?_,hs.glob⟩ ?_ ho ?_
      ·rw [Bz]
       split
       ·rename_i e; subst e; exact Rep.of_val
       ·exact Rep.any
      ·show Qt P (.p (.mov (.t t))) _ H _
       intro KK hKK
       show KK (get [(t,.val (a.tmps.getD t undef))] t)
       rw [Bz,if_pos rfl]; exact hKK
      ·intro β' F' w' u hs' hl' hx
       rw [Rep.val] at hx
       have hm:=hl'.mono hs
       rw [hod]
       have hdi:∀ j,m≤j→D7 (cls ops) l nA j=true→j≠i→j≠i:=fun _ _ _ h=>h
       refine ih m h1 h2 hd' (fun j hj hnj=>⟨fun hjm=>((hL j hj hnj).1 hjm).imp (hkeep j) id,fun hmj hh=>(hmono j hh).elim (fun e=>e▸hea) ((hL j hj hnj).2 hmj)⟩) hF' (by omega) h hs' (hl.trans hl') ⟨fun s hs1 hs2 => ?_,fun k dk ok gk hfk hLk hk'=>hB.pend k dk ok gk hfk (fun hh=>hLk (hkeep k hh)) hk',?_,?_,hB.glob.keep hm.stay,by rw [PN]; exact hB.size,by rw [Js]; exact hB.defers⟩ hk
       ·have hsd:d≠s:=fun e9=>hs2 i _ him hea hset hv1 (by rw [e9])
        rw [CW (by simpa using hsd)]
        exact Rep.mono hm (hB.rep s (fun k vk hfk hLk hvk=>hs1 k vk hfk (fun hh=>(hmono k hh).elim (fun e=>by have:=hfk.lt h1; omega) hLk) hvk) (fun k vk hmk hek hLk hvk=>hs2 k vk hmk hek (hkeep k hLk) hvk))
       ·refine hB.earl.step hl' (Nat.le_refl _) (fun k dk so hmk hek hz9 _ => ?_) (fun _=>by rw [hop]; simp)
        obtain ⟨_,_,_,_,hz',_,_,_,hn9⟩:=BD hek
        rw [hz9] at hz'; cases hz'
        exact (hn9 i _ hv1 (fun e=>by subst e; rw [hv1] at hz9; cases hz9)).1
       ·intro j d' t' hj he hLj hz9
        by_cases hji:j=i
        ·subst hji
         rw [hv1] at hz9; cases hz9
         rw [SB hdN,CW (by simpa using hdt)]
         exact hx
        ·exact SY hll hd hv1 rfl h3' hB.emov hj he hji hLj hz9
     | true =>
      obtain ⟨d,so,z,q,hz,hq,hfit,_,hn⟩:=BD hop
      rw [hv1] at hz; cases hz
      have hod:o.dst=some d:=hv4.symm
      have hdN:d<a.tmps.size:=by rw [hB.size]; simpa using hd5
      have hg:o.guard=none:=by
       cases hog:o.guard with
       | none=>rfl
       | some jb=>obtain ⟨j,b⟩:=jb; rw [hog] at hv3; simp only [trG] at hv3; split at hv3<;>simp at hv3
      unfold wpOpIn
      simp only [List.getElem?_toArray,ho]
      have:Region.wanted o (yielded ops.toArray a.tmps)=true:=by simp [Region.wanted,hg]
      rw [if_pos this]
      refine Ahi hv2 hq hfit (fun vs t' hr => ?_) ro nn
      rw [hod]
      obtain ⟨s1,s2⟩:=hs.extra (.cells vs.toArray t' (0,0))
      have hm:=s2.mono hs
      refine ih m h1 h2 hd' (fun j hj hnj=>⟨fun hjm=>((hL j hj hnj).1 hjm).imp (hkeep j) id,fun hmj hh=>(hmono j hh).elim (fun e=>e▸hea) ((hL j hj hnj).2 hmj)⟩) hF' (by omega) h s1 (hl.trans s2) ⟨fun s hs1 hs2 => ?_,fun k dk ok gk hfk hLk hk'=>hB.pend k dk ok gk hfk (fun hh=>hLk (hkeep k hh)) hk',hB.earl.more hs hl.size hv1 hq hop hr hdN,Pg hll hd hv1 rfl h3' (Nat.le_refl _) (fun j hj he e=>by subst e; obtain ⟨_,_,_,hz9,_⟩:=CY he; rw [hv1] at hz9; cases hz9) hB.emov,hB.glob.keep hm.stay,by rw [PN]; exact hB.size,by rw [Js]; exact hB.defers⟩ hk
      have hsd:d≠s:=fun e9=>hs2 i _ him hea hset hv1 (by rw [e9])
      rw [CW (by simpa using hsd)]
      exact Rep.mono hm (hB.rep s (fun k vk hfk hLk hvk=>hs1 k vk hfk (fun hh=>(hmono k hh).elim (fun e=>by have:=hfk.lt h1; omega) hLk) hvk) (fun k vk hmk hek hLk hvk=>hs2 k vk hmk hek (hkeep k hLk) hvk))
structure InA (ops:List Oper) (l:List VO) (nA N:Nat) (D:List Deferred) (xs:List TV) (e0:Env) (L:Array Bool) (w0:World) (c:Ctx) (w:World) (a:Act):Prop where
 did:∀ i v x d,i<nA→L.getD i false=true→l[i]?=some v→xs[i]?=some x→v.dst=some d→Rep c w x (a.tmps.getD d undef)
 not:∀ s,(∀ i v,i<nA→L.getD i false=true→l[i]?=some v→v.dst≠some s)→(∀ i v,nA≤i→Gn (cls ops) l nA i=true→L.getD i false=true→l[i]?=some v→v.dst≠some s)→Rep c w (get e0 s) (a.tmps.getD s undef)
 earl:AbZ ops l nA nA L w0 c w a
 emov:∀ j d t,nA≤j→D7 (cls ops) l nA j=true→L.getD j false=true→l[j]?=some ⟨some d,.p (.mov (.t t)),none⟩→a.tmps.getD d undef=a.tmps.getD t undef
 size:a.tmps.size=N
 defers:a.defers=D
theorem Aao {W:VOp→Env→List Ob→(TV→List Ob→Prop)→Prop} {KP:Value→List Ob→Prop} (hW:WOk P W KP Ss) (hc:Chk Ss ops l nA) (htr:trL bz P N ops ops=some l) {c0:Ctx} {w0:World} {QQ:Exit→Act→World→Prop} {K:Env→List Ob→Prop} {e0:Env} {H:List Ob} {xs:List TV} (hxl:xs.length=nA) (hok:∀ (i:Nat) o x,(l.take nA)[i]?=some o→xs[i]?=some x→Okq P o (Ii e0 ((l.take nA).take i) (xs.take i)) H x)
  (hK:Lc W (l.drop nA) K (Ii e0 (l.take nA) xs) H):∀ (fuel:Nat) {β:Nat→Nat→Option (Nat×Nat)} {F:Nat→Prop} {w:World} {a:Act} {L:Array Bool},ZC ops L→RH ops L≤fuel →
  (∀ i,i<ops.length→nA≤i→L.getD i false=true→Gn (cls ops) l nA i=true)→Sim ⟨β,H,F⟩ w→Ar c0 w0 ⟨β,H,F⟩ w→InA ops l nA N D xs e0 L w0 ⟨β,H,F⟩ w a →
  Acs N D c0 w0 QQ K KP→wpAnyIn (fz ro) nn P .any ops.toArray QQ fuel L a w:=by
 obtain ⟨hll,hlg⟩:=WJ htr
 have hle:=hc.le
 have htl:(l.take nA).length=nA:=by rw [List.length_take]; omega
 -- what the slots hold when all of the first part is done
 have hfin:∀ (β:Nat→Nat→Option (Nat×Nat)) (F:Nat→Prop) (w:World) (a:Act) (L:Array Bool) (s:Nat),InA ops l nA N D xs e0 L w0 ⟨β,H,F⟩ w a→(∀ i v,nA≤i→Gn (cls ops) l nA i=true→L.getD i false=true→l[i]?=some v→v.dst≠some s)→(∀ j u,j<nA→l[j]?=some u→u.dst=some s→L.getD j false=true)→Rep ⟨β,H,F⟩ w (get (Ii e0 (l.take nA) xs) s) (a.tmps.getD s undef):=by
  intro β F w a L s hA hse hw
  by_cases hex:∃ j u,j<nA∧l[j]?=some u∧u.dst=some s
  ·obtain ⟨j,u,hj,hu,hus⟩:=hex
   have hxj:∃ x,xs[j]?=some x:=⟨xs[j]'(by omega),by simp [show j<xs.length from by omega]⟩
   obtain ⟨x,hx⟩:=hxj
   have hu':(l.take nA)[j]?=some u:=by rw [List.getElem?_take,if_pos hj]; exact hu
   rw [Df hu' hx hus fun j' o' ho' hne hd'=>hne (by
    rw [List.getElem?_take] at ho'
    split at ho'
    ·rename_i hj'; exact hc.once j' j o' u s hj' hj ho' hu hus hd'
    ·cases ho')]
   exact hA.did j u x s hj (hw j u hj hu hus) hu hx hus
  ·rw [CJ fun j o ho hd=>hex ⟨j,o,by
    rw [List.getElem?_take] at ho
    split at ho
    ·rename_i hj; exact ⟨hj,ho,hd⟩
    ·cases ho⟩]
   exact hA.not s (fun i v hi _ hv hd=>hex ⟨i,v,hi,hv,hd⟩) hse
 have toB:∀ (β:Nat→Nat→Option (Nat×Nat)) (F:Nat→Prop) (w:World) (a:Act) (L:Array Bool),ZC ops L→Sim ⟨β,H,F⟩ w→InA ops l nA N D xs e0 L w0 ⟨β,H,F⟩ w a→(∀ i,i<nA→Ll Ss (cls ops) l nA i≠true→L.getD i false=true)→InB Ss ops l nA N D nA (Ii e0 (l.take nA) xs) L w0 ⟨β,H,F⟩ w a:=by
  intro β F w a L hd hs hA hall
  refine ⟨fun s hsn hse=>hfin β F w a L s hA hse fun j u hj hu hus => ?_,fun i d o g hfi hLi hi => ?_,hA.earl,hA.emov,hs.glob,hA.size,hA.defers⟩
  ·by_cases hLj:L.getD j false=true
   ·exact hLj
   ·by_cases hfj:Ll Ss (cls ops) l nA j=true
    ·exact absurd hus (hsn j u (.inl hfj) hLj hu)
    ·exact hall j hj hfj
  ·have hfi:=hfi.first
   obtain ⟨d',o',g',f1,f0,f2,f3,f4⟩:=Dy hfi
   rw [hi] at f1; cases f1
   have hxi:xs[i]?=some (xs[i]'(by omega)):=by simp [show i<xs.length from by omega]
   generalize xs[i]'(by omega)=y at hxi
   have hit:(l.take nA)[i]?=some ⟨some d,.p o,g⟩:=by rw [List.getElem?_take,if_pos f0]; exact hi
   have hq:Okq P ⟨some d,.p o,g⟩ (Ii e0 ((l.take nA).take i) (xs.take i)) H y:=hok i _ y hit hxi
   have hgs:=Df (e:=e0) hit hxi rfl fun j' o' ho' hne hd'=>by
    rw [List.getElem?_take] at ho'
    split at ho'
    ·exact (f4 j' o' d ho' hne hd').1 rfl
    ·cases ho'
   refine ⟨Ii e0 ((l.take nA).take i) (xs.take i),fun s hs' => .inl ?_,fun K' hK' => ?_⟩
   ·-- what it looks at is written by none behind it
    by_cases hex:∃ j u,j<nA∧l[j]?=some u∧u.dst=some s
    ·obtain ⟨j,u,hj,hu,hus⟩:=hex
     have hji:j≠i:=fun h9=>by subst h9; rw [hi] at hu; cases hu; cases hus; exact f3 hs'
     have hjlt:j<i:=by
      rcases (f4 j u s hu hji hus).2 with g | g | g
      ·exact absurd hs' g
      ·exact g
      ·omega
     have honce:∀ (j':Nat) o',l[j']?=some o'→j'<nA→j'≠j→o'.dst≠some s:=fun j' o' ho' hj' hne hd'=>hne (hc.once j' j o' u s hj' hj ho' hu hus hd')
     have hxj:xs[j]?=some (xs[j]'(by omega)):=by simp [show j<xs.length from by omega]
     have hu':(l.take nA)[j]?=some u:=by rw [List.getElem?_take,if_pos hj]; exact hu
     rw [Df (l:=(l.take nA).take i) (i:=j) (by rw [List.getElem?_take,if_pos hjlt]; exact hu') (by rw [List.getElem?_take,if_pos hjlt]; exact hxj) hus fun j' o' ho' hne=>by
      rw [List.getElem?_take] at ho'
      split at ho'
      ·rw [List.getElem?_take] at ho'
       split at ho'
       ·rename_i hj'; exact honce j' o' ho' hj' hne
       ·cases ho'
      ·cases ho']
     rw [Df hu' hxj hus fun j' o' ho' hne=>by
      rw [List.getElem?_take] at ho'
      split at ho'
      ·rename_i hj'; exact honce j' o' ho' hj' hne
      ·cases ho']
    ·rw [CJ fun j o' ho' hd'=>hex ⟨j,o',by
      rw [List.getElem?_take] at ho'
      split at ho'
      ·rw [List.getElem?_take] at ho'
       split at ho'
       ·rename_i hj'; exact ⟨hj',ho',hd'⟩
       ·cases ho'
      ·cases ho'⟩]
     rw [CJ fun j o' ho' hd'=>hex ⟨j,o',by
      rw [List.getElem?_take] at ho'
      split at ho'
      ·rename_i hj'; exact ⟨hj',ho',hd'⟩
      ·cases ho'⟩]
   ·rw [hgs] at hK'
    exact YU hq K' hK'
 intro fuel
 induction fuel with
 | zero =>
  intro β F w a L hd hf hLA hs hl0 hA hk
  have hall:∀ i,i<ops.length→L.getD i false=true:=by
   intro i hi
   have h0:RH ops L=0:=by omega
   unfold RH at h0
   rw [List.length_eq_zero_iff,List.filter_eq_nil_iff] at h0
   have:=h0 i (by simpa using hi)
   simpa using this
  exact XT hW hc htr 0 nA (Nat.le_refl _) hle hd (fun i hi hn=>⟨fun h=>by omega,fun _ h=>hLA i hi hn h⟩) (fun i hi _=>hall i (by omega)) hf hK hs hl0 (toB β F w a L hd hs hA fun i hi _=>hall i (by omega)) hk
 | succ fuel ih =>
  intro β F w a L hd hf hLA hs hl0 hA hk
  by_cases hall:∀ i,i<nA→Ll Ss (cls ops) l nA i≠true→L.getD i false=true
  ·exact XT hW hc htr (fuel+1) nA (Nat.le_refl _) hle hd (fun i hi hn=>⟨fun h=>by omega,fun _ h=>hLA i hi hn h⟩) hall hf hK hs hl0 (toB β F w a L hd hs hA hall) hk
  ·refine ⟨fun h0=>absurd (fun i hi _=>UI hc hd h0 i (by omega)) hall,fun i hi => ?_⟩
   obtain ⟨o,ho,h3,h4⟩:=FW hi
   have hil:i<ops.length:=(List.getElem?_eq_some_iff.1 ho).1
   have hiL:i<L.size:=by rw [hd.size]; exact hil
   obtain ⟨v,hv1,hv2,hv3,hv4,hv5⟩:=hlg i o ho
   have hd5:v.dst.all (· < N)=true:=by rw [hv4]; exact hv5
   have hd':=hd.set hi
   have hu:=VD hd hi
   have hmono:∀ j,(L.setIfInBounds i true).getD j false=true→j=i∨L.getD j false=true:=by
    intro j hj
    by_cases hij:i=j
    ·exact .inl hij.symm
    ·right
     rw [Array.getD_eq_getD_getElem?,Array.getElem?_setIfInBounds_ne hij,←Array.getD_eq_getD_getElem?] at hj; exact hj
   have hkeep:∀ j,L.getD j false=true→(L.setIfInBounds i true).getD j false=true:=by
    intro j hj
    by_cases hij:i=j
    ·subst hij; simp [hiL]
    ·rw [Array.getD_eq_getD_getElem?,Array.getElem?_setIfInBounds_ne hij,←Array.getD_eq_getD_getElem?]; exact hj
   have hset:(L.setIfInBounds i true).getD i false=true:=by simp [hiL]
   have h3':¬ (L.getD i false=true):=by
    rw [Array.getD_eq_getD_getElem?,Array.getElem?_eq_getElem hiL] at h3 ⊢; simp at h3 ⊢; exact h3
   rcases Nat.lt_or_ge i nA with hiA | hiA
   case inr =>
    have hea':Gn (cls ops) l nA i=true:=by
     refine Classical.byContradiction fun hne => ?_
     exact absurd (fun k hk hfk=>Hq hc hd hi ((hc.wait i hil hiA hne k (by omega)).resolve_right fun h9=>h9.elim (fun h9=>by obtain ⟨_,_,_,h8,_⟩:=Du h9; omega) fun h9=>hfk h9.1)) hall
    cases hop:Ea (cls ops) l nA i with
    | false =>
     have hmv:D7 (cls ops) l nA i=true:=by unfold Gn at hea'; rwa [hop,Bool.false_or] at hea'
     obtain ⟨d,t,_,hz,hdt,hwr,hn⟩:=CY hmv
     rw [hv1] at hz; cases hz
     have hod:o.dst=some d:=hv4.symm
     have hdN:d<a.tmps.size:=by rw [hA.size]; simpa using hd5
     have hg:o.guard=none:=by
      cases hog:o.guard with
      | none=>rfl
      | some jb=>obtain ⟨j,b⟩:=jb; rw [hog] at hv3; simp only [trG] at hv3; split at hv3<;>simp at hv3
     refine Ux (all:=ops) (x := .val (a.tmps.getD t undef)) (e:=[(t,.val (a.tmps.getD t undef))]) hv2 hv3 hs ⟨fun s' => ?_,hs.glob⟩ ?_ ho ?_
     ·rw [Bz]
      split
      ·rename_i e; subst e; exact Rep.of_val
      ·exact Rep.any
     ·show Qt P (.p (.mov (.t t))) _ H _
      intro KK hKK
      show KK (get [(t,.val (a.tmps.getD t undef))] t)
      rw [Bz,if_pos rfl]; exact hKK
     ·intro β' F' w' u hs' hl' hx
      rw [Rep.val] at hx
      have hm:=hl'.mono hs
      rw [hod]
      have hlt:∀ j,j<nA→(L.setIfInBounds i true).getD j false=true→L.getD j false=true:=fun j hj hh=>(hmono j hh).resolve_left (by omega)
      refine ih hd' (by omega) (fun j hj hnj hh=>(hmono j hh).elim (fun e=>e▸hea') (hLA j hj hnj)) hs' (hl0.trans hl') ⟨fun j v x d' hj hLj hv' hx' hd'' => ?_,fun s hsn hse => ?_,?_,?_,by rw [PN]; exact hA.size,by rw [Js]; exact hA.defers⟩ hk
      ·have hne:d≠d':=fun e9=>(hn j v hv' (by omega)).1 (by rw [hd'',e9])
       rw [CW (by simpa using hne)]
       exact Rep.mono hm (hA.did j v x d' hj (hlt j hj hLj) hv' hx' hd'')
      ·have hne:d≠s:=fun e9=>hse i _ hiA hea' hset hv1 (by rw [e9])
       rw [CW (by simpa using hne)]
       exact Rep.mono hm (hA.not s (fun j v hj hLj hv'=>hsn j v hj (hkeep j hLj) hv') (fun j v hj hej hLj hv'=>hse j v hj hej (hkeep j hLj) hv'))
      ·refine hA.earl.step hl' (Nat.le_refl _) (fun k dk so hmk hek hz9 _ => ?_) (fun _=>by rw [hop]; simp)
       obtain ⟨_,_,_,_,hz',_,_,_,hn9⟩:=BD hek
       rw [hz9] at hz'; cases hz'
       exact (hn9 i _ hv1 (fun e=>by subst e; rw [hv1] at hz9; cases hz9)).1
      ·intro j d' t' hj he hLj hz9
       by_cases hji:j=i
       ·subst hji
        rw [hv1] at hz9; cases hz9
        rw [SB hdN,CW (by simpa using hdt)]
        exact hx
       ·exact SY hll hd hv1 rfl h3' hA.emov hj he hji hLj hz9
    | true =>
    have hea:Ea (cls ops) l nA i=true:=hop
    obtain ⟨d,so,z,q,hz,hq,hfit,_,hn⟩:=BD hea
    rw [hv1] at hz; cases hz
    have hod:o.dst=some d:=hv4.symm
    have hdN:d<a.tmps.size:=by rw [hA.size]; simpa using hd5
    have hg:o.guard=none:=by
     cases hog:o.guard with
     | none=>rfl
     | some jb=>obtain ⟨j,b⟩:=jb; rw [hog] at hv3; simp only [trG] at hv3; split at hv3<;>simp at hv3
    unfold wpOpIn
    simp only [List.getElem?_toArray,ho]
    have:Region.wanted o (yielded ops.toArray a.tmps)=true:=by simp [Region.wanted,hg]
    rw [if_pos this]
    refine Ahi hv2 hq hfit (fun vs t' hr => ?_) ro nn
    rw [hod]
    obtain ⟨s1,s2⟩:=hs.extra (.cells vs.toArray t' (0,0))
    have hm:=s2.mono hs
    have hlt:∀ j,j<nA→(L.setIfInBounds i true).getD j false=true→L.getD j false=true:=fun j hj hh=>(hmono j hh).resolve_left (by omega)
    refine ih hd' (by omega) (fun j hj hnj hh=>(hmono j hh).elim (fun e=>e▸hea') (hLA j hj hnj)) s1 (hl0.trans s2) ⟨fun j v x d' hj hLj hv' hx' hd'' => ?_,fun s hsn hse => ?_,hA.earl.more hs hl0.size hv1 hq hea hr hdN,Pg hll hd hv1 rfl h3' (Nat.le_refl _) (fun j hj he e=>by subst e; obtain ⟨_,_,_,hz9,_⟩:=CY he; rw [hv1] at hz9; cases hz9) hA.emov,by rw [PN]; exact hA.size,by rw [Js]; exact hA.defers⟩ hk
    ·have hne:d≠d':=fun e9=>(hn j v hv' (by omega)).1 (by rw [hd'',e9])
     rw [CW (by simpa using hne)]
     exact Rep.mono hm (hA.did j v x d' hj (hlt j hj hLj) hv' hx' hd'')
    ·have hne:d≠s:=fun e9=>hse i _ hiA hea' hset hv1 (by rw [e9])
     rw [CW (by simpa using hne)]
     exact Rep.mono hm (hA.not s (fun j v hj hLj hv'=>hsn j v hj (hkeep j hLj) hv') (fun j v hj hej hLj hv'=>hse j v hj hej (hkeep j hLj) hv'))
   have hxi:xs[i]?=some (xs[i]'(by omega)):=by simp [show i<xs.length from by omega]
   generalize hxx:xs[i]'(by omega)=x at hxi
   have hvt:(l.take nA)[i]?=some v:=by rw [List.getElem?_take,if_pos hiA]; exact hv1
   have hrde:∀ s∈v.rd,∀ k u,nA≤k→Gn (cls ops) l nA k=true→L.getD k false=true→l[k]?=some u→u.dst≠some s:=by
    intro s hsr k u hnk hek _ hu hud
    obtain ⟨_,_,hz,_,hn⟩:=SS hek
    rw [hz] at hu; cases hu; cases hud
    have:=NR hc hil ((hn i v hv1 (by omega)).2 hsr); omega
   -- what it reads is there
   have hrd:∀ s∈v.rd,∀ j u,j<nA→l[j]?=some u→u.dst=some s→((cls ops).getD i 0).testBit j=true∨((cls ops).getD j 0).testBit i=true:=fun s hs' j u hj hu hus=>hc.read i j v u s hiA hj hv1 hu hus hs'
   have hokf:Okq P v (forget v.rd (Ii e0 ((l.take nA).take i) (xs.take i))) H x:=by
    refine Xp (fun s hs' => ?_) (hok i v x hvt hxi)
    rw [DL,if_pos hs']
   have henv:AC ⟨β,H,F⟩ w (forget v.rd (Ii e0 ((l.take nA).take i) (xs.take i))) a:=by
    refine ⟨fun s => ?_,hs.glob⟩
    rw [DL]
    split
    ·rename_i hs'
     by_cases hex:∃ j u,j<nA∧l[j]?=some u∧u.dst=some s
     ·obtain ⟨j,u,hj,hu,hus⟩:=hex
      have honce:∀ (j':Nat) o',l[j']?=some o'→j'<nA→j'≠j→o'.dst≠some s:=fun j' o' ho' hj' hne hd'=>hne (hc.once j' j o' u s hj' hj ho' hu hus hd')
      rcases hrd s hs' j u hj hu hus with hb | hb
      ·have hji:j<i:=NR hc hil hb
       have hxj:xs[j]?=some (xs[j]'(by omega)):=by simp [show j<xs.length from by omega]
       have hu':(l.take nA)[j]?=some u:=by rw [List.getElem?_take,if_pos hj]; exact hu
       rw [Df (l:=(l.take nA).take i) (i:=j) (by rw [List.getElem?_take,if_pos hji]; exact hu') (by rw [List.getElem?_take,if_pos hji]; exact hxj) hus fun j' o' ho' hne=>by
        rw [List.getElem?_take] at ho'
        split at ho'
        ·rw [List.getElem?_take] at ho'
         split at ho'
         ·rename_i hj'; exact honce j' o' ho' hj' hne
         ·cases ho'
        ·cases ho']
       exact hA.did j u _ s hj (Hq hc hd hi hb) hu hxj hus
      ·have hij:i<j:=NR hc (by omega) hb
       have hLj:L.getD j false≠true:=by
        intro hLj
        have hjl:j<(cls ops).length:=by rw [PG]; omega
        have hmj:(cls ops)[j]?=some ((cls ops).getD j 0):=by
         rw [List.getD_eq_getElem?_getD,List.getElem?_eq_getElem hjl]; rfl
        have hoj:ops[j]?=some (ops[j]'(by omega)):=List.getElem?_eq_getElem (by omega)
        have hLi:=ZE hmj hoj hd.closed (hd.closed j _ hoj hLj) hb
        have hLi':L.getD i false=true:=hLi
        rw [Array.getD_eq_getD_getElem?,Array.getElem?_eq_getElem hiL] at h3 hLi'
        simp at h3 hLi'; rw [h3] at hLi'; cases hLi'
       rw [CJ fun j' o' ho' hd'=>by
        rw [List.getElem?_take] at ho'
        split at ho'
        ·rename_i hj'i
         rw [List.getElem?_take] at ho'
         split at ho'
         ·rename_i hj'; exact honce j' o' ho' hj' (by omega) hd'
         ·cases ho'
        ·cases ho']
       exact hA.not s (fun i' v' hi' hL' hv' hd''=>by
        by_cases he:i'=j
        ·exact hLj (he▸hL')
        ·exact honce i' v' hv' hi' he hd'') (hrde s hs')
     ·rw [CJ fun j o' ho' hd'=>hex ⟨j,o',by
       rw [List.getElem?_take] at ho'
       split at ho'
       ·rw [List.getElem?_take] at ho'
        split at ho'
        ·rename_i hj'; exact ⟨hj',ho',hd'⟩
        ·cases ho'
       ·cases ho'⟩]
      exact hA.not s (fun i' v' hi' _ hv' hd''=>hex ⟨i',v',hi',hv',hd''⟩) (hrde s hs')
    ·exact Rep.any
   refine Ux (all:=ops) hv2 hv3 hs henv hokf ho ?_
   intro β' F' w' u hs' hl hx
   have hm:=hl.mono hs
   have hput:∀ s,o.dst≠some s→(a.put o.dst u).tmps.getD s undef=a.tmps.getD s undef:=by
    intro s hne
    cases hod:o.dst with
    | none=>rfl
    | some d =>
     have:d≠s:=fun e=>hne (by rw [hod,e])
     show (a.tmps.setIfInBounds d u).getD s undef=_
     simp [Array.getElem?_setIfInBounds_ne this]
   refine ih hd' (by omega) (fun j hj hnj hLj=>hLA j hj hnj ((hmono j hLj).resolve_left (by omega))) hs' (hl0.trans hl) ⟨fun j v' x' d hj hLj hv' hx' hd'' => ?_,fun s hsn hse => ?_,?_,Pg hll hd hv1 hv4 h3' (Nat.le_refl _) (fun j hj he e=>by omega) hA.emov,?_,?_⟩ hk
   ·by_cases hji:j=i
    ·subst hji
     rw [hv1] at hv'; cases hv'
     rw [hxi] at hx'; cases hx'
     have hod:o.dst=some d:=by rw [←hv4]; exact hd''
     have hdN:d<a.tmps.size:=by rw [hA.size]; rw [hod] at hv5; simpa using hv5
     have:(a.put o.dst u).tmps.getD d undef=u:=by
      rw [hod]; show (a.tmps.setIfInBounds d u).getD d undef=u
      simp [hdN]
     rw [this]; exact hx
    ·have hne:o.dst≠some d:=fun e=>hji (hc.once j i v' v d hj hiA hv' hv1 (by rw [hv4]; exact e) hd'')
     rw [hput d hne]
     exact Rep.mono hm (hA.did j v' x' d hj ((hmono j hLj).resolve_left hji) hv' hx' hd'')
   ·have hne:o.dst≠some s:=fun e=>hsn i v hiA (by simp [hiL]) hv1 (by rw [hv4]; exact e)
    rw [hput s hne]
    exact Rep.mono hm (hA.not s (fun j v' hj hLj hv'=>hsn j v' hj (hkeep j hLj) hv') (fun j v' hj hej hLj hv'=>hse j v' hj hej (hkeep j hLj) hv'))
   ·refine hA.earl.step hl (Nat.le_refl _) (fun k dk so hmk hek hz _ => ?_) (fun h9=>by omega)
    obtain ⟨_,_,_,_,hz',_,_,_,hn⟩:=BD hek
    rw [hz] at hz'; cases hz'
    rw [←hv4]; exact (hn i v hv1 (by omega)).1
   ·cases hod:o.dst with
    | none=>exact hA.size
    | some d=>simp [Act.put,hA.size]
   ·cases hod:o.dst<;>exact hA.defers
def X5 (f:Nat→Nat) (o:Oper):Oper:={ o with after:=o.after.map (fun e=>{ e with on:=f e.on }),guard:=o.guard.map fun q=>(f q.1,q.2) }
def AP (ops:List Oper) (π:List Nat):List Oper:=π.map fun i=>X5 (fun j=>π.idxOf j) (ops.getD i default)
def N7 (π:List Nat) (n:Nat):Bool:=decide (π.length=n) && decide π.Nodup && π.all (· < n) && (List.range n).all (π.contains ·)
theorem UD {f:Nat→Nat} {o:Oper}:PW (X5 f o)=(PW o).map f:=by
 unfold PW X5
 simp only [Array.toList_map,List.filter_map,List.map_map]
 congr 1
theorem TJ {a:Nat}:∀ {l:List Nat},¬ a∈l→l.idxOf a=l.length
 | [],_=>rfl
 | b::l,h=>by
  rw [List.mem_cons,not_or] at h
  rw [List.idxOf_cons,TJ h.2]
  have:(b == a)=false:=by simpa using fun e=>h.1 e.symm
  rw [this]; rfl
theorem AeG {π:List Nat} (hp:N7 π ops.length=true) {F:Fence} {QQ:Exit→Act→World→Prop}:∀ (fuel:Nat) {L L':Array Bool} {a:Act} {w:World},L.size=ops.length→L'.size=ops.length→(∀ i,i<ops.length→L'.getD (π.idxOf i) false=L.getD i false) →
  wpAnyIn F nn P .any (AP ops π).toArray QQ fuel L' a w→wpAnyIn F nn P .any ops.toArray QQ fuel L a w:=by
 unfold N7 at hp
 simp only [Bool.and_eq_true,decide_eq_true_eq,List.all_eq_true,List.mem_range] at hp
 obtain ⟨⟨⟨h1,h2⟩,h3⟩,h4⟩:=hp
 have hmem:∀ i,i<ops.length→i∈π:=fun i hi=>by have:=h4 i hi; simpa using this
 have hpos:∀ i,i<ops.length→π.idxOf i<ops.length:=fun i hi=>by rw [←h1]; exact List.idxOf_lt_length_of_mem (hmem i hi)
 have hat:∀ i,i<ops.length→π[π.idxOf i]?=some i:=fun i hi=>by
  have hlt:=List.idxOf_lt_length_of_mem (hmem i hi)
  rw [List.getElem?_eq_getElem hlt,List.getElem_idxOf hlt]
 have hback:∀ q (hq:q<π.length),π.idxOf π[q]=q:=fun q hq=>h2.idxOf_getElem q hq
 have hops:∀ i o,ops[i]?=some o→(AP ops π)[π.idxOf i]?=some (X5 (fun j=>π.idxOf j) o):=fun i o ho=>by
  have hi:i<ops.length:=(List.getElem?_eq_some_iff.1 ho).1
  unfold AP
  rw [List.getElem?_map,hat i hi]
  simp [List.getD_eq_getElem?_getD,ho]
 have hlen:(AP ops π).length=ops.length:=by unfold AP; rw [List.length_map,h1]
 have hops2:∀ q o,(AP ops π)[q]?=some o→∃ i o',π.idxOf i=q∧ops[i]?=some o'∧o=X5 (fun j=>π.idxOf j) o':=fun q o ho=>by
  have hq:q<π.length:=by have:=(List.getElem?_eq_some_iff.1 ho).1; rw [hlen] at this; omega
  have hi:=h3 π[q] (List.getElem_mem hq)
  refine ⟨π[q],ops[π[q]],hback q hq,List.getElem?_eq_getElem hi,?_⟩
  have:=hops π[q] _ (List.getElem?_eq_getElem hi)
  rw [hback q hq,ho] at this
  exact Option.some.inj this
 have hD:∀ {L:Array Bool} {i:Nat},i<L.size→(L.getD i true=false↔L.getD i false=false):=fun {L i} hi=>by
  rw [Array.getD_eq_getD_getElem?,Array.getD_eq_getD_getElem?,Array.getElem?_eq_getElem hi]; rfl
 have hlt:∀ {L:Array Bool} {i:Nat},L.size=ops.length→L.getD i false=true→i<ops.length:=fun {L i} hs hi=>by
  rcases Nat.lt_or_ge i L.size with h | h
  ·omega
  ·rw [Array.getD_eq_getD_getElem?,Array.getElem?_eq_none h] at hi; cases hi
 -- what is ready here is ready there
 have go:∀ {L L':Array Bool},L.size=ops.length→L'.size=ops.length→(∀ i,i<ops.length→L'.getD (π.idxOf i) false=L.getD i false)→∀ i,i∈Region.ready .any ops.toArray L→π.idxOf i∈Region.ready .any (AP ops π).toArray L':=by
  intro L L' hL hL' hLL i hi
  obtain ⟨o,ho,g1,g2⟩:=FW hi
  have hil:i<ops.length:=(List.getElem?_eq_some_iff.1 ho).1
  refine W9 (hops i o ho) ?_ ?_
  ·exact (hD (by rw [hL']; exact hpos i hil)).2 (by rw [hLL i hil]; exact (hD (by omega)).1 g1)
  ·intro q hq
   rw [UD] at hq
   obtain ⟨j,hj,rfl⟩:=List.mem_map.1 hq
   have:=g2 j hj
   rw [hLL j (hlt hL this)]; exact this
 have back:∀ {L L':Array Bool},L.size=ops.length→L'.size=ops.length→(∀ i,i<ops.length→L'.getD (π.idxOf i) false=L.getD i false)→∀ q,q∈Region.ready .any (AP ops π).toArray L'→∃ i,i∈Region.ready .any ops.toArray L:=by
  intro L L' hL hL' hLL q hq
  obtain ⟨o,ho,g1,g2⟩:=FW hq
  obtain ⟨i,o',rfl,ho',rfl⟩:=hops2 q o ho
  have hil:i<ops.length:=(List.getElem?_eq_some_iff.1 ho').1
  refine ⟨i,W9 ho' ?_ ?_⟩
  ·exact (hD (by omega)).2 (by rw [←hLL i hil]; exact (hD (by rw [hL']; exact hpos i hil)).1 g1)
  ·intro j hj
   have hj':π.idxOf j∈PW (X5 (fun j=>π.idxOf j) o'):=by rw [UD]; exact List.mem_map_of_mem hj
   have h9:=g2 _ hj'
   have hjl:j<ops.length:=by
    refine Classical.byContradiction fun hn => ?_
    have:π.idxOf j=π.length:=TJ (fun hm=>hn (h3 j hm))
    have h10:=hlt hL' h9
    omega
   rw [←hLL j hjl]; exact h9
 have hy:∀ {tmps:Array Value} {j:Nat},yielded (AP ops π).toArray tmps (π.idxOf j)=yielded ops.toArray tmps j:=by
  intro tmps j
  unfold yielded
  by_cases hj:j<ops.length
  ·have:=hops j _ (List.getElem?_eq_getElem hj)
   simp only [List.getElem?_toArray,this,List.getElem?_eq_getElem hj]
   rfl
  ·have h9:π.idxOf j=π.length:=TJ (fun hm=>hj (h3 j hm))
   simp only [List.getElem?_toArray]
   rw [List.getElem?_eq_none (l:=AP ops π) (by rw [hlen]; omega),List.getElem?_eq_none (l:=ops) (by omega)]
 intro fuel
 induction fuel with
 | zero =>
  intro L L' a w hL hL' hLL h
  refine ⟨?_,h.2⟩
  rw [List.eq_nil_iff_forall_not_mem]
  intro i hi
  have:=go hL hL' hLL i hi
  rw [h.1] at this; cases this
 | succ fuel ih =>
  intro L L' a w hL hL' hLL h
  refine ⟨fun h0=>h.1 ?_,fun i hi => ?_⟩
  ·rw [List.eq_nil_iff_forall_not_mem]
   intro q hq
   obtain ⟨i,hi⟩:=back hL hL' hLL q hq
   rw [h0] at hi; cases hi
  ·have h9:=h.2 _ (go hL hL' hLL i hi)
   obtain ⟨o,ho,_,_⟩:=FW hi
   have hil:i<ops.length:=(List.getElem?_eq_some_iff.1 ho).1
   have hset:∀ j,j<ops.length→(L'.setIfInBounds (π.idxOf i) true).getD (π.idxOf j) false=(L.setIfInBounds i true).getD j false:=by
    intro j hj
    by_cases e:i=j
    ·subst e
     have e1:=hpos i hil
     simp [hL,hL',hil,e1]
    ·have e2:π.idxOf i≠π.idxOf j:=fun e3=>e (by
      have a1:=hat i hil
      have a2:=hat j hj
      rw [e3,a2] at a1; exact (Option.some.inj a1).symm)
     rw [Array.getD_eq_getD_getElem?,Array.getElem?_setIfInBounds_ne e2,←Array.getD_eq_getD_getElem?,Array.getD_eq_getD_getElem? (xs:=L.setIfInBounds i true),Array.getElem?_setIfInBounds_ne e,←Array.getD_eq_getD_getElem?]
     exact hLL j hj
   have h10:wpOpIn F nn P (AP ops π).toArray QQ (π.idxOf i) (wpAnyIn F nn P .any ops.toArray QQ fuel (L.setIfInBounds i true)) a w :=
    wpOpIn_mono (fun a w h=>ih (by simpa using hL) (by simpa using hL') hset h) h9
   unfold wpOpIn at h10 ⊢
   simp only [List.getElem?_toArray,hops i o ho,ho] at h10 ⊢
   have hw:Region.wanted (X5 (fun j=>π.idxOf j) o) (yielded (AP ops π).toArray a.tmps)=Region.wanted o (yielded ops.toArray a.tmps):=by
    unfold Region.wanted X5
    cases hg:o.guard with
    | none=>rfl
    | some q=>simp only [Option.map_some,hy]
   rw [hw] at h10
   exact h10
theorem Zv {W:VOp→Env→List Ob→(TV→List Ob→Prop)→Prop} {KP:Value→List Ob→Prop} (hW:WOk P W KP Ss) {all:List Oper} (htr:trL bz P N all all=some l) (hc:CQ Ss all l nA=true) {K:Env→List Ob→Prop} {e:Env} {H:List Ob} {β:Nat→Nat→Option (Nat×Nat)} {F:Nat→Prop} {w:World} {a:Act} {QQ:Exit→Act→World→Prop}
  (h:vq P (l.take nA) (fun e=>Lc W (l.drop nA) K e H) e H) (hs:Sim ⟨β,H,F⟩ w) (hf:Fr N D ⟨β,H,F⟩ w e a)
  (hk:Acs N D ⟨β,H,F⟩ w QQ K KP):wpAnyIn (fz ro) nn P .any all.toArray QQ all.length (Array.replicate all.length false) a { w with drawn:=w.drawn+1 }:=by
 have hck:=Chk.of hc
 obtain ⟨xs,h1,h2,h3⟩:=Ahc h
 have hll:=(WJ htr).1
 have hle:=hck.le
 have hxl:xs.length=nA:=by
  rw [h1,List.length_take]
  have:l.length=all.length:=hll
  have:nA≤all.length:=hle
  omega
 have h0:∀ i,(Array.replicate all.length false).getD i false=false:=by
  intro i; simp [Array.getD_eq_getD_getElem?,Array.getElem?_replicate]; split<;>rfl
 have hs0:Sim ⟨β,H,F⟩ { w with drawn:=w.drawn+1 }:=hs.heap rfl
 have hl0:Ar ⟨β,H,F⟩ w ⟨β,H,F⟩ { w with drawn:=w.drawn+1 }:=Ar.heap rfl rfl rfl rfl
 refine Aao hW (ops:=all) hck htr hxl h3 h2 all.length ⟨by simp,fun i o ho hi=>by
  have hi':(Array.replicate all.length false).getD i false=true:=hi
  rw [h0] at hi'; cases hi'⟩ ?_ (fun i hi _ hL=>by
  have hL':(Array.replicate all.length false).getD i false=true:=hL
  rw [h0] at hL'; cases hL') hs0 hl0 ⟨fun i v x d hi hL=>(by
  have hL':(Array.replicate all.length false).getD i false=true:=hL
  rw [h0] at hL'; cases hL'),fun s _ _=>Rep.mono (hl0.mono hs) (hf.env.1 s),AbZ.empty fun i _ _ hL=>(by
  have hL':(Array.replicate all.length false).getD i false=true:=hL
  rw [h0] at hL'; cases hL'),(fun j d t _ _ hL=>by
  have hL':(Array.replicate all.length false).getD j false=true:=hL
  rw [h0] at hL'; cases hL'),hf.size,hf.defers⟩ hk
 unfold RH
 exact Nat.le_trans (List.length_filter_le _ _) (by simp)
theorem VH {W:VOp→Env→List Ob→(TV→List Ob→Prop)→Prop} {KP:Value→List Ob→Prop} (hW:WOk P W KP Ss) {id:Nat} {all:Array Oper} (hm:P.follows .mixedOrders=true) (htr:trL bz P N all.toList all.toList=some l) (hc:CQ Ss all.toList l nA=true) {K:Env→List Ob→Prop} {e:Env} {H:List Ob} {β:Nat→Nat→Option (Nat×Nat)} {F:Nat→Prop} {w:World} {a:Act} {QQ:Exit→Act→World→Prop}
  (h:vq P (l.take nA) (fun e=>Lc W (l.drop nA) K e H) e H) (hs:Sim ⟨β,H,F⟩ w) (hf:Fr N D ⟨β,H,F⟩ w e a)
  (hk:Acs N D ⟨β,H,F⟩ w QQ K KP):(Code.region id all true).wpIn (fz ro) nn P QQ a w:=by
 obtain ⟨all⟩:=all
 exact wpIn_region_any hm (Zv hW htr hc h hs hf hk)
def AlJ (v:VO):Bool:=match v.op with
 | .s (.bstr _ _)=>true
 | _=>false
def isP (v:VO):Bool:=match v.op with
 | .p _=>true
 | _=>false
def Ada:List Oper→List VO→Nat→List Nat→List Nat
 | o::ops,v::l,i,acc=>Ada ops l (i+1) (if isP v && (PW o).all acc.contains then acc++[i] else acc)
 | _,_,_,acc=>acc
def Ahk (ops:List Oper) (l:List VO):List Nat :=
 let a:=Ada ops l 0 []
 a++(List.range ops.length).filter fun i => !a.contains i
theorem QZ {W:VOp→Env→List Ob→(TV→List Ob→Prop)→Prop} {KP:Value→List Ob→Prop} (hW:WOk P W KP Ss) {id:Nat} {all:Array Oper} {π:List Nat} (hm:P.follows .mixedOrders=true) (hp:N7 π all.toList.length=true) (htr:trL bz P N (AP all.toList π) (AP all.toList π)=some l) (hc:CQ Ss (AP all.toList π) l nA=true) {K:Env→List Ob→Prop} {e:Env} {H:List Ob} {β:Nat→Nat→Option (Nat×Nat)} {F:Nat→Prop} {w:World} {a:Act} {QQ:Exit→Act→World→Prop}
  (h:vq P (l.take nA) (fun e=>Lc W (l.drop nA) K e H) e H) (hs:Sim ⟨β,H,F⟩ w) (hf:Fr N D ⟨β,H,F⟩ w e a)
  (hk:Acs N D ⟨β,H,F⟩ w QQ K KP):(Code.region id all true).wpIn (fz ro) nn P QQ a w:=by
 obtain ⟨all⟩:=all
 have hlen:(AP all π).length=all.length:=by
  unfold N7 at hp
  simp only [Bool.and_eq_true,decide_eq_true_eq] at hp
  unfold AP; rw [List.length_map]; exact hp.1.1.1
 refine wpIn_region_any hm ?_
 refine AeG (ops:=all) hp all.length (by simp) (by simp) (fun i hi => ?_) (L':=Array.replicate all.length false) ?_
 ·have h0:∀ i,(Array.replicate all.length false).getD i false=false:=by
   intro i; simp [Array.getD_eq_getD_getElem?,Array.getElem?_replicate]; split<;>rfl
  rw [h0]; exact (h0 i).symm
 ·have   := Zv hW (ro:=ro) (nn:=nn) htr hc h hs hf hk
  have hl2:(AP ({ toList:=all }:Array Oper).toList π).length=all.length:=hlen
  rw [hl2] at this
  exact this
end sound
end
end Go.Proofs.YthlbcfmbldcngaaDoor
