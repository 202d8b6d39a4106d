/- What the proof of DeltaMovedCard stands on (texts merged; names shortened by a program): part 2. -/
import Derived.Test.YthlbcfmbldcngaaDoorQA
import Derived.Maps.RangeRun
import Derived.RangeFuncCalls
import Derived.Lib.AppendZerosOnto
import Derived.RangeFuncSeq
import Derived.TacticsIn
set_option linter.unusedSectionVars false
set_option linter.unusedSimpArgs false
set_option linter.unusedVariables false
namespace Go.Proofs.YthlbcfmbldcngaaDoor
section
open Go.RowKit
variable [A7]
set_option autoImplicit false
def FI:Operand→Bool
 | .const .nilIface=>true
 | _=>false
def EX:BinOp→Bool
 | .neq=>true
 | _=>false
def Xg:BinOp→Bool
 | .neq=>true
 | .eql=>true
 | _=>false
def UH:Nat→List Nat→List Nat
 | _,[]=>[]
 | s,k::ks=>s::UH (s+k) ks
def PK (P:Program) (t:TypeId) (f:Nat):Option (Nat×TypeId):=match P.underlying t with
 | some (.struct fs)=>(fs[f]?).map fun x=>(x.offset,x.type)
 | _=>none
def Ut (P:Program) (t:TypeId):Option (List Nat×List TV):=match P.underlying t,P.info? t with
 | some (.struct fs),some it=>(match it.zero,fs.toList.mapM (fun f=>Oe P f.type) with
  | some z,some szs=>if fs.toList.map (·.offset)=UH 0 szs then (match zF P 400 (fs.toList.map (·.type)) z.cells.toList with
   | some zs=>if zs.map Aw=szs then some (szs,zs) else none
   | none=>none) else none
  | _,_=>none)
 | _,_=>none
def KW (P:Program) (t:TypeId):Option (Nat×Nat×TypeId):=match P.underlying t with
 | some (.array n e)=>(Oe P e).map fun k=>(n,k,e)
 | _=>none
def AbB (P:Program) (t:TypeId):Option (Nat×Nat×List TV):=match P.underlying t,P.info? t with
 | some (.array n e),some it=>(match it.zero,Oe P e with
  | some z,some k=>(zA P 400 e k n z.cells.toList).map fun zs=>(n,k,zs)
  | _,_=>none)
 | _,_=>none
def Bi (P:Program) (t:TypeId):Option (Nat×TypeId):=match P.underlying t with
 | some (.slice e)=>(Oe P e).map fun k=>(k,e)
 | _=>none
def QW (P:Program) (t:TypeId):Bool:=match P.underlying t with
 | some .string=>true
 | _=>false
def Yj (P:Program) (t:TypeId):Bool:=match P.underlying t with
 | some (.slice e)=>(match P.underlying e with | some (.int .u8)=>true | _=>false)
 | _=>false
def zOk (z:Value) (x:TV):Bool:=match z with
 | .agg _=>Uf x
 | .tuple _=>false
 | _ => !Uf x
def Abb (P:Program) (t:TypeId):Option (TypeId×MK×Value×TV):=match P.underlying t with
 | some (.map kt e)=>(match Abg P kt,P.info? e with
  | some kk,some i=>(match i.zero with
   | some z=>(match zT P 400 e z.cells.toList with
    | some x=>if zOk z x then some (kt,kk,z,x) else none
    | none=>none)
   | none=>none)
  | _,_=>none)
 | _=>none
def Aag (P:Program) (t:TypeId):Bool:=match P.underlying t with
 | some (.map _ _)=>true
 | _=>false
def AdV:Operand→Bool
 | .const (.slice none 0 0)=>true
 | _=>false
def Amu (P:Program) (t:TypeId):Option EL:=match P.underlying t with
 | some (.int _)=>some .i
 | some .string=>some .s
 | some (.array n e)=>if Qm P e && decide (Oe P t=some n) then some (.b n) else none
 | _=>none
def AaI (P:Program):List Field→Nat→Option (List EL)
 | [],_=>some []
 | f::fs,off=>if f.name ≠ "_" ∧ f.offset=off then match Amu P f.type with
  | some l=>(AaI P fs (off+l.wd)).map (l :: ·)
  | none=>none
  else none
def trP (P:Program):Op→Option POp
 | .move x=>some (.mov (trO x))
 | .assign x=>some (.mov (trO x))
 | .pick c a b=>some (.pick (trO c) (trO a) (trO b))
 | .binOp op t x y _=>match P.underlying t with
  | some (.int _) | some .string=>some (.bin t op (trO x) (trO y))
  | some .bool=>if Xg op then some (.eqB (trO x) (trO y) (EX op)) else none
  | some (.pointer _)=>if Xg op then some (.eqN 0 (trO x) (trO y) (EX op)) else none
  | some (.map _ _)=>if Xg op then some (.eqN 2 (trO x) (trO y) (EX op)) else none
  | some (.func _ _ _)=>if Xg op then some (.eqN 3 (trO x) (trO y) (EX op)) else none
  | some (.interface _)=>if Xg op && (FI x || FI y) then some (.eqN 1 (trO x) (trO y) (EX op)) else none
  | some (.array n e)=>if Xg op && Qm P e && !P.eqGuardType P.depth t then some (.gen (.eqA n (EX op)) [trO x,trO y]) else none
  | some (.struct fs)=>if Xg op && !P.stoodInHeld t && !P.eqGuardType P.depth t then (AaI P fs.toList 0).map fun sh => .gen (.eqR sh (EX op)) [trO x,trO y] else none
  | _=>none
 | .unOp op _ x=>some (.un op (trO x))
 | .convert src dst x=>match P.underlying src,P.underlying dst with
  | some (.int _),some (.int k)=>some (.conv k (trO x))
  | some .string,some .string=>some (.s2s (trO x))
  | some (.int _),some .string=>some (.gen .r2s [trO x])
  | some (.slice _),some .string=>if Yj P src then some (.b2s (trO x)) else none
  | _,_=>none
 | .load t x=>match Us P t,Oe P t with
  | some ag,some sz=>some (.load ag sz (trO x))
  | _,_=>none
 | .fieldAddr s x f=>match PK P s f with
  | some (off,t)=>(match Oe P t with | some sz=>if sz=0 then none else some (.fieldA f off (trO x)) | none=>none)
  | none=>none
 | .field s x f=>match PK P s f with
  | some (off,t)=>(match Us P t,Oe P t with | some ag,some sz=>some (.field ag sz f off (trO x)) | _,_=>none)
  | none=>none
 | .indexAddr t x i=>match Bi P t,KW P t with
  | some (k,_),_=>some (.idxA k (trO x) (trO i))
  | none,some (n,k,_)=>some (.idxAA n k (trO x) (trO i))
  | _,_=>none
 | .index t x i=>match QW P t,KW P t with
  | true,_=>some (.idxS (trO x) (trO i))
  | false,some (n,k,e)=>(match Us P e with | some ag=>some (.idx ag n k (trO x) (trO i)) | none=>none)
  | _,_=>none
 | .extract x i=>some (.ext i (trO x))
 | .slice t x lo hi none=>match QW P t,Bi P t,KW P t with
  | true,_,_=>some (.slS (trO x) (lo.map trO) (hi.map trO))
  | false,some (k,_),_=>some (.slV k (trO x) (lo.map trO) (hi.map trO))
  | false,none,some (n,k,_)=>some (.slA n k (trO x) (lo.map trO) (hi.map trO))
  | _,_,_=>none
 | .slice t x lo (some hi) (some mx)=>match Bi P t with
  | some (k,_)=>some (.gen (.sl3 k) [trO x,(lo.map trO).getD (.c (.int .i64 0)),trO hi,trO mx])
  | none=>none
 | .lookup t x k ok=>match Abb P t with
  | some (_,kk,_,zx)=>some (.gen (.look kk zx ok) [trO x,trO k])
  | none=>none
 | .sliceToArrayPointer t x=>match KW P t with
  | some (n,k,_)=>some (.gen (.s2a n k) [trO x])
  | none=>none
 | .makeInterface t x=>match P.underlying t with
  | some (.interface _)=>none
  | some _=>some (.iface t (trO x))
  | none=>none
 | .makeFunc f first caps=>some (.mkf f (first.toList.map trO) (caps.toList.map trO))
 | .nilCheck x=>some (.nilc (trO x))
 | .entry x=>some (.gen .entM [trO x])
 | .typeAssert x _ t false=>match P.underlying t with
  | some (.interface _)=>none
  | some _=>some (.gen (.tas t) [trO x])
  | none=>none
 | .build t ps=>match Ut P t,AbB P t with
  | some (szs,zs),_=>some (.build zs szs (ps.toList.map fun q=>(q.1,trO q.2)))
  | none,some (n,k,zs)=>some (.buildA n k zs (ps.toList.map fun q=>(q.1,trO q.2)))
  | _,_=>none
 | .call c=>match c.callee,c.args.toList,c.argTypes.toList with
  | .builtin .len,[x],[t]=>if QW P t then some (.lenS (trO x)) else if (Bi P t).isSome then some (.lenV (trO x)) else if Aag P t then some (.gen .lenM [trO x]) else none
  | .builtin .cap,[x],[t]=>if (Bi P t).isSome then some (.gen .capV [trO x]) else none
  | .builtin .min,[x,y],_=>some (.min (trO x) (trO y))
  | .builtin .max,[x,y],_=>some (.max (trO x) (trO y))
  | _,_,_=>none
 | _=>none
section sound
variable {P:Program} {c:Ctx} {w:World} {a:Act} {e:Env} {K:TV→Prop}
def Ap (P:Program) (c:Ctx) (w:World) (a:Act) (K:TV→Prop) (op:Op) (ty:TypeId):Prop :=
 ∀ o:Oper,o.op=op→o.type=ty→∃ x v,(execOp a.eval o).run P w = .ok (.value v) w∧Rep c w x v∧K x
theorem Ap.mk {op:Op} {ty:TypeId} {s:Sem Value} {x:TV} {v:Value} (he:∀ o:Oper,o.op=op→o.type=ty→execOp a.eval o=(do pure (.value (←s)))) (hr:s.run P w = .ok v w) (hx:Rep c w x v) (hk:K x):Ap P c w a K op ty :=
 fun o ho ht=>⟨x,v,by rw [he o ho ht]; simp [hr],hx,hk⟩
theorem AQ {t:TypeId} {k:Nat} {e:TypeId} (h:Bi P t=some (k,e)):P.underlying t=some (.slice e)∧Oe P e=some k:=by
 unfold Bi at h
 split at h
 ·rename_i e' he
  obtain ⟨k',hk,h2⟩:=Option.map_eq_some_iff.1 h
  simp only [Prod.mk.injEq] at h2
  obtain ⟨rfl,rfl⟩:=h2
  exact ⟨he,hk⟩
 ·cases h
theorem J8 {t:TypeId} {n k:Nat} {e:TypeId} (h:KW P t=some (n,k,e)):P.underlying t=some (.array n e)∧Oe P e=some k:=by
 unfold KW at h
 split at h
 ·rename_i n' e' he
  obtain ⟨k',hk,h2⟩:=Option.map_eq_some_iff.1 h
  simp only [Prod.mk.injEq] at h2
  obtain ⟨rfl,rfl,rfl⟩:=h2
  exact ⟨he,hk⟩
 ·cases h
theorem Jr {t:TypeId} (h:QW P t=true):P.underlying t=some .string:=by
 unfold QW at h
 split at h
 ·assumption
 ·cases h
theorem Tv {t:TypeId} (h:Yj P t=true):∃ e,P.underlying t=some (.slice e)∧P.underlying e=some (.int .u8):=by
 unfold Yj at h
 split at h
 ·rename_i e he
  split at h
  ·rename_i he2; exact ⟨e,he,he2⟩
  ·cases h
 ·cases h
theorem TR {t:TypeId} {f off:Nat} {ft:TypeId} (h:PK P t f=some (off,ft)):∃ fs x,P.underlying t=some (.struct fs)∧fs[f]?=some x∧x.offset=off∧x.type=ft:=by
 unfold PK at h
 split at h
 ·rename_i fs hfs
  obtain ⟨x,hx,h2⟩:=Option.map_eq_some_iff.1 h
  simp only [Prod.mk.injEq] at h2
  exact ⟨fs,x,hfs,hx,h2.1,h2.2⟩
 ·cases h
theorem Anm (he:AC c w e a) {x:Operand} {ty:TypeId} (h:pop (.mov (trO x)) e c.H K):Ap P c w a K (.move x) ty :=
 fun o ho _=>⟨_,a.eval x,by simp [execOp,ho],he.ev x,h⟩
theorem Anz (he:AC c w e a) {x:Operand} {ty:TypeId} (h:pop (.mov (trO x)) e c.H K):Ap P c w a K (.assign x) ty :=
 fun o ho _=>⟨_,a.eval x,by simp [execOp,ho],he.ev x,h⟩
theorem AC.val (he:AC c w e a) {x:Operand} {v:Value} (h:(trO x).ev e = .val v):a.eval x=v:=by
 have:=he.ev x; rw [h,Rep.val] at this; exact this
theorem AC.rep (he:AC c w e a) {x:Operand} {y:TV} (h:(trO x).ev e=y):Rep c w y (a.eval x):=h▸he.ev x
theorem AlG (he:AC c w e a) {x y z:Operand} {ty:TypeId} (h:pop (.pick (trO x) (trO y) (trO z)) e c.H K):Ap P c w a K (.pick x y z) ty:=by
 simp only [pop] at h
 split at h
 ·rename_i t ht
  have hx:=he.val ht
  intro o ho _
  refine ⟨_,if t then a.eval y else a.eval z,by simp [execOp,ho,hx,asBool],?_,h⟩
  cases t<;>exact he.ev _
 ·exact h.elim
theorem AjV (he:AC c w e a) {op:BinOp} {t yt:TypeId} {x y:Operand} {ty:TypeId} (h:pop (.bin t op (trO x) (trO y)) e c.H K):Ap P c w a K (.binOp op t x y yt) ty:=by
 simp only [pop] at h
 split at h
 ·rename_i u v hu hv
  obtain ⟨hc,h⟩:=h
  split at h
  ·rename_i r hr
   exact Ap.mk (s:=do eqGuard op t x y (a.eval x) (a.eval y); binOp op t (a.eval x) (a.eval y)) (fun o ho _=>by simp only [execOp,ho]) (by simp [he.val hu,he.val hv,J7 hc,Aeh hr]) Rep.of_val h
  ·exact h.elim
 ·exact h.elim
theorem ApF (he:AC c w e a) {op:UnOp} {t:TypeId} {x:Operand} {ty:TypeId} (h:pop (.un op (trO x)) e c.H K):Ap P c w a K (.unOp op t x) ty:=by
 simp only [pop] at h
 split at h
 ·rename_i u hu
  split at h
  ·rename_i r hr
   exact Ap.mk (s:=Op.unary op (a.eval x)) (fun o ho _=>by simp only [execOp,ho]) (by rw [he.val hu]; exact AhW hr) Rep.of_val h
  ·exact h.elim
 ·exact h.elim
theorem Alb (he:AC c w e a) {src dst:TypeId} {k k':IntKind} (h1:P.underlying src=some (.int k')) (h2:P.underlying dst=some (.int k)) {x:Operand} {ty:TypeId} (h:pop (.conv k (trO x)) e c.H K):Ap P c w a K (.convert src dst x) ty:=by
 simp only [pop] at h
 split at h
 ·rename_i k'' n hu
  exact Ap.mk (s:=convert src dst (a.eval x)) (fun o ho _=>by simp only [execOp,ho]) (by rw [he.val hu]; simp [convert,run_underlying h1,run_underlying h2,Conv.intToInt]) Rep.of_val h
 ·exact h.elim
theorem Anr (he:AC c w e a) {src dst:TypeId} {k:IntKind} (h1:P.underlying src=some (.int k)) (h2:P.underlying dst=some .string) {x:Operand} {ty:TypeId} (h:pop (.gen .r2s [trO x]) e c.H K):Ap P c w a K (.convert src dst x) ty:=by
 simp only [pop,List.map_cons,List.map_nil] at h
 split at h
 ·rename_i y hy
  unfold gev at hy
  split at hy<;>simp only [List.cons.injEq,and_true,reduceCtorEq,and_false] at * <;> try (cases hy; done)
  rename_i q n hu
  cases hy
  exact Ap.mk (s:=convert src dst (a.eval x)) (fun o ho _=>by simp only [execOp,ho]) (by rw [he.val hu]; simp [convert,run_underlying h1,run_underlying h2,Conv.intToString]) Rep.of_val h
 ·exact h.elim
theorem Aof (he:AC c w e a) {src dst:TypeId} (h1:P.underlying src=some .string) (h2:P.underlying dst=some .string) {x:Operand} {ty:TypeId} (h:pop (.s2s (trO x)) e c.H K):Ap P c w a K (.convert src dst x) ty:=by
 simp only [pop] at h
 split at h
 ·rename_i s hu
  exact Ap.mk (s:=convert src dst (a.eval x)) (fun o ho _=>by simp only [execOp,ho]) (by rw [he.val hu]; simp [convert,run_underlying h1,run_underlying h2]) Rep.of_val h
 ·exact h.elim
theorem Hw {c:Ctx} {w:World}:∀ {cs:List TV} {us:List Value},(∀ y∈cs,Abj y)→Ah c w cs us→us=(cs.map TT).map fun b:UInt8=>Value.int .u8 b.toNat
 | [],us,_,h=>by rw [Ah] at h; subst h; rfl
 | x::cs,us,hb,h=>by
  rw [Ah] at h
  obtain ⟨m,b,rfl,h1,h2⟩:=h
  obtain ⟨v,rfl⟩:=hb x (by simp)
  rw [Ag] at h1
  rw [h1.1,Hw (fun y hy=>hb y (by simp [hy])) h2]
  simp
theorem AnM (hs:Sim c w) (he:AC c w e a) {src dst:TypeId} (h1:Yj P src=true) (h2:P.underlying dst=some .string) {x:Operand} {ty:TypeId} (h:pop (.b2s (trO x)) e c.H K):Ap P c w a K (.convert src dst x) ty:=by
 simp only [pop] at h
 split at h
 ·rename_i cs hcs
  obtain ⟨hb,h⟩:=h
  obtain ⟨e1,h1a,h1b⟩:=Tv h1
  obtain ⟨_,us,hus,hrd⟩:=Px hs (he.ev x) hcs
  have hu:=Hw hb hus
  refine Ap.mk (s:=convert src dst (a.eval x)) (fun o ho _=>by simp only [execOp,ho]) (v := .string (str (cs.map TT))) ?_ Rep.of_val h
  generalize a.eval x=v at hrd
  cases hrd with
  | mem b off cap hc hl hn hcap =>
   have hlen:cs.length=(cs.map TT).length:=by simp
   rw [hlen]
   refine run_convert_bytes_back w src dst e1 ⟨b,off,none⟩ cap (cs.map TT) h1a h1b h2 fun j hj => ?_
   rw [CV]
   refine hc j _ ?_
   rw [hu,List.getElem?_map,List.getElem?_eq_getElem hj]; rfl
  | none ad cap hn h0 hcap =>
   have:cs=[]:=List.length_eq_zero_iff.1 hn
   subst this
   cases ad with
   | none=>exact run_convert_bytes_nil w src e1 h1a h1b 0 cap dst h2
   | some ad=>exact run_convert_bytes_back w src dst e1 ad cap [] h1a h1b h2 (fun j hj=>by simp at hj)
 ·exact h.elim
theorem Ag9 (hs:Sim c w) (he:AC c w e a) {t:TypeId} {ag:Bool} {sz:Nat} (h1:Us P t=some ag) (h2:Oe P t=some sz) {x:Operand} {ty:TypeId} (h:pop (.load ag sz (trO x)) e c.H K):Ap P c w a K (.load t x) ty:=by
 simp only [pop] at h
 split at h
 ·rename_i y hy
  obtain ⟨hl,h⟩:=h
  obtain ⟨b,off,vs,hv,hF,hr,hc⟩:=(he.rep hy).fp
  exact Ap.mk (s:=Instr.loadAt t (a.eval x)) (fun o ho _=>by simp only [execOp,ho]) (by rw [hv]; exact KX h1 h2 hr hc hl) (Rep.unbare (Rep.of_cells hr)) h
 ·rename_i id ver p hy
  split at h
  ·rename_i v z hid
   obtain ⟨rfl,h⟩:=h
   split at h
   ·rename_i y hg
    obtain ⟨hl,h⟩:=h
    obtain ⟨_,b,o,hb,hv⟩:=(he.rep hy).op
    obtain ⟨us,hr,hc⟩:=YQ hs hid hb hg
    exact Ap.mk (s:=Instr.loadAt t (a.eval x)) (fun o ho _=>by simp only [execOp,ho]) (by rw [hv]; exact KX h1 h2 hr hc hl) (Rep.of_cells hr) h
   ·exact h.elim
  ·exact h.elim
 ·exact h.elim
theorem Af2 (he:AC c w e a) {t ft:TypeId} {f off sz:Nat} (h1:PK P t f=some (off,ft)) (h2:Oe P ft=some sz) (h3:sz≠0) {x:Operand} {ty:TypeId} (h:pop (.fieldA f off (trO x)) e c.H K):Ap P c w a K (.fieldAddr t x f) ty:=by
 obtain ⟨fs,fx,k1,k2,rfl,rfl⟩:=TR h1
 have run:∀ b o,a.eval x = .pointer (some ⟨b,o,none⟩)→(Instr.fieldAt t (a.eval x) f).run P w = .ok (.pointer (some ⟨b,o+fx.offset,none⟩)) w:=fun b o hx=>by
  rw [hx]; simp [Instr.fieldAt,run_underlying k1,k2,Instr.sureAddr,fieldPlace,Ce h2,h3,CV]
 simp only [pop] at h
 split at h
 ·rename_i id ver p hy
  obtain ⟨g1,b,o,hb,hv⟩:=(he.rep hy).op
  exact Ap.mk (s:=Instr.fieldAt t (a.eval x) f) (fun o ho _=>by simp only [execOp,ho]) (run _ _ hv) (Rep.mk_op g1 hb (by rw [Q8]; simp [C9,Nat.add_assoc])) h
 ·rename_i cs hy
  obtain ⟨hw,h⟩:=h
  split at h
  ·rename_i y hi
   obtain ⟨b,o,vs,hv,hF,hr,hc⟩:=(he.rep hy).fp
   rw [Ag] at hr
   obtain ⟨m1,m2,m3,rfl,e1,e2,_⟩:=O1 hr hi
   refine Ap.mk (s:=Instr.fieldAt t (a.eval x) f) (fun o ho _=>by simp only [execOp,ho]) (run _ _ hv) (Rep.mk_fp rfl hF e2 ?_) h
   intro j u hu
   have hj:=(List.getElem?_eq_some_iff.1 hu).1
   have:=hc (fx.offset+j) u (by
    rw [←hw,←e1,List.append_assoc,List.getElem?_append_right (by omega),List.getElem?_append_left (by omega),←hu]
    congr 1; omega)
   rwa [←Nat.add_assoc] at this
  ·exact h.elim
 ·exact h.elim
theorem Aaa {w:World} {t:TypeId} {ag:Bool} {sz off:Nat} {y:TV} {m1 m2 m3:List Value} {c':Ctx} (h1:Us P t=some ag) (h2:Oe P t=some sz) (hr:Ag c' w y m2) (hy:V7 ag sz y) (ho:m1.length=off) :
  (part t (m1++m2++m3).toArray off).run P w = .ok (mkV y m2) w:=by
 obtain ⟨hw,ha⟩:=hy
 have hl:=hr.length
 cases ag with
 | true =>
  have:(m1++m2++m3).toArray.extract off (off+sz)=m2.toArray:=by
   apply Array.ext'
   simp only [Array.toList_extract,List.extract_eq_take_drop]
   rw [←ho,←hw,←hl]; simp
  simp [part,FU h1,Ce h2,ZW ha] at this ⊢
  exact this
 | false =>
  have h3:Aw y=1:=by cases y<;>first | rfl | simp [Uf] at ha
  rw [h3] at hl
  obtain ⟨u,rfl⟩:=List.length_eq_one_iff.1 hl
  simp [part,FU h1,←ho,Uu ha]
theorem AhB (he:AC c w e a) {t ft:TypeId} {f off sz:Nat} {ag:Bool} (h1:PK P t f=some (off,ft)) (h2:Us P ft=some ag) (h3:Oe P ft=some sz) {x:Operand} {ty:TypeId} (h:pop (.field ag sz f off (trO x)) e c.H K):Ap P c w a K (.field t x f) ty:=by
 obtain ⟨fs,fx,k1,k2,rfl,rfl⟩:=TR h1
 simp only [pop] at h
 split at h
 ·rename_i cs hy
  obtain ⟨hw,h⟩:=h
  split at h
  ·rename_i y hi
   obtain ⟨hl,h⟩:=h
   obtain ⟨us,hv,hr⟩:=(he.rep hy).agg
   obtain ⟨m1,m2,m3,rfl,e1,e2,_⟩:=O1 hr hi
   have hp:=Aaa (P:=P) (m3:=m3) h2 h3 e2 hl (e1.trans hw)
   refine Ap.mk (s:=Instr.field t (a.eval x) f) (fun o ho _=>by simp only [execOp,ho]) (v:=mkV y m2) ?_ (Rep.of_cells e2) h
   rw [hv]; simp only [Instr.field,Sem.run_bind,run_underlying k1,Result.andThen_ok,k2,asAgg,Sem.run_pure,hp]
  ·exact h.elim
 ·exact h.elim
theorem MF {k:IntKind} {j:Int} {w:World}:(asIntOf (.int k j)).run P w = .ok (k,j) w:=rfl
theorem Zk {c':Ctx} {w:World} {cs:List TV} {k:Nat} {us:List Value} (hk:∀ x∈cs,Aw x=k) (hr:Ah c' w cs us) {i:Nat} {y:TV} (hi:cs[i]?=some y):∃ m1 m2 m3,us=m1++m2++m3∧m1.length=i*k∧Ag c' w y m2∧i<cs.length:=by
 obtain ⟨m1,m2,m3,rfl,e1,e2,_⟩:=O1 hr hi
 exact ⟨m1,m2,m3,rfl,by rw [e1,QC hk hi],e2,(List.getElem?_eq_some_iff.1 hi).1⟩
theorem MC {w:World} {b off:Nat} {m1 m2 m3:List Value} (h:Cc w b off (m1++m2++m3)) {d:Nat} (hd:m1.length=d):Cc w b (off+d) m2:=by
 intro j u hu
 have hj:=(List.getElem?_eq_some_iff.1 hu).1
 have:=h (d+j) u (by
  rw [←hd,List.append_assoc,List.getElem?_append_right (by omega),List.getElem?_append_left (by omega),←hu]
  congr 1; omega)
 rwa [←Nat.add_assoc] at this
theorem Al5 (he:AC c w e a) {t et:TypeId} {k:Nat} (h1:Bi P t=some (k,et)) {x i:Operand} {ty:TypeId} (h:pop (.idxA k (trO x) (trO i)) e c.H K):Ap P c w a K (.indexAddr t x i) ty:=by
 obtain ⟨k1,k2⟩:=AQ h1
 simp only [pop] at h
 split at h
 ·rename_i k' cs ik j hx hi
  obtain ⟨rfl,h0,h⟩:=h
  split at h
  ·rename_i y hy
   obtain ⟨hk,hr⟩:=(he.rep hx).sl
   rcases hr with ⟨rfl,_⟩ | ⟨b,off,cap,vs,hv,h3,h4,h5,h6,h7⟩
   ·simp at hy
   obtain ⟨m1,m2,m3,rfl,e1,e2,hlt⟩:=Zk hk h6 hy
   refine Ap.mk (s:=Instr.indexAt t (a.eval x) (a.eval i)) (fun o ho _=>by simp only [execOp,ho]) (v := .pointer (some ⟨b,off+j.toNat*k',none⟩)) ?_ (Rep.mk_fp rfl h5 e2 (MC h7 e1)) h
   rw [hv,he.val hi]
   have:j<cs.length:=by omega
   simp [Instr.indexAt,MF,run_underlying k1,h0,this,Ce k2,CV]
  ·exact h.elim
 ·rename_i k' id ver p off n cp ik j hx hi
  obtain ⟨rfl,h0,hn,h⟩:=h
  have hr:=(he.rep hx).os
  rw [Ag] at hr
  obtain ⟨g1,hr⟩:=hr
  rcases hr with ⟨rfl,_⟩ | ⟨b,o,cap,t',m,hb,hv,h3,h4,h5,h6⟩
  ·omega
  have hv':a.eval x = .slice (some ⟨b,o+C9 p+off*k',none⟩) n cap:=by simpa using hv
  refine Ap.mk (s:=Instr.indexAt t (a.eval x) (a.eval i)) (fun o ho _=>by simp only [execOp,ho]) (v := .pointer (some ⟨b,o+C9 p+off*k'+j.toNat*k',none⟩)) ?_ (Rep.mk_op g1 hb ?_) h
  ·rw [hv',he.val hi]
   simp [Instr.indexAt,MF,run_underlying k1,h0,hn,Ce k2,CV]
  ·rw [Q8]; simp only [C9]
   rw [show o+(C9 p+((off+j.toNat)*k'+0))=o+C9 p+off*k'+j.toNat*k' from by rw [Nat.add_mul]; omega]
 ·exact h.elim
theorem Ai3 (he:AC c w e a) {t et:TypeId} {n k:Nat} (h1:KW P t=some (n,k,et)) {x i:Operand} {ty:TypeId} (h:pop (.idxAA n k (trO x) (trO i)) e c.H K):Ap P c w a K (.indexAddr t x i) ty:=by
 obtain ⟨k1,k2⟩:=J8 h1
 simp only [pop] at h
 split at h
 ·rename_i n' k' cs ik j hx hi
  obtain ⟨rfl,rfl,h0,h⟩:=h
  split at h
  ·rename_i y hy
   obtain ⟨b,off,vs,hv,hF,hr,hc⟩:=(he.rep hx).fp
   rw [Ag] at hr
   obtain ⟨rfl,hk,hr⟩:=hr
   obtain ⟨m1,m2,m3,rfl,e1,e2,hlt⟩:=Zk hk hr hy
   refine Ap.mk (s:=Instr.indexAt t (a.eval x) (a.eval i)) (fun o ho _=>by simp only [execOp,ho]) (v := .pointer (some ⟨b,off+j.toNat*k',none⟩)) ?_ (Rep.mk_fp rfl hF e2 (MC hc e1)) h
   rw [hv,he.val hi]
   have:j<cs.length:=by omega
   simp [Instr.indexAt,MF,run_underlying k1,h0,this,Ce k2,CV,Instr.sureAddr]
  ·exact h.elim
 ·rename_i id ver p ik j hx hi
  obtain ⟨h0,hn,h⟩:=h
  obtain ⟨g1,b,o,hb,hv⟩:=(he.rep hx).op
  refine Ap.mk (s:=Instr.indexAt t (a.eval x) (a.eval i)) (fun o ho _=>by simp only [execOp,ho]) (v := .pointer (some ⟨b,o+C9 p+j.toNat*k,none⟩)) ?_ (Rep.mk_op g1 hb ?_) h
  ·rw [hv,he.val hi]
   simp [Instr.indexAt,MF,run_underlying k1,h0,hn,Ce k2,CV,Instr.sureAddr]
  ·rw [Q8]; simp only [C9]; rw [show o+(C9 p+(j.toNat*k+0))=o+C9 p+j.toNat*k from by omega]
 ·exact h.elim
theorem Ani (he:AC c w e a) {t et:TypeId} {n k:Nat} {ag:Bool} (h1:KW P t=some (n,k,et)) (h2:Us P et=some ag) {x i:Operand} {ty:TypeId} (h:pop (.idx ag n k (trO x) (trO i)) e c.H K):Ap P c w a K (.index t x i) ty:=by
 obtain ⟨k1,k2⟩:=J8 h1
 simp only [pop] at h
 split at h
 ·rename_i n' k' cs ik j hx hi
  obtain ⟨rfl,rfl,h0,h⟩:=h
  split at h
  ·rename_i y hy
   obtain ⟨hl,h⟩:=h
   obtain ⟨us,hv,rfl,hk,hr⟩:=(he.rep hx).arr
   obtain ⟨m1,m2,m3,rfl,e1,e2,hlt⟩:=Zk hk hr hy
   have hp:=Aaa (P:=P) (m3:=m3) h2 k2 e2 hl e1
   refine Ap.mk (s:=Instr.index t (a.eval x) (a.eval i)) (fun o ho _=>by simp only [execOp,ho]) (v:=mkV y m2) ?_ (Rep.unbare (Rep.of_cells e2)) h
   rw [hv,he.val hi]
   have:j<cs.length:=by omega
   simp only [Instr.index,Sem.run_bind,MF,Result.andThen_ok,run_underlying k1,h0,this,and_self,if_true,Ce k2,hp]
  ·exact h.elim
 ·exact h.elim
theorem Alc (he:AC c w e a) {t:TypeId} (h1:QW P t=true) {x i:Operand} {ty:TypeId} (h:pop (.idxS (trO x) (trO i)) e c.H K):Ap P c w a K (.index t x i) ty:=by
 have k1:=Jr h1
 simp only [pop] at h
 split at h
 ·rename_i s ik j hx hi
  obtain ⟨h0,h⟩:=h
  split at h
  ·rename_i b hb
   refine Ap.mk (s:=Instr.index t (a.eval x) (a.eval i)) (fun o ho _=>by simp only [execOp,ho]) (v := .int .u8 b.toNat) ?_ Rep.of_val h
   rw [he.val hx,he.val hi]
   have hb':s[j.toNat]?=some b:=by
    obtain ⟨hlt,he'⟩:=List.getElem?_eq_some_iff.1 hb
    have hlt':j.toNat<s.size:=by simpa [bl] using hlt
    rw [getElem?_pos s j.toNat hlt']
    rw [←he']; simp [bl]; rfl
   simp [Instr.index,MF,run_underlying k1,h0,hb']
  ·exact h.elim
 ·exact h.elim
theorem AmZ (he:AC c w e a) {x:Operand} {i:Nat} {ty:TypeId} (h:pop (.ext i (trO x)) e c.H K):Ap P c w a K (.extract x i) ty:=by
 simp only [pop] at h
 split at h
 ·rename_i xs hx
  split at h
  ·rename_i y hy
   obtain ⟨vs,hv,hr⟩:=(he.rep hx).tup
   have key:∀ {xs:List TV} {vs:List Value} {i:Nat},AY c w xs vs→xs[i]?=some y→∃ u,vs[i]?=some u∧AaL c w y u:=by
    intro xs
    induction xs with
    | nil=>intro vs i _ h; simp at h
    | cons z xs ih =>
     intro vs i hr hi
     obtain ⟨u,us,rfl,h1,h2⟩:=AY.cons.1 hr
     cases i with
     | zero=>simp at hi; subst hi; exact ⟨u,rfl,h1⟩
     | succ i =>
      obtain ⟨u',e1,e2⟩:=ih h2 (i:=i) (by simpa using hi)
      exact ⟨u',by simpa using e1,e2⟩
   obtain ⟨u,hu,hru⟩:=key hr hy
   refine Ap.mk (s:=Instr.extract (a.eval x) i) (fun o ho _=>by simp only [execOp,ho]) (v:=u) ?_ (.inl hru) h
   rw [hv]; simp [Instr.extract,hu]
  ·exact h.elim
 ·exact h.elim
theorem Al3 (he:AC c w e a) {x:Operand} {t ty:TypeId} (h1:QW P t=true) (h:pop (.lenS (trO x)) e c.H K):Ap P c w a K (.call { callee := .builtin .len,args:=[x].toArray,argTypes:=[t].toArray }) ty:=by
 have h2:=Jr h1
 simp only [pop] at h
 split at h
 ·rename_i s hx
  have hv:=he.val hx
  have hsz:(bl s).length=s.size:=by simp [bl]
  intro o ho hot
  refine ⟨.val (.int .i64 (bl s).length),.int .i64 (bl s).length,?_,Rep.of_val,h⟩
  simp [execOp,ho,resolve,invoke,builtin,hv,Builtin.len_,run_underlying h2,goInt,hsz]
 ·exact h.elim
theorem AjR (he:AC c w e a) {x:Operand} {t ty:TypeId} (h1:(Bi P t).isSome=true) (h:pop (.lenV (trO x)) e c.H K):Ap P c w a K (.call { callee := .builtin .len,args:=[x].toArray,argTypes:=[t].toArray }) ty:=by
 obtain ⟨⟨k,et⟩,h1⟩:=Option.isSome_iff_exists.1 h1
 have h2:=(AQ h1).1
 have run:∀ (ad:Option Addr) (n cap:Nat),a.eval x = .slice ad n cap→K (.val (.int .i64 n))→Ap P c w a K (.call { callee := .builtin .len,args:=[x].toArray,argTypes:=[t].toArray }) ty:=by
  intro ad n cap hv hk o ho hot
  refine ⟨.val (.int .i64 n),.int .i64 n,?_,Rep.of_val,hk⟩
  simp [execOp,ho,resolve,invoke,builtin,hv,Builtin.len_,run_underlying h2,goInt]
 simp only [pop] at h
 split at h
 ·rename_i ad n cap hx
  exact run _ _ _ (he.val hx) h
 ·rename_i k' cs hx
  obtain ⟨_,hr⟩:=(he.rep hx).sl
  rcases hr with ⟨rfl,ad,cap,hv,_⟩ | ⟨b,off,cap,vs,hv,_⟩
  ·exact run _ _ _ hv h
  ·exact run _ _ _ hv h
 ·rename_i k' id ver p off n cp hx
  have hr:=(he.rep hx).os
  rw [Ag] at hr
  rcases hr.2 with ⟨rfl,ad,hv,_⟩ | ⟨b,o,cap,t',m,hb,hv,_⟩
  ·exact run ad 0 0 (by simpa using hv) h
  ·exact run _ _ _ (by simpa using hv) h
 ·exact h.elim
theorem Aok (he:AC c w e a) {x:Operand} {lo hi:Option Operand} {t ty:TypeId} (h1:QW P t=true) (h:pop (.slS (trO x) (lo.map trO) (hi.map trO)) e c.H K):Ap P c w a K (.slice t x lo hi none) ty:=by
 have h2:=Jr h1
 simp only [pop] at h
 split at h
 ·rename_i s hx
  have hsz:(bl s).length=s.size:=by simp [bl]
  obtain ⟨l,m,e1,e2,hk,hr⟩:=Fe (P:=P) (w:=w) he false (Nat.le_refl _) (Nat.le_refl _) (fun _=>Nat.le_refl _) h
  rw [hsz] at hr e2
  refine Ap.mk (s:=Instr.sliceAt t (a.eval x) (lo.map a.eval) (hi.map a.eval) none) (fun o ho _=>by simp only [execOp,ho,Option.map_none]) (v := .string (str (((bl s).drop l).take (m - l)))) ?_ Rep.of_val hk
  rw [he.val hx]
  have hex:s.extract l m=str (((bl s).drop l).take (m - l)):=by
   apply ByteArray.ext
   apply Array.ext'
   simp [str,bl,List.extract_eq_take_drop]
  simp only [Instr.sliceAt,Sem.run_bind,run_underlying h2,Result.andThen_ok,Instr.slice,hr,Option.isSome_none,Bool.false_eq_true,if_false,Sem.run_pure,hex]
 ·exact h.elim
theorem Aoj (he:AC c w e a) {x:Operand} {lo hi:Option Operand} {t et ty:TypeId} {k:Nat} (h1:Bi P t=some (k,et)) (h:pop (.slV k (trO x) (lo.map trO) (hi.map trO)) e c.H K):Ap P c w a K (.slice t x lo hi none) ty:=by
 obtain ⟨k1,k2⟩:=AQ h1
 have run:∀ (ad:Option Addr) (n cap l m:Nat),a.eval x = .slice ad n cap→(Instr.sliceBounds true n cap (lo.map a.eval) (hi.map a.eval) none).run P w = .ok (l,m,cap) w →
   (Instr.sliceAt t (a.eval x) (lo.map a.eval) (hi.map a.eval) none).run P w = .ok (.slice (if cap=l then ad else ad.map (·.add (l*k))) (m - l) (cap - l)) w:=by
  intro ad n cap l m hv hr
  rw [hv]
  simp only [Instr.sliceAt,Sem.run_bind,run_underlying k1,Result.andThen_ok,Instr.slice,hr,Ce k2,Sem.run_pure]
 have mk:∀ {y:TV} {v:Value},(Instr.sliceAt t (a.eval x) (lo.map a.eval) (hi.map a.eval) none).run P w = .ok v w→Rep c w y v→K y→Ap P c w a K (.slice t x lo hi none) ty:=fun hr hy hk =>
  Ap.mk (s:=Instr.sliceAt t (a.eval x) (lo.map a.eval) (hi.map a.eval) none) (fun o ho _=>by simp only [execOp,ho,Option.map_none]) hr hy hk
 simp only [pop] at h
 split at h
 ·rename_i k' cs hx
  obtain ⟨rfl,h⟩:=h
  obtain ⟨hw,hr⟩:=(he.rep hx).sl
  rcases hr with ⟨rfl,ad,cap,hv,hc⟩ | ⟨b,off,cap,vs,hv,h3,h4,h5,h6,h7⟩
  ·obtain ⟨l,m,e1,e2,hk,hb⟩:=Fe (P:=P) (w:=w) he true (Nat.zero_le cap) (Nat.zero_le cap) (fun h=>by cases h) h
   have hl:l=0:=by simp at e2; omega
   have hm:m=0:=by simp at e2; omega
   subst hl; subst hm
   refine mk (run _ _ _ _ _ hv hb) ?_ hk
   refine Rep.of1 ?_ (by simp) (by simp)
   rw [Ag]
   exact ⟨by simp,.inl ⟨by simp,_,cap - 0,rfl,by omega⟩⟩
  ·obtain ⟨l,m,e1,e2,hk,hb⟩:=Fe (P:=P) (w:=w) he true h3 h3 (fun h=>by cases h) h
   refine mk (run _ _ _ _ _ hv hb) ?_ hk
   refine Rep.of1 ?_ (by simp) (by simp)
   have hlen:((cs.drop l).take (m - l)).length=m - l:=by simp; omega
   rw [Ag]
   refine ⟨fun y hy=>hw y (List.mem_of_mem_drop (List.mem_of_mem_take hy)),?_⟩
   by_cases hcl:cap=l
   ·left
    have hm0:m - l=0:=by omega
    refine ⟨by rw [←List.length_eq_zero_iff,hlen,hm0],_,cap - l,by rw [hm0],by omega⟩
   ·right
    rw [if_neg hcl]
    rw [show cs=cs.take l++((cs.drop l).take (m - l)++(cs.drop l).drop (m - l)) from by rw [List.take_append_drop,List.take_append_drop]] at h6
    obtain ⟨a1,a2,rfl,g1,g2⟩:=Ah.split h6
    obtain ⟨b1,b2,rfl,g3,g4⟩:=Ah.split g2
    have ha1:a1.length=l*k':=by rw [g1.length,Bj (fun y hy=>hw y (List.mem_of_mem_take hy)),List.length_take]; congr 1; omega
    refine ⟨b,off+l*k',cap - l,b1,?_,by rw [hlen]; omega,by omega,h5,g3,?_⟩
    ·rw [hlen]; simp [CV]
    ·rw [←List.append_assoc] at h7; exact MC h7 ha1
 ·rename_i k' id ver p off n cp hx
  obtain ⟨rfl,h⟩:=h
  have hr:=(he.rep hx).os
  rw [Ag] at hr
  obtain ⟨g1,hr⟩:=hr
  rcases hr with ⟨rfl,ad,hv,hcp0,han⟩ | ⟨b,o,cap,t',m',hb,hv,h3,h4,h5,h6,hcpc⟩
  ·have hv':a.eval x = .slice ad 0 0:=by simpa using hv
   obtain ⟨l,m,e1,e2,hk,hb⟩:=Fe (P:=P) (w:=w) he true (Nat.le_refl _) (by omega) (fun h=>by cases h) h
   have hl:l=0:=by omega
   have hm:m=0:=by omega
   subst hl; subst hm
   refine mk (run _ _ _ _ _ hv' hb) (Rep.of1 ?_ (by simp) (by simp)) hk
   rw [Ag]; exact ⟨g1,.inl ⟨rfl,_,rfl,by omega,by simpa using han⟩⟩
  ·have hv':a.eval x = .slice (some ⟨b,o+C9 p+off*k',none⟩) n cap:=by simpa using hv
   obtain ⟨l,m,e1,e2,hk,hb2⟩:=Fe (P:=P) (w:=w) he true h3 hcpc (fun h=>by cases h) h
   refine mk (run _ _ _ _ _ hv' hb2) (Rep.of1 ?_ (by simp) (by simp)) hk
   rw [Ag]
   refine ⟨g1,?_⟩
   by_cases hcl:cap=l
   ·left; exact ⟨by omega,_,by rw [show m - l=0 from by omega,show cap - l=0 from by omega],by omega,fun ad had=>by rw [if_pos hcl] at had; cases had; show (w.shape? b).isSome=true; rw [h5]; rfl⟩
   ·right
    rw [if_neg hcl]
    refine ⟨b,o,cap - l,t',m',hb,by simp [CV,Nat.add_mul,Nat.add_assoc],by omega,by omega,h5,?_,by omega⟩
    rw [Nat.add_mul,Nat.sub_mul]
    have:l*k'≤cap*k':=Nat.mul_le_mul_right _ (by omega)
    omega
 ·rename_i ad hx
  have hv:=he.val hx
  obtain ⟨l,m,e1,e2,hk,hb⟩:=Fe (P:=P) (w:=w) he true (Nat.le_refl _) (Nat.le_refl _) (fun h=>by cases h) h
  have hl:l=0:=by omega
  have hm:m=0:=by omega
  subst hl; subst hm
  have hr:=run _ _ _ _ _ hv hb
  simp only [if_true,Nat.sub_self] at hr
  exact mk hr Rep.of_val hk
 ·exact h.elim
theorem AmW (hs:Sim c w) (he:AC c w e a) {x:Operand} {lo hi:Option Operand} {t et ty:TypeId} {n k:Nat} (h1:KW P t=some (n,k,et)) (h:pop (.slA n k (trO x) (lo.map trO) (hi.map trO)) e c.H K):Ap P c w a K (.slice t x lo hi none) ty:=by
 obtain ⟨k1,k2⟩:=J8 h1
 have run:∀ (ad:Addr) (l m:Nat),a.eval x = .pointer (some ad)→(Instr.sliceBounds false n n (lo.map a.eval) (hi.map a.eval) none).run P w = .ok (l,m,n) w →
   (Instr.sliceAt t (a.eval x) (lo.map a.eval) (hi.map a.eval) none).run P w = .ok (.slice (some (if n=l then ad else ad.add (l*k))) (m - l) (n - l)) w:=by
  intro ad l m hv hr
  rw [hv]
  simp only [Instr.sliceAt,Sem.run_bind,run_underlying k1,Result.andThen_ok,Instr.sureAddr,hr,Ce k2,Sem.run_pure]
 have mk:∀ {y:TV} {v:Value},(Instr.sliceAt t (a.eval x) (lo.map a.eval) (hi.map a.eval) none).run P w = .ok v w→Rep c w y v→K y→Ap P c w a K (.slice t x lo hi none) ty:=fun hr hy hk =>
  Ap.mk (s:=Instr.sliceAt t (a.eval x) (lo.map a.eval) (hi.map a.eval) none) (fun o ho _=>by simp only [execOp,ho,Option.map_none]) hr hy hk
 simp only [pop] at h
 split at h
 ·rename_i n' k' cs hx
  obtain ⟨rfl,rfl,hnm,h⟩:=h
  obtain ⟨b,off,vs,hv,hF,hr,hc⟩:=(he.rep hx).fp
  rw [Ag] at hr
  obtain ⟨hcl,hw,hr⟩:=hr
  obtain ⟨l,m,e1,e2,hk,hb⟩:=Fe (P:=P) (w:=w) he false (Nat.le_refl _) (Nat.le_refl _) (fun _=>Nat.le_refl _) h
  refine mk (run _ _ _ hv hb) (Rep.of1 ?_ (by simp) (by simp)) hk
  have hlen:((cs.drop l).take (m - l)).length=m - l:=by simp; omega
  rw [Ag]
  refine ⟨fun y hy=>hw y (List.mem_of_mem_drop (List.mem_of_mem_take hy)),?_⟩
  by_cases hnl:n'=l
  ·left
   have hm0:m - l=0:=by omega
   exact ⟨by rw [←List.length_eq_zero_iff,hlen,hm0],_,n' - l,by rw [hm0],by omega⟩
  ·right
   rw [if_neg hnl]
   rw [show cs=cs.take l++((cs.drop l).take (m - l)++(cs.drop l).drop (m - l)) from by rw [List.take_append_drop,List.take_append_drop]] at hr
   obtain ⟨a1,a2,rfl,g1,g2⟩:=Ah.split hr
   obtain ⟨b1,b2,rfl,g3,g4⟩:=Ah.split g2
   have ha1:a1.length=l*k':=by rw [g1.length,Bj (fun y hy=>hw y (List.mem_of_mem_take hy)),List.length_take]; congr 1; omega
   refine ⟨b,off+l*k',n' - l,b1,by rw [hlen,CV],by rw [hlen]; omega,by omega,hF,g3,?_⟩
   rw [←List.append_assoc] at hc; exact MC hc ha1
 ·rename_i id ver p hx
  split at h
  ·rename_i v z hid
   obtain ⟨rfl,hnm,h⟩:=h
   split at h
   ·rename_i n' k' cs hg
    obtain ⟨rfl,rfl,h⟩:=h
    obtain ⟨g1,b,o,hb,hv⟩:=(he.rep hx).op
    obtain ⟨l,m,e1,e2,hk,hb2⟩:=Fe (P:=P) (w:=w) he false (Nat.le_refl _) (Nat.le_refl _) (fun _=>Nat.le_refl _) h
    refine mk (run _ _ _ hv hb2) (Rep.of1 ?_ (by simp) (by simp)) hk
    rw [Ag]
    refine ⟨g1,?_⟩
    by_cases hnl:n'=l
    ·left; exact ⟨by omega,_,by rw [show m - l=0 from by omega,show n' - l=0 from by omega],by omega,fun ad had=>by
      rw [if_pos hnl] at had; cases had
      show (w.shape? b).isSome=true
      rcases hs.ob id _ hid with ⟨h0,_⟩ | ⟨b',o',pre,vs,post,t',fr,h0,q1,_⟩
      ·rw [h0] at hb; cases hb
      ·rw [h0] at hb; cases hb; simp [World.shape?,q1]⟩
    ·right
     rw [if_neg hnl]
     -- the array lies within its block
     rcases hs.ob id _ hid with ⟨h0,_⟩ | ⟨b',o',pre,vs,post,t',fr,h0,q1,q2,q3,q4⟩
     ·have h0':c.β id v=none:=h0
      rw [h0'] at hb; cases hb
     have h0':c.β id v=some (b',o'):=h0
     rw [h0'] at hb
     obtain ⟨rfl,rfl⟩:b'=b∧o'=o:=by simpa using hb
     obtain ⟨a1,a2,a3,rfl,r1,r2⟩:=Iq q4 hg
     have hl2:=r2.length
     rw [Aw] at hl2
     refine ⟨b',o',n' - l,t',(pre++(a1++a2++a3)++post).length,h0',by simp [CV,Nat.add_assoc],by omega,by omega,?_,?_,Nat.le_refl _⟩
     ·simp [World.shape?,q1]
     ·simp only [List.length_append]
      rw [Nat.sub_mul]
      have:l*k'≤n'*k':=Nat.mul_le_mul_right _ (by omega)
      omega
   ·exact h.elim
  ·exact h.elim
 ·exact h.elim
theorem Aji (he:AC c w e a) {t:TypeId} {d:TypeDesc} (h1:P.underlying t=some d) (h2:∀ ms,d ≠ .interface ms) {x:Operand} {ty:TypeId} (h:pop (.iface t (trO x)) e c.H K):Ap P c w a K (.makeInterface t x) ty:=by
 simp only [pop] at h
 obtain ⟨hl,h⟩:=h
 refine Ap.mk (s:=Instr.makeInterface t (a.eval x)) (fun o ho _=>by simp only [execOp,ho]) (v := .iface t (a.eval x)) ?_ (Rep.of1 ?_ (by simp) (by simp)) h
 ·simp only [Instr.makeInterface,Sem.run_bind,run_underlying h1,Result.andThen_ok]
  cases d<;>first | rfl | exact absurd rfl (h2 _)
 ·rw [Ag]
  have hc:=(he.ev x).cells hl
  refine ⟨_,rfl,_,hc,?_⟩
  rcases he.ev x with (h3 | h3 | ⟨us,h3,h4⟩) | ⟨xs,vs,h3,_⟩
  ·rw [h3] at hl; simp [lays] at hl
  ·rw [h3] at hl hc ⊢
   simp only [lays] at hl
   rw [LC hl]; rfl
  ·rw [h4]
   generalize (trO x).ev e=y at *
   cases y with
   | agg cs=>simp [mkV,Value.cells]
   | arr n k cs=>simp [mkV,Value.cells]
   | tup cs=>rw [Ag] at h3; exact h3.elim
   | _ =>
    have hlen:=h3.length
    simp only [Aw] at hlen
    obtain ⟨u,rfl⟩:=List.length_eq_one_iff.1 hlen
    simp [mkV,LC (h3.one u (by simp))]
  ·rw [h3] at hl; simp [lays] at hl
theorem NH (he:AC c w e a):∀ (xs:List Operand),(∀ x∈xs,CE ((trO x).ev e)=false)→AY c w ((xs.map trO).map (·.ev e)) (xs.map a.eval)
 | [],_=>by simp [AY]
 | x::xs,h=>by
  rw [List.map_cons,List.map_cons,List.map_cons,AY.cons]
  refine ⟨_,_,rfl,?_,NH he xs fun y hy=>h y (by simp [hy])⟩
  rcases he.ev x with h1 | ⟨ys,vs,h1,_⟩
  ·exact h1
  ·have:=h x (by simp); rw [h1] at this; simp [CE] at this
theorem AoK (he:AC c w e a) {f:Fn} {first caps:Array Operand} {ty:TypeId} (h:pop (.mkf f (first.toList.map trO) (caps.toList.map trO)) e c.H K):Ap P c w a K (.makeFunc f first caps) ty:=by
 simp only [pop] at h
 obtain ⟨h1,h⟩:=h
 refine Ap.mk (s:=Instr.makeFunc f (first.map a.eval) (caps.map a.eval)) (fun o ho _=>by simp only [execOp,ho]) (v := .func f (first.map a.eval) (caps.map a.eval)) rfl (Rep.of1 ?_ (by simp) (by simp)) h
 rw [Ag]
 refine ⟨first.toList.map a.eval,caps.toList.map a.eval,by rw [show first.map a.eval=(first.toList.map a.eval).toArray from by apply Array.ext'; simp,show caps.map a.eval=(caps.toList.map a.eval).toArray from by apply Array.ext'; simp],?_,?_⟩
 ·exact NH he _ fun x hx=>h1 _ (List.mem_append_left _ (List.mem_map_of_mem hx))
 ·exact NH he _ fun x hx=>h1 _ (List.mem_append_right _ (List.mem_map_of_mem hx))
theorem Alo (he:AC c w e a) {x:Operand} {ty:TypeId} (h:pop (.nilc (trO x)) e c.H K):Ap P c w a K (.nilCheck x) ty:=by
 have fin:∀ {y:TV} {v:Value},a.eval x=v→(∀ (o:Oper),o.op = .nilCheck x→(execOp a.eval o).run P w = .ok (.value v) w)→Rep c w y v→K y→Ap P c w a K (.nilCheck x) ty:=fun hv hr hy hk o ho _=>⟨_,_,hr o ho,hy,hk⟩
 simp only [pop] at h
 split at h
 ·rename_i id ver p hx
  have hr:=he.rep hx
  obtain ⟨g1,b,o,hb,hv⟩:=hr.op
  exact fin hv (fun o ho=>by simp [execOp,ho,hv]) (hv▸hr) h
 ·rename_i y hx
  have hr:=he.rep hx
  obtain ⟨b,off,vs,hv,_⟩:=hr.fp
  exact fin hv (fun o ho=>by simp [execOp,ho,hv]) (hv▸hr) h
 ·rename_i f aS bs hx
  have hr:=he.rep hx
  have h1:=hr.inv1 (by simp) (by simp) (by simp) (by simp) (by simp)
  rw [Ag] at h1
  obtain ⟨us,vs,hv,_⟩:=h1
  have hv':a.eval x = .func (.func f) us.toArray vs.toArray:=by simpa using hv
  exact fin hv' (fun o ho=>by simp [execOp,ho,hv']) (hv'▸hr) h
 ·rename_i t y hx
  have hr:=he.rep hx
  have h1:=hr.inv1 (by simp) (by simp) (by simp) (by simp) (by simp)
  rw [Ag] at h1
  obtain ⟨u,hv,_⟩:=h1
  have hv':a.eval x = .iface t u:=by simpa using hv
  exact fin hv' (fun o ho=>by simp [execOp,ho,hv']) (hv'▸hr) h
 ·rename_i f aS bs hx
  have hv:=he.val hx
  exact fin hv (fun o ho=>by simp [execOp,ho,hv]) Rep.of_val h
 ·exact h.elim
theorem Am0 (he:AC c w e a) {x y:Operand} {ts:Array TypeId} {ty:TypeId} (h:pop (.min (trO x) (trO y)) e c.H K):Ap P c w a K (.call { callee := .builtin .min,args:=[x,y].toArray,argTypes:=ts }) ty:=by
 simp only [pop] at h
 split at h
 ·rename_i k m k' n hx hy
  intro o ho hot
  refine ⟨_,.int k (if n<m then n else m),?_,Rep.of_val,h⟩
  simp [execOp,ho,resolve,invoke,builtin,he.val hx,he.val hy,Builtin.min_,Builtin.min2]
 ·exact h.elim
theorem AoN (he:AC c w e a) {x y:Operand} {ts:Array TypeId} {ty:TypeId} (h:pop (.max (trO x) (trO y)) e c.H K):Ap P c w a K (.call { callee := .builtin .max,args:=[x,y].toArray,argTypes:=ts }) ty:=by
 simp only [pop] at h
 split at h
 ·rename_i k m k' n hx hy
  intro o ho hot
  refine ⟨_,.int k (if n > m then n else m),?_,Rep.of_val,h⟩
  simp [execOp,ho,resolve,invoke,builtin,he.val hx,he.val hy,Builtin.max_,Builtin.max2]
 ·exact h.elim
theorem Ang (he:AC c w e a) {op:BinOp} {t yt:TypeId} (h1:P.underlying t=some .bool) (ho:Xg op=true) {x y:Operand} {ty:TypeId} (h:pop (.eqB (trO x) (trO y) (EX op)) e c.H K):Ap P c w a K (.binOp op t x y yt) ty:=by
 simp only [pop] at h
 split at h
 ·rename_i p q hx hy
  refine Ap.mk (s:=do eqGuard op t x y (a.eval x) (a.eval y); binOp op t (a.eval x) (a.eval y)) (fun o ho _=>by simp only [execOp,ho]) (v := .bool (xor (EX op) (p == q))) ?_ Rep.of_val h
  rw [he.val hx,he.val hy]
  have heqd:∀ d,(Op.equalIn (d+1) t (.bool p) (.bool q)).run P w = .ok (p == q) w:=by
   intro d; simp [Op.equalIn,run_underlying h1]
  have heq:(Op.equal t (.bool p) (.bool q)).run P w = .ok (p == q) w:=heqd 9999
  rw [Sem.run_bind,J7 rfl,Result.andThen_ok]
  cases op<;>simp [Xg] at ho<;>simp [binOp,heq,EX]
 ·exact h.elim
theorem Aib (he:AC c w e a) {t:TypeId} {szs:List Nat} {zs:List TV} (h1:Ut P t=some (szs,zs)) {ps:Array (Nat×Operand)} {ty:TypeId} (h:pop (.build zs szs (ps.toList.map fun q=>(q.1,trO q.2))) e c.H K):Ap P c w a K (.build t ps) ty:=by
 simp only [pop] at h
 obtain ⟨hok,h⟩:=h
 unfold Ut at h1
 split at h1
 ·rename_i fs it hu hi
  split at h1
  ·rename_i z szs' hz hszs
   split at h1
   ·rename_i hoffs
    split at h1
    ·rename_i zs' hzf
     split at h1
     ·rename_i hzw
      cases h1
      have hplaces:fs.toList.mapM (fun f=>(P.info? f.type).map fun i=>(f.offset,i.size))=some ((UH 0 szs).zip szs):=by
       rw [←hoffs]
       have key:∀ (l:List Field) (ks:List Nat),l.mapM (fun f=>Oe P f.type)=some ks→l.mapM (fun f=>(P.info? f.type).map fun i=>(f.offset,i.size))=some ((l.map (·.offset)).zip ks):=by
        intro l
        induction l with
        | nil=>intro ks h; simp at h; subst h; rfl
        | cons f l ih =>
         intro ks h
         simp only [List.mapM_cons,Option.bind_eq_bind,Option.bind_eq_some_iff,Option.pure_def,Option.some.injEq] at h
         obtain ⟨k,hk,ks',hks,rfl⟩:=h
         unfold Oe at hk
         obtain ⟨i,hi,rfl⟩:=Option.map_eq_some_iff.1 hk
         simp [List.mapM_cons,hi,ih _ hks]
       exact key _ _ hszs
      have hplace:∀ i k,szs[i]?=some k→((UH 0 szs).zip szs).toArray[i]?=some ((szs.take i).sum,k):=by
       have key:∀ (l:List Nat) (s i k:Nat),l[i]?=some k→((UH s l).zip l)[i]?=some (s+(l.take i).sum,k):=by
        intro l
        induction l with
        | nil=>intro s i k h; simp at h
        | cons m l ih =>
         intro s i k h
         cases i with
         | zero=>simp at h; subst h; simp [UH]
         | succ i =>
          have:=ih (s+m) i k (by simpa using h)
          simp only [UH,List.zip_cons_cons,List.getElem?_cons_succ,this,List.take_succ_cons,List.sum_cons]
          congr 2; omega
       intro i k h
       have:=key szs 0 i k h
       simpa using this
      obtain ⟨hzr,_⟩:=YL (c:=c) (w:=w) hzf
      let av:Opd→Value:=fun x=>match x with | .t n=>a.tmps.getD n undef | .c v=>v | .g n => .pointer (some ⟨n,0,none⟩)
      have hav:∀ x:Opd,Rep c w (x.ev e) (av x):=by
       intro x; cases x with
       | t n=>exact he.1 n
       | c v=>exact Rep.of_val
       | g n=>exact he.ev (.global n)
      have hav2:∀ x:Operand,av (trO x)=a.eval x:=by intro x; cases x<;>rfl
      obtain ⟨us',k1,k2,k3⟩:=Pq hav hplace (ps.toList.map fun q=>(q.1,trO q.2)) zs z.cells.toList hzw hzr hok
      have hparts:((ps.toList.map fun q=>(q.1,trO q.2)).map fun q=>(q.1,av q.2))=ps.toList.map fun q=>(q.1,a.eval q.2):=by
       simp [hav2]
      rw [hparts] at k1
      refine Ap.mk (s:=Instr.build t (ps.map fun (i,x)=>(i,a.eval x))) (fun o ho _=>by simp only [execOp,ho]) (v := .agg us'.toArray) ?_ ?_ h
      ·refine run_build w t _ us'.toArray ?_
       unfold Program.built
       simp only [hi,hu,hz,hplaces]
       rw [Array.toArray_toList] at k1
       rw [Array.toList_map]
       exact k1
      ·exact Rep.of_cells (x := .agg (EE e zs _)) (by rw [Ag]; exact k2)
     ·cases h1
    ·cases h1
   ·cases h1
  ·cases h1
 ·cases h1
theorem Hf {kd:Nat} {x:TV} {v:Value} {b:Bool} (h:Dc kd x=some b) (hr:Rep c w x v) :
  (kd=0∧∃ p:Option Addr,v = .pointer p∧p.isNone=b)∨(kd=1∧((v = .nilIface∧b=true)∨∃ t u,v = .iface t u∧b=false)) ∨
  (kd=2∧∃ p:Option Nat,v = .map p∧p.isNone=b)∨(kd=3∧((v = .nilFunc∧b=true)∨∃ f p q,v = .func f p q∧b=false)):=by
 unfold Dc at h
 split at h
 ·cases h; rw [Rep.val] at hr; exact .inl ⟨rfl,none,hr,rfl⟩
 ·cases h; obtain ⟨_,bb,o,_,hv⟩:=hr.op; exact .inl ⟨rfl,_,hv,rfl⟩
 ·cases h; obtain ⟨bb,off,vs,hv,_⟩:=hr.fp; exact .inl ⟨rfl,_,hv,rfl⟩
 ·cases h; rw [Rep.val] at hr; exact .inr (.inl ⟨rfl,.inl ⟨hr,rfl⟩⟩)
 ·cases h
  have h1:=hr.inv1 (by simp) (by simp) (by simp) (by simp) (by simp)
  rw [Ag] at h1
  obtain ⟨u,hv,_⟩:=h1
  exact .inr (.inl ⟨rfl,.inr ⟨_,u,by simpa using hv,rfl⟩⟩)
 ·cases h; rw [Rep.val] at hr; exact .inr (.inr (.inl ⟨rfl,none,hr,rfl⟩))
 ·cases h
  have h1:=hr.inv1 (by simp) (by simp) (by simp) (by simp) (by simp)
  rw [Ag] at h1
  obtain ⟨_,b1,o,_,hv⟩:=h1
  exact .inr (.inr (.inl ⟨rfl,some b1,by simpa using hv,rfl⟩))
 ·cases h; rw [Rep.val] at hr; exact .inr (.inr (.inr ⟨rfl,.inl ⟨hr,rfl⟩⟩))
 ·cases h
  have h1:=hr.inv1 (by simp) (by simp) (by simp) (by simp) (by simp)
  rw [Ag] at h1
  obtain ⟨us,vs,hv,_⟩:=h1
  exact .inr (.inr (.inr ⟨rfl,.inr ⟨_,_,_,by simpa using hv,rfl⟩⟩))
 ·cases h
  have h1:=hr.inv1 (by simp) (by simp) (by simp) (by simp) (by simp)
  rw [Ag] at h1
  obtain ⟨_,b1,o,_,hv⟩:=h1
  exact .inr (.inr (.inr ⟨rfl,.inr ⟨_,_,_,by simpa using hv,rfl⟩⟩))
 ·cases h
theorem Ac0 {x:TV} {v:Value} {b:Bool} (h:Dc 0 x=some b) (hr:Rep c w x v):∃ p:Option Addr,v = .pointer p∧p.isNone=b:=by
 rcases Hf h hr with ⟨_,h⟩ | ⟨h,_⟩ | ⟨h,_⟩ | ⟨h,_⟩
 ·exact h
 all_goals cases h
theorem AdH {x:TV} {v:Value} {b:Bool} (h:Dc 1 x=some b) (hr:Rep c w x v):(v = .nilIface∧b=true)∨∃ t u,v = .iface t u∧b=false:=by
 rcases Hf h hr with ⟨h,_⟩ | ⟨_,h⟩ | ⟨h,_⟩ | ⟨h,_⟩
 ·cases h
 ·exact h
 all_goals cases h
theorem Ab3 {x:TV} {v:Value} {b:Bool} (h:Dc 2 x=some b) (hr:Rep c w x v):∃ p:Option Nat,v = .map p∧p.isNone=b:=by
 rcases Hf h hr with ⟨h,_⟩ | ⟨h,_⟩ | ⟨_,h⟩ | ⟨h,_⟩
 ·cases h
 ·cases h
 ·exact h
 ·cases h
theorem AcY {x:TV} {v:Value} {b:Bool} (h:Dc 3 x=some b) (hr:Rep c w x v):(v = .nilFunc∧b=true)∨∃ f p q,v = .func f p q∧b=false:=by
 rcases Hf h hr with ⟨h,_⟩ | ⟨h,_⟩ | ⟨h,_⟩ | ⟨_,h⟩
 ·cases h
 ·cases h
 ·cases h
 ·exact h
theorem Ai9 {t:TypeId} {kd:Nat} {op:BinOp} (ho:Xg op=true)
  (h1:(kd=0∧∃ d,P.underlying t=some (.pointer d))∨(kd=1∧∃ ms,P.underlying t=some (.interface ms))∨(kd=2∧∃ k d,P.underlying t=some (.map k d))∨(kd=3∧∃ ps rs vr,P.underlying t=some (.func ps rs vr)))
  {x y:TV} {u v:Value} {p q r:Bool} (hp:Dc kd x=some p) (hq:Dc kd y=some q) (hu:Rep c w x u) (hv:Rep c w y v) (hpq:(p=true∧r=q)∨(p=false∧q=true∧r=false)) :
  (binOp op t u v).run P w = .ok (.bool (xor (EX op) r)) w:=by
 have fin:∀ s:Bool,(∀ d,(Op.equalIn (d+1) t u v).run P w = .ok s w)→r=s→(∀ op',op'=BinOp.eql∨op' = .neq→binOp op' t u v=(if op' = .eql then (do pure (.bool (←Op.equal t u v))) else (do pure (.bool (!(←Op.equal t u v))))))→(binOp op t u v).run P w = .ok (.bool (xor (EX op) r)) w:=by
  intro s hs hrs hb
  have heq:(Op.equal t u v).run P w = .ok s w:=hs 9999
  subst hrs
  cases op<;>simp [Xg] at ho
  ·rw [hb _ (.inl rfl)]; simp [heq,EX]
  ·rw [hb _ (.inr rfl)]; simp [heq,EX]
 rcases h1 with ⟨rfl,d,h1⟩ | ⟨rfl,ms,h1⟩ | ⟨rfl,k,d,h1⟩ | ⟨rfl,ps,rs,vr,h1⟩
 ·obtain ⟨a1,rfl,e1⟩:=Ac0 hp hu
  obtain ⟨a2,rfl,e2⟩:=Ac0 hq hv
  refine fin r (fun d' => ?_) rfl (fun op' h=>by rcases h with rfl | rfl<;>rfl)
  cases a1<;>cases a2<;>simp at e1 e2<;>subst e1<;>subst e2<;>simp at hpq<;>simp [Op.equalIn,run_underlying h1,hpq]
 ·have e1:=AdH hp hu
  have e2:=AdH hq hv
  rcases e1 with ⟨rfl,rfl⟩ | ⟨t1,u1,rfl,rfl⟩<;>rcases e2 with ⟨rfl,rfl⟩ | ⟨t2,u2,rfl,rfl⟩<;>simp at hpq <;>
   exact fin r (fun d'=>by simp [Op.equalIn,run_underlying h1,hpq]) rfl (fun op' h=>by rcases h with rfl | rfl<;>rfl)
 ·obtain ⟨a1,rfl,e1⟩:=Ab3 hp hu
  obtain ⟨a2,rfl,e2⟩:=Ab3 hq hv
  refine fin r (fun d' => ?_) rfl (fun op' h=>by rcases h with rfl | rfl<;>rfl)
  cases a1<;>cases a2<;>simp at e1 e2<;>subst e1<;>subst e2<;>simp at hpq<;>simp [Op.equalIn,run_underlying h1,hpq]
 ·have e1:=AcY hp hu
  have e2:=AcY hq hv
  rcases e1 with ⟨rfl,rfl⟩ | ⟨t1,u1,u1',rfl,rfl⟩<;>rcases e2 with ⟨rfl,rfl⟩ | ⟨t2,u2,u2',rfl,rfl⟩<;>simp at hpq <;>
   exact fin r (fun d'=>by simp [Op.equalIn,run_underlying h1,hpq]) rfl (fun op' h=>by rcases h with rfl | rfl<;>rfl)
theorem AbI {t:TypeId} {op:BinOp} {x y:Operand} {u v:Value} (h:Ad1 u v=true∨(u = .nilIface∧v = .nilIface∧(FI x || FI y)=true)):(eqGuard op t x y u v).run P w = .ok () w:=by
 rcases h with h | ⟨rfl,rfl,h⟩
 ·exact J7 h
 ·unfold eqGuard
  rw [Sem.run_ite]
  refine Adh rfl ?_
  rw [Bool.or_eq_true] at h
  rcases h with h | h
  ·cases x<;>simp [FI] at h
   simp
  ·cases y<;>simp [FI] at h
   simp
theorem Afv (he:AC c w e a) {kd:Nat} {op:BinOp} {t yt:TypeId} (ho:Xg op=true)
  (h1:(kd=0∧∃ d,P.underlying t=some (.pointer d))∨(kd=1∧∃ ms,P.underlying t=some (.interface ms))∨(kd=2∧∃ k d,P.underlying t=some (.map k d))∨(kd=3∧∃ ps rs vr,P.underlying t=some (.func ps rs vr)))
  {x y:Operand} (hc:kd=1→(FI x || FI y)=true) {ty:TypeId} (h:pop (.eqN kd (trO x) (trO y) (EX op)) e c.H K):Ap P c w a K (.binOp op t x y yt) ty:=by
 have hg:∀ p q,Dc kd ((trO x).ev e)=some p→Dc kd ((trO y).ev e)=some q→(eqGuard op t x y (a.eval x) (a.eval y)).run P w = .ok () w:=by
  intro p q hp hq
  refine AbI ?_
  rcases Hf hp (he.ev x) with ⟨_,a1,hu,_⟩ | ⟨hk,⟨hu,_⟩ | ⟨_,_,hu,_⟩⟩ | ⟨_,a1,hu,_⟩ | ⟨_,⟨hu,_⟩ | ⟨_,_,_,hu,_⟩⟩ <;>
  rcases Hf hq (he.ev y) with ⟨_,a1,hv,_⟩ | ⟨_,⟨hv,_⟩ | ⟨_,_,hv,_⟩⟩ | ⟨_,a1,hv,_⟩ | ⟨_,⟨hv,_⟩ | ⟨_,_,_,hv,_⟩⟩<;>rw [hu,hv]<;>first
   | exact .inl rfl
   | exact .inr ⟨rfl,rfl,hc hk⟩
 have go:∀ p q r,Dc kd ((trO x).ev e)=some p→Dc kd ((trO y).ev e)=some q→((p=true∧r=q)∨(p=false∧q=true∧r=false))→K (.val (.bool (xor (EX op) r)))→Ap P c w a K (.binOp op t x y yt) ty:=by
  intro p q r hp hq hpq hk
  refine Ap.mk (s:=do eqGuard op t x y (a.eval x) (a.eval y); binOp op t (a.eval x) (a.eval y)) (fun o ho _=>by simp only [execOp,ho]) ?_ Rep.of_val hk
  rw [Sem.run_bind,hg p q hp hq,Result.andThen_ok]
  exact Ai9 ho h1 hp hq (he.ev x) (he.ev y) hpq
 simp only [pop] at h
 split at h
 ·rename_i b hp hq; exact go _ _ b hp hq (.inl ⟨rfl,rfl⟩) h
 ·rename_i hp hq; exact go _ _ false hp hq (.inr ⟨rfl,rfl,rfl⟩) h
 ·exact h.elim
theorem AfZ (he:AC c w e a) {t:TypeId} {n k:Nat} {zs:List TV} (h0:Ut P t=none) (h1:AbB P t=some (n,k,zs)) {ps:Array (Nat×Operand)} {ty:TypeId} (h:pop (.buildA n k zs (ps.toList.map fun q=>(q.1,trO q.2))) e c.H K):Ap P c w a K (.build t ps) ty:=by
 simp only [pop] at h
 obtain ⟨hok,hpure,h⟩:=h
 unfold AbB at h1
 split at h1
 ·rename_i n' et it hu hi
  split at h1
  ·rename_i z k' hz hk
   obtain ⟨zs',hza,h2⟩:=Option.map_eq_some_iff.1 h1
   simp only [Prod.mk.injEq] at h2
   obtain ⟨rfl,rfl,rfl⟩:=h2
   obtain ⟨hzr,hzl,hzw,hzp⟩:=Y7 (c:=c.bare) (w:=w) hza
   have hplace:∀ i k,(List.replicate n' k')[i]?=some k→(fun i=>some (i*k',k')) i=some (((List.replicate n' k').take i).sum,k):=by
    intro i k h
    rw [List.getElem?_replicate] at h
    split at h
    ·rename_i hi; cases h
     simp only [List.take_replicate,List.sum_replicate_nat]
     rw [Nat.min_eq_left (by omega)]
    ·cases h
   have hzw':zs'.map Aw=List.replicate n' k':=by
    rw [List.eq_replicate_iff]
    exact ⟨by simp [hzl],fun b hb=>by obtain ⟨x,hx,rfl⟩:=List.mem_map.1 hb; exact hzw x hx⟩
   let av:Opd→Value:=fun x=>match x with | .t n=>a.tmps.getD n undef | .c v=>v | .g n => .pointer (some ⟨n,0,none⟩)
   have hav:∀ x:Opd,Rep c w (x.ev e) (av x):=by
    intro x; cases x with
    | t n=>exact he.1 n
    | c v=>exact Rep.of_val
    | g n=>exact he.ev (.global n)
   have hav2:∀ x:Operand,av (trO x)=a.eval x:=by intro x; cases x<;>rfl
   obtain ⟨us',k1,k2,k3⟩:=Pq hav hplace (ps.toList.map fun q=>(q.1,trO q.2)) zs' z.cells.toList hzw' (Ah.unbare hzr) hok
   have hfl:∀ (qs:List (Nat×Opd)) (l:List TV),BZ l=true→Bg e qs→BZ (EE e l qs)=true:=by
    intro qs
    induction qs with
    | nil=>intro l hl _; exact hl
    | cons q qs ih =>
     obtain ⟨i,x⟩:=q
     intro l hl hp
     rw [Bg] at hp
     refine ih _ ?_ hp.2
     have hs:∀ (l:List TV) (i:Nat),BZ l=true→BZ (l.set i (x.ev e))=true:=by
      intro l
      induction l with
      | nil=>intro i h; simpa using h
      | cons y l ihl =>
       intro i h
       rw [BZ,Bool.and_eq_true] at h
       cases i with
       | zero=>rw [List.set_cons_zero,BZ,hp.1,h.2]; rfl
       | succ i=>rw [List.set_cons_succ,BZ,h.1,ihl i h.2]; rfl
     exact hs l i hl
   have hparts:((ps.toList.map fun q=>(q.1,trO q.2)).map fun q=>(q.1,av q.2))=ps.toList.map fun q=>(q.1,a.eval q.2):=by
    simp [hav2]
   rw [hparts] at k1
   have hk':=hk
   unfold Oe at hk'
   obtain ⟨ie,hie,rfl⟩:=Option.map_eq_some_iff.1 hk'
   refine Ap.mk (s:=Instr.build t (ps.map fun (i,x)=>(i,a.eval x))) (fun o ho _=>by simp only [execOp,ho]) (v := .agg us'.toArray) ?_ ?_ h
   ·refine run_build w t _ us'.toArray ?_
    unfold Program.built
    simp only [hi,hu,hz,hie]
    rw [Array.toArray_toList] at k1
    rw [Array.toList_map]
    exact k1
   ·refine Rep.of_cells (x := .arr n' ie.size (EE e zs' _)) ?_
    rw [Ag]
    have hlen:(EE e zs' (ps.toList.map fun q=>(q.1,trO q.2))).length=n':=by
     have:=congrArg List.length k3
     simpa using this
    refine ⟨hlen,fun y hy => ?_,Ah.pure (hfl _ _ hzp hpure) k2⟩
    have:Aw y∈(EE e zs' (ps.toList.map fun q=>(q.1,trO q.2))).map Aw:=List.mem_map_of_mem hy
    rw [k3] at this
    exact List.eq_of_mem_replicate this
  ·cases h1
 ·cases h1
theorem YP {w:World} {cap l h m:Nat} {k1 k2 k3:IntKind} {lo:Option Value} (h1:l≤h) (h2:h≤m) (h3:m≤cap) (n:Nat) (hlo:(lo=none∧l=0)∨lo=some (.int k1 l)) :
  (Instr.sliceBounds true n cap lo (some (.int k2 h)) (some (.int k3 m))).run P w = .ok (l,h,m) w:=by
 have e1:(m:Int)≤cap:=by omega
 have e2:(h:Int)≤m:=by omega
 have e3:(l:Int)≤h:=by omega
 rcases hlo with ⟨rfl,rfl⟩ | rfl
 ·simp [Instr.sliceBounds,Instr.sliceBound,asIntOf,h3,h2]
 ·simp [Instr.sliceBounds,Instr.sliceBound,asIntOf,h3,h2,h1]
theorem AnY (he:AC c w e a) {x hi mx:Operand} {lo:Option Operand} {t et ty:TypeId} {k:Nat} (h1:Bi P t=some (k,et)) (h:pop (.gen (.sl3 k) [trO x,(lo.map trO).getD (.c (.int .i64 0)),trO hi,trO mx]) e c.H K):Ap P c w a K (.slice t x lo (some hi) (some mx)) ty:=by
 obtain ⟨k1,k2⟩:=AQ h1
 have run:∀ (ad:Option Addr) (n cap l h m:Nat),a.eval x = .slice ad n cap→(Instr.sliceBounds true n cap (lo.map a.eval) (some (a.eval hi)) (some (a.eval mx))).run P w = .ok (l,h,m) w →
   (Instr.sliceAt t (a.eval x) (lo.map a.eval) (some (a.eval hi)) (some (a.eval mx))).run P w = .ok (.slice (if m=l then ad else ad.map (·.add (l*k))) (h - l) (m - l)) w:=by
  intro ad n cap l h m hv hr
  rw [hv]
  simp only [Instr.sliceAt,Sem.run_bind,run_underlying k1,Result.andThen_ok,Instr.slice,hr,Ce k2,Sem.run_pure]
 have mk:∀ {y:TV} {v:Value},(Instr.sliceAt t (a.eval x) (lo.map a.eval) (some (a.eval hi)) (some (a.eval mx))).run P w = .ok v w→Rep c w y v→K y→Ap P c w a K (.slice t x lo (some hi) (some mx)) ty:=fun hr hy hk =>
  Ap.mk (s:=Instr.sliceAt t (a.eval x) (lo.map a.eval) (some (a.eval hi)) (some (a.eval mx))) (fun o ho _=>by simp only [execOp,ho,Option.map_some]) hr hy hk
 have hbd:∀ {il ih im:Int} {kl kh km:IntKind} {cap:Nat} (n:Nat),((lo.map trO).getD (.c (.int .i64 0))).ev e = .val (.int kl il)→(trO hi).ev e = .val (.int kh ih)→(trO mx).ev e = .val (.int km im)→0≤il→il≤ih→ih≤im→im≤cap →
   (Instr.sliceBounds true n cap (lo.map a.eval) (some (a.eval hi)) (some (a.eval mx))).run P w = .ok (il.toNat,ih.toNat,im.toNat) w:=by
  intro il ih im kl kh km cap n hl hh hm g1 g2 g3 g4
  rw [he.val hh,he.val hm]
  have q1:((ih.toNat:Nat):Int)=ih:=by omega
  have q2:((im.toNat:Nat):Int)=im:=by omega
  have q3:((il.toNat:Nat):Int)=il:=by omega
  have:=YP (P:=P) (w:=w) (cap:=cap) (l:=il.toNat) (h:=ih.toNat) (m:=im.toNat) (k1:=kl) (k2:=kh) (k3:=km) (lo:=lo.map a.eval) (by omega) (by omega) (by omega) n (by
   cases lo with
   | none =>
    left
    simp only [Option.map_none,Option.getD_none,Opd.ev,TV.val.injEq,Value.int.injEq] at hl
    exact ⟨rfl,by omega⟩
   | some lo =>
    right
    simp only [Option.map_some,Option.getD_some] at hl
    rw [Option.map_some,he.val hl,q3])
  rwa [q1,q2] at this
 simp only [pop] at h
 split at h
 ·rename_i y hy
  simp only [List.map_cons,List.map_nil] at hy
  generalize hx:(trO x).ev e=tx at hy
  generalize hl:((lo.map trO).getD (.c (.int .i64 0))).ev e=tl at hy
  generalize hh:(trO hi).ev e=th at hy
  generalize hm:(trO mx).ev e=tm at hy
  unfold gev at hy
  split at hy
  case h_1 =>
   rename_i q _ k' cs il l ih hh' im m hq he'
   simp only [List.cons.injEq,and_true] at he'
   obtain ⟨rfl,rfl,rfl,rfl⟩:=he'
   cases hq
   split at hy
   ·rename_i hc
    obtain ⟨rfl,g1,g2,g3,g4⟩:=hc
    cases hy
    obtain ⟨hw,hr⟩:=(he.rep hx).sl
    rcases hr with ⟨rfl,ad,cap,hv,hcc⟩ | ⟨b,off,cap,vs,hv,h3,h4,h5,h6,h7⟩
    ·have hb:=hbd (cap:=cap) 0 hl hh hm g1 g2 g3 (by simp at g4; omega)
     refine mk (run _ _ _ _ _ _ hv hb) (Rep.of1 ?_ (by simp) (by simp)) h
     rw [Ag]
     simp only [List.length_nil,Int.natCast_zero] at g4
     exact ⟨by simp,.inl ⟨by simp,_,m.toNat - l.toNat,by rw [show hh'.toNat - l.toNat=0 from by omega],by omega⟩⟩
    ·have hb:=hbd (cap:=cap) cs.length hl hh hm g1 g2 g3 (by omega)
     refine mk (run _ _ _ _ _ _ hv hb) (Rep.of1 ?_ (by simp) (by simp)) h
     have hlen:((cs.drop l.toNat).take (hh'.toNat - l.toNat)).length=hh'.toNat - l.toNat:=by simp; omega
     rw [Ag]
     refine ⟨fun y hy=>hw y (List.mem_of_mem_drop (List.mem_of_mem_take hy)),?_⟩
     by_cases hcl:m.toNat=l.toNat
     ·left
      have hm0:hh'.toNat - l.toNat=0:=by omega
      refine ⟨by rw [←List.length_eq_zero_iff,hlen,hm0],_,m.toNat - l.toNat,by rw [hm0],by omega⟩
     ·right
      rw [if_neg hcl]
      rw [show cs=cs.take l.toNat++((cs.drop l.toNat).take (hh'.toNat - l.toNat)++(cs.drop l.toNat).drop (hh'.toNat - l.toNat)) from by rw [List.take_append_drop,List.take_append_drop]] at h6
      obtain ⟨a1,a2,rfl,f1,f2⟩:=Ah.split h6
      obtain ⟨b1,b2,rfl,f3,f4⟩:=Ah.split f2
      have ha1:a1.length=l.toNat*k':=by rw [f1.length,Bj (fun y hy=>hw y (List.mem_of_mem_take hy)),List.length_take]; congr 1; omega
      refine ⟨b,off+l.toNat*k',m.toNat - l.toNat,b1,?_,by rw [hlen]; omega,by omega,h5,f3,?_⟩
      ·rw [hlen]; simp [CV]
      ·rw [←List.append_assoc] at h7; exact MC h7 ha1
   ·cases hy
  case h_2 =>
   rename_i q _ k' id ver p off n cp il l ih hh' im m hq he'
   simp only [List.cons.injEq,and_true] at he'
   obtain ⟨rfl,rfl,rfl,rfl⟩:=he'
   cases hq
   split at hy
   ·rename_i hc
    obtain ⟨rfl,g1,g2,g3,g4⟩:=hc
    cases hy
    have hr:=(he.rep hx).os
    rw [Ag] at hr
    obtain ⟨r1,hr⟩:=hr
    rcases hr with ⟨rfl,ad,hv,hcp0,han⟩ | ⟨b,o,cap,t',m',hb,hv,h3,h4,h5,h6,hcpc⟩
    ·have hv':a.eval x = .slice ad 0 0:=by simpa using hv
     have hb:=hbd (cap:=0) 0 hl hh hm g1 g2 g3 (by omega)
     refine mk (run _ _ _ _ _ _ hv' hb) (Rep.of1 ?_ (by simp) (by simp)) h
     rw [Ag]; exact ⟨r1,.inl ⟨by omega,ad,by
      rw [if_pos (by omega)]; simp; omega,by omega,han⟩⟩
    ·have hv':a.eval x = .slice (some ⟨b,o+C9 p+off*k',none⟩) n cap:=by simpa using hv
     have hb2:=hbd (cap:=cap) n hl hh hm g1 g2 g3 (by omega)
     refine mk (run _ _ _ _ _ _ hv' hb2) (Rep.of1 ?_ (by simp) (by simp)) h
     rw [Ag]
     refine ⟨r1,?_⟩
     by_cases hcl:m.toNat=l.toNat
     ·left; exact ⟨by omega,_,by rw [show hh'.toNat - l.toNat=0 from by omega,show m.toNat - l.toNat=0 from by omega],by omega,fun ad had=>by rw [if_pos hcl] at had; cases had; show (w.shape? b).isSome=true; rw [h5]; rfl⟩
     ·right
      rw [if_neg hcl]
      refine ⟨b,o,m.toNat - l.toNat,t',m',hb,by simp [CV,Nat.add_mul,Nat.add_assoc],by omega,by omega,h5,?_,by omega⟩
      have e1:(m.toNat - l.toNat)*k'≤(cap - l.toNat)*k':=Nat.mul_le_mul_right _ (by omega)
      rw [Nat.sub_mul cap] at e1
      have e2:l.toNat*k'≤cap*k':=Nat.mul_le_mul_right _ (by omega)
      rw [Nat.add_mul]
      omega
   ·cases hy
  all_goals contradiction
 ·exact h.elim
theorem AmV (he:AC c w e a) {op:BinOp} {t yt et:TypeId} {n:Nat} (h1:P.underlying t=some (.array n et)) (h2:Qm P et=true) (h3:P.eqGuardType P.depth t=false) (ho:Xg op=true) {x y:Operand} {ty:TypeId} (h:pop (.gen (.eqA n (EX op)) [trO x,trO y]) e c.H K):Ap P c w a K (.binOp op t x y yt) ty:=by
 simp only [pop] at h
 split at h
 ·rename_i r hr
  simp only [List.map_cons,List.map_nil] at hr
  generalize hx:(trO x).ev e=tx at hr
  generalize hy:(trO y).ev e=tyy at hr
  unfold gev at hr
  split at hr
  case h_3 =>
   rename_i q _ neg n1 cs n2 ds hq he'
   simp only [List.cons.injEq,and_true] at he'
   obtain ⟨rfl,rfl⟩:=he'
   cases hq
   split at hr
   ·rename_i hc
    obtain ⟨rfl,rfl,g1,g2⟩:=hc
    cases hr
    obtain ⟨us,hv,hl,hw,hrr⟩:=(he.rep hx).arr
    obtain ⟨us',hv',hl',hw',hrr'⟩:=(he.rep hy).arr
    have b1:∀ z∈cs,Abj z:=fun z hz=>PM (List.all_eq_true.1 g1 z hz)
    have b2:∀ z∈ds,Abj z:=fun z hz=>PM (List.all_eq_true.1 g2 z hz)
    have e1:=Hw b1 hrr
    have e2:=Hw b2 hrr'
    refine Ap.mk (s:=do eqGuard op t x y (a.eval x) (a.eval y); binOp op t (a.eval x) (a.eval y)) (fun o ho _=>by simp only [execOp,ho]) (v := .bool (xor (EX op) (cs.map TT == ds.map TT))) ?_ Rep.of_val h
    have heq:(Op.equal t (.agg us.toArray) (.agg us'.toArray)).run P w = .ok (cs.map TT == ds.map TT) w:=by
     rw [e1,e2]
     exact Pj h1 h2 (by simp [hl]) (by simp [hl'])
    rw [hv,hv',Sem.run_bind,run_eqGuard_agg w op t x y _ _ h3,Result.andThen_ok]
    cases op<;>simp [Xg] at ho<;>simp [binOp,heq,EX]
   ·cases hr
  all_goals contradiction
 ·exact h.elim
theorem XQ {c c':Ctx} {w0 w:World} {d:Nat}:∀ (fs:List Field) (sh:List EL) (off:Nat) (xs ys:List TV) (us vs pre pre':List Value) (r:Bool),AaI P fs off=some sh→WF sh xs ys=some r→Ah c w0 xs us→Ah c' w0 ys vs→pre.length=off→pre'.length=off →
  (Op.eqFields (d+1+1) (pre++us).toArray (pre'++vs).toArray fs).run P w = .ok r w:=by
 intro fs
 induction fs with
 | nil =>
  intro sh off xs ys us vs pre pre' r h1 h2 _ _ _ _
  rw [AaI] at h1; cases h1
  unfold WF at h2
  split at h2<;>first | contradiction | (cases h2; simp [Op.eqFields])
 | cons f fs ih =>
  intro sh off xs ys us vs pre pre' r h1 h2 hx hy hp hp'
  rw [AaI] at h1
  split at h1
  case isFalse=>cases h1
  rename_i hn
  obtain ⟨hn,ho⟩:=hn
  split at h1
  case h_2=>cases h1
  rename_i l hl
  obtain ⟨sh',hs',rfl⟩:=Option.map_eq_some_iff.1 h1
  have fin:∀ (a b m m' us' vs':List Value) (u v:Value) (q r':Bool),us=m++us'→vs=m'++vs'→m.length=l.wd→m'.length=l.wd→(part f.type (pre++us).toArray f.offset).run P w = .ok u w→(part f.type (pre'++vs).toArray f.offset).run P w = .ok v w→(Op.equalIn (d+1+1) f.type u v).run P w = .ok q w →
    (∀ pr pr',pr=pre++m→pr'=pre'++m'→(Op.eqFields (d+1+1) (pr++us').toArray (pr'++vs').toArray fs).run P w = .ok r' w)→r=(q && r')→(Op.eqFields (d+1+1) (pre++us).toArray (pre'++vs).toArray (f::fs)).run P w = .ok r w:=by
   intro a b m m' us' vs' u v q r' e1 e2 l1 l2 p1 p2 p3 hi hr
   rw [Op.eqFields,if_pos hn]
   simp only [Sem.run_bind,p1,p2,p3,Result.andThen_ok]
   cases q with
   | false=>simp [hr]
   | true =>
    have:=hi _ _ rfl rfl
    rw [List.append_assoc,List.append_assoc,←e1,←e2] at this
    simp [hr,this]
  have ha:∀ {P:Program} {f:Field} {us':List Value} {pre:List Value} {x:Value},pre.length=off→f.offset=off→Us P f.type=some false→(part f.type (pre++(x::us')).toArray f.offset).run P w = .ok x w:=fun {P f us' pre x} hp ho hb=>by
   simp [part,FU hb,ho,←hp]
  unfold WF at h2
  split at h2
  case h_1=>rename_i e1; cases e1
  case h_2 =>
   rename_i l2 k a xs' k' b ys' e1
   obtain ⟨rfl,rfl⟩:=List.cons.inj e1
   split at h2
   case isFalse=>cases h2
   rename_i hk
   subst hk
   obtain ⟨r',hr',rfl⟩:=Option.map_eq_some_iff.1 h2
   rw [Ah] at hx hy
   obtain ⟨m,us',rfl,q1,q2⟩:=hx
   obtain ⟨m',vs',rfl,q1',q2'⟩:=hy
   rw [Ag] at q1 q1'
   obtain ⟨rfl,_⟩:=q1
   obtain ⟨rfl,_⟩:=q1'
   have hu:∃ kk,P.underlying f.type=some (.int kk):=by
    unfold Amu at hl
    split at hl
    ·exact ⟨_,by assumption⟩
    ·cases hl
    ·split at hl<;>cases hl
    ·cases hl
   obtain ⟨kk,hu⟩:=hu
   have hb:Us P f.type=some false:=by unfold Us; rw [hu]; rfl
   exact fin [] [] [_] [_] us' vs' _ _ _ r' rfl rfl rfl rfl (ha hp ho hb) (ha hp' ho hb) (run_equalIn_int w (d+1) f.type k kk a b hu) (fun pr pr' e1 e2=>ih _ _ xs' ys' us' vs' pr pr' r' hs' hr' q2 q2' (by rw [e1]; simp [hp,EL.wd]) (by rw [e2]; simp [hp',EL.wd])) rfl
  case h_3 =>
   rename_i l2 a xs' b ys' e1
   obtain ⟨rfl,rfl⟩:=List.cons.inj e1
   obtain ⟨r',hr',rfl⟩:=Option.map_eq_some_iff.1 h2
   rw [Ah] at hx hy
   obtain ⟨m,us',rfl,q1,q2⟩:=hx
   obtain ⟨m',vs',rfl,q1',q2'⟩:=hy
   rw [Ag] at q1 q1'
   obtain ⟨rfl,_⟩:=q1
   obtain ⟨rfl,_⟩:=q1'
   have hu:P.underlying f.type=some .string:=by
    unfold Amu at hl
    split at hl
    ·cases hl
    ·assumption
    ·split at hl<;>cases hl
    ·cases hl
   have hb:Us P f.type=some false:=by unfold Us; rw [hu]; rfl
   exact fin [] [] [_] [_] us' vs' _ _ _ r' rfl rfl rfl rfl (ha hp ho hb) (ha hp' ho hb) (run_equalIn_string w (d+1) f.type a b hu) (fun pr pr' e1 e2=>ih _ _ xs' ys' us' vs' pr pr' r' hs' hr' q2 q2' (by rw [e1]; simp [hp,EL.wd]) (by rw [e2]; simp [hp',EL.wd])) (by rw [beq_toListBytes])
  case h_4 =>
   rename_i n l2 n1 cs xs' n2 ds ys' e1
   obtain ⟨rfl,rfl⟩:=List.cons.inj e1
   split at h2
   case isFalse=>cases h2
   rename_i hc
   obtain ⟨rfl,rfl,g1,g2⟩:=hc
   obtain ⟨r',hr',rfl⟩:=Option.map_eq_some_iff.1 h2
   rw [Ah] at hx hy
   obtain ⟨m,us',rfl,q1,q2⟩:=hx
   obtain ⟨m',vs',rfl,q1',q2'⟩:=hy
   rw [Ag] at q1 q1'
   obtain ⟨z1,_,z2⟩:=q1
   obtain ⟨z1',_,z2'⟩:=q1'
   have f1:=Hw (fun z hz=>PM (List.all_eq_true.1 g1 z hz)) z2
   have f2:=Hw (fun z hz=>PM (List.all_eq_true.1 g2 z hz)) z2'
   have hu:∃ e,P.underlying f.type=some (.array n2 e)∧Qm P e=true∧Oe P f.type=some n2:=by
    unfold Amu at hl
    split at hl
    ·cases hl
    ·cases hl
    ·split at hl
     ·rename_i hc; cases hl; rw [Bool.and_eq_true,decide_eq_true_eq] at hc; exact ⟨_,by assumption,hc.1,hc.2⟩
     ·cases hl
    ·cases hl
   obtain ⟨et,hu,hby,hsz⟩:=hu
   have hb:Us P f.type=some true:=by unfold Us; rw [hu]; rfl
   have lm:m.length=n2:=by rw [f1]; simp [z1]
   have lm':m'.length=n2:=by rw [f2]; simp [z1']
   have hpt:∀ {pre m us':List Value},pre.length=off→m.length=n2→(part f.type (pre++(m++us')).toArray f.offset).run P w = .ok (.agg m.toArray) w:=fun {pre m us'} hp hm=>by
    simp only [part,Sem.run_bind,FU hb,Result.andThen_ok,if_true,Ce hsz,Sem.run_pure]
    congr 2
    apply Array.ext'
    simp [ho,←hp,←hm]
   refine fin [] [] m m' us' vs' _ _ _ r' rfl rfl lm lm' (hpt hp lm) (hpt hp' lm') ?_ (fun pr pr' e1 e2=>ih _ _ xs' ys' us' vs' pr pr' r' hs' hr' q2 q2' (by rw [e1,List.length_append,hp,lm]; rfl) (by rw [e2,List.length_append,hp',lm']; rfl)) rfl
   rw [f1,f2]
   exact LZ hu hby (by simp [z1]) (by simp [z1']) d
  case h_5=>cases h2
theorem AoE (he:AC c w e a) {op:BinOp} {t yt:TypeId} {fs:Array Field} {sh:List EL} (h1:P.underlying t=some (.struct fs)) (h2:AaI P fs.toList 0=some sh) (h4:P.stoodInHeld t=false) (h3:P.eqGuardType P.depth t=false) (ho:Xg op=true) {x y:Operand} {ty:TypeId} (h:pop (.gen (.eqR sh (EX op)) [trO x,trO y]) e c.H K):Ap P c w a K (.binOp op t x y yt) ty:=by
 simp only [pop] at h
 split at h
 ·rename_i r hr
  simp only [List.map_cons,List.map_nil] at hr
  generalize hx:(trO x).ev e=tx at hr
  generalize hy:(trO y).ev e=tyy at hr
  unfold gev at hr
  split at hr
  case h_11 =>
   rename_i q _ sh' neg xs ys hq he'
   simp only [List.cons.injEq,and_true] at he'
   obtain ⟨rfl,rfl⟩:=he'
   cases hq
   obtain ⟨r',hr',rfl⟩:=Option.map_eq_some_iff.1 hr
   obtain ⟨us,hv,hrr⟩:=(he.rep hx).agg
   obtain ⟨vs,hv',hrr'⟩:=(he.rep hy).agg
   refine Ap.mk (s:=do eqGuard op t x y (a.eval x) (a.eval y); binOp op t (a.eval x) (a.eval y)) (fun o ho _=>by simp only [execOp,ho]) (v := .bool (xor (EX op) r')) ?_ Rep.of_val h
   have hf:P.fieldsOf t=fs:=by unfold Program.fieldsOf; rw [h1]
   have heq:(Op.equal t (.agg us.toArray) (.agg vs.toArray)).run P w = .ok r' w:=by
    show (Op.equalIn 10000 t _ _).run P w=_
    rw [run_equalIn_agg w 9999 t _ _ (by rw [hf]; exact h1) h4,hf]
    have:=XQ (c:=c) (c':=c) (w0:=w) (w:=w) (d:=9997) fs.toList sh 0 xs ys us vs [] [] r' h2 hr' hrr hrr' rfl rfl
    simpa using this
   rw [hv,hv',Sem.run_bind,run_eqGuard_agg w op t x y _ _ h3,Result.andThen_ok]
   cases op<;>simp [Xg] at ho<;>simp [binOp,heq,EX]
  all_goals contradiction
 ·exact h.elim
theorem Ae9 {z:Value} {x:TV} (h:zOk z x=true):z=mkV x z.cells.toList:=by
 unfold zOk at h
 split at h
 ·rw [ZW h]; simp [Value.cells]
 ·cases h
 ·rename_i hne1 hne2
  rw [Bool.not_eq_true'] at h
  have:z.cells.toList=[z]:=by
   cases z<;>first | rfl | exact absurd rfl (hne1 _)
  rw [this,Uu h]
theorem G9 {c:Ctx} {w:World} {kk:MK} {x:TV} {k:List UInt8} {v:Value} (h:Bq kk x=some k) (hr:Rep c w x v):v=NT kk k∧kOk kk k:=by
 unfold Bq at h
 split at h
 ·cases h
  rw [Rep.val] at hr
  exact ⟨by rw [hr]; rfl,trivial⟩
 ·rename_i n n' cs
  split at h
  ·rename_i hc
   obtain ⟨rfl,hc⟩:=hc
   cases h
   obtain ⟨us,hv,hl,hw,hrr⟩:=hr.arr
   have b1:∀ z∈cs,Abj z:=fun z hz=>PM (List.all_eq_true.1 hc z hz)
   exact ⟨by rw [hv,Hw b1 hrr]; rfl,by rw [kOk,List.length_map,hl]⟩
  ·cases h
 ·cases h
theorem Rep.mp {c:Ctx} {w:World} {id ver:Nat} {v:Value} (h:Rep c w (.mp id ver) v):c.has id ver∧∃ b o,c.β id ver=some (b,o)∧v = .map (some b):=by
 have:=h.inv1 (by simp) (by simp) (by simp) (by simp) (by simp)
 rw [Ag] at this
 obtain ⟨h1,b,o,h2,h3⟩:=this
 exact ⟨h1,b,o,h2,by simpa using h3⟩
theorem Vx {t kt:TypeId} {kk:MK} {z:Value} {x:TV} (h:Abb P t=some (kt,kk,z,x)):∃ e,P.underlying t=some (.map kt e)∧Abg P kt=some kk∧(∀ w:World,(zeroValue e).run P w = .ok z w)∧(∀ (c:Ctx) (w:World),Ag c w x z.cells.toList)∧z=mkV x z.cells.toList:=by
 unfold Abb at h
 split at h
 ·rename_i kt' e hu
  split at h
  ·rename_i kk' i hk hi
   split at h
   ·rename_i z' hz
    split at h
    ·rename_i x' hx
     split at h
     ·rename_i ho
      simp only [Option.some.injEq,Prod.mk.injEq] at h
      obtain ⟨rfl,rfl,rfl,rfl⟩:=h
      exact ⟨e,hu,hk,fun w=>by simp [zeroValue,typeInfo,hi,hz],fun c w=>(II hx).1,Ae9 ho⟩
     ·cases h
    ·cases h
   ·cases h
  ·cases h
 ·cases h
theorem Pi {c:Ctx} {w:World} {z x:TV} {ok b:Bool} {zv v:Value} {r:Option TV} (hx:Ag c w (r.getD z) v.cells.toList) (hv:v=mkV (r.getD z) v.cells.toList) (hb:b=r.isSome):Rep c w (Ul z ok r) (if ok then .tuple #[v,.bool b] else v):=by
 have h1:AaL c w (r.getD z) v := .inr (.inr ⟨_,hx,hv⟩)
 unfold Ul
 cases ok with
 | false=>exact .inl h1
 | true =>
  refine .inr ⟨_,[v,.bool b],rfl,rfl,?_⟩
  rw [AY.cons]; refine ⟨v,[.bool b],rfl,h1,?_⟩
  rw [AY.cons]; refine ⟨.bool b,[],rfl,.inr (.inl (by rw [hb])),?_⟩
  rw [AY.nil]
theorem AjP (hs:Sim c w) (he:AC c w e a) {t kt:TypeId} {kk:MK} {z:Value} {zx:TV} (h1:Abb P t=some (kt,kk,z,zx)) {x k:Operand} {ok:Bool} {ty:TypeId} (h:pop (.gen (.look kk zx ok) [trO x,trO k]) e c.H K):Ap P c w a K (.lookup t x k ok) ty:=by
 obtain ⟨et,u1,u2,u3,u4,u5⟩:=Vx h1
 simp only [pop,List.map_cons,List.map_nil,gev] at h
 split at h
 ·rename_i y hy
  unfold WI at hy
  split at hy
  ·rename_i id hx
   split at hy
   ·rename_i kk' es kb hid hkb
    split at hy
    ·rename_i hkk
     subst hkk
     cases hy
     obtain ⟨hk1,hk2⟩:=G9 hkb (he.ev k)
     obtain ⟨_,b,o,hb,hv⟩:=(he.rep hx).mp
     obtain ⟨b',ms,cl,k1,k2,k3,_⟩:=hs.ob id _ hid
     rw [hb] at k1
     obtain ⟨rfl,rfl⟩:b=b'∧o=0:=by simpa using k1
     have hck:=Fv (P:=P) (w:=w) u2 hk2 ms.isEmpty
     have hfk:=Hg (P:=P) (w:=w) u2 hk2 k3
     rcases Qw (k:=kb) 0 k3 with ⟨g1,g2⟩ | ⟨j,v,y,m,g1,g2,g3,g4,g5,g6,g7⟩
     ·refine Ap.mk (s:=Instr.lookup t (a.eval x) (a.eval k) ok) (fun o ho _=>by simp only [execOp,ho]) (v:=if ok then .tuple #[z,.bool false] else z) ?_ (Pi (r:=OB kb es) (zv:=z) (x:=zx) (by rw [g2]; exact u4 c w) (by rw [g2]; exact u5) (by rw [g2]; rfl)) h
      rw [hv,hk1]
      simp only [Instr.lookup,Sem.run_bind,run_underlying u1,Result.andThen_ok,BO k2,Sem.run_pure,hck,hfk,g1,u3]
     ·refine Ap.mk (s:=Instr.lookup t (a.eval x) (a.eval k) ok) (fun o ho _=>by simp only [execOp,ho]) (v:=if ok then .tuple #[v,.bool true] else v) ?_ (Pi (r:=OB kb es) (zv:=z) (x:=zx) (by rw [g2]; exact g6) (by rw [g2]; exact g7) (by rw [g2]; rfl)) h
      rw [hv,hk1]
      simp only [Instr.lookup,Sem.run_bind,run_underlying u1,Result.andThen_ok,BO k2,Sem.run_pure,hck,hfk,g1]
    ·cases hy
   ·rename_i kk' zs cl kb hid hkb
    split at hy
    ·rename_i hkk
     subst hkk
     cases hy
     obtain ⟨hk1,hk2⟩:=G9 hkb (he.ev k)
     obtain ⟨_,b,o,hb,hv⟩:=(he.rep hx).mp
     obtain ⟨b',ms,k1,k2,k3,_⟩:=hs.ob id _ hid
     rw [hb] at k1
     obtain ⟨rfl,rfl⟩:b=b'∧o=0:=by simpa using k1
     have hck:=Fv (P:=P) (w:=w) u2 hk2 ms.isEmpty
     have hfk:=Hg (P:=P) (w:=w) u2 hk2 k3
     rcases Qw (k:=kb) 0 k3 with ⟨g1,g2⟩ | ⟨j,v,y,m,g1,g2,g3,g4,g5,g6,g7⟩
     ·refine Ap.mk (s:=Instr.lookup t (a.eval x) (a.eval k) ok) (fun o ho _=>by simp only [execOp,ho]) (v:=if ok then .tuple #[z,.bool false] else z) ?_ (Pi (r:=OB kb (zs.map (·.2))) (zv:=z) (x:=zx) (by rw [g2]; exact u4 c w) (by rw [g2]; exact u5) (by rw [g2]; rfl)) h
      rw [hv,hk1]
      simp only [Instr.lookup,Sem.run_bind,run_underlying u1,Result.andThen_ok,BO k2,Sem.run_pure,hck,hfk,g1,u3]
     ·refine Ap.mk (s:=Instr.lookup t (a.eval x) (a.eval k) ok) (fun o ho _=>by simp only [execOp,ho]) (v:=if ok then .tuple #[v,.bool true] else v) ?_ (Pi (r:=OB kb (zs.map (·.2))) (zv:=z) (x:=zx) (by rw [g2]; exact g6) (by rw [g2]; exact g7) (by rw [g2]; rfl)) h
      rw [hv,hk1]
      simp only [Instr.lookup,Sem.run_bind,run_underlying u1,Result.andThen_ok,BO k2,Sem.run_pure,hck,hfk,g1]
    ·cases hy
   ·cases hy
  ·rename_i hx
   split at hy
   ·rename_i kb hkb
    cases hy
    obtain ⟨hk1,hk2⟩:=G9 hkb (he.ev k)
    have hck:=Fv (P:=P) (w:=w) u2 hk2 true
    have hfk:=Hg (P:=P) (w:=w) (c:=c) (w0:=w) (es:=[]) (ms:=[]) u2 hk2 (by rw [AL])
    refine Ap.mk (s:=Instr.lookup t (a.eval x) (a.eval k) ok) (fun o ho _=>by simp only [execOp,ho]) (v:=if ok then .tuple #[z,.bool false] else z) ?_ (Pi (r:=none) (zv:=z) (x:=zx) (u4 c w) u5 rfl) h
    rw [he.val hx,hk1]
    simp only [Instr.lookup,Sem.run_bind,run_underlying u1,Result.andThen_ok,Sem.run_pure]
    show (((Instr.checkKey true 10000 kt (NT kk kb)).run P w).andThen _)=_
    rw [hck,Result.andThen_ok]
    show (((Instr.findKey kt (NT kk kb) []).run P w).andThen _)=_
    rw [hfk,Result.andThen_ok]
    simp only [lkp,Sem.run_bind,u3,Result.andThen_ok,Sem.run_pure]
   ·cases hy
  ·cases hy
 ·exact h.elim
theorem AjU (hs:Sim c w) (he:AC c w e a) {x:Operand} {t ty:TypeId} (h1:Aag P t=true) (h:pop (.gen .lenM [trO x]) e c.H K):Ap P c w a K (.call { callee := .builtin .len,args:=[x].toArray,argTypes:=[t].toArray }) ty:=by
 obtain ⟨kt,et,h2⟩:∃ kt et,P.underlying t=some (.map kt et):=by
  unfold Aag at h1
  split at h1
  ·rename_i kt et hu; exact ⟨kt,et,hu⟩
  ·cases h1
 simp only [pop,List.map_cons,List.map_nil,gev] at h
 split at h
 ·rename_i y hy
  unfold AeY at hy
  split at hy
  ·rename_i id hx
   split at hy
   ·rename_i kk es hid
    cases hy
    obtain ⟨_,b,o,hb,hv⟩:=(he.rep hx).mp
    obtain ⟨b',ms,cl,k1,k2,k3,_⟩:=hs.ob id _ hid
    rw [hb] at k1
    obtain ⟨rfl,rfl⟩:b=b'∧o=0:=by simpa using k1
    have hl:=Nr k3
    intro o ho hot
    refine ⟨_,.int .i64 es.length,?_,Rep.of_val,h⟩
    rw [←hl]
    simp [execOp,ho,resolve,invoke,builtin,hv,Builtin.len_,run_underlying h2,goInt,BO k2]
   ·rename_i kk zs cl hid
    cases hy
    obtain ⟨_,b,o,hb,hv⟩:=(he.rep hx).mp
    obtain ⟨b',ms,k1,k2,k3,_⟩:=hs.ob id _ hid
    rw [hb] at k1
    obtain ⟨rfl,rfl⟩:b=b'∧o=0:=by simpa using k1
    have hl:=Nr k3
    rw [List.length_map] at hl
    intro o ho hot
    refine ⟨_,.int .i64 zs.length,?_,Rep.of_val,h⟩
    rw [←hl]
    simp [execOp,ho,resolve,invoke,builtin,hv,Builtin.len_,run_underlying h2,goInt,BO k2]
   ·cases hy
  ·rename_i hx
   cases hy
   intro o ho hot
   refine ⟨_,.int .i64 0,?_,Rep.of_val,h⟩
   simp [execOp,ho,resolve,invoke,builtin,he.val hx,Builtin.len_,run_underlying h2,goInt]
  ·cases hy
 ·exact h.elim
theorem U3 {c:Ctx} {w:World} {kk:MK}:∀ {zs:List (Nat×List UInt8×TV)} {ms:List MapEntry},AL c w kk (zs.map (·.2)) ms→ms.map (·.born)=zs.map (·.1) →
  ∀ z∈zs,∃ e∈ms,e.born=z.1∧(e.key=NT kk z.2.1∧kOk kk z.2.1)∧(Ag c w z.2.2 e.val.cells.toList∧e.val=mkV z.2.2 e.val.cells.toList)
 | [],_,_,_,z,hz=>by cases hz
 | (q,k,x)::zs,ms,h,hb,z,hz=>by
  obtain ⟨m,r,rfl,h1,h2,h3⟩:=h
  simp only [List.map_cons,List.cons.injEq] at hb
  rcases List.mem_cons.1 hz with rfl | hz
  ·exact ⟨m,by simp,hb.1,h1,h2⟩
  ·obtain ⟨e,he,k1⟩:=U3 h3 hb.2 z hz
   exact ⟨e,List.mem_cons_of_mem _ he,k1⟩
theorem U4 {c:Ctx} {w:World} {kk:MK}:∀ {zs:List (Nat×List UInt8×TV)} {ms:List MapEntry},AL c w kk (zs.map (·.2)) ms→ms.map (·.born)=zs.map (·.1) →
  ∀ e∈ms,∃ z∈zs,e.born=z.1∧(e.key=NT kk z.2.1∧kOk kk z.2.1)∧(Ag c w z.2.2 e.val.cells.toList∧e.val=mkV z.2.2 e.val.cells.toList)
 | [],ms,h,_,e,he=>by
  have:ms=[]:=h
  subst this; cases he
 | (q,k,x)::zs,ms,h,hb,e,he=>by
  obtain ⟨m,r,rfl,h1,h2,h3⟩:=h
  simp only [List.map_cons,List.cons.injEq] at hb
  rcases List.mem_cons.1 he with rfl | he
  ·exact ⟨(q,k,x),by simp,hb.1,h1,h2⟩
  ·obtain ⟨z,hz,k1⟩:=U4 h3 hb.2 e he
   exact ⟨z,List.mem_cons_of_mem _ hz,k1⟩
theorem VM:∀ (es:List (List UInt8×TV)) (i:Nat),(Ub i es).map (·.2)=es
 | [],_=>rfl
 | e::es,i=>by rw [Ub,List.map_cons,VM es]
theorem SL:∀ (es:List (List UInt8×TV)) (i:Nat),(Ub i es).map (·.1)=List.range' i es.length
 | [],_=>rfl
 | e::es,i=>by rw [Ub,List.map_cons,SL es,List.length_cons,List.range'_succ]
theorem ZF (hs:Sim c w) {id:Nat} {kk:MK} {zs:List (Nat×List UInt8×TV)} {cl:Nat} (h:stO c.H[id]?=some (kk,zs,cl)):∃ b ms,c.β id 0=some (b,0)∧w.heap[b]?=some (.map ms cl)∧AL c w kk (zs.map (·.2)) ms.toList ∧
  ms.toList.map (·.born)=zs.map (·.1)∧(zs.map (·.1)).Nodup∧∃ o,c.H[id]?=some o∧o.live=true∧o.ver=0:=by
 unfold stO at h
 split at h
 ·rename_i kk' es hid
  cases h
  obtain ⟨b,ms,cl,k1,k2,k3,k4,k5⟩:=hs.ob id _ hid
  have hl:=Nr k3
  rw [Array.length_toList] at hl
  refine ⟨b,ms,k1,by rw [k2,k4,hl],by rw [VM]; exact k3,by rw [k5,SL,hl,List.range_eq_range'],by rw [SL]; exact List.nodup_range',_,hid,rfl,rfl⟩
 ·rename_i kk' zs' cl' hid
  cases h
  obtain ⟨b,ms,k1,k2,k3,k4,k5⟩:=hs.ob id _ hid
  exact ⟨b,ms,k1,k2,k3,k4,k5,_,hid,rfl,rfl⟩
 ·cases h
theorem AdW {kk:MK} {k:List UInt8} (h:kOk kk k):AaL c w (kTV kk k) (NT kk k):=by
 cases kk with
 | str=>exact .inr (.inl rfl)
 | arr n =>
  refine .inr (.inr ⟨k.map fun b:UInt8=>Value.int .u8 b.toNat,?_,rfl⟩)
  rw [kTV,Ag]
  exact ⟨by rw [List.length_map]; exact h,fun x hx=>by obtain ⟨b,_,rfl⟩:=List.mem_map.1 hx; rfl,Hl k⟩
theorem AlS (hs:Sim c w) (he:AC c w e a) {x:Operand} {ty:TypeId} (h:pop (.gen .entM [trO x]) e c.H K):Ap P c w a K (.entry x) ty:=by
 simp only [pop,List.map_cons,List.map_nil] at h
 split at h
 ·rename_i y hy
  unfold gev at hy
  split at hy<;>try (cases hy; done)
  all_goals try simp only [List.cons.injEq,and_true,reduceCtorEq,and_false] at *
  rename_i id _ hx
  unfold AmE at hy
  split at hy
  ·rename_i m sn cl hid
   split at hy
   ·rename_i kk zs cl' s hm hsn
    split at hy
    ·rename_i hcl
     subst hcl
     split at hy
     ·rename_i z hz
      cases hy
      have hzm:=List.mem_of_find?_eq_some hz
      have hzs:=List.find?_some hz
      rw [beq_iff_eq] at hzs
      obtain ⟨r,b,k1,⟨k2,k3⟩,k4⟩:=hs.ob id _ hid
      obtain ⟨b',ms,q1,q2,q3,q4,q5,_⟩:=ZF hs hm
      rw [k3] at q1
      obtain ⟨rfl⟩:b=b':=by simpa using q1
      obtain ⟨en,g1,g2,⟨g3,g3'⟩,g4,g5⟩:=U3 q3 q4 z hzm
      obtain ⟨_,b2,o,hb2,hv⟩:=(he.rep hx).op
      have hb2':c.β id 0=some (b2,o):=hb2
      have k1':c.β id 0=some (r,0):=k1
      rw [k1'] at hb2'
      obtain ⟨rfl,rfl⟩:r=b2∧0=o:=by simpa using hb2'
      have hv':a.eval x = .pointer (some ⟨r,0,none⟩):=hv
      have hsn':sn.toArray=(sn.dropLast.toArray).push en.born:=by
       obtain ⟨pre,rfl⟩:=List.getLast?_eq_some_iff.1 hsn
       rw [g2,hzs]; simp
      have hrun:=run_entry_at (P:=P) w r b cl' sn.dropLast.toArray ms cl' en (by rw [k4,hsn']) q2 g1 (by rw [q4]; exact q5)
      refine Ap.mk (s:=Instr.entry (a.eval x)) (fun o ho _=>by simp only [execOp,ho]) (v := .tuple #[en.key,en.val]) (by rw [hv']; exact hrun) (.inr ⟨_,[en.key,en.val],rfl,rfl,?_⟩) h
      rw [AY.cons]; refine ⟨_,_,rfl,by rw [g3]; exact AdW g3',?_⟩
      rw [AY.cons]; exact ⟨_,_,rfl,.inr (.inr ⟨_,g4,g5⟩),by rw [AY.nil]⟩
     ·cases hy
    ·cases hy
   ·cases hy
  ·cases hy
 ·exact h.elim
theorem AmR (he:AC c w e a) {t xt ty:TypeId} {d:TypeDesc} (h1:P.underlying t=some d) (hne:∀ ms,d ≠ .interface ms) {x:Operand} (h:pop (.gen (.tas t) [trO x]) e c.H K):Ap P c w a K (.typeAssert x xt t false) ty:=by
 simp only [pop,List.map_cons,List.map_nil] at h
 split at h
 ·rename_i y hy
  unfold gev at hy
  split at hy<;>try (cases hy; done)
  all_goals try simp only [List.cons.injEq,and_true,reduceCtorEq,and_false] at *
  rename_i t2 t3 x2 hk hu
  cases hk
  split at hy
  ·rename_i hc
   subst hc
   cases hy
   have hr:Rep c w (.ifc t3 y) (a.eval x):=he.rep hu
   have h2:=hr.inv1 (by simp) (by simp) (by simp) (by simp) (by simp)
   rw [Ag] at h2
   obtain ⟨u,hv,vs,hrc,rfl⟩:=h2
   have hv':a.eval x = .iface t3 (mkV y vs):=by simpa using hv
   refine Ap.mk (s:=Instr.typeAssert (a.eval x) xt t3 false) (fun o ho _=>by simp only [execOp,ho]) (v:=mkV y vs) ?_ (Rep.of_cells hrc) h
   rw [hv']
   cases d<;>first | exact absurd rfl (hne _) | simp [Instr.typeAssert,run_underlying h1]
  ·cases hy
 ·exact h.elim
theorem AkY (he:AC c w e a) {x:Operand} {t ty:TypeId} (h1:(Bi P t).isSome=true) (h:pop (.gen .capV [trO x]) e c.H K):Ap P c w a K (.call { callee := .builtin .cap,args:=[x].toArray,argTypes:=[t].toArray }) ty:=by
 obtain ⟨⟨k,et⟩,h1⟩:=Option.isSome_iff_exists.1 h1
 have h2:=(AQ h1).1
 simp only [pop,List.map_cons,List.map_nil] at h
 split at h
 ·rename_i y hy
  unfold gev at hy
  split at hy<;>try (cases hy; done)
  all_goals try simp only [List.cons.injEq,and_true,reduceCtorEq,and_false] at *
  rename_i hu
  cases hy
  intro o ho hot
  refine ⟨_,_,?_,Rep.of_val,h⟩
  simp [execOp,ho,resolve,invoke,builtin,he.val hu,Builtin.cap_,run_underlying h2,goInt]
 ·exact h.elim
theorem AmM (he:AC c w e a) {t et ty:TypeId} {n k:Nat} (h1:KW P t=some (n,k,et)) {x:Operand} (h:pop (.gen (.s2a n k) [trO x]) e c.H K):Ap P c w a K (.sliceToArrayPointer t x) ty:=by
 simp only [pop,List.map_cons,List.map_nil] at h
 split at h
 ·rename_i y hy
  unfold gev at hy
  split at hy<;>try (cases hy; done)
  all_goals try simp only [List.cons.injEq,and_true,reduceCtorEq,and_false] at *
  rename_i n' k1 k' cs hk hu
  cases hk
  split at hy
  ·rename_i hc
   obtain ⟨rfl,hn,hl⟩:=hc
   cases hy
   have hr:=he.ev x
   rw [hu] at hr
   obtain ⟨hw,⟨rfl,_⟩ | ⟨b,off,cap,vs,hv,_,_,hF,hrc,hcl⟩⟩:=hr.sl
   ·simp at hl; omega
   ·rw [←List.take_append_drop n cs] at hrc
    obtain ⟨m,q,rfl,g1,g2⟩:=Ah.split hrc
    refine Ap.mk (s:=Instr.arrayAt t (a.eval x)) (fun o ho _=>by simp only [execOp,ho]) (v := .pointer (some ⟨b,off,none⟩)) ?_ (Rep.mk_fp (vs:=m) rfl hF ?_ ?_) h
    ·rw [hv]
     simp only [Instr.arrayAt,Sem.run_bind,run_underlying (J8 h1).1,Result.andThen_ok]
     rw [if_neg (by omega)]; rfl
    ·rw [Ag]
     exact ⟨by rw [List.length_take]; omega,fun z hz=>hw z (List.mem_of_mem_take hz),g1⟩
    ·intro j u hj
     exact hcl j u (by rw [List.getElem?_append_left (List.getElem?_eq_some_iff.1 hj).1]; exact hj)
  ·cases hy
 ·exact h.elim
theorem AbS (hs:Sim c w) (he:AC c w e a) {op:Op} {vo:POp} (ht:trP P op=some vo) {ty:TypeId} (h:pop vo e c.H K):Ap P c w a K op ty:=by
 cases op with
 | move x=>simp only [trP,Option.some.injEq] at ht; subst ht; exact Anm he h
 | assign x=>simp only [trP,Option.some.injEq] at ht; subst ht; exact Anz he h
 | pick x y z=>simp only [trP,Option.some.injEq] at ht; subst ht; exact AlG he h
 | unOp op t x=>simp only [trP,Option.some.injEq] at ht; subst ht; exact ApF he h
 | extract x i=>simp only [trP,Option.some.injEq] at ht; subst ht; exact AmZ he h
 | makeFunc f x y=>simp only [trP,Option.some.injEq] at ht; subst ht; exact AoK he h
 | entry x=>simp only [trP,Option.some.injEq] at ht; subst ht; exact AlS hs he h
 | nilCheck x=>simp only [trP,Option.some.injEq] at ht; subst ht; exact Alo he h
 | binOp op t x y yt =>
  simp only [trP] at ht
  split at ht
  ·cases ht; exact AjV he h
  ·cases ht; exact AjV he h
  ·rename_i hu; split at ht
   ·rename_i ho; cases ht; exact Ang he hu ho h
   ·cases ht
  ·rename_i d hu; split at ht
   ·rename_i ho; cases ht; exact Afv he ho (.inl ⟨rfl,d,hu⟩) (fun h=>by cases h) h
   ·cases ht
  ·rename_i k d hu; split at ht
   ·rename_i ho; cases ht; exact Afv he ho (.inr (.inr (.inl ⟨rfl,k,d,hu⟩))) (fun h=>by cases h) h
   ·cases ht
  ·rename_i ps rs vr hu; split at ht
   ·rename_i ho; cases ht; exact Afv he ho (.inr (.inr (.inr ⟨rfl,ps,rs,vr,hu⟩))) (fun h=>by cases h) h
   ·cases ht
  ·rename_i ms hu; split at ht
   ·rename_i ho; cases ht; rw [Bool.and_eq_true] at ho; exact Afv he ho.1 (.inr (.inl ⟨rfl,ms,hu⟩)) (fun _=>ho.2) h
   ·cases ht
  ·rename_i n et hu; split at ht
   ·rename_i ho; cases ht; rw [Bool.and_eq_true,Bool.and_eq_true,Bool.not_eq_true'] at ho; exact AmV he hu ho.1.2 ho.2 ho.1.1 h
   ·cases ht
  ·rename_i fs hu; split at ht
   ·rename_i ho; rw [Bool.and_eq_true,Bool.and_eq_true,Bool.not_eq_true',Bool.not_eq_true'] at ho; obtain ⟨sh,hsh,rfl⟩:=Option.map_eq_some_iff.1 ht; exact AoE he hu hsh ho.1.2 ho.2 ho.1.1 h
   ·cases ht
  ·cases ht
 | convert src dst x =>
  simp only [trP] at ht
  split at ht
  ·rename_i h1 h2; cases ht; exact Alb he h1 h2 h
  ·rename_i h1 h2; cases ht; exact Aof he h1 h2 h
  ·rename_i h1 h2; cases ht; exact Anr he h1 h2 h
  ·rename_i h1 h2; split at ht
   ·rename_i h3; cases ht; exact AnM hs he h3 h2 h
   ·cases ht
  ·cases ht
 | load t x =>
  simp only [trP] at ht
  split at ht
  ·rename_i h1 h2; cases ht; exact Ag9 hs he h1 h2 h
  ·cases ht
 | fieldAddr t x f =>
  simp only [trP] at ht
  split at ht
  ·rename_i h1; split at ht
   ·rename_i h2; split at ht
    ·cases ht
    ·rename_i h3; cases ht; exact Af2 he h1 h2 h3 h
   ·cases ht
  ·cases ht
 | field t x f =>
  simp only [trP] at ht
  split at ht
  ·rename_i h1; split at ht
   ·rename_i h2 h3; cases ht; exact AhB he h1 h2 h3 h
   ·cases ht
  ·cases ht
 | indexAddr t x i =>
  simp only [trP] at ht
  split at ht
  ·rename_i h1; cases ht; exact Al5 he h1 h
  ·rename_i h1; cases ht; exact Ai3 he h1 h
  ·cases ht
 | index t x i =>
  simp only [trP] at ht
  split at ht
  ·rename_i h1; cases ht; exact Alc he h1 h
  ·rename_i h1; split at ht
   ·rename_i h2; cases ht; exact Ani he h1 h2 h
   ·cases ht
  ·cases ht
 | slice t x lo hi mx =>
  cases mx with
  | some mx =>
   cases hi with
   | none=>simp [trP] at ht
   | some hi =>
    simp only [trP] at ht
    split at ht
    ·rename_i h1; cases ht; exact AnY he h1 h
    ·cases ht
  | none =>
   simp only [trP] at ht
   split at ht
   ·rename_i h1; cases ht; exact Aok he h1 h
   ·rename_i h1; cases ht; exact Aoj he h1 h
   ·rename_i h1; cases ht; exact AmW hs he h1 h
   ·cases ht
 | lookup t x k ok =>
  simp only [trP] at ht
  split at ht
  ·rename_i h1; cases ht; exact AjP hs he h1 h
  ·cases ht
 | sliceToArrayPointer t x =>
  simp only [trP] at ht
  split at ht
  ·rename_i h1; cases ht; exact AmM he h1 h
  ·cases ht
 | typeAssert x xt t ok =>
  cases ok with
  | true=>simp [trP] at ht
  | false =>
   simp only [trP] at ht
   split at ht
   ·cases ht
   ·rename_i d hne hu; cases ht; exact AmR he hu (fun ms hd=>hne ms hd) h
   ·cases ht
 | makeInterface t x =>
  simp only [trP] at ht
  split at ht
  ·cases ht
  ·rename_i d hne hu; cases ht; exact Aji he hu (fun ms hd=>hne ms hd) h
  ·cases ht
 | build t ps =>
  simp only [trP] at ht
  split at ht
  ·rename_i h1; cases ht; exact Aib he h1 h
  ·rename_i h0 h1; cases ht; exact AfZ he h0 h1 h
  ·cases ht
 | call cl =>
  obtain ⟨callee,args,ts⟩:=cl
  obtain ⟨args⟩:=args
  obtain ⟨ts⟩:=ts
  cases callee with
  | value f=>simp [trP] at ht
  | invoke f m=>simp [trP] at ht
  | builtin b =>
   cases b with
   | len =>
    rcases args with _ | ⟨x,_ | ⟨y,args⟩⟩<;>rcases ts with _ | ⟨t,_ | ⟨t',ts⟩⟩<;>simp only [trP] at ht<;>first | (cases ht; done) | skip
    split at ht
    ·rename_i h1; cases ht; exact Al3 he h1 h
    ·split at ht
     ·rename_i h1; cases ht; exact AjR he h1 h
     ·split at ht
      ·rename_i h1; cases ht; exact AjU hs he h1 h
      ·cases ht
   | cap =>
    rcases args with _ | ⟨x,_ | ⟨y,args⟩⟩<;>rcases ts with _ | ⟨t,_ | ⟨t',ts⟩⟩<;>simp only [trP] at ht<;>first | (cases ht; done) | skip
    split at ht
    ·rename_i h1; cases ht; exact AkY he h1 h
    ·cases ht
   | min =>
    rcases args with _ | ⟨x,_ | ⟨y,_ | ⟨z,args⟩⟩⟩<;>simp only [trP] at ht<;>first | (cases ht; done) | skip
    cases ht; exact Am0 he h
   | max =>
    rcases args with _ | ⟨x,_ | ⟨y,_ | ⟨z,args⟩⟩⟩<;>simp only [trP] at ht<;>first | (cases ht; done) | skip
    cases ht; exact AoN he h
   | _=>simp [trP] at ht
 | _=>simp [trP] at ht
end sound
end
section
open Go.RowKit
variable [A7]
set_option autoImplicit false
def obV:Option Ob→Option Nat
 | some (.obj v _)=>some v
 | _=>none
theorem Aff {o:Option Ob} {v:Nat} (h:obV o=some v):∃ y,o=some (.obj v y):=by
 unfold obV at h
 split at h
 ·cases h; exact ⟨_,rfl⟩
 ·cases h
def Au (P:Program) (f:FuncId) (args:List TV) (H:List Ob) (R:TV→List Ob→Prop):Prop :=
 ∀ (β:Nat→Nat→Option (Nat×Nat)) (F:Nat→Prop) (w:World) (vs:List Value),Sim ⟨β,H,F⟩ w→AY ⟨β,H,F⟩ w args vs →
  Calls P f vs.toArray w fun e w'=>∃ v x β' H' F',e = .returned v∧R x H'∧Sim ⟨β',H',F'⟩ w'∧Ar ⟨β,H,F⟩ w ⟨β',H',F'⟩ w'∧Rep ⟨β',H',F'⟩ w' x v
theorem Au.mono {P:Program} {f:FuncId} {args:List TV} {H:List Ob} {R R':TV→List Ob→Prop} (h:Au P f args H R) (hr:∀ x H',R x H'→R' x H'):Au P f args H R' :=
 fun β F w vs hs hv=>(h β F w vs hs hv).mono fun _ _ ⟨v,x,β',H',F',h1,h2,h3⟩=>⟨v,x,β',H',F',h1,hr _ _ h2,h3⟩
def Tc (P:Program) (f:FuncId) (args:List TV) (H:List Ob) (R:TV→List Ob→Prop) (RP:Value→List Ob→Prop):Prop :=
 ∀ (β:Nat→Nat→Option (Nat×Nat)) (F:Nat→Prop) (w:World) (vs:List Value),Sim ⟨β,H,F⟩ w→AY ⟨β,H,F⟩ w args vs →
  Calls P f vs.toArray w fun e w'=>∃ β' H' F',Sim ⟨β',H',F'⟩ w'∧Ar ⟨β,H,F⟩ w ⟨β',H',F'⟩ w'∧((∃ v x,e = .returned v∧R x H'∧Rep ⟨β',H',F'⟩ w' x v)∨∃ u,e = .panicked [{ v:=u,recovered:=false }]∧RP u H')
theorem Tc.mono {P:Program} {f:FuncId} {args:List TV} {H:List Ob} {R R':TV→List Ob→Prop} {RP RP':Value→List Ob→Prop} (h:Tc P f args H R RP) (hr:∀ x H',R x H'→R' x H') (hp:∀ u H',RP u H'→RP' u H'):Tc P f args H R' RP' :=
 fun β F w vs hs hv=>(h β F w vs hs hv).mono fun _ _ ⟨β',H',F',h1,h2,h3⟩=>⟨β',H',F',h1,h2,h3.imp (fun ⟨v,x,k1,k2,k3⟩=>⟨v,x,k1,hr _ _ k2,k3⟩) fun ⟨u,k1,k2⟩=>⟨u,k1,hp _ _ k2⟩⟩
def fz (ro:Option Nat):Fence:={ Fence.wide with round:=ro }
def OW (P:Program) (o:Oper) (a:Act) (w:World) (KK:Act→World→Prop) (Q:Exit→Act→World→Prop):Prop:=∀ (ro:Option Nat) (n:Nat),o.wpIn (fz ro) n P a w KK Q
theorem Ab1 {ro:Option Nat} {n:Nat} {P:Program} {row:String} {args:Array Value} {w:World} {R:Value→World→Prop} (h:Rows P row args w R):RowsIn (fz ro) n P row args w R:=by
 intro c cs _
 obtain ⟨v,w',r,s⟩:=h c cs
 exact ⟨v,w',r,(stepsIn_wide.2 s:StepsIn (Machine.fenced P Fence.wide) P _ _)⟩
theorem OW.of_wp {P:Program} {o:Oper} {a:Act} {w:World} {KK:Act→World→Prop} {Q:Exit→Act→World→Prop} (hd:∀ c,o.op ≠ .defer c) (h:o.wp P a w KK Q):OW P o a w KK Q:=by
 intro ro n
 refine ⟨fun _ _=>trivial,?_⟩
 rw [show (fz ro).round=ro from rfl,Oper.semAt_eq ro a.eval o hd]
 unfold Oper.wp at h
 generalize (execOp a.eval o).run P w=r at *
 cases r with
 | ok x w' =>
  cases x with
  | value v=>exact h
  | skip=>exact h
  | defer d=>exact h
  | enter f args=>exact ⟨fun h=>by simp [fz,Fence.wide] at h,((callsIn_wide (n:=n - 1)).2 h:CallsIn Fence.wide (n - 1) P f args w' _)⟩
  | row r args=>exact ⟨fun h=>by simp [fz,Fence.wide] at h,Ab1 h⟩
  | _=>exact h.elim
 | halt x w'=>cases x<;>first | exact h | exact h.elim
def OH (P:Program) (id ver:Nat) (args:List TV) (H:List Ob) (R:TV→List Ob→Prop):Prop :=
 ∀ (β:Nat→Nat→Option (Nat×Nat)) (F:Nat→Prop) (w:World) (vs:List Value) (b o:Nat),Sim ⟨β,H,F⟩ w→AY ⟨β,H,F⟩ w args vs→β id ver=some (b,o) →
  ∀ n,YieldAt (fz none) n P b vs.toArray w fun e w'=>∃ v x β' H' F',e = .returned v∧R x H'∧Sim ⟨β',H',F'⟩ w'∧Ar ⟨β,H,F⟩ w ⟨β',H',F'⟩ w'∧Rep ⟨β',H',F'⟩ w' x v
theorem OH.mono {P:Program} {id ver:Nat} {args:List TV} {H:List Ob} {R R':TV→List Ob→Prop} (h:OH P id ver args H R) (hr:∀ x H',R x H'→R' x H'):OH P id ver args H R' :=
 fun β F w vs b o hs hv hb n=>by
  obtain ⟨fn,tmps,aS,bd,h1,h2⟩:=h β F w vs b o hs hv hb n
  exact ⟨fn,tmps,aS,bd,h1,h2.mono fun _ _ ⟨v,x,β',H',F',h1,h2,h3⟩=>⟨v,x,β',H',F',h1,hr _ _ h2,h3⟩⟩
def SK (P:Program) (f:FuncId):Bool:=match P.funcs[f]? with
 | some fn=>fn.body.isSome && !(fn.name == "runtime.NumGoroutine")
 | none=>false
def Aes (P:Program) (t:TypeId) (nm:String):Option (FuncId×Option (Bool×Nat)):=match P.info? t with
 | some i=>(match i.methods.find? (·.name == nm) with
  | some m=>if m.path.isEmpty then (match m.func with
   | some (f,true)=>(match P.underlying t with
    | some (.pointer _)=>some (f,none)
    | _=>none)
   | some (f,false)=>(match P.underlying t with
    | some (.pointer el)=>(match Us P el,Oe P el with
     | some ag,some sz=>some (f,some (ag,sz))
     | _,_=>none)
    | some _=>some (f,none)
    | none=>none)
   | none=>none) else none
  | none=>none)
 | none=>none
theorem ZV {P:Program} {t:TypeId} {nm:String} {r:FuncId×Option (Bool×Nat)} (h:Aes P t nm=some r):∃ i m d pr,P.info? t=some i∧i.methods.find? (·.name == nm)=some m∧m.path = #[]∧m.func=some (r.1,pr)∧P.underlying t=some d ∧
  ((pr=true∧(∃ el,d = .pointer el)∧r.2=none)∨(pr=false∧(∀ el,d ≠ .pointer el)∧r.2=none)∨(pr=false∧∃ el ag sz,d = .pointer el∧Us P el=some ag∧Oe P el=some sz∧r.2=some (ag,sz))):=by
 unfold Aes at h
 split at h
 ·rename_i i hi
  split at h
  ·rename_i m hm
   split at h
   ·rename_i hp
    have hp':m.path = #[]:=by simpa using hp
    split at h
    ·rename_i f hf
     split at h
     ·rename_i el hu; cases h; exact ⟨i,m,_,true,hi,hm,hp',hf,hu,.inl ⟨rfl,⟨el,rfl⟩,rfl⟩⟩
     ·cases h
    ·rename_i f hf
     split at h
     ·rename_i el hu
      split at h
      ·rename_i ag sz h1 h2; cases h; exact ⟨i,m,_,false,hi,hm,hp',hf,hu,.inr (.inr ⟨rfl,el,ag,sz,rfl,h1,h2,rfl⟩)⟩
      ·cases h
     ·rename_i d hne hu; cases h; exact ⟨i,m,d,false,hi,hm,hp',hf,hu,.inr (.inl ⟨rfl,fun el e=>hne el (by rw [e]),rfl⟩)⟩
     ·cases h
    ·cases h
   ·cases h
  ·cases h
 ·cases h
theorem Ago {P:Program} {w:World} {ts:Array TypeId} {t:TypeId} {a:Addr} {x y:String}:(Builtin.ssaWrapNilChk_ ts t #[.pointer (some a),strVal x,strVal y]).run P w = .ok (.pointer (some a)) w:=by rfl
theorem AaW {P:Program} {t:TypeId} {nm:String} {f:FuncId} (h:Aes P t nm=some (f,none)) (w:World) (v:Value) (k:Nat):(method (k+1) t v nm).run P w = .ok (f,v) w:=by
 obtain ⟨i,m,d,pr,h1,h2,h3,h4,h5,h6⟩:=ZV h
 have hp:(follow m.path.toList t (.val v)).run P w = .ok (t,.val v) w:=by rw [h3]; simp [follow]
 rcases h6 with ⟨rfl,⟨el,rfl⟩,_⟩ | ⟨rfl,hne,_⟩ | ⟨rfl,el,ag,sz,rfl,_,_,h7⟩
 ·simp [method,typeInfo,h1,h2,hp,h4,receiverAt,run_underlying h5,Place.get]
 ·have hr:∀ q,(receiverAt t (.val v) false q).run P w = .ok v w:=by
   intro q
   cases d<;>first | exact absurd rfl (hne _) | simp [receiverAt,run_underlying h5,Place.get]
  simp [method,typeInfo,h1,h2,hp,h4,hr]
 ·cases h7
theorem U7 {P:Program} {t:TypeId} {nm:String} {f:FuncId} {ag:Bool} {sz:Nat} (h:Aes P t nm=some (f,some (ag,sz))) {c:Ctx} {w:World} {b off:Nat} {y:TV} {us:List Value} (hr:Ag c w y us) (hc:Cc w b off us) (hy:V7 ag sz y) (k:Nat) :
  (method (k+1) t (.pointer (some ⟨b,off,none⟩)) nm).run P w = .ok (f,mkV y us) w:=by
 obtain ⟨i,m,d,pr,h1,h2,h3,h4,h5,h6⟩:=ZV h
 have hp:∀ v,(follow m.path.toList t (.val v)).run P w = .ok (t,.val v) w:=by intro v; rw [h3]; simp [follow]
 rcases h6 with ⟨rfl,⟨el,rfl⟩,h7⟩ | ⟨rfl,hne,h7⟩ | ⟨rfl,el,ag,sz,rfl,g1,g2,h7⟩
 ·cases h7
 ·cases h7
 ·cases h7
  have hl:=KX g1 g2 hr hc hy
  simp only [Instr.loadAt,Instr.sureAddr] at hl
  have hl':(loadVar el ⟨b,off,none⟩).run P w = .ok (mkV y us) w:=by simpa using hl
  simp [method,typeInfo,h1,h2,hp,h4,receiverAt,run_underlying h5,Place.get,h3,follow,Ago,asAddr,hl']
inductive SOp where
 | alloc (z:TV)
 | box (x:Opd)
 | bslice (k n:Nat) (z:TV) (ps:List (Nat×Opd))
 | store (sz:Nat) (x v:Opd)
 | mks (k bytes:Nat) (z:TV) (l c:Opd)
 | app (k bytes:Nat) (et:TypeId) (x y:Opd)
 | appS (et:TypeId) (x y:Opd)
 | rngM (x:Opd)
 | nxtM (x:Opd)
 | delM (kk:MK) (m k:Opd)
 | clrS (k:Nat) (z:TV) (x:Opd)
 | eqS (x:Opd) (neg:Bool)
 | appZ (k bytes:Nat) (et:TypeId) (z:TV) (x n:Opd)
 | s2b (x:Opd)
 | cvS (x:Opd)
 | copy (k:Nat) (x y:Opd)
 | copyS (x y:Opd)
 | call (f:FuncId) (args:List Opd)
 | callv (x:Opd) (args:List Opd)
 | inv (x:Opd) (nm:String) (args:List Opd)
 | mkm (kk:MK) (h:Option Opd)
 | mupd (kk:MK) (m k x:Opd)
 | ment (kk:MK) (z:TV) (m k:Opd)
 | mest (m st x:Opd)
 | allocT (z:TV) (t:TypeId)
 | boxT (x:Opd) (t:TypeId)
 | rngS (x:Opd)
 | nxtS (x:Opd)
 | bstr (f:FuncId) (x:Opd)
 | pan (x:Opd)
 deriving Inhabited
def Aos (P:Program) (f:FuncId):Prop:=∀ (id ver j v cp:Nat) (p:List (Nat×Nat)) (x a:TV) (l:List UInt8) (H:List Ob) (K:TV→List Ob→Prop),H[id]?=some (.obj ver x)→J5 p x=some (.agg [a,.os 1 j v [] 0 l.length cp])→Aw a=1 →
 H[j]?=some (.bld v Xr l)→l.length≤9223372036854775807→K (.val (.string (str l))) (H.set j (.gone v))→Au P f [.op id ver p] H K
def AaH (H:List Ob) (x:TV):Option (Nat×Nat×List UInt8):=match x with
 | .op id ver p=>(match H[id]? with
  | some (.obj v y)=>if v=ver then (match J5 p y with
   | some (.agg [a,.os 1 j v2 [] 0 n cp])=>(match H[j]? with
    | some (.bld v3 t l)=>if v3=v2∧t=Xr∧n=l.length∧Aw a=1 then some (j,v2,l) else none
    | _=>none)
   | _=>none) else none
  | _=>none)
 | _=>none
def AfA (o:Option Ob) (ver k:Nat) (et:TypeId) (off n:Nat) (ys:List TV):Option Ob:=match o with
 | some (.obj v (.arr _ k'' cs))=>if v=ver∧k''=k then some (.obj (ver+1) (.arr (n+ys.length) k ((cs.drop off).take n++ys))) else none
 | some (.bld v t l)=>if v=ver∧k=1∧t=et∧off=0∧ys.all Vm=true then some (.bld (ver+1) t (l.take n++ys.map TT)) else none
 | _=>none
def AjF:Option Ob→Nat
 | some (.obj _ (.arr _ _ cs))=>cs.length
 | some (.bld _ _ l)=>l.length
 | _=>0
def Vl (k bytes:Nat) (et:TypeId) (x:TV) (ys:List TV) (H:List Ob) (K:TV→List Ob→Prop):Prop:=match x with
 | .val (.slice none 0 0)=>(ys.length*bytes≤140737488355328∧ys.length≤9223372036854775807)∧K (.os k H.length 1 [] 0 ys.length ys.length) (H++[.obj 1 (.arr ys.length k ys)])
 | .os k' id ver [] off n cp=>k'=k∧(match AfA H[id]? ver k et off n ys with
  | some o=>(off+n≤AjF H[id]?∧(n+ys.length)*bytes≤140737488355328∧n+ys.length≤9223372036854775807)∧K (.os k id (ver+1) [] 0 (n+ys.length) (n+ys.length)) (H.set id o)
  | none=>False)
 | _=>False
def Qi (k:Nat) (x:TV) (ys:List TV) (H:List Ob) (K:TV→List Ob→Prop):Prop:=match x with
 | .os k' id ver p off n cp=>k'=k∧(match H[id]? with
  | some (.obj v z)=>v=ver∧(match J5 p z with
   | some (.arr N k'' cs)=>k''=k∧off+n≤cs.length∧(match QO p z (.arr N k (cs.take off++(ys.take n++cs.drop (off+min ys.length n)))) with
    | some z'=>K (.val (.int .i64 (min ys.length n:Nat))) (H.set id (.obj ver z'))
    | none=>False)
   | _=>False)
  | _=>False)
 | _=>False
def ldT (H:List Ob) (ag:Bool) (sz:Nat) (x:TV) (K:TV→Prop):Prop:=match x with
 | .fp y=>V7 ag sz y∧K y
 | .op id ver p=>(match H[id]? with
  | some (.obj v z)=>v=ver∧(match J5 p z with
   | some y=>V7 ag sz y∧K y
   | none=>False)
  | _=>False)
 | _=>False
def AmK (P:Program) (nm:String) (H:List Ob) (x:TV) (K:FuncId→TV→Prop):Prop:=match x with
 | .ifc t r=>(match Aes P t nm with
  | some (f,none)=>SK P f=true∧K f r
  | some (f,some (ag,sz))=>SK P f=true∧ldT H ag sz r fun y=>K f y
  | none=>False)
 | _=>False
def sop (P:Program) (o:SOp) (e:Env) (H:List Ob) (K:TV→List Ob→Prop):Prop:=match o with
 | .pan _=>False
 | .alloc z=>K (.op H.length 0 []) (H++[.obj 0 z])
 | .box x=>lays (x.ev e)=true∧K (.op H.length 0 []) (H++[.obj 0 (x.ev e)])
 | .bslice k n z ps=>(DD e (List.replicate n k) ps∧Bg e ps∧n≤1000)∧K (.os k H.length 0 [] 0 n n) (H++[.obj 0 (.arr n k (EE e (List.replicate n z) ps))])
 | .store sz x v=>(lays (v.ev e)=true∧Aw (v.ev e)=sz)∧(match x.ev e with
  | .op id ver p=>(match H[id]? with
   | some (.obj vr y)=>vr=ver∧(match QO p y (v.ev e) with | some y'=>K .any (H.set id (.obj ver y')) | none=>False)
   | _=>False)
  | _=>False)
 | .mks k bytes z l c=>match l.ev e,c.ev e with
  | .val (.int _ l),.val (.int _ c)=>(0≤l∧l≤c∧(bytes:Int)*c≤281474976710656∧c≤9223372036854775807)∧K (.os k H.length 0 [] 0 l.toNat c.toNat) (H++[.obj 0 (.arr c.toNat k (List.replicate c.toNat z))])
  | _,_=>False
 | .app k bytes et x y=>match BA H k (y.ev e) with
  | some ys=>Vl k bytes et (x.ev e) ys H K
  | none=>False
 | .appS et x y=>match y.ev e with
  | .val (.string s)=>Vl 1 1 et (x.ev e) ((bl s).map by8) H K
  | _=>False
 | .rngM x=>match x.ev e with
  | .mp id 0=>(match stO H[id]? with
   | some (_,_,cl)=>K (.op H.length 0 []) (H++[.mit id [] cl])
   | none=>False)
  | _=>False
 | .nxtM x=>match x.ev e with
  | .op id 0 []=>(match H[id]? with
   | some (.mit m sn cl)=>(match stO H[m]? with
    | some (kk,zs,cl')=>(cl'=cl∧∀ z∈zs,z.1<cl)∧(∀ z∈zs,z.1∉sn→K (.tup [.val (.bool true),kTV kk z.2.1,z.2.2]) (H.set id (.mit m (sn++[z.1]) cl)))∧((∀ z∈zs,z.1∈sn)→K (.tup [.val (.bool false)]) H)
    | none=>False)
   | _=>False)
  | _=>False
 | .delM kk m k=>match m.ev e,Bq kk (k.ev e) with
  | .mp id 0,some kb=>(match stO H[id]? with
   | some (kk',zs,cl)=>kk'=kk∧K .any (H.set id (.mpd kk (zs.eraseIdx (U9 kb (zs.map (·.2)))) cl))
   | none=>False)
  | _,_=>False
 | .clrS k z x=>match x.ev e with
  | .os k' id ver p off n cp=>Qi k (.os k' id ver p off n cp) (List.replicate n z) H fun _ H'=>K .any H'
  | .val (.slice none 0 0)=>K .any H
  | _=>False
 | .eqS x neg=>match x.ev e with
  | .val (.slice a _ _)=>K (.val (.bool (xor neg a.isNone))) H
  | .sl _ cs=>(cs=[]→K (.val (.bool true)) H∧K (.val (.bool false)) H)∧(cs≠[]→K (.val (.bool neg)) H)
  | .os _ _ _ _ _ n _=>(n=0→K (.val (.bool true)) H∧K (.val (.bool false)) H)∧(n≠0→K (.val (.bool neg)) H)
  | _=>False
 | .appZ k bytes et z x n=>match x.ev e,n.ev e with
  | .val (.slice none 0 0),.val (.int .i64 j)=>(0≤j∧(bytes:Int)*j≤140737488355328∧j≤9223372036854775807)∧K (.os k H.length 0 [] 0 j.toNat j.toNat) (H++[.obj 0 (.arr j.toNat k (List.replicate j.toNat z))])
  | .os k' id ver p off m cp,.val (.int .i64 j)=>(0≤j∧(bytes:Int)*j≤140737488355328∧j≤9223372036854775807)∧Vl k bytes et (.os k' id ver p off m cp) (List.replicate j.toNat z) H K
  | _,_=>False
 | .copy k x y=>match BA H k (y.ev e) with
  | some ys=>Qi k (x.ev e) ys H K
  | none=>False
 | .copyS x y=>match y.ev e with
  | .val (.string s)=>Qi 1 (x.ev e) ((bl s).map by8) H K
  | _=>False
 | .s2b x=>match x.ev e with
  | .val (.string s)=>(bl s).length≤9223372036854775807∧K (.os 1 H.length 0 [] 0 (bl s).length (bl s).length) (H++[.obj 0 (.arr (bl s).length 1 ((bl s).map by8))])
  | _=>False
 | .cvS x=>match x.ev e with
  | .os k id ver [] off n cp=>n≠0∧obV H[id]?=some ver∧K (.os k id ver [] off n cp) H
  | _=>False
 | .call f args=>(∀ x∈args,CE (x.ev e)=false)∧Au P f (args.map (·.ev e)) H K
 | .callv x args=>(∀ x∈args,CE (x.ev e)=false)∧(match x.ev e with
  | .fn (.func f) first caps=>SK P f=true∧Au P f (first++args.map (·.ev e)++caps) H K
  | .val (.func (.func f) xs ys)=>(xs.isEmpty && ys.isEmpty)=true∧SK P f=true∧Au P f (args.map (·.ev e)) H K
  | .yl id ver=>OH P id ver (args.map (·.ev e)) H K
  | _=>False)
 | .inv x nm args=>(∀ y∈args,CE (y.ev e)=false)∧AmK P nm H (x.ev e) fun f r=>Au P f (r::args.map (·.ev e)) H K
 | .mkm kk h=>(match h with
  | none=>True
  | some x=>(match x.ev e with | .val (.int _ _)=>True | _=>False))∧K (.mp H.length 0) (H++[.mpo kk []])
 | .mupd kk m k x=>match m.ev e,Bq kk (k.ev e) with
  | .mp id 0,some kb=>(match H[id]? with
   | some (.mpo kk' es)=>(kk'=kk∧lays (x.ev e)=true)∧K .any (H.set id (.mpo kk (UW kb (x.ev e) es)))
   | _=>False)
  | _,_=>False
 | .ment kk z m k=>match m.ev e,Bq kk (k.ev e) with
  | .mp id 0,some kb=>(match H[id]? with
   | some (.mpo kk' es)=>kk'=kk∧K (.tup [(OB kb es).getD z,.val (.int .i64 (U9 kb es))]) (H.set id (.mpo kk (UW kb ((OB kb es).getD z) es)))
   | _=>False)
  | _,_=>False
 | .mest m st x=>match m.ev e,st.ev e with
  | .mp id 0,.val (.int _ j)=>(match H[id]? with
   | some (.mpo kk es)=>(0≤j∧lays (x.ev e)=true)∧(match es[j.toNat]? with
    | some (k,_)=>K .any (H.set id (.mpo kk (es.set j.toNat (k,x.ev e))))
    | none=>False)
   | _=>False)
  | _,_=>False
 | .allocT z t=>K (.op H.length 0 []) (H++[.obj 0 z,.fact H.length 0 t (Aw z)])
 | .bstr f x=>Aos P f∧(match AaH H (x.ev e) with
  | some (j,v,l)=>l.length≤9223372036854775807∧K (.val (.string (str l))) (H.set j (.gone v))
  | none=>False)
 | .rngS x=>match x.ev e with
  | .val (.string s)=>K (.op H.length 0 []) (H++[.sit (bl s) 0])
  | _=>False
 | .nxtS x=>match x.ev e with
  | .op id 0 []=>(match H[id]? with
   | some (.sit s pos)=>if pos<s.length then K (.tup [.val (.bool true),.val (.int .i64 (pos:Int)),.val (.int .i32 ((Utf8.decode (str s) pos).1:Int))]) (H.set id (.sit s (pos+(Utf8.decode (str s) pos).2))) else K (.tup [.val (.bool false)]) H
   | _=>False)
  | _=>False
 | .boxT x t=>lays (x.ev e)=true∧K (.op H.length 0 []) (H++[.obj 0 (x.ev e),.fact H.length 0 t (Aw (x.ev e))])
def Acg (P:Program) (t:TypeId):Bool:=match P.underlying t with
 | some (.int _)=>true
 | _=>false
def trS (P:Program):Op→Option SOp
 | .alloc t=>match P.info? t with
  | some i=>(match i.zero with | some z=>(zT P 400 t z.cells.toList).map fun z=>if Ade.contains t then .allocT z t else .alloc z | none=>none)
  | none=>none
 | .box t x=>some (if Ade.contains t then .boxT (trO x) t else .box (trO x))
 | .buildSlice t n ps=>match Bi P t with
  | some (k,et)=>(match P.info? et with
   | some i=>(match i.zero with
    | some z=>if z.cells.size=k∧k≠0∧n*k≤16777216 then (zT P 400 et z.cells.toList).map fun z => .bslice k n z (ps.toList.map fun q=>(q.1,trO q.2)) else none
    | none=>none)
   | none=>none)
  | none=>none
 | .binOp op t x y _=>match P.underlying t with
  | some (.slice _)=>if Xg op && AdV y then some (.eqS (trO x) (EX op)) else none
  | _=>none
 | .store t x v=>(Oe P t).map fun sz => .store sz (trO x) (trO v)
 | .makeSlice t l c=>match Bi P t with
  | some (k,et)=>(match P.info? et with
   | some i=>(match i.zero with
    | some z=>if z.cells.size=k∧k≠0 then (zT P 400 et z.cells.toList).map fun z => .mks k i.bytes z (trO l) (trO c) else none
    | none=>none)
   | none=>none)
  | none=>none
 | .convert src dst x=>if QW P src && Yj P dst then some (.s2b (trO x)) else if decide (src=dst) && Yj P dst then some (.cvS (trO x)) else none
 | .panic x=>some (.pan (trO x))
 | .range t x=>if QW P t then some (.rngS (trO x)) else if Aag P t then some (.rngM (trO x)) else none
 | .next x true=>some (.nxtS (trO x))
 | .next x false=>some (.nxtM (trO x))
 | .makeMap t r=>match P.underlying t with
  | some (.map kt _)=>(Abg P kt).map fun kk => .mkm kk (r.map trO)
  | _=>none
 | .mapUpdate t m k x=>match P.underlying t with
  | some (.map kt _)=>(Abg P kt).map fun kk => .mupd kk (trO m) (trO k) (trO x)
  | _=>none
 | .insert t m k x=>match P.underlying t with
  | some (.map kt _)=>(Abg P kt).map fun kk => .mupd kk (trO m) (trO k) (trO x)
  | _=>none
 | .mapEntry t m k=>match Abb P t with
  | some (_,kk,_,zx)=>some (.ment kk zx (trO m) (trO k))
  | none=>none
 | .entryStore t m st x=>some (.mest (trO m) (trO st) (trO x))
 | .call c=>match c.callee,c.args.toList,c.argTypes.toList with
  | .builtin .append,[x,y],[t,ty]=>(match Bi P t with
   | some (k,et)=>(match P.info? et with
    | some i=>(match i.zero with
     | some z=>if z.cells.size=k then (if QW P ty then (if k=1∧i.bytes=1 then some (.appS et (trO x) (trO y)) else none) else if (Bi P ty).isSome then some (.app k i.bytes et (trO x) (trO y)) else if Acg P ty && decide (k≠0) then (zT P 400 et z.cells.toList).map fun zx => .appZ k i.bytes et zx (trO x) (trO y) else none) else none
     | none=>none)
    | none=>none)
   | none=>none)
  | .builtin .delete,[m,k],t::_=>(match P.underlying t with
   | some (.map kt _)=>(Abg P kt).map fun kk => .delM kk (trO m) (trO k)
   | _=>none)
  | .builtin .clear,[x],[t]=>(match Bi P t with
   | some (k,et)=>(match P.info? et with
    | some i=>(match i.zero with
     | some z=>if z.cells.size=k∧k≠0 then (zT P 400 et z.cells.toList).map fun zx => .clrS k zx (trO x) else none
     | none=>none)
    | none=>none)
   | none=>none)
  | .builtin .copy,[x,y],[t,ty]=>(match Bi P t with
   | some (k,_)=>if QW P ty then (if k=1 then some (.copyS (trO x) (trO y)) else none) else if (Bi P ty).isSome then some (.copy k (trO x) (trO y)) else none
   | none=>none)
  | .value (.func f),args,_=>if SK P f then (match args with
   | [x]=>if AlM.contains f then some (.bstr f (trO x)) else some (.call f [trO x])
   | args=>some (.call f (args.map trO))) else none
  | .value (.tmp t),args,_=>some (.callv (.t t) (args.map trO))
  | .invoke r nm,args,_=>some (.inv (trO r) nm (args.map trO))
  | _,_,_=>none
 | _=>none
section sound
variable {P:Program} {β:Nat→Nat→Option (Nat×Nat)} {H:List Ob} {F:Nat→Prop} {w:World} {a:Act} {e:Env} {K:TV→List Ob→Prop}
def Gy (P:Program) (β:Nat→Nat→Option (Nat×Nat)) (H:List Ob) (F:Nat→Prop) (w:World) (a:Act) (K:TV→List Ob→Prop) (op:Op):Prop :=
 ∀ (o:Oper) (KK:Act→World→Prop) (Q:Exit→Act→World→Prop),o.op=op→(∀ c,op ≠ .defer c) →
  (∀ x H' β' F' w' v,K x H'→Sim ⟨β',H',F'⟩ w'→Ar ⟨β,H,F⟩ w ⟨β',H',F'⟩ w'→Rep ⟨β',H',F'⟩ w' x v→KK (a.put o.dst v) w')→OW P o a w KK Q
theorem Ap.does (hs:Sim ⟨β,H,F⟩ w) {op:Op} (h:∀ ty,Ap P ⟨β,H,F⟩ w a (fun x=>K x H) op ty):Gy P β H F w a K op:=by
 intro o KK Q ho hnd hk
 refine OW.of_wp (by rw [ho]; exact hnd) ?_
 obtain ⟨x,v,hr,hx,hK⟩:=h o.type o ho rfl
 unfold Oper.wp
 rw [hr]
 exact hk x H β F w v hK hs (Ar.refl _ _) hx
theorem Gy.mk {op:Op} {s:Oper→Sem Value} {x:TV} {H':List Ob} {β':Nat→Nat→Option (Nat×Nat)} {F':Nat→Prop} {w':World} {v:Value} (he:∀ o:Oper,o.op=op→execOp a.eval o=(do pure (.value (←s o)))) (hr:∀ o,(s o).run P w = .ok v w')
  (hs:Sim ⟨β',H',F'⟩ w') (hl:Ar ⟨β,H,F⟩ w ⟨β',H',F'⟩ w') (hx:Rep ⟨β',H',F'⟩ w' x v) (hk:K x H'):Gy P β H F w a K op:=by
 intro o KK Q ho hnd hkk
 refine OW.of_wp (by rw [ho]; exact hnd) ?_
 unfold Oper.wp
 rw [he o ho,Sem.run_bind,hr o]
 exact hkk x H' β' F' w' v hk hs hl hx
theorem XL (n:Nat):AjE n (0,0):=⟨Nat.le_refl _,fun o _ h=>by simp at h⟩
theorem E9 (β':Nat→Nat→Option (Nat×Nat)) (H:List Ob) (o:Ob) (F:Nat→Prop) (v:Nat) (hv:v≤o.ver):Ctx.has ⟨β',H++[o],F⟩ H.length v:=⟨o,by simp,hv⟩
theorem Aiz (hs:Sim ⟨β,H,F⟩ w) {t:TypeId} {i:TypeInfo} {z:Value} {x:TV} (h1:P.info? t=some i) (h2:i.zero=some z) (h3:zT P 400 t z.cells.toList=some x) (h:sop P (.alloc x) e H K):Gy P β H F w a K (.alloc t):=by
 obtain ⟨hz,_⟩:=II (c:=⟨β,H,F⟩) (w:=w) h3
 obtain ⟨k1,k2⟩:=hs.newObj (post:=[]) hz t (0,0) (XL _)
 refine Gy.mk (s:=fun _=>Instr.alloc t true (.tuple #[])) (v := .pointer (some ⟨w.heap.size,0,none⟩)) (fun o ho=>by simp only [execOp,ho]) (fun o => ?_) k1 k2 (Rep.mk_op (E9 _ _ _ _ _ (Nat.le_refl _)) AA rfl) h
 simp [Instr.alloc,zeroValue,typeInfo,h1,h2,newVar,newRow,newObj,Sem.run]
theorem Sim.newObjT (hs:Sim ⟨β,H,F⟩ w) {x:TV} {vs:List Value} (hr:Ag ⟨β,H,F⟩ w x vs) (t:TypeId):∃ β',Sim ⟨β',H++[.obj 0 x,.fact H.length 0 t (Aw x)],F⟩ (w.alloc (.cells (vs++[]).toArray t (0,0))) ∧
  Ar ⟨β,H,F⟩ w ⟨β',H++[.obj 0 x,.fact H.length 0 t (Aw x)],F⟩ (w.alloc (.cells (vs++[]).toArray t (0,0)))∧β' H.length 0=some (w.heap.size,0):=by
 obtain ⟨k1,k2⟩:=hs.newObj (post:=[]) hr t (0,0) (XL _)
 have hnew:=AU w (.cells (vs++[]).toArray t (0,0))
 obtain ⟨q1,q2⟩:=k1.addFact (i:=H.length) (v:=0) (t:=t) (m:=Aw x) (E9 _ _ _ _ _ (Nat.le_refl _)) (fun b o e=>by
  rw [AA] at e; cases e
  exact ⟨rfl,by unfold World.shape?; rw [hnew,←hr.length]; simp⟩)
 rw [List.append_assoc] at q1 q2
 exact ⟨_,q1,k2.trans q2,by rw [Pm (by simp)]; exact AA⟩
theorem Zl (β':Nat→Nat→Option (Nat×Nat)) (H:List Ob) (o o':Ob) (F:Nat→Prop) (v:Nat) (hv:v≤o.ver):Ctx.has ⟨β',H++[o,o'],F⟩ H.length v:=⟨o,by simp,hv⟩
theorem Afm (hs:Sim ⟨β,H,F⟩ w) {t:TypeId} {i:TypeInfo} {z:Value} {x:TV} (h1:P.info? t=some i) (h2:i.zero=some z) (h3:zT P 400 t z.cells.toList=some x) (h:sop P (.allocT x t) e H K):Gy P β H F w a K (.alloc t):=by
 obtain ⟨hz,_⟩:=II (c:=⟨β,H,F⟩) (w:=w) h3
 obtain ⟨β',k1,k2,k3⟩:=hs.newObjT hz t
 refine Gy.mk (s:=fun _=>Instr.alloc t true (.tuple #[])) (v := .pointer (some ⟨w.heap.size,0,none⟩)) (fun o ho=>by simp only [execOp,ho]) (fun o => ?_) k1 k2 (Rep.mk_op (Zl _ _ _ _ _ _ (Nat.le_refl _)) k3 rfl) h
 simp [Instr.alloc,zeroValue,typeInfo,h1,h2,newVar,newRow,newObj,Sem.run]
theorem AlB (hs:Sim ⟨β,H,F⟩ w) (he:AC ⟨β,H,F⟩ w e a) {t:TypeId} {x:Operand} (h:sop P (.boxT (trO x) t) e H K):Gy P β H F w a K (.box t x):=by
 simp only [sop] at h
 obtain ⟨hl,h⟩:=h
 obtain ⟨β',k1,k2,k3⟩:=hs.newObjT ((he.ev x).cells hl) t
 refine Gy.mk (s:=fun _=>Instr.box t (a.eval x)) (v := .pointer (some ⟨w.heap.size,0,none⟩)) (fun o ho=>by simp only [execOp,ho]) (fun o => ?_) k1 k2 (Rep.mk_op (Zl _ _ _ _ _ _ (Nat.le_refl _)) k3 rfl) h
 simp [Instr.box,newVar,newRow,newObj,Sem.run]
theorem An3 (hs:Sim ⟨β,H,F⟩ w) (he:AC ⟨β,H,F⟩ w e a) {t:TypeId} {x:Operand} (h:sop P (.box (trO x)) e H K):Gy P β H F w a K (.box t x):=by
 simp only [sop] at h
 obtain ⟨hl,h⟩:=h
 obtain ⟨k1,k2⟩:=hs.newObj (post:=[]) ((he.ev x).cells hl) t (0,0) (XL _)
 refine Gy.mk (s:=fun _=>Instr.box t (a.eval x)) (v := .pointer (some ⟨w.heap.size,0,none⟩)) (fun o ho=>by simp only [execOp,ho]) (fun o => ?_) k1 k2 (Rep.mk_op (E9 _ _ _ _ _ (Nat.le_refl _)) AA rfl) h
 simp [Instr.box,newVar,newRow,newObj,Sem.run]
theorem KJ {c:Ctx} {w:World} {x:TV} {z:Array Value} (hz:Ag c w x z.toList) (h0:z.size≠0):∀ n,Ah c w (List.replicate n x) (madeCells z (n*z.size)).toList
 | 0=>by simp [madeCells,Ah]
 | n+1=>by
  rw [List.replicate_succ,Ah]
  refine ⟨z.toList,(madeCells z (n*z.size)).toList,?_,hz,KJ hz h0 n⟩
  unfold madeCells
  apply List.ext_getElem?
  intro j
  simp only [Array.toList_map,Array.toList_range,List.getElem?_map]
  have hp:0<z.size:=Nat.pos_of_ne_zero h0
  by_cases hj:j<z.size
  ·rw [List.getElem?_append_left (by simpa using hj),List.getElem?_range (by rw [Nat.add_mul]; omega)]
   simp [Nat.mod_eq_of_lt hj,hj]
  ·rw [List.getElem?_append_right (by simp; omega)]
   simp only [Array.length_toList,List.getElem?_map]
   by_cases hj2:j<(n+1)*z.size
   ·rw [List.getElem?_range hj2,List.getElem?_range (by rw [Nat.add_mul] at hj2; omega)]
    simp only [Option.map_some]
    rw [show j=j - z.size+z.size from by omega,Nat.add_mod_right]
    simp
   ·rw [List.getElem?_eq_none (by simp; omega),List.getElem?_eq_none (by rw [Nat.add_mul] at hj2; simp; omega)]
theorem Ny {x:TV} {vs post:List Value} {t:TypeId} {fr:Nat×Nat} {n N k cap cp:Nat} (hv:(⟨w.heap.size,0,none⟩:Addr)=⟨w.heap.size,0,none⟩) (hcap:cap≤9223372036854775807) (hn:n≤cap) (hcp:cp≤cap) (hroom:cap*k≤(vs++post).length) {w0:World} (hw0:w0.heap.size=w.heap.size) :
  Rep ⟨upd β H.length 0 (some (w.heap.size,0)),H++[.obj 0 x],F⟩ (w0.alloc (.cells (vs++post).toArray t fr)) (.os k H.length 0 [] 0 n cp) (.slice (some ⟨w.heap.size,0,none⟩) n cap):=by
 refine Rep.of1 ?_ (by simp) (by simp)
 rw [Ag]
 refine ⟨E9 _ _ _ _ _ (Nat.le_refl _),.inr ⟨w.heap.size,0,cap,t,(vs++post).length,AA,by simp [C9],hn,hcap,?_,by simpa [C9] using hroom,hcp⟩⟩
 rw [←hw0]
 have:=AU w0 (.cells (vs++post).toArray t fr)
 simp only [World.shape?,this,List.size_toArray]
theorem Aog (hs:Sim ⟨β,H,F⟩ w) (he:AC ⟨β,H,F⟩ w e a) {t et:TypeId} {k:Nat} {i:TypeInfo} {z:Value} {x:TV} (h0:Bi P t=some (k,et)) (h1:P.info? et=some i) (h2:i.zero=some z) (h3:z.cells.size=k∧k≠0) (h4:zT P 400 et z.cells.toList=some x)
  {l cp:Operand} (h:sop P (.mks k i.bytes x (trO l) (trO cp)) e H K):Gy P β H F w a K (.makeSlice t l cp):=by
 obtain ⟨g1,g2⟩:=AQ h0
 obtain ⟨hz,hzp⟩:=II (c:=Ctx.bare ⟨β,H,F⟩) (w:=w) h4
 have hik:i.size=k:=by unfold Oe at g2; rw [h1] at g2; simpa using g2
 simp only [sop] at h
 split at h
 ·rename_i kl l' kc c' hl hc
  obtain ⟨⟨b1,b2,b3,b4⟩,h⟩:=h
  have hm:=KJ hz (by rw [h3.1]; exact h3.2) c'.toNat
  have hx:Aw x=k:=by rw [←hz.length]; simpa using h3.1
  have hrow:Ag ⟨β,H,F⟩ w (.arr c'.toNat k (List.replicate c'.toNat x)) (madeCells z.cells (c'.toNat*z.cells.size)).toList:=by
   rw [Ag]; exact ⟨by simp,fun y hy=>by rw [List.eq_of_mem_replicate hy]; exact hx,hm⟩
  obtain ⟨k1,k2⟩:=hs.newObj (post:=[]) hrow et (0,0) (XL _)
  have hr:=run_make (P:=P) w t et i z g1 h1 h2 kl kc l' c' b1 b2 b3 b4
  rw [List.append_nil,Array.toArray_toList] at k1 k2
  refine Gy.mk (s:=fun _=>Instr.makeSlice t (a.eval l) (a.eval cp)) (fun o ho=>by simp only [execOp,ho]) (fun o=>by rw [he.val hl,he.val hc,hr,hik,←h3.1]) k1 k2 ?_ h
  have:=Ny (β:=β) (H:=H) (F:=F) (w:=w) (x := .arr c'.toNat k (List.replicate c'.toNat x)) (vs:=(madeCells z.cells (c'.toNat*z.cells.size)).toList) (post:=[]) (t:=et) (fr:=(0,0)) (n:=l'.toNat) (N:=0) (k:=k) (cap:=c'.toNat) (cp:=c'.toNat) rfl (by omega) (by omega) (Nat.le_refl _) (by simp [size_madeCells,h3.1]) (w0:=w) rfl
  rwa [List.append_nil,Array.toArray_toList] at this
 ·exact h.elim
theorem Aoh (hs:Sim ⟨β,H,F⟩ w) (he:AC ⟨β,H,F⟩ w e a) {src dst:TypeId} (h1:(QW P src && Yj P dst)=true) {x:Operand} (h:sop P (.s2b (trO x)) e H K):Gy P β H F w a K (.convert src dst x):=by
 rw [Bool.and_eq_true] at h1
 have g1:=Jr h1.1
 obtain ⟨et,g2,g3⟩:=Tv h1.2
 simp only [sop] at h
 split at h
 ·rename_i s hx
  obtain ⟨hlen,h⟩:=h
  have hsz:(bl s).length=s.size:=by simp [bl]
  have hr:=run_bytes_of_string (P:=P) w src dst et s g1 g2 g3
  rw [show Value.slice (some ⟨w.heap.size,0,none⟩) s.size (grownCap w s.size 0 et) = .slice (some ⟨w.heap.size,0,none⟩) (bl s).length (grownCap w s.size 0 et) from by rw [hsz]] at hr
  have hge:=grownCap_ge w s.size 0 et
  have hcm:=grownCap_le_maxLen w s.size 0 et (by unfold maxLen; omega)
  have hrow:Ag ⟨β,H,F⟩ w.drew (.arr (bl s).length 1 ((bl s).map by8)) ((bl s).map fun b=>Value.int .u8 b.toNat):=by
   rw [Ag]; exact ⟨by simp,by simp [Aw],Hl _⟩
  have hbr:bytesRow s (grownCap w s.size 0 et)=(((bl s).map fun b=>Value.int .u8 b.toNat)++List.replicate (grownCap w s.size 0 et - s.size) (Value.int .u8 0)).toArray:=by
   apply Array.ext'; simp [bytesRow,bl]
  rw [hbr] at hr
  generalize grownCap w s.size 0 et=cap at *
  generalize hrp:List.replicate (cap - s.size) (Value.int .u8 0)=post at *
  have hpl:post.length=cap - s.size:=by rw [←hrp]; simp
  obtain ⟨k1,k2⟩:=(hs.heap (w':=w.drew) rfl).newObj (post:=post) hrow et ((((bl s).map fun b=>Value.int .u8 b.toNat)++post).toArray.size,(((bl s).map fun b=>Value.int .u8 b.toNat)++post).toArray.size+1) ⟨Nat.le_succ _,fun o ho hh=>by
   simp only [List.size_toArray] at hh; omega⟩
  refine Gy.mk (s:=fun _=>convert src dst (a.eval x)) (fun o ho=>by simp only [execOp,ho]) (fun o=>by rw [he.val hx,hr]) k1 ((Ar.heap (w:=w) (w':=w.drew) rfl rfl rfl rfl).trans k2) ?_ h
  refine Ny (β:=β) (H:=H) (F:=F) (w:=w) (N:=0) rfl (by unfold maxLen at hcm; omega) (by omega) (by omega) ?_ (w0:=w.drew) rfl
  simp only [List.length_append,List.length_map,hpl,hsz]; omega
 ·exact h.elim
theorem AcT {n:Nat} {fr:Nat×Nat} (h:AjE n fr):AjE n (if fr.1 == fr.2 then (n,n+1) else (min fr.1 n,max fr.2 (n+1))):=by
 obtain ⟨h1,h2⟩:=h
 by_cases e:fr.1=fr.2
 ·rw [if_pos (by simpa using e)]
  exact ⟨Nat.le_succ _,fun o ho hh=>by simp only at hh; omega⟩
 ·rw [if_neg (by simpa using e)]
  have hge:n≤fr.1:=Nat.le_of_not_lt fun hlt=>h2 fr.1 hlt ⟨Nat.le_refl _,by omega⟩
  exact ⟨by simp only; omega,fun o ho hh=>by simp only at hh; omega⟩
theorem AmS (hs:Sim ⟨β,H,F⟩ w) (he:AC ⟨β,H,F⟩ w e a) {t:TypeId} (h1:Yj P t=true) {x:Operand} (h:sop P (.cvS (trO x)) e H K):Gy P β H F w a K (.convert t t x):=by
 obtain ⟨et,g2,g3⟩:=Tv h1
 simp only [sop] at h
 split at h
 ·rename_i k id ver off n cp hx
  obtain ⟨hn,hid,h⟩:=h
  obtain ⟨y,hid⟩:=Aff hid
  have hr:=(he.rep hx).os
  have hr0:=hr
  rw [Ag] at hr
  obtain ⟨q1,q2⟩:=hr
  rcases q2 with ⟨e0,_⟩ | ⟨b,o,cap,t1,m1,hb1,hv,hb2,hb3,hb4,hb5,hb6⟩
  ·exact absurd e0 hn
  have hv':a.eval x = .slice (some ⟨b,o+C9 []+off*k,none⟩) n cap:=by simpa using hv
  rcases hs.ob id _ hid with ⟨k0,_⟩ | ⟨b',off',pre,vs,post,t',fr,k1,k2,k3,k4,k5⟩
  ·have k0':β id ver=none:=k0
   have hb1':β id ver=some (b,o):=hb1
   rw [k0'] at hb1'; cases hb1'
  have hb1':β id ver=some (b,o):=hb1
  have k1':β id ver=some (b',off'):=k1
  rw [k1'] at hb1'
  obtain ⟨rfl,rfl⟩:b'=b∧off'=o:=by simpa using hb1'
  have hlt:b'<w.heap.size:=(Array.getElem?_eq_some_iff.1 k2).1
  have hsh:w.shape? b'=some (t',(pre++vs++post).toArray.size):=by unfold World.shape?; rw [k2]
  obtain ⟨w2,hw2⟩:∃ w2,w2=w.freeze ⟨b',(pre++vs++post).toArray.size,none⟩ 1:=⟨_,rfl⟩
  have hrun:(convert t t (a.eval x)).run P w = .ok (a.eval x) w2:=by
   rw [hv',hw2]
   simp [convert,run_underlying g2,run_underlying g3,markStringish,hsh]
  have hB:=AcT k3
  have hh1:w2.heap[b']?=some (.cells (pre++vs++post).toArray t' (if fr.1 == fr.2 then ((pre++vs++post).length,(pre++vs++post).length+1) else (min fr.1 (pre++vs++post).length,max fr.2 ((pre++vs++post).length+1)))):=by
   rw [hw2]
   unfold World.freeze
   rw [if_neg (by decide)]
   simp only [Array.getElem?_modify,if_pos,k2,Option.map_some,List.size_toArray]
  have hh2:∀ b2,b2≠b'→w2.heap[b2]?=w.heap[b2]?:=fun b2 hne=>by
   rw [hw2]
   unfold World.freeze
   rw [if_neg (by decide)]
   simp only [Array.getElem?_modify,if_neg (Ne.symm hne)]
  have o1:w2.os=w.os∧w2.tape=w.tape∧w2.output=w.output∧w2.heap.size=w.heap.size:=by
   rw [hw2]
   unfold World.freeze
   rw [if_neg (by decide)]
   exact ⟨rfl,rfl,rfl,by simp⟩
  have hset:H.set id (.obj ver y)=H:=by
   obtain ⟨hl,he2⟩:=List.getElem?_eq_some_iff.1 hid
   rw [←he2,List.set_getElem_self]
  have hsh2:∀ b2,w2.shape? b2=w.shape? b2:=fun b2=>by
   by_cases eb:b2=b'
   ·subst eb
    rw [hsh]; unfold World.shape?; rw [hh1]
   ·exact Bh (hh2 b2 eb)
  generalize (if fr.1 == fr.2 then ((pre++vs++post).length,(pre++vs++post).length+1) else (min fr.1 (pre++vs++post).length,max fr.2 ((pre++vs++post).length+1)))=fr2 at *
  obtain ⟨t1',t2'⟩:=hs.turn (β':=β) (o' := .obj ver y) (w':=w2) hid rfl rfl (Nat.le_refl _) (fun _ _ _=>rfl) (fun b1 off e => .inl ⟨off,e⟩) o1.1 o1.2.1 o1.2.2.1 (Nat.le_of_eq o1.2.2.2.symm) (fun b2 _=>hsh2 b2)
   (fun b2 _ hne=>hh2 b2 fun eb=>hne off' (eb▸k1'))
   (fun hm => .inr ⟨b',off',pre,vs,post,t',fr2,k1,hh1,hB,k4,Ag.mono hm k5⟩)
  rw [hset] at t1' t2'
  refine Gy.mk (s:=fun _=>convert t t (a.eval x)) (fun o ho=>by simp only [execOp,ho]) (fun o=>hrun) t1' t2' (Rep.of1 ?_ (by simp) (by simp)) h
  rw [Ag]
  refine ⟨q1,.inr ⟨b',off',cap,t1,m1,hb1,by rw [hv'],hb2,hb3,?_,hb5,hb6⟩⟩
  rw [hsh2]; exact hb4
 ·exact h.elim
theorem Akj (hs:Sim ⟨β,H,F⟩ w) (he:AC ⟨β,H,F⟩ w e a) {t:TypeId} (h1:QW P t=true) {x:Operand} (h:sop P (.rngS (trO x)) e H K):Gy P β H F w a K (.range t x):=by
 have g1:=Jr h1
 simp only [sop] at h
 split at h
 ·rename_i s hx
  have es:(⟨(bl s).toArray⟩:ByteArray)=s:=by simp [bl]
  obtain ⟨k1,k2⟩:=hs.new (.sit (bl s) 0) rfl (some (w.heap.size,0)) (w':=w.alloc (.stringIter s 0)) (fun b off e=>by cases e; exact Nat.le_refl _) rfl rfl rfl (by simp) (fun b hb=>CU w _ hb) (fun hm=>⟨w.heap.size,AA,by rw [es]; exact AU w _⟩)
  refine Gy.mk (s:=fun _=>Instr.range t (a.eval x)) (v := .pointer (some ⟨w.heap.size,0,none⟩)) (fun o ho=>by simp only [execOp,ho]) (fun o => ?_) k1 k2 (Rep.mk_op (E9 _ _ _ _ _ (Nat.le_refl _)) AA rfl) h
  rw [he.val hx]
  simp [Instr.range,run_underlying g1,newObj,Sem.run]
 ·exact h.elim
theorem Aln (hs:Sim ⟨β,H,F⟩ w) (he:AC ⟨β,H,F⟩ w e a) {x:Operand} (h:sop P (.nxtS (trO x)) e H K):Gy P β H F w a K (.next x true):=by
 simp only [sop] at h
 split at h
 ·rename_i id hx
  split at h
  ·rename_i s pos hid
   obtain ⟨b,hb,hh⟩:=hs.ob id _ hid
   have hb':β id 0=some (b,0):=hb
   obtain ⟨_,b2,o,hb2,hv⟩:=(he.rep hx).op
   have hb2':β id 0=some (b2,o):=hb2
   rw [hb'] at hb2'; cases hb2'
   have hv':a.eval x = .pointer (some ⟨b,0,none⟩):=hv
   have hsz:(⟨s.toArray⟩:ByteArray).size=s.length:=by show s.toArray.size=_; simp
   by_cases hp:pos<s.length
   ·rw [if_pos hp] at h
    have hlt:=(Array.getElem?_eq_some_iff.1 hh).1
    obtain ⟨k1,k2⟩:=hs.turn (β':=β) (o' := .sit s (pos+(Utf8.decode (str s) pos).2)) (w':={ w with heap:=w.heap.setIfInBounds b (.stringIter ⟨s.toArray⟩ (pos+(Utf8.decode (str s) pos).2)) }) hid rfl rfl (Nat.le_refl _) (fun _ _ _=>rfl) (fun b1 off e => .inl ⟨off,e⟩) rfl rfl rfl (by simp)
     (fun b1 hb1=>by
      by_cases e:b1=b
      ·subst e
       have h1:(w.heap.setIfInBounds b1 (.stringIter ⟨s.toArray⟩ (pos+(Utf8.decode (str s) pos).2)))[b1]?=some (.stringIter ⟨s.toArray⟩ (pos+(Utf8.decode (str s) pos).2)):=by simp [hlt]
       simp only [World.shape?,h1,hh]
      ·simp [World.shape?,Array.getElem?_setIfInBounds_ne (Ne.symm e)])
     (fun b1 hb1 hne=>by
      have e:b1≠b:=fun e=>hne 0 (e▸hb')
      simp [Array.getElem?_setIfInBounds_ne (Ne.symm e)])
     (fun hm=>⟨b,hb',by simp [hlt]⟩)
    refine Gy.mk (s:=fun o=>Instr.next (a.eval x) true o.type) (v := .tuple #[.bool true,.int .i64 pos,.int .i32 (Utf8.decode (str s) pos).1]) (fun o ho=>by simp only [execOp,ho]) (fun o => ?_) k1 k2 ?_ h
    ·rw [hv']
     simp only [Instr.next,getObj,setObj,Sem.run_bind,Sem.run,hh,Result.andThen,hsz,hp,if_true]
     simp [goInt,str]
    ·exact .inr ⟨_,[.bool true,.int .i64 pos,.int .i32 (Utf8.decode (str s) pos).1],rfl,rfl,by
      rw [AY.cons]; refine ⟨_,_,rfl,.inr (.inl rfl),?_⟩
      rw [AY.cons]; refine ⟨_,_,rfl,.inr (.inl rfl),?_⟩
      rw [AY.cons]; exact ⟨_,_,rfl,.inr (.inl rfl),by rw [AY.nil]⟩⟩
   ·rw [if_neg hp] at h
    refine Gy.mk (s:=fun o=>Instr.next (a.eval x) true o.type) (v := .tuple #[.bool false]) (fun o ho=>by simp only [execOp,ho]) (fun o => ?_) hs (Ar.refl _ _) ?_ h
    ·rw [hv']
     simp [Instr.next,getObj,Sem.run,hh,hsz,hp]
    ·exact .inr ⟨_,[.bool false],rfl,rfl,by
      rw [AY.cons]; exact ⟨_,_,rfl,.inr (.inl rfl),by rw [AY.nil]⟩⟩
  ·exact h.elim
 ·exact h.elim
theorem UY {t:TypeId} {sz b o:Nat} {v:Value} (h2:Oe P t=some sz) (hv:v.cells.size=sz) (h1:∀ u∈v.cells.toList,u.oneCell'=true) (ht:w.there b o v.cells.toList.length) :
  (Instr.storeAt t (.pointer (some ⟨b,o,none⟩)) v).run P w = .ok () (w.setCells b o v.cells.toList):=by
 have:=run_storeCells_cells (P:=P) b o v.cells.toList 0 w (fun j hj=>by simpa using (ht j hj).1) (fun j hj=>by simpa using (ht j hj).2) h1
 simp only [Nat.add_zero] at this
 simp [Instr.storeAt,Instr.sureAddr,storeVar,Ce h2,hv,this]
theorem Ajw (hs:Sim ⟨β,H,F⟩ w) (he:AC ⟨β,H,F⟩ w e a) {t:TypeId} {sz:Nat} (h2:Oe P t=some sz) {x y:Operand} (h:sop P (.store sz (trO x) (trO y)) e H K):Gy P β H F w a K (.store t x y):=by
 simp only [sop] at h
 obtain ⟨⟨hl,hw⟩,h⟩:=h
 have hc:=(he.ev y).cells hl
 split at h
 ·rename_i id ver p hx
  split at h
  ·rename_i vr z hid
   obtain ⟨rfl,h⟩:=h
   split at h
   ·rename_i z' hz
    obtain ⟨g1,b,o,hb,hv⟩:=(he.rep hx).op
    obtain ⟨k1,k2,k3⟩:=hs.store hid hb hz hc
    have hsz:(a.eval y).cells.size=sz:=by rw [←hw,←hc.length]; simp
    intro op KK Q hop hnd hk
    refine OW.of_wp (by rw [hop]; exact hnd) ?_
    have hr:=UY (P:=P) h2 hsz hc.one k3
    unfold Oper.wp
    simp only [execOp,hop,hv,Sem.run_bind,hr,Result.andThen_ok,Sem.run_pure]
    exact hk _ _ _ _ _ _ h k1 k2 Rep.any
   ·exact h.elim
  ·exact h.elim
 ·exact h.elim
theorem Abq {c:Ctx} {w:World} {x:TV} {v:Value} (h:Rep c w x v) (hl:lays x=true):v=mkV x v.cells.toList:=by
 rcases h with (h | h | ⟨us,h3,h4⟩) | ⟨xs,vs,h,_⟩
 ·rw [h] at hl; simp [lays] at hl
 ·subst h
  simp only [lays] at hl
  rw [LC hl]; rfl
 ·have hc:v.cells.toList=us:=by
   rw [h4]
   cases x with
   | agg cs=>simp [mkV,Value.cells]
   | arr n k cs=>simp [mkV,Value.cells]
   | tup cs=>rw [Ag] at h3; exact h3.elim
   | _ =>
    have hlen:=h3.length
    simp only [Aw] at hlen
    obtain ⟨u,rfl⟩:=List.length_eq_one_iff.1 hlen
    simp [mkV,LC (h3.one u (by simp))]
  rw [hc]; exact h4
 ·rw [h] at hl; simp [lays] at hl
theorem Sim.setMap (hs:Sim ⟨β,H,F⟩ w) {id:Nat} {kk kk':MK} {es es':List (List UInt8×TV)} {b:Nat} {ms ms':Array MapEntry} {cl cl':Nat} (hid:H[id]?=some (.mpo kk es)) (hb:β id 0=some (b,0)) (hh:w.heap[b]?=some (.map ms cl))
  (he:AL ⟨β,H,F⟩ w kk' es' ms'.toList) (hc:cl'=ms'.size) (hbn:ms'.toList.map (·.born)=List.range ms'.size) :
  Sim ⟨β,H.set id (.mpo kk' es'),F⟩ { w with heap:=w.heap.setIfInBounds b (.map ms' cl') }∧Ar ⟨β,H,F⟩ w ⟨β,H.set id (.mpo kk' es'),F⟩ { w with heap:=w.heap.setIfInBounds b (.map ms' cl') }:=by
 have hlt:=(Array.getElem?_eq_some_iff.1 hh).1
 have hother:∀ b',b'≠b→(w.heap.setIfInBounds b (.map ms' cl'))[b']?=w.heap[b']?:=fun b' h=>by rw [Array.getElem?_setIfInBounds_ne (Ne.symm h)]
 refine hs.turn hid rfl rfl (Nat.le_refl _) (fun i v _=>rfl) (fun b2 off e => .inl ⟨off,e⟩) rfl rfl rfl (by simp) (fun b2 _ => ?_) (fun b2 _ hne=>hother b2 (fun e=>hne 0 (e▸hb))) (fun hm=>⟨b,ms',cl',hb,by simp [hlt],AL.mono hm he,hc,hbn⟩)
 by_cases e:b2=b
 ·subst e
  have h1:(w.heap.setIfInBounds b2 (.map ms' cl'))[b2]?=some (.map ms' cl'):=by simp [hlt]
  simp only [World.shape?,h1,hh]
 ·simp [World.shape?,hother b2 e]
theorem Am9 (hs:Sim ⟨β,H,F⟩ w) (he:AC ⟨β,H,F⟩ w e a) {t kt et:TypeId} {kk:MK} (h1:P.underlying t=some (.map kt et)) {r:Option Operand} (h:sop P (.mkm kk (r.map trO)) e H K):Gy P β H F w a K (.makeMap t r):=by
 simp only [sop] at h
 obtain ⟨hr,h⟩:=h
 obtain ⟨k1,k2⟩:=hs.new (.mpo kk []) rfl (some (w.heap.size,0)) (w':=w.alloc (.map #[] 0)) (fun b off e=>by cases e; exact Nat.le_refl _) rfl rfl rfl (by simp) (fun b hb=>CU w _ hb) (fun hm=>⟨w.heap.size,#[],0,AA,AU w _,by rw [AL],rfl,rfl⟩)
 refine Gy.mk (s:=fun _=>Instr.makeMap t (r.map a.eval)) (v := .map (some w.heap.size)) (fun o ho=>by simp only [execOp,ho]) (fun o => ?_) k1 k2 (Rep.of1 ?_ (by simp) (by simp)) h
 ·cases r with
  | none=>simp [Instr.makeMap]
  | some x =>
   simp only [Option.map_some] at hr
   split at hr
   ·rename_i q n hx
    have hv:=he.val hx
    simp [Instr.makeMap,run_underlying h1,hv,asInt,asIntOf]
   ·exact hr.elim
 ·rw [Ag]; exact ⟨E9 _ _ _ _ _ (Nat.le_refl _),_,_,AA,rfl⟩
theorem QI {ms:Array MapEntry} {j:Nat} {f:MapEntry→MapEntry} (hf:∀ m,(f m).born=m.born):(ms.modify j f).toList.map (·.born)=ms.toList.map (·.born):=by
 rw [Array.toList_modify]
 apply List.ext_getElem?
 intro i
 simp only [List.getElem?_map,List.getElem?_modify]
 cases ms.toList[i]? with
 | none=>rfl
 | some m=>by_cases hij:j=i<;>simp [hij,hf]
theorem Ag7 (hs:Sim ⟨β,H,F⟩ w) (he:AC ⟨β,H,F⟩ w e a) {t kt et:TypeId} {kk:MK} (h1:P.underlying t=some (.map kt et)) (h2:Abg P kt=some kk) {m k x:Operand} (h:sop P (.mupd kk (trO m) (trO k) (trO x)) e H K) {X:Op} (hX:X = .mapUpdate t m k x∨X = .insert t m k x):Gy P β H F w a K X:=by
 simp only [sop] at h
 split at h
 ·rename_i id kb hm hkb
  split at h
  ·rename_i kk' es hid
   obtain ⟨⟨rfl,hl⟩,h⟩:=h
   obtain ⟨hk1,hk2⟩:=G9 hkb (he.ev k)
   obtain ⟨_,b,o,hb,hv⟩:=(he.rep hm).mp
   obtain ⟨b',ms,cl,k1,k2,k3,k4,k5⟩:=hs.ob id _ hid
   have k1':β id 0=some (b',0):=k1
   have hb':β id 0=some (b,o):=hb
   rw [hb'] at k1'
   obtain ⟨rfl,rfl⟩:b=b'∧o=0:=by simpa using k1'
   have hck:=Fv (P:=P) (w:=w) h2 hk2 false
   have hfk:=Hg (P:=P) (w:=w) h2 hk2 k3
   have hx:=(he.ev x).cells hl
   have hxv:=Abq (he.ev x) hl
   intro op KK Q hop hnd hk
   refine OW.of_wp (by rw [hop]; exact hnd) ?_
   unfold Oper.wp
   rcases Qw (k:=kb) 0 k3 with ⟨g1,g2⟩ | ⟨j,v,y,m',g1,g2,g3,g4,g5,g6,g7⟩
   ·obtain ⟨s1,s2⟩:=hs.setMap (ms':=ms.push { key:=NT kk' kb,val:=a.eval x,born:=cl }) (cl':=cl+1) (es':=UW kb ((trO x).ev e) es) (kk':=kk') hid hb' k2 (by
     rw [Array.toList_push]; exact UJ hk2 rfl hx hxv k3 g2) (by rw [k4]; simp) (by rw [Array.toList_push,List.map_append,k5,k4]; simp [List.range_succ])
    have hr:(Instr.mapUpdate t (a.eval m) (a.eval k) (a.eval x)).run P w = .ok () { w with heap:=w.heap.setIfInBounds b (.map (ms.push { key:=NT kk' kb,val:=a.eval x,born:=cl }) (cl+1)) }:=by
     rw [hv,hk1]
     simp only [Instr.mapUpdate,Sem.run_bind,run_underlying h1,Result.andThen_ok,BO k2,hck,hfk,g1]
     rw [Ho _ k2]
    rcases hX with rfl | rfl<;>(simp only [execOp,hop,Sem.run_bind,hr,Result.andThen_ok,Sem.run_pure]; exact hk _ _ _ _ _ _ h s1 s2 Rep.any)
   ·rw [Nat.zero_add] at g1
    obtain ⟨s1,s2⟩:=hs.setMap (ms':=ms.modify j fun e=>{ e with key:=NT kk' kb,val:=a.eval x }) (cl':=cl) (es':=UW kb ((trO x).ev e) es) (kk':=kk') hid hb' k2 (by
     rw [Array.toList_modify]; exact Xb hk2 hx hxv 0 j v k3 (by rw [g1,Nat.zero_add])) (by rw [k4]; simp) (by refine (QI ?_).trans ?_<;>first | (intro m; rfl) | (rw [k5]; simp))
    have hold:((ms[j]?).map (·.key)).getD (NT kk' kb)=NT kk' kb:=by
     rw [←Array.getElem?_toList,g3]; exact g5
    have hr:(Instr.mapUpdate t (a.eval m) (a.eval k) (a.eval x)).run P w = .ok () { w with heap:=w.heap.setIfInBounds b (.map (ms.modify j fun e=>{ e with key:=NT kk' kb,val:=a.eval x }) cl) }:=by
     rw [hv,hk1]
     simp only [Instr.mapUpdate,Sem.run_bind,run_underlying h1,Result.andThen_ok,BO k2,hck,hfk,g1,hold,Instr.keyThatStays,Ud,if_true,Sem.run_pure]
     rw [Ho _ k2]
    rcases hX with rfl | rfl<;>(simp only [execOp,hop,Sem.run_bind,hr,Result.andThen_ok,Sem.run_pure]; exact hk _ _ _ _ _ _ h s1 s2 Rep.any)
  ·exact h.elim
 ·exact h.elim
theorem Ak2 (hs:Sim ⟨β,H,F⟩ w) (he:AC ⟨β,H,F⟩ w e a) {t kt:TypeId} {kk:MK} {z:Value} {zx:TV} (h1:Abb P t=some (kt,kk,z,zx)) {m k:Operand} (h:sop P (.ment kk zx (trO m) (trO k)) e H K):Gy P β H F w a K (.mapEntry t m k):=by
 obtain ⟨et,u1,u2,u3,u4,u5⟩:=Vx h1
 simp only [sop] at h
 split at h
 ·rename_i id kb hm hkb
  split at h
  ·rename_i kk' es hid
   obtain ⟨rfl,h⟩:=h
   obtain ⟨hk1,hk2⟩:=G9 hkb (he.ev k)
   obtain ⟨_,b,o,hb,hv⟩:=(he.rep hm).mp
   obtain ⟨b',ms,cl,k1,k2,k3,k4,k5⟩:=hs.ob id _ hid
   have k1':β id 0=some (b',0):=k1
   have hb':β id 0=some (b,o):=hb
   rw [hb'] at k1'
   obtain ⟨rfl,rfl⟩:b=b'∧o=0:=by simpa using k1'
   have hck:=Fv (P:=P) (w:=w) u2 hk2 false
   have hfk:=Hg (P:=P) (w:=w) u2 hk2 k3
   obtain ⟨p1,p2⟩:=YZ (k:=kb) 0 k3
   have hlen:=Nr k3
   have mk:∀ {x:TV} {v:Value} {w':World} {H':List Ob},(Instr.mapEntry t (a.eval m) (a.eval k)).run P w = .ok (.tuple #[v,goInt (U9 kb es)]) w'→Sim ⟨β,H',F⟩ w'→Ar ⟨β,H,F⟩ w ⟨β,H',F⟩ w'→Ag ⟨β,H',F⟩ w' x v.cells.toList→v=mkV x v.cells.toList→K (.tup [x,.val (.int .i64 (U9 kb es))]) H'→Gy P β H F w a K (.mapEntry t m k):=by
    intro x v w' H' hr s1 s2 hx hxv hK
    refine Gy.mk (s:=fun _=>Instr.mapEntry t (a.eval m) (a.eval k)) (fun o ho=>by simp only [execOp,ho]) (fun o=>hr) s1 s2 ?_ hK
    refine .inr ⟨_,[v,goInt (U9 kb es)],rfl,rfl,?_⟩
    rw [AY.cons]; refine ⟨v,[goInt (U9 kb es)],rfl,.inr (.inr ⟨_,hx,hxv⟩),?_⟩
    rw [AY.cons]; refine ⟨goInt (U9 kb es),[],rfl,.inr (.inl rfl),?_⟩
    rw [AY.nil]
   rcases Qw (k:=kb) 0 k3 with ⟨g1,g2⟩ | ⟨j,v,y,m',g1,g2,g3,g4,g5,g6,g7⟩
   ·rw [g2] at h
    obtain ⟨s1,s2⟩:=hs.setMap (ms':=ms.push { key:=NT kk' kb,val:=z,born:=cl }) (cl':=cl+1) (es':=UW kb zx es) (kk':=kk') hid hb' k2 (by
     rw [Array.toList_push]; exact UJ hk2 rfl (u4 _ _) u5 k3 g2) (by rw [k4]; simp) (by rw [Array.toList_push,List.map_append,k5,k4]; simp [List.range_succ])
    refine mk (v:=z) (x:=zx) ?_ s1 s2 (u4 _ _) u5 h
    have hcl:cl=U9 kb es:=by rw [p2 g2,←hlen,k4]; simp
    rw [hv,hk1]
    simp only [Instr.mapEntry,Sem.run_bind,run_underlying u1,Result.andThen_ok,BO k2,hck,hfk,g1,u3]
    rw [Ho _ k2,←hcl]; rfl
   ·rw [g2] at h
    rw [Nat.zero_add] at g1
    have hjp:j=U9 kb es:=by have:=p1 j v (by rw [g1]); omega
    obtain ⟨s1,s2⟩:=hs.setMap (ms':=ms.modify j fun e=>{ e with key:=NT kk' kb }) (cl':=cl) (es':=UW kb y es) (kk':=kk') hid hb' k2 (by
     rw [Array.toList_modify]
     have:=Xb hk2 g6 g7 0 j v k3 (by rw [g1,Nat.zero_add])
     have e1:(ms.toList.modify j fun e=>{ e with key:=NT kk' kb,val:=v })=ms.toList.modify j fun e=>{ e with key:=NT kk' kb }:=by
      apply List.ext_getElem?
      intro i
      simp only [List.getElem?_modify]
      by_cases hij:j=i
      ·subst hij; rw [g3]; simp [g4]
      ·simp [hij]
     rwa [e1] at this) (by rw [k4]; simp) (by refine (QI ?_).trans ?_<;>first | (intro m; rfl) | (rw [k5]; simp))
    have hold:((ms[j]?).map (·.key)).getD (NT kk' kb)=NT kk' kb:=by
     rw [←Array.getElem?_toList,g3]; exact g5
    have hborn:((ms[j]?).map (fun x=>(x.born:Int))).getD 0=(U9 kb es:Int):=by
     have hjl:j<ms.size:=by
      have:=(List.getElem?_eq_some_iff.1 g3).1; simpa using this
     have:=congrArg (·[j]?) k5
     simp only [List.getElem?_map,List.getElem?_range hjl] at this
     have h9:(ms[j]?).map (fun x=>(x.born:Int))=some (j:Int):=by
      rw [←Array.getElem?_toList]
      cases hq:ms.toList[j]? with
      | none=>rw [hq] at this; cases this
      | some q=>rw [hq] at this; simp only [Option.map_some,Option.some.injEq] at this ⊢; omega
     rw [h9,hjp]; rfl
    refine mk (v:=v) (x:=y) ?_ s1 s2 (Ag.mono (s2.mono hs) g6) g7 h
    rw [hv,hk1]
    simp only [Instr.mapEntry,Sem.run_bind,run_underlying u1,Result.andThen_ok,BO k2,hck,hfk,g1,hold,Instr.keyThatStays,Ud,if_true,Sem.run_pure]
    rw [Ho _ k2,Result.andThen_ok,hborn]
  ·exact h.elim
 ·exact h.elim
theorem AlT (hs:Sim ⟨β,H,F⟩ w) (he:AC ⟨β,H,F⟩ w e a) {t:TypeId} {m st x:Operand} (h:sop P (.mest (trO m) (trO st) (trO x)) e H K):Gy P β H F w a K (.entryStore t m st x):=by
 simp only [sop] at h
 split at h
 ·rename_i id q j hm hst
  split at h
  ·rename_i kk es hid
   obtain ⟨⟨h0,hl⟩,h⟩:=h
   split at h
   ·rename_i kb y hj
    obtain ⟨_,b,o,hb,hv⟩:=(he.rep hm).mp
    obtain ⟨b',ms,cl,k1,k2,k3,k4,k5⟩:=hs.ob id _ hid
    have k1':β id 0=some (b',0):=k1
    have hb':β id 0=some (b,o):=hb
    rw [hb'] at k1'
    obtain ⟨rfl,rfl⟩:b=b'∧o=0:=by simpa using k1'
    have hx:=(he.ev x).cells hl
    have hxv:=Abq (he.ev x) hl
    have hjl:j.toNat<ms.size:=by
     have:=(List.getElem?_eq_some_iff.1 hj).1
     rw [←Nr k3] at this; simpa using this
    obtain ⟨s1,s2⟩:=hs.setMap (ms':=ms.modify j.toNat fun e=>{ e with val:=a.eval x }) (cl':=cl) (es':=es.set j.toNat (kb,(trO x).ev e)) (kk':=kk) hid hb' k2 (by
     rw [Array.toList_modify]; exact Acj hx hxv j.toNat k3 hj) (by rw [k4]; simp) (by refine (QI ?_).trans ?_<;>first | (intro m; rfl) | (rw [k5]; simp))
    have hfi:ms.findIdx? (fun e=>(e.born:Int) == j)=some j.toNat:=by
     have hb2:∀ i (hi:i<ms.size),ms[i].born=i:=by
      intro i hi
      have:=congrArg (·[i]?) k5
      simp only [List.getElem?_map,List.getElem?_range hi] at this
      rw [Array.getElem?_toList,Array.getElem?_eq_getElem hi] at this
      simpa using this
     rw [Array.findIdx?_eq_some_iff_getElem]
     refine ⟨hjl,?_,fun i hi => ?_⟩
     ·rw [hb2 _ hjl]; simp; omega
     ·rw [hb2 i (by omega)]; simp; omega
    intro op KK Q hop hnd hk
    refine OW.of_wp (by rw [hop]; exact hnd) ?_
    unfold Oper.wp
    have hr:(Instr.entryStore t (a.eval m) (a.eval st) (a.eval x)).run P w = .ok () { w with heap:=w.heap.setIfInBounds b (.map (ms.modify j.toNat fun e=>{ e with val:=a.eval x }) cl) }:=by
     rw [hv,he.val hst]
     simp only [Instr.entryStore,Sem.run_bind,Result.andThen_ok,BO k2,asInt,asIntOf,Sem.run_pure,hfi]
     rw [Ho _ k2]
    simp only [execOp,hop,Sem.run_bind,hr,Result.andThen_ok,Sem.run_pure]
    exact hk _ _ _ _ _ _ h s1 s2 Rep.any
   ·exact h.elim
  ·exact h.elim
 ·exact h.elim
theorem UO (hs:Sim ⟨β,H,F⟩ w) {x:TV} {v:Value} (hx:Rep ⟨β,H,F⟩ w x v) {t tx ty et:TypeId} {k:Nat} {i:TypeInfo} {z:Value} (h0:Bi P t=some (k,et)) (h1:P.info? et=some i) (h2:i.zero=some z) (h3:z.cells.size=k)
  {y:Value} {ys:List TV} {us:List Value} (hy:Ah (Ctx.bare ⟨β,H,F⟩) w ys us) (hyk:∀ y∈ys,Aw y=k) (hsrc:Fed P t tx et i y ys.length us w) (h:Vl k i.bytes et x ys H K) :
  ∃ v' w' β' H' x',(Builtin.append_ #[t,tx] ty #[v,y]).run P w = .ok v' w'∧Sim ⟨β',H',F⟩ w'∧Ar ⟨β,H,F⟩ w ⟨β',H',F⟩ w'∧Rep ⟨β',H',F⟩ w' x' v'∧K x' H':=by
 obtain ⟨g1,g2⟩:=AQ h0
 have hik:i.size=k:=by unfold Oe at g2; rw [h1] at g2; simpa using g2
 unfold Vl at h
 split at h
 ·obtain ⟨⟨b1,b2⟩,h⟩:=h
  rw [Rep.val] at hx; subst hx
  obtain ⟨k1,k2⟩:=hs.newNone (x := .arr 0 k []) (by rw [Ag]; exact ⟨rfl,by simp,by rw [Ah]⟩)
  have hm:=Hm.toBare (β:=β) (F:=F) (w:=w) [] (upd β H.length 0 none)
  obtain ⟨v',w',β',r1,r2,r3,r4,_⟩:=k1.append (P:=P) (id:=H.length) (ver:=0) (off:=0) (n:=0) (N:=0) (k:=k) (cs:=[]) (by simp) (by simp) (v := .slice none 0 0) (cp:=0)
   (by rw [Ag]; exact ⟨E9 _ _ _ _ _ (Nat.le_refl _),.inl ⟨rfl,none,rfl,rfl,fun _ h=>by cases h⟩⟩) g1 h1 h2 (by rw [h3,hik]) hik (Ah.mono hm hy) hyk hsrc (ty:=ty) (by simpa using b1) (by simpa using b2)
  simp only [Nat.zero_add,List.drop_nil,List.take_nil,List.nil_append] at r2 r3 r4
  have hset:(H++[Ob.obj 0 (.arr 0 k [])]).set H.length (.obj 1 (.arr ys.length k ys))=H++[.obj 1 (.arr ys.length k ys)]:=by simp
  rw [hset] at r2 r3 r4
  exact ⟨v',w',β',_,_,r1,r2,k2.trans r3,Rep.of1 r4 (by simp) (by simp),h⟩
 ·rename_i k' id ver off n cp
  obtain ⟨rfl,h⟩:=h
  split at h
  ·rename_i ob hob
   obtain ⟨⟨b1,b2,b3⟩,h⟩:=h
   unfold AfA at hob
   split at hob
   ·rename_i vr N k'' cs hid
    split at hob
    ·rename_i hc
     obtain ⟨rfl,rfl⟩:=hc
     cases hob
     rw [hid] at b1
     obtain ⟨v',w',β',r1,r2,r3,r4,_⟩:=hs.append (P:=P) (ty:=ty) hid b1 hx.os g1 h1 h2 (by rw [h3,hik]) hik hy hyk hsrc b2 b3
     exact ⟨v',w',β',_,_,r1,r2,r3,Rep.of1 r4 (by simp) (by simp),h⟩
    ·cases hob
   ·rename_i vr t' l hid
    split at hob
    ·rename_i hc
     obtain ⟨e1,e2,e3,e4,hby⟩:=hc
     subst e1; subst e2; subst e3; subst e4
     cases hob
     rw [hid] at b1
     have b1':0+n≤l.length:=b1
     have hlt:id<H.length:=(List.getElem?_eq_some_iff.1 hid).1
     have hob:=hs.ob id _ hid
     have hik1:i.size=1:=hik
     have h31:z.cells.size=1:=h3
     obtain ⟨s1,s2⟩:=hs.view (o' := .obj vr (.arr l.length 1 (l.map by8))) hid rfl rfl rfl (fun hm=>by
      rcases hob with ⟨q1,q2⟩ | ⟨b,post,fr,q1,q2,q3⟩
      ·exact .inl ⟨q1,by rw [q2,Ag]; exact ⟨rfl,by simp,by rw [List.map_nil,Ah]⟩⟩
      ·refine .inr ⟨b,0,[],_,post,t',fr,q1,q2,q3,rfl,?_⟩
       rw [Ag]; exact ⟨by simp,by simp [Aw],Hl l⟩)
     have hid1:(H.set id (Ob.obj vr (.arr l.length 1 (l.map by8))))[id]?=some (.obj vr (.arr l.length 1 (l.map by8))):=by simp [hlt]
     obtain ⟨v',w',β',r1,r2,r3,r4,r5⟩:=s1.append (P:=P) (ty:=ty) hid1 (by rw [List.length_map]; exact b1') (Rep.mono (s2.mono hs) hx).os g1 h1 h2 (by rw [h31,hik1]) hik1 hy hyk hsrc b2 b3
     rw [List.set_set] at r2 r3 r4
     have hlt2:id<(H.set id (Ob.obj (vr+1) (.arr (n+ys.length) 1 (((l.map by8).drop 0).take n++ys)))).length:=by simpa using hlt
     have hid2:(H.set id (Ob.obj (vr+1) (.arr (n+ys.length) 1 (((l.map by8).drop 0).take n++ys))))[id]?=some (.obj (vr+1) (.arr (n+ys.length) 1 (((l.map by8).drop 0).take n++ys))):=by simp [hlt]
     have hisby:∀ y∈((l.map by8).drop 0).take n++ys,Abj y:=by
      intro y hy'
      rcases List.mem_append.1 hy' with hy' | hy'
      ·rw [List.drop_zero] at hy'
       obtain ⟨b,_,rfl⟩:=List.mem_map.1 (List.mem_of_mem_take hy'); exact Z9 b
      ·exact PM (List.all_eq_true.1 hby y hy')
     have hunby:(((l.map by8).drop 0).take n++ys).map TT=l.take n++ys.map TT:=by
      rw [List.drop_zero,List.map_append,←List.map_take,PH]
     have hob2:=r2.ob id _ hid2
     obtain ⟨z1,z2⟩:=r2.view (o' := .bld (vr+1) t' (l.take n++ys.map TT)) hid2 rfl rfl rfl (fun hm=>by
      rcases hob2 with ⟨q1,q2⟩ | ⟨b,off,pre,vs,post,t1,fr,q1,q2,q3,q4,q5⟩
      ·refine .inl ⟨q1,?_⟩
       rw [Ag] at q2
       have hb:=Hw hisby q2.2.2
       rw [hunby] at hb
       simpa using hb.symm
      ·rw [Ag] at q5
       have hb:=Hw hisby q5.2.2
       rw [hunby] at hb
       have hsh:w'.shape? b=some (t1,(pre++vs++post).length):=by simp [World.shape?,q2]
       have hoff:off=0∧t1=t':=by
        rcases r5 b off q1 with ⟨p1,m,p2⟩ | p1
        ·rw [hsh] at p2; cases p2; exact ⟨p1,rfl⟩
        ·have p2:=p1 rfl
         rcases hob with ⟨o1,_⟩ | ⟨b',post',fr',o1,o2,o3⟩
         ·have o1':β id vr=none:=o1
          rw [o1'] at p2; cases p2
         ·have o1':β id vr=some (b',0):=o1
          rw [o1'] at p2; cases p2
          have hbl:b<w.heap.size:=(Array.getElem?_eq_some_iff.1 o2).1
          have:=r3.shape b hbl
          rw [hsh] at this
          simp only [World.shape?,o2,Option.some.injEq,Prod.mk.injEq] at this
          exact ⟨rfl,this.1⟩
       obtain ⟨rfl,rfl⟩:=hoff
       have hp:pre=[]:=List.length_eq_zero_iff.1 q4
       subst hp
       rw [hb] at q2 q3
       exact .inr ⟨b,post,fr,q1,q2,q3⟩)
     rw [List.set_set] at z1 z2
     have hr4:=Rep.mono (z2.mono r2) (Rep.of1 r4 (by simp) (by simp))
     exact ⟨v',w',β',_,_,r1,z1,(s2.trans r3).trans z2,hr4,h⟩
    ·cases hob
   ·cases hob
  ·exact h.elim
 ·exact h.elim
theorem Anw (hs:Sim ⟨β,H,F⟩ w) (he:AC ⟨β,H,F⟩ w e a) {t tx et:TypeId} {k:Nat} {i:TypeInfo} {z:Value} (h0:Bi P t=some (k,et)) (h1:P.info? et=some i) (h2:i.zero=some z) (h3:z.cells.size=k) (h4:(Bi P tx).isSome=true)
  {x y:Operand} (h:sop P (.app k i.bytes et (trO x) (trO y)) e H K):Gy P β H F w a K (.call { callee := .builtin .append,args:=[x,y].toArray,argTypes:=[t,tx].toArray }):=by
 obtain ⟨⟨kx,etx⟩,h4⟩:=Option.isSome_iff_exists.1 h4
 have g4:=(AQ h4).1
 have hik:i.size=k:=by have g2:=(AQ h0).2; unfold Oe at g2; rw [h1] at g2; simpa using g2
 simp only [sop] at h
 split at h
 ·rename_i ys hys
  obtain ⟨hyk,us,hus,hrd⟩:=Px hs (he.ev y) hys
  have hsrc:=hrd.src hus.one g4
  intro o KK Q ho hnd hk
  refine OW.of_wp (by rw [ho]; exact hnd) ?_
  obtain ⟨v',w',β',H',x',r1,r2,r3,r4,r5⟩:=UO (ty:=o.type) hs (he.ev x) h0 h1 h2 h3 hus hyk (Fed.ofSrc (AQ h0).1 h1 (by rw [hik]; exact hsrc)) h
  unfold Oper.wp
  simp only [execOp,ho,resolve,invoke,builtin,Sem.run_bind,Sem.run_pure,Result.andThen_ok,List.map_toArray,List.map_cons,List.map_nil,r1]
  exact hk _ _ _ _ _ _ r5 r2 r3 r4
 ·exact h.elim
theorem Aj2 (hs:Sim ⟨β,H,F⟩ w) (he:AC ⟨β,H,F⟩ w e a) {t:TypeId} (h1:Aag P t=true) {x:Operand} (h:sop P (.rngM (trO x)) e H K):Gy P β H F w a K (.range t x):=by
 obtain ⟨kt,et,h2⟩:∃ kt et,P.underlying t=some (.map kt et):=by
  unfold Aag at h1
  split at h1
  ·rename_i kt et hu; exact ⟨kt,et,hu⟩
  ·cases h1
 simp only [sop] at h
 split at h
 ·rename_i id hx
  split at h
  ·rename_i kk zs cl hm
   obtain ⟨b,ms,q1,q2,q3,q4,q5,o,q6,q7,q8⟩:=ZF hs hm
   obtain ⟨g1,b',o',hb,hv⟩:=(he.rep hx).mp
   rw [q1] at hb
   obtain ⟨rfl,rfl⟩:b=b'∧0=o':=by simpa using hb
   obtain ⟨k1,k2⟩:=hs.new (.mit id [] cl) rfl (some (w.heap.size,0)) (w':=w.alloc (.mapIter (some b) cl #[] cl)) (fun b off e=>by cases e; exact Nat.le_refl _) rfl rfl rfl (by simp) (fun b hb=>CU w _ hb)
    (fun hm'=>⟨w.heap.size,b,AA,⟨(hm'.has id 0 g1).1,(hm'.has id 0 g1).2.trans q1⟩,AU w _⟩)
   refine Gy.mk (s:=fun _=>Instr.range t (a.eval x)) (v := .pointer (some ⟨w.heap.size,0,none⟩)) (fun o ho=>by simp only [execOp,ho]) (fun o => ?_) k1 k2 (Rep.mk_op (E9 _ _ _ _ _ (Nat.le_refl _)) AA (by simp [C9])) h
   rw [hv]
   simp only [Instr.range,Sem.run_bind,run_underlying h2,Result.andThen_ok,BO q2]
   simp [newObj,Sem.run]
  ·exact h.elim
 ·exact h.elim
theorem AkS (hs:Sim ⟨β,H,F⟩ w) (he:AC ⟨β,H,F⟩ w e a) {x:Operand} (h:sop P (.nxtM (trO x)) e H K):Gy P β H F w a K (.next x false):=by
 simp only [sop] at h
 split at h
 ·rename_i id hx
  split at h
  ·rename_i m sn cl hid
   split at h
   ·rename_i kk zs cl' hm
    obtain ⟨⟨rfl,hold⟩,hA,hB⟩:=h
    obtain ⟨r,b,k1,⟨k2,k3⟩,k4⟩:=hs.ob id _ hid
    obtain ⟨b',ms,q1,q2,q3,q4,q5,_⟩:=ZF hs hm
    rw [k3] at q1
    obtain rfl:b=b':=by simpa using q1
    obtain ⟨_,b2,o,hb2,hv⟩:=(he.rep hx).op
    have hb2':β id 0=some (b2,o):=hb2
    have k1':β id 0=some (r,0):=k1
    rw [k1'] at hb2'
    obtain ⟨rfl,rfl⟩:r=b2∧0=o:=by simpa using hb2'
    have hv':a.eval x = .pointer (some ⟨r,0,none⟩):=hv
    have hcon:∀ s:Nat,sn.toArray.contains s=decide (s∈sn):=fun s=>by simp
    intro op KK Q hop hnd hk
    refine OW.of_wp (by rw [hop]; exact hnd) ?_
    unfold Oper.wp
    rcases run_next_at (P:=P) w op.type r b cl' cl' sn.toArray ms cl' k4 q2 (fun e he'=>by
     obtain ⟨z,hz,g,_⟩:=U4 q3 q4 e he'
     rw [g]; exact hold z hz) (Nat.le_refl _) with ⟨g1,g2⟩ | ⟨en,g1,w1,g2,g3⟩
    ·simp only [execOp,hop,Sem.run_bind,hv',g2,Result.andThen_ok,Sem.run_pure]
     refine hk _ _ _ _ _ _ (hB fun z hz => ?_) hs (Ar.refl _ _) (.inr ⟨_,[.bool false],rfl,rfl,by rw [AY.cons]; exact ⟨_,_,rfl,.inr (.inl rfl),by rw [AY.nil]⟩⟩)
     obtain ⟨en,e1,e2,_⟩:=U3 q3 q4 z hz
     have hl:leftOf ms sn.toArray = #[]:=Array.eq_empty_of_size_eq_zero g1
     unfold leftOf at hl
     rw [Array.filter_eq_empty_iff] at hl
     have:=hl en (by simpa using e1)
     rw [hcon,e2] at this
     simpa using this
    ·have hmem:en∈ms.toList∧¬ en.born∈sn:=by
      unfold leftOf at g1
      simp only [Array.toList_filter,List.mem_filter,hcon] at g1
      exact ⟨g1.1,by simpa using g1.2⟩
     obtain ⟨z,hz,e1,⟨e2,e2'⟩,e3,e4⟩:=U4 q3 q4 en hmem.1
     have hlt:=(Array.getElem?_eq_some_iff.1 k4).1
     have hw1:w1.heap=w.heap∧w1.os=w.os∧w1.tape=w.tape∧w1.output=w.output:=by rcases g2 with rfl | rfl<;>exact ⟨rfl,rfl,rfl,rfl⟩
     obtain ⟨s1,s2⟩:=hs.turn (β':=β) (o' := .mit m (sn++[z.1]) cl') (w':=ChangeMaps.setBlock w1 r (.mapIter (some b) cl' (sn.toArray.push en.born) cl')) hid rfl rfl (Nat.le_refl _) (fun _ _ _=>rfl) (fun b1 off e => .inl ⟨off,e⟩) hw1.2.1 hw1.2.2.1 hw1.2.2.2 (by simp [ChangeMaps.setBlock,hw1.1])
      (fun b1 hb1=>by
       by_cases e:b1=r
       ·subst e
        have h1:(ChangeMaps.setBlock w1 b1 (.mapIter (some b) cl' (sn.toArray.push en.born) cl')).heap[b1]?=some (.mapIter (some b) cl' (sn.toArray.push en.born) cl'):=by simp [ChangeMaps.setBlock,hw1.1,hlt]
        simp only [World.shape?,h1,k4]
       ·simp [World.shape?,ChangeMaps.setBlock,hw1.1,Array.getElem?_setIfInBounds_ne (Ne.symm e)])
      (fun b1 hb1 hne=>by
       have e:b1≠r:=fun e=>hne 0 (e▸k1')
       simp [ChangeMaps.setBlock,hw1.1,Array.getElem?_setIfInBounds_ne (Ne.symm e)])
      (fun hm'=>⟨r,b,k1',⟨(hm'.has m 0 k2).1,(hm'.has m 0 k2).2.trans k3⟩,by
       have:(sn++[z.1]).toArray=sn.toArray.push en.born:=by rw [e1]; simp
       rw [this]; simp [ChangeMaps.setBlock,hw1.1,hlt]⟩)
     simp only [execOp,hop,Sem.run_bind,hv',g3,Result.andThen_ok,Sem.run_pure]
     refine hk _ _ _ _ _ _ (hA z hz (by rw [←e1]; exact hmem.2)) s1 s2 (.inr ⟨_,[.bool true,en.key,en.val],rfl,rfl,?_⟩)
     rw [AY.cons]; refine ⟨_,_,rfl,.inr (.inl rfl),?_⟩
     rw [AY.cons]; refine ⟨_,_,rfl,by rw [e2]; exact AdW e2',?_⟩
     rw [AY.cons]; exact ⟨_,_,rfl,.inr (.inr ⟨_,Ag.mono (s2.mono hs) e3,e4⟩),by rw [AY.nil]⟩
   ·exact h.elim
  ·exact h.elim
 ·exact h.elim
theorem V9 {c:Ctx} {w:World} {kk:MK}:∀ {es:List (List UInt8×TV)} {ms:List MapEntry} (j:Nat),AL c w kk es ms→AL c w kk (es.eraseIdx j) (ms.eraseIdx j)
 | [],ms,j,h=>by
  have:ms=[]:=h
  subst this; exact h
 | (k,x)::es,ms,0,h=>by
  obtain ⟨m,r,rfl,h1,h2,h3⟩:=h
  exact h3
 | (k,x)::es,ms,j+1,h=>by
  obtain ⟨m,r,rfl,h1,h2,h3⟩:=h
  exact ⟨m,r.eraseIdx j,rfl,h1,h2,V9 j h3⟩
theorem AlO (hs:Sim ⟨β,H,F⟩ w) (he:AC ⟨β,H,F⟩ w e a) {t kt et:TypeId} {ts:List TypeId} {kk:MK} (h1:P.underlying t=some (.map kt et)) (h2:Abg P kt=some kk) {m k:Operand} (h:sop P (.delM kk (trO m) (trO k)) e H K):Gy P β H F w a K (.call { callee := .builtin .delete,args:=[m,k].toArray,argTypes:=(t::ts).toArray }):=by
 simp only [sop] at h
 split at h
 ·rename_i id kb hm hkb
  split at h
  ·rename_i kk' zs cl hst
   obtain ⟨rfl,h⟩:=h
   obtain ⟨hk1,hk2⟩:=G9 hkb (he.ev k)
   obtain ⟨b,ms,q1,q2,q3,q4,q5,o,q6,q7,q8⟩:=ZF hs hst
   obtain ⟨g1,b',o',hb,hv⟩:=(he.rep hm).mp
   rw [q1] at hb
   obtain ⟨rfl,rfl⟩:b=b'∧0=o':=by simpa using hb
   have hck:=Fv (P:=P) (w:=w) h2 hk2 ms.isEmpty
   have hfk:=Hg (P:=P) (w:=w) h2 hk2 q3
   obtain ⟨p1,p2⟩:=YZ (k:=kb) 0 q3
   have hlt:=(Array.getElem?_eq_some_iff.1 q2).1
   have fin:∀ ms':Array MapEntry,ms'.toList=ms.toList.eraseIdx (U9 kb (zs.map (·.2)))→Sim ⟨β,H.set id (.mpd kk' (zs.eraseIdx (U9 kb (zs.map (·.2)))) cl),F⟩ { w with heap:=w.heap.setIfInBounds b (.map ms' cl) }∧Ar ⟨β,H,F⟩ w ⟨β,H.set id (.mpd kk' (zs.eraseIdx (U9 kb (zs.map (·.2)))) cl),F⟩ { w with heap:=w.heap.setIfInBounds b (.map ms' cl) }:=by
    intro ms' hms
    have hother:∀ b',b'≠b→(w.heap.setIfInBounds b (.map ms' cl))[b']?=w.heap[b']?:=fun b' h=>by rw [Array.getElem?_setIfInBounds_ne (Ne.symm h)]
    have q1':β id o.ver=some (b,0):=by rw [q8]; exact q1
    refine hs.turn (β':=β) q6 q7 rfl (by rw [q8]; exact Nat.le_refl _) (fun i v _=>rfl) (fun b2 off e => .inl ⟨off,by rw [q8]; exact e⟩) rfl rfl rfl (by simp) (fun b2 _ => ?_) (fun b2 _ hne=>hother b2 (fun e=>hne 0 (e▸q1')))
     (fun hm=>⟨b,ms',q1,by simp [hlt],?_,?_,?_⟩)
    ·by_cases e:b2=b
     ·subst e
      have h1:(w.heap.setIfInBounds b2 (.map ms' cl))[b2]?=some (.map ms' cl):=by simp [hlt]
      simp only [World.shape?,h1,q2]
     ·simp [World.shape?,hother b2 e]
    ·rw [hms,ChangeMaps.map_eraseIdx]
     exact AL.mono hm (V9 _ q3)
    ·rw [hms,ChangeMaps.map_eraseIdx,ChangeMaps.map_eraseIdx,q4]
    ·rw [ChangeMaps.map_eraseIdx]
     exact q5.sublist (List.eraseIdx_sublist _ _)
   intro op KK Q hop hnd hk
   refine OW.of_wp (by rw [hop]; exact hnd) ?_
   unfold Oper.wp
   rcases Qw (k:=kb) 0 q3 with ⟨l1,l2⟩ | ⟨j,v,y,m',l1,l2,l3,l4,l5,l6,l7⟩
   ·have hpos:=p2 l2
    obtain ⟨s1,s2⟩:=fin ms (by rw [hpos,List.eraseIdx_of_length_le (by have:=Nr q3; omega)])
    have hr:(Builtin.delete_ (t::ts).toArray op.type #[a.eval m,a.eval k]).run P w = .ok (.tuple #[]) { w with heap:=w.heap.setIfInBounds b (.map ms cl) }:=by
     rw [hv,hk1]
     simp only [Builtin.delete_,List.getElem?_toArray,List.getElem?_cons_zero,List.getElem?_cons_succ,Sem.run_bind,run_underlying h1,Result.andThen_ok,BO q2,hck,hfk,l1]
     simp [Ho _ q2,run_underlying h1,BO q2,hck,hfk,l1]
    simp only [execOp,hop,resolve,invoke,builtin,Sem.run_bind,Sem.run_pure,Result.andThen_ok,List.map_toArray,List.map_cons,List.map_nil,hr]
    exact hk _ _ _ _ _ _ h s1 s2 Rep.any
   ·have hjp:j=U9 kb (zs.map (·.2)):=by have:=p1 j v (by rw [l1,Nat.zero_add]); omega
    obtain ⟨s1,s2⟩:=fin (ms.eraseIdxIfInBounds j) (by rw [←hjp]; simp)
    have hr:(Builtin.delete_ (t::ts).toArray op.type #[a.eval m,a.eval k]).run P w = .ok (.tuple #[]) { w with heap:=w.heap.setIfInBounds b (.map (ms.eraseIdxIfInBounds j) cl) }:=by
     rw [hv,hk1]
     simp [Builtin.delete_,run_underlying h1,BO q2,hck,hfk,l1,Ho _ q2]
    simp only [execOp,hop,resolve,invoke,builtin,Sem.run_bind,Sem.run_pure,Result.andThen_ok,List.map_toArray,List.map_cons,List.map_nil,hr]
    exact hk _ _ _ _ _ _ h s1 s2 Rep.any
  ·exact h.elim
 ·exact h.elim
theorem Aoo (hs:Sim ⟨β,H,F⟩ w) (he:AC ⟨β,H,F⟩ w e a) {op:BinOp} {t yt et:TypeId} (ho:Xg op=true) (h1:P.underlying t=some (.slice et)) {x y:Operand} (hy:AdV y=true) (h:sop P (.eqS (trO x) (EX op)) e H K):Gy P β H F w a K (.binOp op t x y yt):=by
 obtain rfl:y = .const (.slice none 0 0):=by
  unfold AdV at hy; split at hy
  ·rfl
  ·cases hy
 have run:∀ (ad:Option Addr) (n cap:Nat),a.eval x = .slice ad n cap→K (.val (.bool (xor (EX op) ad.isNone))) H→Gy P β H F w a K (.binOp op t x (.const (.slice none 0 0)) yt):=by
  intro ad n cap hv hk
  refine Ap.does hs fun ty=>Ap.mk (s:=do eqGuard op t x (.const (.slice none 0 0)) (a.eval x) (a.eval (.const (.slice none 0 0))); binOp op t (a.eval x) (a.eval (.const (.slice none 0 0)))) (fun o ho _=>by simp only [execOp,ho]) ?_ Rep.of_val hk
  have e0:a.eval (.const (.slice none 0 0)) = .slice none 0 0:=rfl
  rw [e0,hv,Sem.run_bind,J7 (by rfl),Result.andThen_ok]
  have hd:∀ d,(Op.equalIn (d+1) t (.slice ad n cap) (.slice none 0 0)).run P w = .ok ad.isNone w:=by
   intro d
   cases ad<;>simp [Op.equalIn,run_underlying h1]
  have heq:(Op.equal t (.slice ad n cap) (.slice none 0 0)).run P w = .ok ad.isNone w:=hd 9999
  cases op<;>simp [Xg] at ho
  ·show (do pure (.bool (←Op.equal t _ _)):Sem Value).run P w=_
   simp [heq,EX]
  ·show (do pure (.bool (!(←Op.equal t _ _))):Sem Value).run P w=_
   simp [heq,EX]
 simp only [sop] at h
 split at h
 ·rename_i ad n cap hx; exact run _ _ _ (he.val hx) h
 ·rename_i k' cs hx
  obtain ⟨_,⟨rfl,ad,cap,hv,_⟩ | ⟨b,off,cap,vs,hv,_⟩⟩:=(he.rep hx).sl
  ·refine run _ _ _ hv ?_
   obtain ⟨h,_⟩:=h
   obtain ⟨h2,h3⟩:=h rfl
   cases xor (EX op) ad.isNone
   ·exact h3
   ·exact h2
  ·refine run _ _ _ hv ?_
   obtain ⟨h,h'⟩:=h
   by_cases hc:cs=[]
   ·obtain ⟨h2,h3⟩:=h hc
    cases xor (EX op) (some (⟨b,off,none⟩:Addr)).isNone
    ·exact h3
    ·exact h2
   ·have:=h' hc
    simpa using this
 ·rename_i k' id ver p off n cp hx
  have hr:=(he.rep hx).os
  rw [Ag] at hr
  rcases hr.2 with ⟨rfl,ad,hv,_⟩ | ⟨b,o,cap,t',m,hb,hv,_⟩
  ·refine run ad 0 0 (by simpa using hv) ?_
   obtain ⟨h,_⟩:=h
   obtain ⟨h2,h3⟩:=h rfl
   cases xor (EX op) ad.isNone
   ·exact h3
   ·exact h2
  ·refine run _ _ _ (List.cons.inj hv).1 ?_
   obtain ⟨h,h'⟩:=h
   by_cases hc:n=0
   ·obtain ⟨h2,h3⟩:=h hc
    simp only [Option.isNone_some,Bool.xor_false]
    cases EX op
    ·exact h3
    ·exact h2
   ·have:=h' hc
    simpa using this
 ·exact h.elim
theorem AlU (hs:Sim ⟨β,H,F⟩ w) (he:AC ⟨β,H,F⟩ w e a) {t tx et:TypeId} {k:Nat} {i:TypeInfo} {z:Value} {zx:TV} (h0:Bi P t=some (k,et)) (h1:P.info? et=some i) (h2:i.zero=some z) (h3:z.cells.size=k∧k≠0) (h4:zT P 400 et z.cells.toList=some zx) (h5:Acg P tx=true)
  {x y:Operand} (h:sop P (.appZ k i.bytes et zx (trO x) (trO y)) e H K):Gy P β H F w a K (.call { callee := .builtin .append,args:=[x,y].toArray,argTypes:=[t,tx].toArray }):=by
 obtain ⟨g1,g2⟩:=AQ h0
 obtain ⟨kn,g3⟩:∃ kn,P.underlying tx=some (.int kn):=by
  unfold Acg at h5
  split at h5
  ·rename_i q hq; exact ⟨q,hq⟩
  ·cases h5
 obtain ⟨hz,hzp⟩:=II (c:=Ctx.bare ⟨β,H,F⟩) (w:=w) h4
 have hik:i.size=k:=by unfold Oe at g2; rw [h1] at g2; simpa using g2
 simp only [sop] at h
 split at h
 ·rename_i j hx hy
  obtain ⟨⟨b1,b2,b3⟩,h⟩:=h
  obtain ⟨n,rfl⟩:∃ n:Nat,j=n:=⟨j.toNat,by omega⟩
  rw [Int.toNat_natCast] at h
  have hvx:a.eval x = .slice none 0 0:=he.val hx
  have hvy:a.eval y = .int .i64 (n:Int):=he.val hy
  have fin:∀ v' w' β',(∀ ty,(Builtin.append_ #[t,tx] ty #[.slice none 0 0,.int .i64 (n:Int)]).run P w = .ok v' w')→Sim ⟨β',H++[.obj 0 (.arr n k (List.replicate n zx))],F⟩ w'→Ar ⟨β,H,F⟩ w ⟨β',H++[.obj 0 (.arr n k (List.replicate n zx))],F⟩ w' →
    Rep ⟨β',H++[.obj 0 (.arr n k (List.replicate n zx))],F⟩ w' (.os k H.length 0 [] 0 n n) v'→Gy P β H F w a K (.call { callee := .builtin .append,args:=[x,y].toArray,argTypes:=[t,tx].toArray }):=by
   intro v' w' β' r1 r2 r3 r4 o KK Q ho hnd hk
   refine OW.of_wp (by rw [ho]; exact hnd) ?_
   unfold Oper.wp
   simp only [execOp,ho,resolve,invoke,builtin,Sem.run_bind,Sem.run_pure,Result.andThen_ok,List.map_toArray,List.map_cons,List.map_nil,hvx,hvy,r1]
   exact hk _ _ _ _ _ _ h r2 r3 r4
  by_cases hn:n=0
  ·subst hn
   obtain ⟨k1,k2⟩:=hs.newNone (x := .arr 0 k []) (by rw [Ag]; exact ⟨rfl,by simp,by rw [Ah]⟩)
   refine fin (.slice none 0 0) w _ (fun ty => ?_) k1 k2 (Rep.of1 ?_ (by simp) (by simp))
   ·have hw:IntKind.i64.wrap ((0:Nat):Int)=0:=by rw [IntKind.wrap_i64]; omega
    simp [Builtin.append_,run_underlying g1,run_underlying g3,sizeOf,typeInfo,h1,asInt,asIntOf]
    have hw':IntKind.i64.wrap (0:Int)=0:=hw
    simp [hw']
   ·rw [Ag]; exact ⟨E9 _ _ _ _ _ (Nat.le_refl _),.inl ⟨rfl,none,rfl,rfl,fun _ h=>by cases h⟩⟩
  ·have hm:=KJ hz (by rw [h3.1]; exact h3.2) n
   have hzw:Aw zx=k:=by rw [←hz.length]; simpa using h3.1
   have hb2:n*i.bytes≤140737488355328:=by
    have:((n*i.bytes:Nat):Int)≤140737488355328:=by rw [Int.natCast_mul,Int.mul_comm]; exact b2
    omega
   have hr:=fun ty=>Lib.run_append_grow_zeros (P:=P) w t tx ty et i z .i64 kn g1 g3 h1 h2 none 0 0 [] (run_firstCells_none w.drew i.size 0 0 0) n (by omega) (by rw [hik]; omega) (by omega) (by omega) (by omega) (growslice_fits (by omega) (by simpa using hb2))
   have hge:=grownCap_ge w (0+n) 0 et
   have hcm:=grownCap_le_maxLen w (0+n) 0 et (by unfold maxLen; omega)
   have hzl:=size_zeroCells z.cells (grownCap w (0+n) 0 et - (0+n))
   generalize hpo:(Builtin.zeroCells z.cells (grownCap w (0+n) 0 et - (0+n)))=zz at *
   have harr:([]:List Value).toArray++Builtin.zeroCells z.cells n++zz=((madeCells z.cells (n*z.cells.size)).toList++zz.toList).toArray:=by
    have:Builtin.zeroCells z.cells n=madeCells z.cells (n*z.cells.size):=rfl
    rw [this]; apply Array.ext'; simp
   rw [harr] at hr
   have hrow:Ag ⟨β,H,F⟩ w (.arr n k (List.replicate n zx)) (madeCells z.cells (n*z.cells.size)).toList:=by
    rw [Ag]; exact ⟨by simp,fun y hy=>by rw [List.eq_of_mem_replicate hy]; exact hzw,hm⟩
   have hnew:(w.drew.alloc (.cells ((madeCells z.cells (n*z.cells.size)).toList++zz.toList).toArray et)).heap[w.heap.size]?=some (.cells ((madeCells z.cells (n*z.cells.size)).toList++zz.toList).toArray et):=AU w.drew _
   obtain ⟨k1,k2⟩:=hs.new (w':=w.drew.alloc (.cells ((madeCells z.cells (n*z.cells.size)).toList++zz.toList).toArray et)) (.obj 0 (.arr n k (List.replicate n zx))) rfl (some (w.heap.size,0)) (fun b off e=>by cases e; exact Nat.le_refl _) rfl rfl rfl (by simp) (fun b hb=>CU w.drew _ hb)
    (fun hm' => .inr ⟨w.heap.size,0,[],_,zz.toList,et,(0,0),AA,by simpa using hnew,XL _,rfl,Ag.mono hm' hrow⟩)
   refine fin _ _ _ hr k1 k2 ?_
   have:=Ny (β:=β) (H:=H) (F:=F) (w:=w) (x := .arr n k (List.replicate n zx)) (vs:=(madeCells z.cells (n*z.cells.size)).toList) (post:=zz.toList) (t:=et) (fr:=(0,0)) (n:=0+n) (N:=0) (k:=k) (cap:=grownCap w (0+n) 0 et) (cp:=n) rfl (by unfold maxLen at hcm; omega) (by omega) (by omega)
    (by
     rw [List.length_append,Array.length_toList,Array.length_toList,hzl,size_madeCells,h3.1,←Nat.add_mul]
     exact Nat.mul_le_mul_right _ (by omega)) (w0:=w.drew) rfl
   simpa using this
 ·rename_i k' id ver p off m cp j hx hy
  obtain ⟨⟨b1,b2,b3⟩,h⟩:=h
  obtain ⟨n,rfl⟩:∃ n:Nat,j=n:=⟨j.toNat,by omega⟩
  rw [Int.toNat_natCast] at h
  have hvy:a.eval y = .int .i64 (n:Int):=he.val hy
  have hb2:n*i.bytes≤140737488355328:=by
   have:((n*i.bytes:Nat):Int)≤140737488355328:=by rw [Int.natCast_mul,Int.mul_comm]; exact b2
   omega
  have hzw:Aw zx=k:=by rw [←hz.length]; simpa using h3.1
  have hm0:=KJ hz (by rw [h3.1]; exact h3.2) n
  have hcz:madeCells z.cells (n*z.cells.size)=Builtin.zeroCells z.cells n:=rfl
  rw [hcz] at hm0
  have hm:=hm0
  have hfed:Fed P t tx et i (.int .i64 (n:Int)) (List.replicate n zx).length (Builtin.zeroCells z.cells n).toList w:=by
   rw [List.length_replicate]
   exact Fed.zeros g1 g3 h1 h2 (by rw [hik]; omega) hb2 (by omega) hm.one
  intro o KK Q ho hnd hk
  refine OW.of_wp (by rw [ho]; exact hnd) ?_
  have hex:=he.ev x
  rw [hx] at hex
  obtain ⟨v',w',β',H',x',r1,r2,r3,r4,r5⟩:=UO (ty:=o.type) hs hex h0 h1 h2 h3.1 hm (fun y hy=>by rw [List.eq_of_mem_replicate hy]; exact hzw) hfed h
  unfold Oper.wp
  simp only [execOp,ho,resolve,invoke,builtin,Sem.run_bind,Sem.run_pure,Result.andThen_ok,List.map_toArray,List.map_cons,List.map_nil,hvy,r1]
  exact hk _ _ _ _ _ _ r5 r2 r3 r4
 ·exact h.elim
theorem Alk (hs:Sim ⟨β,H,F⟩ w) (he:AC ⟨β,H,F⟩ w e a) {t tx et:TypeId} {i:TypeInfo} {z:Value} (h0:Bi P t=some (1,et)) (h1:P.info? et=some i) (h2:i.zero=some z) (h3:z.cells.size=1) (hb:i.bytes=1) (h4:QW P tx=true)
  {x y:Operand} (h:sop P (.appS et (trO x) (trO y)) e H K):Gy P β H F w a K (.call { callee := .builtin .append,args:=[x,y].toArray,argTypes:=[t,tx].toArray }):=by
 have g4:=Jr h4
 have hik:i.size=1:=by have g2:=(AQ h0).2; unfold Oe at g2; rw [h1] at g2; simpa using g2
 simp only [sop] at h
 split at h
 ·rename_i s hy
  have hsrc:=Src.ofString (P:=P) w g4 s
  have hlen:((bl s).map by8).length=s.size:=by simp [bl]
  rw [←hlen] at hsrc
  intro o KK Q ho hnd hk
  refine OW.of_wp (by rw [ho]; exact hnd) ?_
  obtain ⟨v',w',β',H',x',r1,r2,r3,r4,r5⟩:=UO (ty:=o.type) hs (he.ev x) h0 h1 h2 h3 (Hl (bl s)) (by simp [Aw]) (Fed.ofSrc (AQ h0).1 h1 (by rw [hik]; exact hsrc)) (by rw [hb]; exact h)
  unfold Oper.wp
  rw [←he.val hy] at r1
  simp only [execOp,ho,resolve,invoke,builtin,Sem.run_bind,Sem.run_pure,Result.andThen_ok,List.map_toArray,List.map_cons,List.map_nil,r1]
  exact hk _ _ _ _ _ _ r5 r2 r3 r4
 ·exact h.elim
theorem Ym {w:World} {a:Addr} {v:Value} (h:w.cell? a=some v):w.setCell a v=w:=by
 have hb:=World.block_lt_of_cell? w a h
 have hh:(w.setCell a v).heap=w.heap:=by
  unfold World.cell? at h
  split at h
  ·rename_i c t fr hc
   split at h
   ·cases h
   ·rename_i hsp
    apply Array.ext_getElem?
    intro i
    by_cases hi:i=a.block
    ·subst hi
     simp only [World.setCell,Array.getElem?_modify,if_true,hc,Option.map_some]
     rw [if_neg hsp]
     congr 2
     apply Array.ext_getElem?
     intro j
     rw [Array.getElem?_setIfInBounds]
     split
     ·rename_i hj; subst hj
      split
      ·exact h.symm
      ·rename_i hlt; rw [Array.getElem?_eq_none (by omega)]
     ·rfl
    ·exact Below.heap_setCell _ _ _ _ hi
  ·cases h
 cases w
 simp only [World.setCell] at hh ⊢
 simp only [hh]
theorem Nl {b:Nat}:∀ {vs:List Value} {off:Nat} {w:World},Cc w b off vs→w.setCells b off vs=w
 | [],off,w,h=>rfl
 | v::vs,off,w,h=>by
  have h0:=h 0 v rfl
  rw [World.setCells,Ym (by simpa using h0)]
  exact Nl fun j u hj=>by
   have:=h (j+1) u (by simpa using hj)
   rw [show off+1+j=off+(j+1) from by omega]; exact this
theorem JQ (b:Nat):∀ (xs ys:List Value) (off:Nat) (w:World),w.setCells b off (xs++ys)=(w.setCells b off xs).setCells b (off+xs.length) ys
 | [],ys,off,w=>by simp [World.setCells]
 | x::xs,ys,off,w=>by
  rw [List.cons_append,World.setCells,World.setCells,JQ b xs ys (off+1),List.length_cons]
  congr 1; omega
theorem Ui {w:World} {b off o2:Nat} {us vs:List Value} (h:Cc w b off us) (hd:o2+vs.length≤off):Cc (w.setCells b o2 vs) b off us:=by
 intro j u hj
 rw [World.cell?_setCells_out b vs o2 w ⟨b,off+j,none⟩ (fun _ _ => .inr (by show o2+vs.length≤off+j; omega))]
 exact h j u hj
theorem Ye (hs:Sim ⟨β,H,F⟩ w) {v:Value} {k id ver off n cp:Nat} {p:List (Nat×Nat)} (hx:Rep ⟨β,H,F⟩ w (.os k id ver p off n cp) v)
  {ys:List TV} {us:List Value} (hy:Ah (Ctx.bare ⟨β,H,F⟩) w ys us) (hyk:∀ y∈ys,Aw y=k) {z z':TV} {N:Nat} {cs:List TV} (hid:H[id]?=some (.obj ver z)) (hg:J5 p z=some (.arr N k cs)) (hb:off+n≤cs.length)
  (hz:QO p z (.arr N k (cs.take off++(ys.take n++cs.drop (off+min ys.length n))))=some z') {G:Prop}
  (fin:∀ (bs:Option Addr) (cap:Nat) (w2:World),v = .slice bs n cap→(∀ vs:List Value,vs=us.take (Nat.min ys.length n*k)→(match bs with | some ad=>(storeCells ad vs).run P w = .ok () w2 | none=>w2=w)) →
   Sim ⟨β,H.set id (.obj ver z'),F⟩ w2→Ar ⟨β,H,F⟩ w ⟨β,H.set id (.obj ver z'),F⟩ w2→G):G:=by
 have hr:=hx.os
 rw [Ag] at hr
 obtain ⟨q1,hr⟩:=hr
 rcases hr with ⟨rfl,ad,hv,_⟩ | ⟨b,o,cap,t',m',hbo,hv,h3,h4,h5,h6⟩
 ·-- nothing is copied
  have hv':v = .slice ad 0 0:=by simpa using hv
  have hz2:Ag ⟨β,H,F⟩ w z' (match hs.ob id _ hid with | _=>[])∨True := .inr trivial
  -- the object stays aS it is
  have hsame:cs.take off++(ys.take 0++cs.drop (off+min ys.length 0))=cs:=by simp
  rw [hsame] at hz
  have hobj:∀ us',Ag ⟨β,H,F⟩ w z us'→Ag ⟨β,H,F⟩ w z' us':=fun us' hu=>by
   obtain ⟨a1,m1,b1,e1,e2,e3⟩:=Iq hu hg
   have hr2:=e3
   rw [Ag] at hr2
   obtain ⟨a2,m2,b2,f1,f2,f3,f4,_⟩:=OX hu hz e3
   have e4:a1=a2:=by
    have:=congrArg (List.take a1.length) (e1.symm.trans f1)
    rw [List.append_assoc,List.append_assoc,List.take_left] at this
    rw [this,List.take_left' (by omega)]
   subst e4
   have e5:=e1.symm.trans f1
   rw [List.append_assoc,List.append_assoc] at e5
   have e6:=List.append_cancel_left e5
   have e7:m1=m2:=by
    have:=congrArg (List.take m1.length) e6
    rw [List.take_left] at this
    rw [this,List.take_left' (by omega)]
   subst e7
   have e8:=List.append_cancel_left e6
   subst e8
   rw [e1]; exact f4
  have hid':id<H.length:=(List.getElem?_eq_some_iff.1 hid).1
  obtain ⟨k1,k2⟩:=hs.turn (o' := .obj ver z') (w':=w) (β':=β) hid rfl rfl (Nat.le_refl _) (fun _ _ _=>rfl) (fun b off e => .inl ⟨off,e⟩) rfl rfl rfl (Nat.le_refl _) (fun _ _=>rfl) (fun _ _ _=>rfl) (fun hm=>by
   rcases hs.ob id _ hid with ⟨r0,r1⟩ | ⟨b,off,pre,vs,post,t,fr,r0,r1,r2,r3,r4⟩
   ·exact .inl ⟨r0,Ag.mono hm (hobj _ r1)⟩
   ·exact .inr ⟨b,off,pre,vs,post,t,fr,r0,r1,r2,r3,Ag.mono hm (hobj _ r4)⟩)
  refine fin ad 0 w hv' (fun vs hvs => ?_) k1 k2
  have:vs=[]:=by rw [hvs]; simp
  subst this
  cases ad<;>rfl
 ·have hv':v = .slice (some ⟨b,o+C9 p+off*k,none⟩) n cap:=by simpa using hv
  obtain ⟨cells,hcr,hca⟩:=YQ hs hid hbo hg
  have hcr0:=hcr
  rw [Ag] at hcr
  obtain ⟨e1,e2,hcr⟩:=hcr
  -- the array's cells,cut
  have hcut:cs=cs.take off++((cs.drop off).take (min ys.length n)++cs.drop (off+min ys.length n)):=by
   rw [show cs.drop (off+min ys.length n)=(cs.drop off).drop (min ys.length n) from by rw [List.drop_drop],List.take_append_drop,List.take_append_drop]
  rw [hcut] at hcr
  obtain ⟨ca,cm,rfl,c1,c2⟩:=Ah.split hcr
  obtain ⟨cb,cc,rfl,c3,c4⟩:=Ah.split c2
  have hyt:Ah (Ctx.bare ⟨β,H,F⟩) w (ys.take n) (us.take (min ys.length n*k)):=by
   have hys:ys=ys.take n++ys.drop n:=(List.take_append_drop _ _).symm
   rw [hys] at hy
   obtain ⟨u1,u2,hu12,d1,d2⟩:=Ah.split hy
   have hl1:u1.length=min ys.length n*k:=by rw [d1.length,Bj (fun y hy=>hyk y (List.mem_of_mem_take hy)),List.length_take,Nat.min_comm]
   rw [hu12,←hl1,List.take_left]; exact d1
  have hcal:ca.length=off*k:=by rw [c1.length,Bj (fun y hy=>e2 y (List.mem_of_mem_take hy)),List.length_take]; congr 1; omega
  have hcbl:cb.length=min ys.length n*k:=by rw [c3.length,Bj (fun y hy=>e2 y (List.mem_of_mem_drop (List.mem_of_mem_take hy))),List.length_take,List.length_drop]; congr 1; omega
  have hul:(us.take (min ys.length n*k)).length=min ys.length n*k:=by rw [hyt.length,Bj (fun y hy=>hyk y (List.mem_of_mem_take hy)),List.length_take,Nat.min_comm]
  have hnewr:Ag ⟨β,H,F⟩ w (.arr N k (cs.take off++(ys.take n++cs.drop (off+min ys.length n)))) (ca++(us.take (min ys.length n*k)++cc)):=by
   rw [Ag]
   refine ⟨by rw [←e1]; simp only [List.length_append,List.length_take,List.length_drop]; omega,fun q hq => ?_,Ah.append c1 (Ah.append hyt c4)⟩
   rcases List.mem_append.1 hq with hq | hq
   ·exact e2 q (List.mem_of_mem_take hq)
   ·rcases List.mem_append.1 hq with hq | hq
    ·exact hyk q (List.mem_of_mem_take hq)
    ·exact e2 q (List.mem_of_mem_drop hq)
  obtain ⟨k1,k2,k3⟩:=hs.store hid hbo hz hnewr
  -- what is stored is the middle alone
  have hA:Cc w b (o+C9 p) ca:=fun j u hj=>hca j u (by rw [List.getElem?_append_left (List.getElem?_eq_some_iff.1 hj).1]; exact hj)
  have hC:Cc w b (o+C9 p+ca.length+(us.take (min ys.length n*k)).length) cc:=by
   intro j u hj
   have:=hca (ca.length+(cb.length+j)) u (by
    rw [List.getElem?_append_right (by omega),show ca.length+(cb.length+j) - ca.length=cb.length+j from by omega,List.getElem?_append_right (by omega),show cb.length+j - cb.length=j from by omega]; exact hj)
   rw [hul,←hcbl]
   rw [show o+C9 p+ca.length+cb.length+j=o+C9 p+(ca.length+(cb.length+j)) from by omega]; exact this
  have hw':w.setCells b (o+C9 p) (ca++(us.take (min ys.length n*k)++cc))=w.setCells b (o+C9 p+off*k) (us.take (min ys.length n*k)):=by
   rw [JQ,JQ,Nl hA,hcal]
   rw [hcal] at hC
   exact Nl (Ui hC (Nat.le_refl _))
  rw [hw'] at k1 k2
  have hsub:w.there b (o+C9 p+off*k) (us.take (min ys.length n*k)).length:=by
   intro j hj
   have:=k3 (ca.length+j) (by simp only [List.length_append]; omega)
   rw [show o+C9 p+(ca.length+j)=o+C9 p+off*k+j from by omega] at this
   exact this
  refine fin _ cap _ hv' (fun vs hvs => ?_) k1 k2
  have hvs':vs=us.take (min ys.length n*k):=hvs
  subst hvs'
  have:=run_storeCells_cells (P:=P) b (o+C9 p+off*k) (us.take (min ys.length n*k)) 0 w (fun j hj=>by simpa using (hsub j hj).1) (fun j hj=>by simpa using (hsub j hj).2) hyt.one
  simpa using this
theorem V4 (hs:Sim ⟨β,H,F⟩ w) {x:TV} {v:Value} (hx:Rep ⟨β,H,F⟩ w x v) {t tx ty et:TypeId} {k:Nat} (h0:Bi P t=some (k,et))
  {y:Value} {ys:List TV} {us:List Value} (hy:Ah (Ctx.bare ⟨β,H,F⟩) w ys us) (hyk:∀ y∈ys,Aw y=k) (hlen:(Builtin.lenOf y).run P w = .ok ys.length w)
  (hfc:∀ n,n≤ys.length→(Builtin.firstCells k n y).run P w = .ok (us.take (n*k)).toArray w) (h:Qi k x ys H K) :
  ∃ v' w' β' H' x',(Builtin.copy_ #[t,tx] ty #[v,y]).run P w = .ok v' w'∧Sim ⟨β',H',F⟩ w'∧Ar ⟨β,H,F⟩ w ⟨β',H',F⟩ w'∧Rep ⟨β',H',F⟩ w' x' v'∧K x' H':=by
 obtain ⟨g1,g2⟩:=AQ h0
 unfold Qi at h
 split at h
 ·rename_i k' id ver p off n cp
  obtain ⟨rfl,h⟩:=h
  split at h
  ·rename_i vr z hid
   obtain ⟨rfl,h⟩:=h
   split at h
   ·rename_i N k'' cs hg
    obtain ⟨rfl,hb,h⟩:=h
    split at h
    ·rename_i z' hz
     have hrun:∀ (bs:Option Addr) (cap:Nat) (w2:World),v = .slice bs n cap→(∀ vs:List Value,vs=us.take (Nat.min ys.length n*k'')→(match bs with | some ad=>(storeCells ad vs).run P w = .ok () w2 | none=>w2=w)) →
       (Builtin.copy_ #[t,tx] ty #[v,y]).run P w = .ok (.int .i64 (min ys.length n:Nat)) w2:=by
      intro bs cap w2 hv hst
      subst hv
      have h1:=hfc (Nat.min ys.length n) (Nat.min_le_left _ _)
      have h2:=hst _ rfl
      cases bs with
      | none =>
       subst h2
       simp [Builtin.copy_,run_underlying g1,Ce g2,hlen,h1,goInt]
      | some ad =>
       simp [Builtin.copy_,run_underlying g1,Ce g2,hlen,h1,h2,goInt]
     exact Ye (P:=P) hs hx hy hyk hid hg hb hz fun bs cap w2 hv hst k1 k2=>⟨_,w2,β,_,_,hrun bs cap w2 hv hst,k1,k2,Rep.of_val,h⟩
    ·exact h.elim
   ·exact h.elim
  ·exact h.elim
 ·exact h.elim
theorem Xz.first {w:World} {us:List Value} {n k:Nat} {v:Value} (h:Xz w us n k v) (m:Nat) (hm:m≤n):(Builtin.lenOf v).run P w = .ok n w∧(Builtin.firstCells k m v).run P w = .ok (us.take (m*k)).toArray w:=by
 cases h with
 | mem b off cap hc hl hn hcap =>
  have hle:m*k≤n*k:=Nat.mul_le_mul_right _ hm
  refine ⟨rfl,?_⟩
  have:=run_loadCells_list (P:=P) w ⟨b,off,Option.none⟩ (us.take (m*k)) (fun j u hj=>by
   rw [CV]
   refine hc j u ?_
   rw [List.getElem?_take] at hj
   split at hj
   ·exact hj
   ·cases hj)
  rw [List.length_take,Nat.min_eq_left (by omega)] at this
  simpa [Builtin.firstCells] using this
 | none a cap hn hu hcap =>
  have hm0:m=0:=by omega
  subst hm0; subst hn; subst hu
  refine ⟨rfl,?_⟩
  cases a with
  | none=>simp [Builtin.firstCells]
  | some ad=>simp [Builtin.firstCells,loadCells,loadCellsFrom]
theorem AkP (hs:Sim ⟨β,H,F⟩ w) (he:AC ⟨β,H,F⟩ w e a) {t tx et:TypeId} {k:Nat} (h0:Bi P t=some (k,et)) {x y:Operand} (h:sop P (.copy k (trO x) (trO y)) e H K) :
  Gy P β H F w a K (.call { callee := .builtin .copy,args:=[x,y].toArray,argTypes:=[t,tx].toArray }):=by
 simp only [sop] at h
 split at h
 ·rename_i ys hys
  obtain ⟨hyk,us,hus,hrd⟩:=Px hs (he.ev y) hys
  intro o KK Q ho hnd hk
  refine OW.of_wp (by rw [ho]; exact hnd) ?_
  obtain ⟨v',w',β',H',x',r1,r2,r3,r4,r5⟩:=V4 (P:=P) (tx:=tx) (ty:=o.type) hs (he.ev x) h0 hus hyk (hrd.first 0 (Nat.zero_le _)).1 (fun n hn=>(hrd.first n hn).2) h
  unfold Oper.wp
  simp only [execOp,ho,resolve,invoke,builtin,Sem.run_bind,Sem.run_pure,Result.andThen_ok,List.map_toArray,List.map_cons,List.map_nil,r1]
  exact hk _ _ _ _ _ _ r5 r2 r3 r4
 ·exact h.elim
theorem AiL (hs:Sim ⟨β,H,F⟩ w) (he:AC ⟨β,H,F⟩ w e a) {t tx et:TypeId} (h0:Bi P t=some (1,et)) {x y:Operand} (h:sop P (.copyS (trO x) (trO y)) e H K) :
  Gy P β H F w a K (.call { callee := .builtin .copy,args:=[x,y].toArray,argTypes:=[t,tx].toArray }):=by
 simp only [sop] at h
 split at h
 ·rename_i s hy
  have hlen:((bl s).map by8).length=s.size:=by simp [bl]
  have hl:(Builtin.lenOf (a.eval y)).run P w = .ok ((bl s).map by8).length w:=by rw [he.val hy,hlen]; rfl
  intro o KK Q ho hnd hk
  refine OW.of_wp (by rw [ho]; exact hnd) ?_
  obtain ⟨v',w',β',H',x',r1,r2,r3,r4,r5⟩:=V4 (P:=P) (tx:=tx) (ty:=o.type) hs (he.ev x) h0 (Hl (bl s)) (by simp [Aw]) hl (fun n hn=>by
   rw [he.val hy]
   simp only [Builtin.firstCells,Sem.run_pure]
   congr 1
   apply Array.ext'
   simp [bl,List.extract_eq_take_drop]) h
  unfold Oper.wp
  simp only [execOp,ho,resolve,invoke,builtin,Sem.run_bind,Sem.run_pure,Result.andThen_ok,List.map_toArray,List.map_cons,List.map_nil,r1]
  exact hk _ _ _ _ _ _ r5 r2 r3 r4
 ·exact h.elim
theorem Fa {f:FuncId} {args:Array Value} (hg:SK P f=true):(callFunc f args).run P w = .ok (.enter f args) w:=by
 unfold SK at hg
 split at hg
 ·rename_i fn hfn
  rw [Bool.and_eq_true] at hg
  have hb:fn.body.isNone=false:=by
   cases hb:fn.body with
   | none=>rw [hb] at hg; simp at hg
   | some c=>rfl
  have hn:(fn.name == "runtime.NumGoroutine")=false:=by simpa using hg.2
  unfold callFunc
  rw [Sem.run_bind,run_program]
  simp only [Result.andThen_ok,hfn,hn,hb,Bool.false_eq_true,if_false]
  rfl
 ·cases hg
theorem Np {f:FuncId} {args:List TV} {vs:List Value} (hs:Sim ⟨β,H,F⟩ w) (hv:AY ⟨β,H,F⟩ w args vs) (h:Au P f args H K) {o:Oper} {KK:Act→World→Prop} {Q:Exit→Act→World→Prop}
  (hk:∀ x H' β' F' w' v,K x H'→Sim ⟨β',H',F'⟩ w'→Ar ⟨β,H,F⟩ w ⟨β',H',F'⟩ w'→Rep ⟨β',H',F'⟩ w' x v→KK (a.put o.dst v) w'):o.upon P a KK Q (.ok (.enter f vs.toArray) w):=by
 rw [Oper.upon_enter]
 refine (h β F w vs hs hv).mono ?_
 rintro _ w' ⟨v,x,β',H',F',rfl,h1,h2,h3,h4⟩
 exact hk _ _ _ _ _ _ h1 h2 h3 h4
theorem Ac8 (hs:Sim ⟨β,H,F⟩ w) (he:AC ⟨β,H,F⟩ w e a) {f:FuncId} (hg:SK P f=true) {args:List Operand} {ts:Array TypeId} (h:sop P (.call f (args.map trO)) e H K):Gy P β H F w a K (.call { callee := .value (.func f),args:=args.toArray,argTypes:=ts }):=by
 simp only [sop] at h
 obtain ⟨ht,h⟩:=h
 have hv:=NH he args fun x hx=>ht _ (List.mem_map_of_mem hx)
 intro o KK Q ho hnd hk
 refine OW.of_wp (by rw [ho]; exact hnd) ?_
 have:=Np (a:=a) (o:=o) (KK:=KK) (Q:=Q) hs hv h hk
 unfold Oper.wp
 simp only [execOp,ho,resolve,Act.eval,Deferred.ofValue,Sem.run_bind,Sem.run_pure,Result.andThen_ok,invoke,Fa hg]
 simpa using this
theorem VV {H:List Ob} {t:TV} {j v:Nat} {l:List UInt8} (h:AaH H t=some (j,v,l)):∃ id ver p x a cp,t = .op id ver p∧H[id]?=some (.obj ver x)∧J5 p x=some (.agg [a,.os 1 j v [] 0 l.length cp])∧Aw a=1∧H[j]?=some (.bld v Xr l):=by
 unfold AaH at h
 split at h
 ·rename_i id ver p
  split at h
  ·rename_i v0 y hid
   split at h
   ·rename_i hv
    split at h
    ·rename_i a j0 v2 n cp hg
     split at h
     ·rename_i v3 t l0 hj
      split at h
      ·rename_i hc
       obtain ⟨rfl,rfl,rfl,hw⟩:=hc
       cases h
       subst hv
       exact ⟨id,_,p,y,a,cp,rfl,hid,hg,hw,hj⟩
      ·cases h
     ·cases h
    ·cases h
   ·cases h
  ·cases h
 ·cases h
theorem AlX (hs:Sim ⟨β,H,F⟩ w) (he:AC ⟨β,H,F⟩ w e a) {f:FuncId} (hg:SK P f=true) {x:Operand} {ts:Array TypeId} (h:sop P (.bstr f (trO x)) e H K):Gy P β H F w a K (.call { callee := .value (.func f),args:=[x].toArray,argTypes:=ts }):=by
 refine Ac8 (args:=[x]) hs he hg ?_
 simp only [sop] at h
 obtain ⟨hB,h⟩:=h
 split at h
 ·rename_i j v l hr
  obtain ⟨id,ver,p,y,a0,cp,h1,h2,h3,h4,h5⟩:=VV hr
  show (∀ z∈[trO x],CE (z.ev e)=false)∧Au P f [(trO x).ev e] H K
  rw [h1]
  refine ⟨fun z hz => ?_,hB id ver j v cp p y a0 l H K h2 h3 h4 h5 h.1 h.2⟩
  rw [List.mem_singleton] at hz; subst hz; rw [h1]; rfl
 ·exact h.elim
theorem AY.append {c:Ctx} {w:World}:∀ {xs ys:List TV} {us vs:List Value},AY c w xs us→AY c w ys vs→AY c w (xs++ys) (us++vs)
 | [],ys,us,vs,h,k=>by rw [AY.nil] at h; subst h; exact k
 | x::xs,ys,us,vs,h,k=>by
  obtain ⟨u,us',rfl,h1,h2⟩:=AY.cons.1 h
  exact AY.cons.2 ⟨u,us'++vs,rfl,h1,AY.append h2 k⟩
theorem Ai2 (hs:Sim ⟨β,H,F⟩ w) (he:AC ⟨β,H,F⟩ w e a) {t:Nat} {args:List Operand} {ts:Array TypeId} (h:sop P (.callv (.t t) (args.map trO)) e H K):Gy P β H F w a K (.call { callee := .value (.tmp t),args:=args.toArray,argTypes:=ts }):=by
 simp only [sop] at h
 obtain ⟨ht,h⟩:=h
 have hv:=NH he args fun x hx=>ht _ (List.mem_map_of_mem hx)
 split at h
 ·rename_i f first caps hx
  obtain ⟨hg,h⟩:=h
  have hr:Rep ⟨β,H,F⟩ w (.fn (.func f) first caps) (a.eval (.tmp t)):=he.rep (x := .tmp t) hx
  have h1:=hr.inv1 (by simp) (by simp) (by simp) (by simp) (by simp)
  rw [Ag] at h1
  obtain ⟨us,vs,hv1,hf,hc⟩:=h1
  have hv':a.eval (.tmp t) = .func (.func f) us.toArray vs.toArray:=by simpa using hv1
  intro o KK Q ho hnd hk
  refine OW.of_wp (by rw [ho]; exact hnd) ?_
  have:=Np (a:=a) (o:=o) (KK:=KK) (Q:=Q) hs (AY.append (AY.append hf hv) hc) h hk
  unfold Oper.wp
  simp only [execOp,ho,resolve,hv',Deferred.ofValue,Sem.run_bind,Sem.run_pure,Result.andThen_ok,invoke,Fa hg]
  simpa using this
 ·rename_i f xs ys hx
  obtain ⟨hxy,hg,h⟩:=h
  rw [Bool.and_eq_true,Array.isEmpty_iff,Array.isEmpty_iff] at hxy
  obtain ⟨rfl,rfl⟩:=hxy
  have hv':a.eval (.tmp t) = .func (.func f) #[] #[]:=he.val (x := .tmp t) hx
  intro o KK Q ho hnd hk
  refine OW.of_wp (by rw [ho]; exact hnd) ?_
  have:=Np (a:=a) (o:=o) (KK:=KK) (Q:=Q) hs hv h hk
  unfold Oper.wp
  simp only [execOp,ho,resolve,hv',Deferred.ofValue,Sem.run_bind,Sem.run_pure,Result.andThen_ok,invoke,Fa hg]
  simpa using this
 ·rename_i id ver hx
  have hr:Rep ⟨β,H,F⟩ w (.yl id ver) (a.eval (.tmp t)):=he.rep (x := .tmp t) hx
  have h1:=hr.inv1 (by simp) (by simp) (by simp) (by simp) (by simp)
  rw [Ag] at h1
  obtain ⟨_,b,off,hb,hv1⟩:=h1
  have hv':a.eval (.tmp t) = .func (.yield b) #[] #[]:=by simpa using hv1
  intro o KK Q ho hnd hk ro n
  obtain ⟨fn,tmps,aS,bd,hy,hR⟩:=h β F w _ b off hs hv hb (n - 1)
  refine ⟨fun _ _=>trivial,?_⟩
  rw [show (fz ro).round=ro from rfl,Oper.semAt_eq ro a.eval o (by rw [ho]; exact hnd)]
  have hrun:(execOp a.eval o).run P w = .ok (.round b fn tmps aS bd) w:=by
   simp only [execOp,ho,resolve,hv',Deferred.ofValue,Sem.run_bind,Sem.run_pure,Result.andThen_ok,invoke]
   simpa [go_sem] using hy
  rw [hrun,Oper.uponIn_round]
  refine ⟨fun h=>by simp [fz,Fence.wide] at h,RoundIn.mono (hR:RoundIn (fz ro) (n - 1) P b fn tmps aS bd w _) ?_⟩
  rintro _ w' ⟨v,x,β',H',F',rfl,k1,k2,k3,k4⟩
  exact hk _ _ _ _ _ _ k1 k2 k3 k4
 ·exact h.elim
theorem AnD (hs:Sim ⟨β,H,F⟩ w) (he:AC ⟨β,H,F⟩ w e a) {r:Operand} {nm:String} {args:List Operand} {ts:Array TypeId} (h:sop P (.inv (trO r) nm (args.map trO)) e H K):Gy P β H F w a K (.call { callee := .invoke r nm,args:=args.toArray,argTypes:=ts }):=by
 simp only [sop] at h
 obtain ⟨ht,h⟩:=h
 have hv:=NH he args fun x hx=>ht _ (List.mem_map_of_mem hx)
 have key:∀ {t:TypeId} {v0 v1:Value} {f:FuncId} {y:TV},a.eval r = .iface t v0→SK P f=true→(∃ g,Aes P t nm=some g)→(∀ k,(method (k+1) t v0 nm).run P w = .ok (f,v1) w)→AaL ⟨β,H,F⟩ w y v1→Au P f (y::(args.map trO).map (·.ev e)) H K →
   Gy P β H F w a K (.call { callee := .invoke r nm,args:=args.toArray,argTypes:=ts }):=by
  intro t v0 v1 f y hr hg hm hrun hy hc o KK Q ho hnd hk
  refine OW.of_wp (by rw [ho]; exact hnd) ?_
  have:=Np (a:=a) (o:=o) (KK:=KK) (Q:=Q) hs (AY.cons.2 ⟨_,_,rfl,hy,hv⟩) hc hk
  have hn:P.types.size+Made.depth=(P.types.size+99)+1:=rfl
  unfold Oper.wp
  simp only [execOp,ho,resolve,Sem.run_bind,Sem.run_pure,Result.andThen_ok,invoke,hr,callMethod,run_program]
  simp only [Array.size_append,Array.getElem?_append,List.map_toArray]
  simp [callMethod,hn,hrun,Fa hg,←List.map_take]
  simpa using this
 unfold AmK at h
 split at h
 ·rename_i t x hx
  have hr:Rep ⟨β,H,F⟩ w (.ifc t x) (a.eval r):=he.rep hx
  have h2:=hr.inv1 (by simp) (by simp) (by simp) (by simp) (by simp)
  rw [Ag] at h2
  obtain ⟨u,hv1,vs,hrc,rfl⟩:=h2
  have hv':a.eval r = .iface t (mkV x vs):=by simpa using hv1
  split at h
  ·rename_i f hm
   exact key hv' h.1 ⟨_,hm⟩ (fun k=>AaW hm w _ k) (.inr (.inr ⟨vs,hrc,rfl⟩)) h.2
  ·rename_i f ag sz hm
   obtain ⟨hg,h⟩:=h
   unfold ldT at h
   split at h
   ·rename_i y
    obtain ⟨hl,h⟩:=h
    rw [Ag] at hrc
    obtain ⟨b,off,us,rfl,hF,hr2,hc⟩:=hrc
    have hv2:a.eval r = .iface t (.pointer (some ⟨b,off,none⟩)):=hv'
    exact key hv2 hg ⟨_,hm⟩ (fun k=>U7 hm hr2 hc hl k) (.inr (.inr ⟨us,Ag.unbare hr2,rfl⟩)) h
   ·rename_i id ver p
    split at h
    ·rename_i v z hid
     obtain ⟨rfl,h⟩:=h
     split at h
     ·rename_i y hg2
      obtain ⟨hl,h⟩:=h
      rw [Ag] at hrc
      obtain ⟨_,b,o,hb,rfl⟩:=hrc
      have hv2:a.eval r = .iface t (.pointer (some ⟨b,o+C9 p,none⟩)):=hv'
      obtain ⟨us,hr2,hc⟩:=YQ hs hid hb hg2
      exact key hv2 hg ⟨_,hm⟩ (fun k=>U7 hm hr2 hc hl k) (.inr (.inr ⟨us,hr2,rfl⟩)) h
     ·exact h.elim
    ·exact h.elim
   ·exact h.elim
  ·exact h.elim
 ·exact h.elim
theorem Aen (hs:Sim ⟨β,H,F⟩ w) (he:AC ⟨β,H,F⟩ w e a) {t et:TypeId} {k n:Nat} {i:TypeInfo} {z:Value} {x:TV} (h0:Bi P t=some (k,et)) (h1:P.info? et=some i) (h2:i.zero=some z) (h3:z.cells.size=k∧k≠0∧n*k≤16777216) (h4:zT P 400 et z.cells.toList=some x)
  {ps:Array (Nat×Operand)} (h:sop P (.bslice k n x (ps.toList.map fun q=>(q.1,trO q.2))) e H K):Gy P β H F w a K (.buildSlice t n ps):=by
 obtain ⟨g1,g2⟩:=AQ h0
 obtain ⟨hz,hzp⟩:=II (c:=⟨β,H,F⟩) (w:=w) h4
 simp only [sop] at h
 obtain ⟨⟨hok,hpure,hn⟩,h⟩:=h
 have hm:=KJ hz (by rw [h3.1]; exact h3.2.1) n
 have hx:Aw x=k:=by rw [←hz.length]; simpa using h3.1
 have hplace:∀ i k',(List.replicate n k)[i]?=some k'→(fun i=>some (i*k,k)) i=some (((List.replicate n k).take i).sum,k'):=by
  intro i k' h
  rw [List.getElem?_replicate] at h
  split at h
  ·rename_i hi; cases h
   simp only [List.take_replicate,List.sum_replicate_nat]
   rw [Nat.min_eq_left (by omega)]
  ·cases h
 let av:Opd→Value:=fun x=>match x with | .t n=>a.tmps.getD n undef | .c v=>v | .g n => .pointer (some ⟨n,0,none⟩)
 have hav:∀ x:Opd,Rep ⟨β,H,F⟩ w (x.ev e) (av x):=by
  intro x; cases x with
  | t n=>exact he.1 n
  | c v=>exact Rep.of_val
  | g n=>exact he.ev (.global n)
 have hav2:∀ x:Operand,av (trO x)=a.eval x:=by intro x; cases x<;>rfl
 obtain ⟨us',k1,k2,k3⟩:=Pq hav hplace (ps.toList.map fun q=>(q.1,trO q.2)) (List.replicate n x) (madeCells z.cells (n*z.cells.size)).toList (by simp [hx]) hm hok
 have hfl:∀ (qs:List (Nat×Opd)) (l:List TV),BZ l=true→Bg e qs→BZ (EE e l qs)=true:=by
  intro qs
  induction qs with
  | nil=>intro l hl _; exact hl
  | cons q qs ih =>
   obtain ⟨i,x⟩:=q
   intro l hl hp
   rw [Bg] at hp
   refine ih _ ?_ hp.2
   have hs:∀ (l:List TV) (i:Nat),BZ l=true→BZ (l.set i (x.ev e))=true:=by
    intro l
    induction l with
    | nil=>intro i h; simpa using h
    | cons y l ihl =>
     intro i h
     rw [BZ,Bool.and_eq_true] at h
     cases i with
     | zero=>rw [List.set_cons_zero,BZ,hp.1,h.2]; rfl
     | succ i=>rw [List.set_cons_succ,BZ,h.1,ihl i h.2]; rfl
   exact hs l i hl
 have hrp:∀ n,BZ (List.replicate n x)=true:=by
  intro n; induction n with
  | zero=>rfl
  | succ n ih=>rw [List.replicate_succ,BZ,hzp,ih]; rfl
 have hparts:((ps.toList.map fun q=>(q.1,trO q.2)).map fun q=>(q.1,av q.2))=ps.toList.map fun q=>(q.1,a.eval q.2):=by simp [hav2]
 rw [hparts,Array.toArray_toList] at k1
 have hlen:(EE e (List.replicate n x) (ps.toList.map fun q=>(q.1,trO q.2))).length=n:=by
  have:=congrArg List.length k3
  simpa using this
 have hrow:Ag ⟨β,H,F⟩ w (.arr n k (EE e (List.replicate n x) (ps.toList.map fun q=>(q.1,trO q.2)))) us':=by
  rw [Ag]
  refine ⟨hlen,fun y hy => ?_,Ah.pure (hfl _ _ (hrp n) hpure) k2⟩
  have:Aw y∈(EE e (List.replicate n x) (ps.toList.map fun q=>(q.1,trO q.2))).map Aw:=List.mem_map_of_mem hy
  rw [k3] at this
  exact List.eq_of_mem_replicate this
 obtain ⟨q1,q2⟩:=hs.newObj (post:=[]) hrow et (0,0) (XL _)
 refine Gy.mk (s:=fun _=>Instr.buildSlice t n (ps.map fun (i,x)=>(i,a.eval x))) (v := .slice (some ⟨w.heap.size,0,none⟩) n n) (fun o ho=>by simp only [execOp,ho]) (fun o => ?_) q1 q2 (Ny (w:=w) (N:=0) rfl (by omega) (Nat.le_refl _) (Nat.le_refl _) (by rw [List.append_nil,hrow.length,Aw]; exact Nat.le_refl _) (w0:=w) rfl) h
 have hns:¬ (16777216<n*k):=by omega
 have hmk:(Array.range (n*k)).map (fun x=>z.cells[x % z.cells.size]!)=madeCells z.cells (n*k):=rfl
 have hzv:(zeroValue et).run P w = .ok z w:=by simp [zeroValue,typeInfo,h1,h2]
 rw [h3.1] at k1
 have hpl2:(ps.map fun (i,x)=>(i,a.eval x)).toList=ps.toList.map fun q=>(q.1,a.eval q.2):=by rw [Array.toList_map]
 have k1':Instr.fill (fun i=>some (i*k,k)) (madeCells z.cells (n*k)) (ps.map fun (i,x)=>(i,a.eval x)).toList=some us'.toArray:=by rw [hpl2]; exact k1
 simp only [Instr.buildSlice,Sem.run_bind,run_underlying g1,Result.andThen_ok,Ce g2]
 rw [Sem.run_ite,if_neg (by simpa using hns)]
 by_cases hn0:n*k=0
 ·have hmk0:madeCells z.cells (n*k) = #[]:=by rw [hn0]; simp [madeCells]
  rw [hmk0] at k1'
  simp only [hn0,if_true,Sem.run_bind,Sem.run_pure,Result.andThen_ok]
  have he0:(Array.range 0).map (fun x=>(#[]:Array Value)[x % (#[]:Array Value).size]!) = #[]:=by simp
  rw [he0,k1']
  simp [newRow,newObj,Sem.run]
 ·simp only [hn0,if_false,Sem.run_bind,hzv,Sem.run_pure,Result.andThen_ok]
  rw [hmk,k1']
  simp [newRow,newObj,Sem.run]
theorem Sim.newFix (hs:Sim ⟨β,H,F⟩ w) {cs:List TV} {k:Nat} {us:List Value} (hw:∀ x∈cs,Aw x=k) (hr:Ah (Ctx.bare ⟨β,H,F⟩) w cs us) (t:TypeId) (hn:cs.length≤9223372036854775807) :
  Sim ⟨β,H,fun b=>F b∨b=w.heap.size⟩ (w.alloc (.cells us.toArray t (0,0)))∧Ar ⟨β,H,F⟩ w ⟨β,H,fun b=>F b∨b=w.heap.size⟩ (w.alloc (.cells us.toArray t (0,0))) ∧
  Rep ⟨β,H,fun b=>F b∨b=w.heap.size⟩ (w.alloc (.cells us.toArray t (0,0))) (.sl k cs) (.slice (some ⟨w.heap.size,0,none⟩) cs.length cs.length):=by
 have hold:∀ b,b<w.heap.size→(w.alloc (.cells us.toArray t (0,0))).heap[b]?=w.heap[b]?:=fun b hb=>CU w _ hb
 have hm:Hm ⟨β,H,F⟩ w ⟨β,H,fun b=>F b∨b=w.heap.size⟩ (w.alloc (.cells us.toArray t (0,0))):=⟨fun b hb=>⟨.inl hb,hold b (hs.lt b hb)⟩,fun _ _ h=>⟨h,rfl⟩,fun b hb=>Bh (hold b hb)⟩
 have hsz:(w.alloc (.cells us.toArray t (0,0))).heap.size=w.heap.size+1:=by simp
 refine ⟨⟨fun id ob ho=>Xk.mono hm (Ctx.has_of ho) (fun hl b off hb=>hold b (hs.own_lt (Ctx.own_of ho hl hb))) (hs.ob id ob ho),hs.inj,fun b hb hF=>hF.elim (hs.apart b hb) fun e=>by have:=hs.own_lt hb; omega,fun b hb => ?_,hs.glob.keep hm.stay⟩,⟨rfl,rfl,rfl,by rw [hsz]; omega,hm.has,hm.shape,fun b hb _=>hold b hb,fun _ h => .inl h,fun b hlt h=>h.elim .inl fun e=>by omega,fun _ _ h=>h⟩,?_⟩
 ·have h1:F b∨b=w.heap.size:=hb
  rw [hsz]
  rcases h1 with h1 | h1
  ·have:=hs.lt b h1
   have h2:b<w.heap.size:=this
   omega
  ·omega
 ·have hnew:=AU w (.cells us.toArray t (0,0))
  refine Rep.of1 ?_ (by simp) (by simp)
  rw [Ag]
  refine ⟨hw,.inr ⟨w.heap.size,0,cs.length,us,rfl,Nat.le_refl _,hn,.inr rfl,Ah.mono (Hm.bare hm) hr,?_⟩⟩
  have:=Ir (w:=w.alloc (.cells us.toArray t (0,0))) (b:=w.heap.size) (pre:=[]) (a:=[]) (m:=us) (q:=[]) (post:=[]) (t:=t) (fr:=(0,0)) (by simpa using hnew)
  simpa using this
theorem Aoz (hs:Sim ⟨β,H,F⟩ w) (he:AC ⟨β,H,F⟩ w e a) {t et:TypeId} {k n:Nat} {i:TypeInfo} {z:Value} {x:TV} (h0:Bi P t=some (k,et)) (h1:P.info? et=some i) (h2:i.zero=some z) (h3:z.cells.size=k∧k≠0∧n*k≤16777216) (h4:zT P 400 et z.cells.toList=some x)
  {ps:Array (Nat×Operand)} (h:pop (.bsl k n x (ps.toList.map fun q=>(q.1,trO q.2))) e H fun y=>K y H):Gy P β H F w a K (.buildSlice t n ps):=by
 obtain ⟨g1,g2⟩:=AQ h0
 obtain ⟨hz,hzp⟩:=II (c:=⟨β,H,F⟩) (w:=w) h4
 simp only [pop] at h
 obtain ⟨⟨hok,hpure,hn⟩,h⟩:=h
 have hm:=KJ hz (by rw [h3.1]; exact h3.2.1) n
 have hx:Aw x=k:=by rw [←hz.length]; simpa using h3.1
 have hplace:∀ i k',(List.replicate n k)[i]?=some k'→(fun i=>some (i*k,k)) i=some (((List.replicate n k).take i).sum,k'):=by
  intro i k' h
  rw [List.getElem?_replicate] at h
  split at h
  ·rename_i hi; cases h
   simp only [List.take_replicate,List.sum_replicate_nat]
   rw [Nat.min_eq_left (by omega)]
  ·cases h
 let av:Opd→Value:=fun x=>match x with | .t n=>a.tmps.getD n undef | .c v=>v | .g n => .pointer (some ⟨n,0,none⟩)
 have hav:∀ x:Opd,Rep ⟨β,H,F⟩ w (x.ev e) (av x):=by
  intro x; cases x with
  | t n=>exact he.1 n
  | c v=>exact Rep.of_val
  | g n=>exact he.ev (.global n)
 have hav2:∀ x:Operand,av (trO x)=a.eval x:=by intro x; cases x<;>rfl
 obtain ⟨us',k1,k2,k3⟩:=Pq hav hplace (ps.toList.map fun q=>(q.1,trO q.2)) (List.replicate n x) (madeCells z.cells (n*z.cells.size)).toList (by simp [hx]) hm hok
 have hfl:∀ (qs:List (Nat×Opd)) (l:List TV),BZ l=true→Bg e qs→BZ (EE e l qs)=true:=by
  intro qs
  induction qs with
  | nil=>intro l hl _; exact hl
  | cons q qs ih =>
   obtain ⟨i,x⟩:=q
   intro l hl hp
   rw [Bg] at hp
   refine ih _ ?_ hp.2
   have hs:∀ (l:List TV) (i:Nat),BZ l=true→BZ (l.set i (x.ev e))=true:=by
    intro l
    induction l with
    | nil=>intro i h; simpa using h
    | cons y l ihl =>
     intro i h
     rw [BZ,Bool.and_eq_true] at h
     cases i with
     | zero=>rw [List.set_cons_zero,BZ,hp.1,h.2]; rfl
     | succ i=>rw [List.set_cons_succ,BZ,h.1,ihl i h.2]; rfl
   exact hs l i hl
 have hrp:∀ n,BZ (List.replicate n x)=true:=by
  intro n; induction n with
  | zero=>rfl
  | succ n ih=>rw [List.replicate_succ,BZ,hzp,ih]; rfl
 have hparts:((ps.toList.map fun q=>(q.1,trO q.2)).map fun q=>(q.1,av q.2))=ps.toList.map fun q=>(q.1,a.eval q.2):=by simp [hav2]
 rw [hparts,Array.toArray_toList] at k1
 have hlen:(EE e (List.replicate n x) (ps.toList.map fun q=>(q.1,trO q.2))).length=n:=by
  have:=congrArg List.length k3
  simpa using this
 have hrow:Ag ⟨β,H,F⟩ w (.arr n k (EE e (List.replicate n x) (ps.toList.map fun q=>(q.1,trO q.2)))) us':=by
  rw [Ag]
  refine ⟨hlen,fun y hy => ?_,Ah.pure (hfl _ _ (hrp n) hpure) k2⟩
  have:Aw y∈(EE e (List.replicate n x) (ps.toList.map fun q=>(q.1,trO q.2))).map Aw:=List.mem_map_of_mem hy
  rw [k3] at this
  exact List.eq_of_mem_replicate this
 obtain ⟨q1,q2,q3⟩:=hs.newFix (cs:=EE e (List.replicate n x) (ps.toList.map fun q=>(q.1,trO q.2))) (k:=k) (us:=us') (by rw [Ag] at hrow; exact hrow.2.1) (by rw [Ag] at hrow; exact hrow.2.2) et (by rw [hlen]; omega)
 rw [hlen] at q3
 refine Gy.mk (s:=fun _=>Instr.buildSlice t n (ps.map fun (i,x)=>(i,a.eval x))) (v := .slice (some ⟨w.heap.size,0,none⟩) n n) (fun o ho=>by simp only [execOp,ho]) (fun o => ?_) q1 q2 q3 h
 have hns:¬ (16777216<n*k):=by omega
 have hmk:(Array.range (n*k)).map (fun x=>z.cells[x % z.cells.size]!)=madeCells z.cells (n*k):=rfl
 have hzv:(zeroValue et).run P w = .ok z w:=by simp [zeroValue,typeInfo,h1,h2]
 rw [h3.1] at k1
 have hpl2:(ps.map fun (i,x)=>(i,a.eval x)).toList=ps.toList.map fun q=>(q.1,a.eval q.2):=by rw [Array.toList_map]
 have k1':Instr.fill (fun i=>some (i*k,k)) (madeCells z.cells (n*k)) (ps.map fun (i,x)=>(i,a.eval x)).toList=some us'.toArray:=by rw [hpl2]; exact k1
 simp only [Instr.buildSlice,Sem.run_bind,run_underlying g1,Result.andThen_ok,Ce g2]
 rw [Sem.run_ite,if_neg (by simpa using hns)]
 by_cases hn0:n*k=0
 ·have hmk0:madeCells z.cells (n*k) = #[]:=by rw [hn0]; simp [madeCells]
  rw [hmk0] at k1'
  simp only [hn0,if_true,Sem.run_bind,Sem.run_pure,Result.andThen_ok]
  have he0:(Array.range 0).map (fun x=>(#[]:Array Value)[x % (#[]:Array Value).size]!) = #[]:=by simp
  rw [he0,k1']
  simp [newRow,newObj,Sem.run]
 ·simp only [hn0,if_false,Sem.run_bind,hzv,Sem.run_pure,Result.andThen_ok]
  rw [hmk,k1']
  simp [newRow,newObj,Sem.run]
theorem Ak3 (hs:Sim ⟨β,H,F⟩ w) (he:AC ⟨β,H,F⟩ w e a) {t et:TypeId} {k:Nat} {i:TypeInfo} {z:Value} {zx:TV} (h0:Bi P t=some (k,et)) (h1:P.info? et=some i) (h2:i.zero=some z) (h3:z.cells.size=k∧k≠0) (h4:zT P 400 et z.cells.toList=some zx)
  {x:Operand} (h:sop P (.clrS k zx (trO x)) e H K):Gy P β H F w a K (.call { callee := .builtin .clear,args:=[x].toArray,argTypes:=[t].toArray }):=by
 obtain ⟨g1,g2⟩:=AQ h0
 obtain ⟨hz,hzp⟩:=II (c:=Ctx.bare ⟨β,H,F⟩) (w:=w) h4
 simp only [sop] at h
 split at h
 ·rename_i k' id ver p off n cp hx
  unfold Qi at h
  obtain ⟨rfl,h⟩:=h
  split at h
  ·rename_i vr zz hid
   obtain ⟨rfl,h⟩:=h
   split at h
   ·rename_i N k'' cs hg
    obtain ⟨rfl,hb,h⟩:=h
    split at h
    ·rename_i z' hz'
     have hm:=KJ hz (by rw [h3.1]; exact h3.2) n
     have hzw:Aw zx=k'':=by rw [←hz.length]; simpa using h3.1
     have hzz:Builtin.zeroCells z.cells n=madeCells z.cells (n*z.cells.size):=rfl
     intro op KK Q hop hnd hk
     refine OW.of_wp (by rw [hop]; exact hnd) ?_
     unfold Oper.wp
     refine Ye (P:=P) hs (he.rep hx) hm (fun y hy=>by rw [List.eq_of_mem_replicate hy]; exact hzw) hid hg hb hz' fun bs cap w2 hv hst k1 k2 => ?_
     have hst':=hst _ rfl
     have hful:(madeCells z.cells (n*z.cells.size)).toList.take (Nat.min (List.replicate n zx).length n*k'')=(madeCells z.cells (n*z.cells.size)).toList:=by
      apply List.take_of_length_le
      rw [Array.length_toList,size_madeCells,List.length_replicate,h3.1]
      simp
     rw [hful] at hst'
     have hr:(Builtin.clear_ #[t] op.type #[a.eval x]).run P w = .ok (.tuple #[]) w2:=by
      rw [hv]
      cases bs with
      | none =>
       subst hst'
       simp [Builtin.clear_,run_underlying g1]
      | some ad =>
       by_cases hn:n=0
       ·subst hn
        have:w2=w:=by
         have e:(madeCells z.cells (0*z.cells.size)).toList=[]:=by apply List.eq_nil_of_length_eq_zero; simp [size_madeCells]
         rw [e] at hst'
         simpa [storeCells] using hst'.symm
        subst this
        simp [Builtin.clear_,run_underlying g1]
       ·have hst2:(storeCells ad (Builtin.zeroCells z.cells n).toList).run P w = .ok () w2:=hst'
        obtain ⟨n',rfl⟩:∃ n',n=n'+1:=⟨n - 1,by omega⟩
        simp [Builtin.clear_,run_underlying g1,zeroValue,typeInfo,h1,h2,hst2]
     simp only [execOp,hop,resolve,invoke,builtin,Sem.run_bind,Sem.run_pure,Result.andThen_ok,List.map_toArray,List.map_cons,List.map_nil,hr]
     exact hk _ _ _ _ _ _ h k1 k2 Rep.any
    ·exact h.elim
   ·exact h.elim
  ·exact h.elim
 ·rename_i hx
  have hv:=he.val hx
  intro op KK Q hop hnd hk
  refine OW.of_wp (by rw [hop]; exact hnd) ?_
  unfold Oper.wp
  have hr:(Builtin.clear_ #[t] op.type #[a.eval x]).run P w = .ok (.tuple #[]) w:=by
   rw [hv]; simp [Builtin.clear_,run_underlying g1]
  simp only [execOp,hop,resolve,invoke,builtin,Sem.run_bind,Sem.run_pure,Result.andThen_ok,List.map_toArray,List.map_cons,List.map_nil,hr]
  exact hk _ _ _ _ _ _ h hs (Ar.refl _ _) Rep.any
 ·exact h.elim
theorem AdJ (hs:Sim ⟨β,H,F⟩ w) (he:AC ⟨β,H,F⟩ w e a) {op:Op} {so:SOp} (ht:trS P op=some so) (h:sop P so e H K):Gy P β H F w a K op:=by
 cases op with
 | binOp op t x y yt =>
  simp only [trS] at ht
  split at ht
  ·rename_i et hu; split at ht
   ·rename_i ho; cases ht; rw [Bool.and_eq_true] at ho; exact Aoo hs he ho.1 hu ho.2 h
   ·cases ht
  ·cases ht
 | alloc t =>
  simp only [trS] at ht
  split at ht
  ·rename_i i h1; split at ht
   ·rename_i z h2
    obtain ⟨x,h3,e9⟩:=Option.map_eq_some_iff.1 ht
    split at e9
    ·subst e9; exact Afm hs h1 h2 h3 h
    ·subst e9; exact Aiz hs h1 h2 h3 h
   ·cases ht
  ·cases ht
 | box t x =>
  simp only [trS,Option.some.injEq] at ht
  split at ht
  ·subst ht; exact AlB hs he h
  ·subst ht; exact An3 hs he h
 | buildSlice t n ps =>
  simp only [trS] at ht
  split at ht
  ·rename_i k et h0; split at ht
   ·rename_i i h1; split at ht
    ·rename_i z h2; split at ht
     ·rename_i h3; obtain ⟨x,h4,rfl⟩:=Option.map_eq_some_iff.1 ht; exact Aen hs he h0 h1 h2 h3 h4 h
     ·cases ht
    ·cases ht
   ·cases ht
  ·cases ht
 | store t x y =>
  simp only [trS] at ht
  obtain ⟨sz,h2,rfl⟩:=Option.map_eq_some_iff.1 ht
  exact Ajw hs he h2 h
 | makeSlice t l c =>
  simp only [trS] at ht
  split at ht
  ·rename_i k et h0; split at ht
   ·rename_i i h1; split at ht
    ·rename_i z h2; split at ht
     ·rename_i h3; obtain ⟨x,h4,rfl⟩:=Option.map_eq_some_iff.1 ht; exact Aog hs he h0 h1 h2 h3 h4 h
     ·cases ht
    ·cases ht
   ·cases ht
  ·cases ht
 | panic x=>simp only [trS,Option.some.injEq] at ht; subst ht; simp [sop] at h
 | range t x =>
  simp only [trS] at ht
  split at ht
  ·rename_i h1; cases ht; exact Akj hs he h1 h
  ·split at ht
   ·rename_i h1; cases ht; exact Aj2 hs he h1 h
   ·cases ht
 | next x b =>
  cases b with
  | true=>simp only [trS,Option.some.injEq] at ht; subst ht; exact Aln hs he h
  | false=>simp only [trS,Option.some.injEq] at ht; subst ht; exact AkS hs he h
 | makeMap t r =>
  simp only [trS] at ht
  split at ht
  ·rename_i kt et h1; obtain ⟨kk,h2,rfl⟩:=Option.map_eq_some_iff.1 ht; exact Am9 hs he h1 h
  ·cases ht
 | mapUpdate t m k x =>
  simp only [trS] at ht
  split at ht
  ·rename_i kt et h1; obtain ⟨kk,h2,rfl⟩:=Option.map_eq_some_iff.1 ht; exact Ag7 hs he h1 h2 h (.inl rfl)
  ·cases ht
 | insert t m k x =>
  simp only [trS] at ht
  split at ht
  ·rename_i kt et h1; obtain ⟨kk,h2,rfl⟩:=Option.map_eq_some_iff.1 ht; exact Ag7 hs he h1 h2 h (.inr rfl)
  ·cases ht
 | mapEntry t m k =>
  simp only [trS] at ht
  split at ht
  ·rename_i h1; cases ht; exact Ak2 hs he h1 h
  ·cases ht
 | entryStore t m st x=>simp only [trS,Option.some.injEq] at ht; subst ht; exact AlT hs he h
 | convert src dst x =>
  simp only [trS] at ht
  split at ht
  ·rename_i h1; cases ht; exact Aoh hs he h1 h
  ·split at ht
   ·rename_i h1; rw [Bool.and_eq_true,decide_eq_true_eq] at h1; obtain ⟨rfl,h1⟩:=h1; cases ht; exact AmS hs he h1 h
   ·cases ht
 | call cl =>
  obtain ⟨callee,args,ts⟩:=cl
  obtain ⟨args⟩:=args
  obtain ⟨ts⟩:=ts
  cases callee with
  | invoke f m=>simp only [trS,Option.some.injEq] at ht; subst ht; exact AnD hs he h
  | value f =>
   cases f with
   | func f =>
    simp only [trS] at ht
    split at ht
    ·rename_i hg
     split at ht
     ·split at ht
      ·cases ht; exact AlX hs he hg h
      ·cases ht; exact Ac8 (args:=[_]) hs he hg h
     ·cases ht; exact Ac8 hs he hg h
    ·cases ht
   | tmp t=>simp only [trS,Option.some.injEq] at ht; subst ht; exact Ai2 hs he h
   | const v=>simp [trS] at ht
   | global g=>simp [trS] at ht
  | builtin b =>
   cases b with
   | append =>
    rcases args with _ | ⟨x,_ | ⟨y,_ | ⟨z,args⟩⟩⟩<;>rcases ts with _ | ⟨t,_ | ⟨tx,_ | ⟨t',ts⟩⟩⟩<;>simp only [trS] at ht<;>first | (cases ht; done) | skip
    split at ht
    ·rename_i k et h0; split at ht
     ·rename_i i h1; split at ht
      ·rename_i z h2; split at ht
       ·rename_i h3; split at ht
        ·rename_i h4; split at ht
         ·rename_i h5; obtain ⟨rfl,h5⟩:=h5; cases ht; exact Alk hs he h0 h1 h2 h3 h5 h4 h
         ·cases ht
        ·split at ht
         ·rename_i h4; cases ht; exact Anw hs he h0 h1 h2 h3 h4 h
         ·split at ht
          ·rename_i h4
           rw [Bool.and_eq_true,decide_eq_true_eq] at h4
           obtain ⟨zx,hz,rfl⟩:=Option.map_eq_some_iff.1 ht
           exact AlU hs he h0 h1 h2 ⟨h3,h4.2⟩ hz h4.1 h
          ·cases ht
       ·cases ht
      ·cases ht
     ·cases ht
    ·cases ht
   | copy =>
    rcases args with _ | ⟨x,_ | ⟨y,_ | ⟨z,args⟩⟩⟩<;>rcases ts with _ | ⟨t,_ | ⟨tx,_ | ⟨t',ts⟩⟩⟩<;>simp only [trS] at ht<;>first | (cases ht; done) | skip
    split at ht
    ·rename_i k et h0; split at ht
     ·split at ht
      ·rename_i hk; subst hk; cases ht; exact AiL hs he h0 h
      ·cases ht
     ·split at ht
      ·cases ht; exact AkP hs he h0 h
      ·cases ht
    ·cases ht
   | delete =>
    rcases args with _ | ⟨x,_ | ⟨y,_ | ⟨z,args⟩⟩⟩<;>rcases ts with _ | ⟨t,ts⟩<;>simp only [trS] at ht<;>first | (cases ht; done) | skip
    split at ht
    ·rename_i kt et h1; obtain ⟨kk,h2,rfl⟩:=Option.map_eq_some_iff.1 ht; exact AlO hs he h1 h2 h
    ·cases ht
   | clear =>
    rcases args with _ | ⟨x,_ | ⟨y,args⟩⟩<;>rcases ts with _ | ⟨t,_ | ⟨tx,ts⟩⟩<;>simp only [trS] at ht<;>first | (cases ht; done) | skip
    split at ht
    ·rename_i k et h0; split at ht
     ·rename_i i h1; split at ht
      ·rename_i z h2; split at ht
       ·rename_i h3; obtain ⟨zx,h4,rfl⟩:=Option.map_eq_some_iff.1 ht; exact Ak3 hs he h0 h1 h2 h3 h4 h
       ·cases ht
      ·cases ht
     ·cases ht
    ·cases ht
   | _=>simp [trS] at ht
 | _=>simp [trS] at ht
end sound
end
end Go.Proofs.YthlbcfmbldcngaaDoor
