/- What the proof of StageFlatsCard stands on (texts merged; names shortened by a program): part 4. -/
import Derived.Test.YtnkpoloeifhflaaGreatDoorQC
import Derived.RangeFuncIn
import Derived.RangeFuncRecord
import Derived.RangeFuncLeaves
import Derived.Sort.LoopGhostIn
set_option linter.defProp false
set_option linter.unusedSectionVars false
set_option linter.unusedSimpArgs false
set_option linter.unusedVariables false
namespace Go.Proofs.YtnkpoloeifhflaaGreatDoor
theorem aI_ {a b:Prop} (x:a) (y:b):a∧b:=⟨x,y⟩
section
open Go.RowKit
variable [AL]
set_option autoImplicit false
inductive Af where
 | ops (l:List VO) (keep:List Nat)
 | draw (nA:Nat) (l:List VO) (keep:List Nat)
 | skip
 | opsZ (l:List VO) (zs:List Nat) (r:List VO) (keep:List Nat)
 | pops (l:List VO) (keep:List Nat)
 | pdraw (n:Nat) (l:List VO) (keep:List Nat)
 | sdraw (n:Nat) (l:List VO) (keep:List Nat)
 | seq (a b:Af)
 | cond (c:Opd) (a b:Af)
 | block (id:Nat) (c:Af)
 | loop (live:List Nat) (c:Af)
 | exit (id:Nat)
 | ret
 | scope (c:Af)
 | own (s k:Nat) (c:Af)
 | ownB (s:Nat) (p:List (Nat×Nat)) (k:Nat) (c:Af)
 | ownT (s:Nat) (p:List (Nat×Nat)) (t:TypeId) (c:Af)
 | frz (s:Nat) (c:Af)
 | rfunc (f:Opd) (ps:List Nat) (aS bd:Af)
 | dead
 deriving Inhabited
def BjB:List Nat→(Env→List Ob→Prop)→Env→List Ob→Prop
 | [],K,e,H=>K e H
 | s::zs,K,e,H=>match get e s with
  | .os k id ver p off n _=>(match H[id]? with
   | some (.obj v x)=>v=ver∧(match JU p k off n x with
    | some cs=>BjB zs K ((s,.sl k cs)::e) (H.set id (.gone ver))
    | none=>False)
   | _=>False)
  | _=>False
def er:Af→Af
 | .ops l _ => .ops l []
 | .draw n l _ => .draw n l []
 | .opsZ l _ r _ => .ops (l++r) []
 | .pops l _ => .ops l []
 | .pdraw n l _ => .draw n l []
 | .sdraw n l _ => .sdraw n l []
 | .seq a b => .seq (er a) (er b)
 | .cond c a b => .cond c (er a) (er b)
 | .block id c => .block id (er c)
 | .loop _ c => .loop [] (er c)
 | .scope c => .scope (er c)
 | .own _ _ c=>er c
 | .ownB _ _ _ c=>er c
 | .ownT _ _ _ c=>er c
 | .frz _ c=>er c
 | .rfunc f ps aS bd => .rfunc f ps (er aS) (er bd)
 | .skip => .skip
 | .exit id => .exit id
 | .ret => .ret
 | .dead => .dead
def Ai0:Code→Bool
 | .seq a b=>Ai0 a || Ai0 b
 | .cond _ a b=>Ai0 a || Ai0 b
 | .block _ c=>Ai0 c
 | .loop c=>Ai0 c
 | .scope c=>Ai0 c
 | .region _ ops _=>ops.toList.any fun o=>match o.op with | .panic _=>true | .store .. => true | _=>false
 | _=>false
def BrA:List String:=["(*gitlike/pack.reader).number", "(*gitlike/pack.reader).byte", "(*gitlike/pack.reader).head", "(*gitlike/pack.reader).distance", "(*gitlike/pack.reader).entry", "gitlike/stage.put", "gitlike/gitlikeref8.number"]
def AsY (P:Program) (v:VO):Bool:=match v.op with
 | .s (.call f _)=>(match P.funcs[f]? with | some fn=>fn.body.any Ai0 || BrA.contains fn.name | none=>false)
 | .s (.store _ _ _)=>true
 | _=>false
def nOf (n:Nat):Nat:=n % 10000
def ssN (n:Nat) (l:List VO):SsT:=⟨BkO l,A3n l,decide (10000≤n)⟩
theorem Bjz {n:Nat} (h:n<10000):nOf n=n:=Nat.mod_eq_of_lt h
theorem BlG {n:Nat} (h:n<10000):nOf (10000+n)=n:=by unfold nOf; omega
theorem BjI {n:Nat} {l:List VO} (h:n<10000):ssN n l=⟨BkO l,A3n l,false⟩:=by unfold ssN; rw [decide_eq_false (by omega)]
theorem Bk0 {n:Nat} {l:List VO}:ssN (10000+n) l=⟨BkO l,A3n l,true⟩:=by unfold ssN; rw [decide_eq_true (by omega)]
def AqA (chk:Nat→Bool) (n:Nat):Option Nat:=(List.range (n+1)).find? fun j=>chk j && decide (j<10000)
theorem Afo {chk:Nat→Bool} {n j:Nat} (h:AqA chk n=some j):chk j=true∧j<10000:=by
 have:=List.find?_some h
 simpa using this
def BqE (v:VO):Bool:=match v.op with
 | .s (.app _ _ _ _ _)=>true
 | _=>false
def AmF (P:Program) (ops:List Oper) (l:List VO) (n:Nat):Option Af:=match (List.range (n+1)).find? (Adv ss0 ops l) with
 | some k=>if (l.take k).any (AsY P) then (match AqA (Adv ⟨BkO l,A3n l,false⟩ ops l) n with
   | some j=>if (l.take j).any (AsY P) then (match AqA (Ih ⟨BkO l,A3n l,false⟩ ops l) n with
     | some j'=>some (.sdraw j' l [])
     | none=>some (.sdraw j l [])) else some (.sdraw j l [])
   | none=>none) else some (.draw k l [])
 | none=>none
theorem Amj {P:Program} {ops:List Oper} {l:List VO} {n:Nat} {c:Af} (h:AmF P ops l n=some c):∃ k,(c = .draw k l []∧Ih ss0 ops l k=true)∨(c = .sdraw k l []∧Ih (ssN k l) ops l (nOf k)=true):=by
 have low:∀ {j},Ih ⟨BkO l,A3n l,false⟩ ops l j=true→j<10000→Ih (ssN j l) ops l (nOf j)=true:=fun h1 h2=>by rw [BjI h2,Bjz h2]; exact h1
 unfold AmF at h
 split at h
 ·rename_i k hk
  split at h
  ·split at h
   ·rename_i j hj
    obtain ⟨hj,hj2⟩:=Afo hj
    split at h
    ·split at h
     ·rename_i j' hj'
      obtain ⟨hj',hj2'⟩:=Afo hj'
      cases h; exact ⟨j',.inr ⟨rfl,low hj' hj2'⟩⟩
     ·cases h; exact ⟨j,.inr ⟨rfl,low (U7 hj) hj2⟩⟩
    ·cases h; exact ⟨j,.inr ⟨rfl,low (U7 hj) hj2⟩⟩
   ·cases h
  ·cases h; exact ⟨k,.inl ⟨rfl,U7 (List.find?_some hk)⟩⟩
 ·cases h
def A4j (ops:List Oper) (l:List VO) (n:Nat):Option Af:=(AqA (Adv ⟨BkO l,A3n l,true⟩ ops l) n).map fun j => .sdraw (10000+j) l []
theorem AnM {ops:List Oper} {l:List VO} {n:Nat} {c:Af} (h:A4j ops l n=some c):∃ k,c = .sdraw k l []∧Ih (ssN k l) ops l (nOf k)=true:=by
 obtain ⟨j,hj,rfl⟩:=Option.map_eq_some_iff.1 h
 obtain ⟨hj,hj2⟩:=Afo hj
 exact ⟨10000+j,rfl,by rw [Bk0,BlG hj2]; exact U7 hj⟩
def Amd (bz:Bool) (P:Program) (N:Nat) (ops:Array Oper):Option Af:=match trL bz P N ops.toList ops.toList with
 | some l=>if P.follows .mixedOrders then (if l.any BmH || l.any (AsY P) then (match trL bz P N (Bh ops.toList (Bjc ops.toList l)) (Bh ops.toList (Bjc ops.toList l)) with
   | some l'=>if Abq (Bjc ops.toList l) ops.toList.length then AmF P (Bh ops.toList (Bjc ops.toList l)) l' ops.size else none
   | none=>none)
  else (match (List.range (ops.size+1)).find? (Adv ss0 ops.toList l) with
   | some n=>if (l.take n).any BqE then (match trL bz P N (Bh ops.toList (Bjc ops.toList l)) (Bh ops.toList (Bjc ops.toList l)) with
     | some l'=>if Abq (Bjc ops.toList l) ops.toList.length then (match A4j (Bh ops.toList (Bjc ops.toList l)) l' ops.size with
       | some c=>some c
       | none=>some (.draw n l [])) else some (.draw n l [])
     | none=>some (.draw n l [])) else some (.draw n l [])
   | none=>none)) else none
 | none=>none
theorem Acx {bz:Bool} {P:Program} {N:Nat} {ops:Array Oper} {c:Af} (h:Amd bz P N ops=some c):(∃ n l,c = .draw n l []∧P.follows .mixedOrders=true ∧
  ((trL bz P N ops.toList ops.toList=some l∧Ih ss0 ops.toList l n=true)∨∃ π,Abq π ops.toList.length=true∧trL bz P N (Bh ops.toList π) (Bh ops.toList π)=some l∧Ih ss0 (Bh ops.toList π) l n=true)) ∨
  ∃ n l,c = .sdraw n l []∧P.follows .mixedOrders=true∧∃ π,Abq π ops.toList.length=true∧trL bz P N (Bh ops.toList π) (Bh ops.toList π)=some l∧Ih (ssN n l) (Bh ops.toList π) l (nOf n)=true:=by
 unfold Amd at h
 split at h
 ·rename_i l hl
  split at h
  ·rename_i hm
   split at h
   ·split at h
    ·rename_i l' hl'
     split at h
     ·rename_i hp
      obtain ⟨k,⟨rfl,hk⟩ | ⟨rfl,hk⟩⟩:=Amj h
      ·exact .inl ⟨k,l',rfl,hm,.inr ⟨_,hp,hl',hk⟩⟩
      ·exact .inr ⟨k,l',rfl,hm,_,hp,hl',hk⟩
     ·cases h
    ·cases h
   ·split at h
    ·rename_i n hn
     have plain:∀ {c:Af},some (Af.draw n l [])=some c→_:=fun {c} (h:some (Af.draw n l [])=some c)=>(Or.inl ⟨n,l,(Option.some.inj h).symm,hm,.inl ⟨hl,U7 (List.find?_some hn)⟩⟩:(∃ n l,c = .draw n l []∧P.follows .mixedOrders=true ∧
  ((trL bz P N ops.toList ops.toList=some l∧Ih ss0 ops.toList l n=true)∨∃ π,Abq π ops.toList.length=true∧trL bz P N (Bh ops.toList π) (Bh ops.toList π)=some l∧Ih ss0 (Bh ops.toList π) l n=true)) ∨
  ∃ n l,c = .sdraw n l []∧P.follows .mixedOrders=true∧∃ π,Abq π ops.toList.length=true∧trL bz P N (Bh ops.toList π) (Bh ops.toList π)=some l∧Ih (ssN n l) (Bh ops.toList π) l (nOf n)=true)
     split at h
     ·split at h
      ·rename_i l' hl'
       split at h
       ·rename_i hp
        split at h
        ·rename_i c' hc'
         cases h
         obtain ⟨k,rfl,hk⟩:=AnM hc'
         exact .inr ⟨k,l',rfl,hm,_,hp,hl',hk⟩
        ·exact plain h
       ·exact plain h
      ·exact plain h
     ·exact plain h
    ·cases h
  ·cases h
 ·cases h
def Bly:Af→Bool
 | .draw n l _=>(l.take n).any fun v=>match v.op with | .s (.bslice _ _ _ _)=>true | _=>false
 | .sdraw n l _=>(l.take (nOf n)).any fun v=>match v.op with | .s (.bslice _ _ _ _)=>true | _=>false
 | _=>false
def AoD (P:Program) (N:Nat) (ops:Array Oper):Option Af:=match Amd false P N ops with
 | some c=>if Bly c then (match Amd true P N ops with | some c'=>some c' | none=>some c) else some c
 | none=>none
theorem Z8 {P:Program} {N:Nat} {ops:Array Oper} {c:Af} (h:AoD P N ops=some c):∃ bz:Bool,(∃ n l,c = .draw n l []∧P.follows .mixedOrders=true ∧
  ((trL bz P N ops.toList ops.toList=some l∧Ih ss0 ops.toList l n=true)∨∃ π,Abq π ops.toList.length=true∧trL bz P N (Bh ops.toList π) (Bh ops.toList π)=some l∧Ih ss0 (Bh ops.toList π) l n=true)) ∨
  ∃ n l,c = .sdraw n l []∧P.follows .mixedOrders=true∧∃ π,Abq π ops.toList.length=true∧trL bz P N (Bh ops.toList π) (Bh ops.toList π)=some l∧Ih (ssN n l) (Bh ops.toList π) l (nOf n)=true:=by
 unfold AoD at h
 split at h
 ·rename_i c1 h1
  split at h
  ·split at h
   ·rename_i c2 h2; cases h; exact ⟨true,Acx h2⟩
   ·cases h; exact ⟨false,Acx h1⟩
  ·cases h; exact ⟨false,Acx h1⟩
 ·cases h
theorem AsX {P:Program} {N:Nat} {ops:Array Oper} {c:Af} (h:AoD P N ops=some c) (hc:∀ n l,c ≠ .draw n l []) (hc2:∀ n l,c ≠ .sdraw n l []):False:=by
 obtain ⟨bz,⟨n,l,e,_⟩ | ⟨n,l,e,_⟩⟩:=Z8 h
 ·exact hc n l e
 ·exact hc2 n l e
def trC (P:Program) (N:Nat):Code→Option Af
 | .skip=>some .skip
 | .region _ ops false=>some (match trL false P N ops.toList ops.toList with | some l => .ops l [] | none => .dead)
 | .region _ ops true=>some (match AoD P N ops with | some c=>c | none => .dead)
 | .seq a b=>match trC P N a,trC P N b with
  | some a,some b=>some (.seq a b)
  | _,_=>none
 | .cond c a b=>match trC P N a,trC P N b with
  | some a,some b=>some (.cond (trO c) a b)
  | _,_=>none
 | .block id c=>(trC P N c).map (.block id)
 | .loop c=>(trC P N c).map (.loop [])
 | .exit id=>some (.exit id)
 | .scope c=>(trC P N c).map .scope
 | .label _=>some .skip
 | .ret=>some .ret
 | .rangeFunc f ps aS bd=>if ps.toList.all (· < N) then (match trC P N aS,trC P N bd with
  | some aS,some bd=>some (.rfunc (trO f) ps.toList aS bd)
  | _,_=>none) else none
 | _=>some .dead
theorem BfI {P:Program} {N id:Nat} {ops:Array Oper} {c:Af} (h:trC P N (.region id ops false)=some c):(∃ l,trL false P N ops.toList ops.toList=some l∧c = .ops l [])∨c = .dead:=by
 simp only [trC,Option.some.injEq] at h
 split at h
 ·rename_i l hl; exact .inl ⟨l,hl,h.symm⟩
 ·exact .inr h.symm
theorem Bgg {P:Program} {N id:Nat} {ops:Array Oper} {c:Af} (h:trC P N (.region id ops true)=some c):AoD P N ops=some c∨c = .dead:=by
 simp only [trC,Option.some.injEq] at h
 split at h
 ·rename_i l hl; exact .inl (hl.trans (by rw [h]))
 ·exact .inr h.symm
theorem NL {P:Program} {N id:Nat} {ops:Array Oper} {c:Af} (h:trC P N (.region id ops false)=some c) (hc:∀ l,c ≠ .ops l []) (hd:c ≠ .dead):False:=by
 rcases BfI h with ⟨l,_,e⟩ | e
 ·exact hc l e
 ·exact hd e
theorem NJ {P:Program} {N id:Nat} {ops:Array Oper} {c:Af} (h:trC P N (.region id ops true)=some c) (hc:∀ n l,c ≠ .draw n l []) (hc2:∀ n l,c ≠ .sdraw n l []) (hd:c ≠ .dead):False:=by
 rcases Bgg h with e | e
 ·exact AsX e hc hc2
 ·exact hd e
def AkP:Af→Bool
 | .seq a b=>AkP a && AkP b
 | .cond _ a b=>AkP a && AkP b
 | .block _ c=>AkP c
 | .loop _ c=>AkP c
 | .scope c=>AkP c
 | .own _ _ c=>AkP c
 | .ownB _ _ _ c=>AkP c
 | .ownT _ _ _ c=>AkP c
 | .frz _ c=>AkP c
 | .rfunc _ _ _ _=>false
 | _=>true
inductive VEx where
 | nor
 | exit (id:Nat)
 | ret
 | pan (u:Value)
def VEx.ex:VEx→Exit
 | .nor => .normal
 | .exit id => .exit id
 | .ret => .ret
 | .pan u => .panic [{ v:=u,recovered:=false }]
mutual
def TZ (g:Nat):TV→Bool
 | .op id _ _=>decide (id<g)
 | .os _ id _ _ _ _ _=>decide (id<g)
 | .mp id _=>decide (id<g)
 | .yl id _=>decide (id<g)
 | .agg cs=>YJ g cs
 | .tup cs=>YJ g cs
 | .ifc _ x=>TZ g x
 | .fn _ a b=>YJ g a && YJ g b
 | _=>true
def YJ (g:Nat):List TV→Bool
 | []=>true
 | x::xs=>TZ g x && YJ g xs
end
def AiJ (g:Nat):Env→Bool
 | []=>true
 | (_,x)::e=>TZ g x && AiJ g e
def AqY (g:Nat):Ob→Bool
 | .obj _ x=>TZ g x
 | .ice _ _ x=>TZ g x
 | .fact id _ _ _=>decide (id<g)
 | .lp _ _ _ _ e _ _ _=>AiJ g e
 | .mpo _ es=>YJ g (es.map (·.2))
 | .bld _ _ _=>true
 | .sit _ _=>true
 | .mpd _ zs _=>YJ g (zs.map (·.2.2))
 | .mit m _ _=>decide (m<g)
 | .gone _=>true
def Ai1 (g:Nat):List Ob→Bool
 | []=>true
 | o::H=>AqY g o && Ai1 g H
def AqB (Q:VEx→Env→List Ob→Prop) (e:Env) (L:Nat):TV→List Ob→Prop:=fun _ H'=>match H'[L]? with
 | some (.lp .ready none fn N e1 ps ca cb)=>Q .nor e (H'.set L (.lp .exhausted none fn N e1 ps ca cb))
 | some (.lp .done (some .ret) fn N e1 ps ca cb)=>Q .ret e (H'.set L (.lp .exhausted (some .ret) fn N e1 ps ca cb))
 | some (.lp .done (some (.exit i)) fn N e1 ps ca cb)=>Q (.exit i) e (H'.set L (.lp .exhausted (some (.exit i)) fn N e1 ps ca cb))
 | _=>False
structure BiR (P:Program) (N:Nat) (ps:List Nat) (ca cb:Code) (aS bd:Af):Prop where
 a:trC P N ca=some (er aS)
 b:trC P N cb=some (er bd)
 p:ps.all (· < N)=true
def vwp (P:Program):Af→(VEx→Env→List Ob→Prop)→Env→List Ob→Prop
 | .ops l kp,Q,e,H=>Ajm P l (fun e H=>Q .nor (forget kp e) H) e H
 | .opsZ l zs r kp,Q,e,H=>Ajm P l (BjB zs (Ajm P r (fun e H=>Q .nor (forget kp e) H))) e H
 | .pops l kp,Q,e,H=>AdT P (fun u H=>Q (.pan u) (ApR l e) H) l (fun e H=>Q .nor (forget kp e) H) e H
 | .pdraw n l kp,Q,e,H=>vq P (l.take n) (fun e=>AdT P (fun u H=>Q (.pan u) [] H) (l.drop n) (fun e H=>Q .nor (forget kp e) H) e H) e H
 | .sdraw n l kp,Q,e,H=>vq P (l.take (nOf n)) (fun e=>XZ (pvopS P (fun u H=>Q (.pan u) [] H) (ssN n l)) (l.drop (nOf n)) (fun e H=>Q .nor (forget kp e) H) e H) e H
 | .draw n l kp,Q,e,H=>vq P (l.take n) (fun e=>Ajm P (l.drop n) (fun e H=>Q .nor (forget kp e) H) e H) e H
 | .skip,Q,e,H=>Q .nor e H
 | .seq a b,Q,e,H=>vwp P a (fun x e H=>match x with | .nor=>vwp P b Q e H | .exit i=>Q (.exit i) e H | .ret=>Q .ret e H | .pan u=>Q (.pan u) e H) e H
 | .cond c a b,Q,e,H=>match c.ev e with
  | .val (.bool t)=>if t=true then vwp P a Q e H else vwp P b Q e H
  | _=>False
 | .block id c,Q,e,H=>vwp P c (fun x e H=>match x with | .nor=>Q .nor e H | .exit i=>if i=id then Q .nor e H else Q (.exit i) e H | .ret=>Q .ret e H | .pan u=>Q (.pan u) e H) e H
 | .loop lv c,Q,e,H0=>∃ (I:Nat→Env→List Ob→Prop) (n:Nat),I n (forget lv e) H0 ∧
   ∀ n e H,I n e H→vwp P c (fun x e H=>match x with | .nor=>∃ m g,m<n∧(H0.length≤g∧(H.length≤g∨(AiJ g (forget lv e)=true∧Ai1 g (H.take g)=true)))∧I m (forget lv e) (H.take g) | .exit i=>Q (.exit i) e H | .ret=>Q .ret e H | .pan u=>Q (.pan u) e H) e H
 | .exit id,Q,e,H=>Q (.exit id) e H
 | .ret,Q,e,H=>Q .ret e H
 | .scope c,Q,e,H=>vwp P c Q e H
 | .dead,_,_,_=>False
 | .own s k c,Q,e,H=>match get e s with
  | .val (.slice none 0 0)=>vwp P c Q ((s,.os k H.length 0 [] 0 0 0)::e) (H++[.obj 0 (.arr 0 k [])])
  | _=>vwp P c Q e H
 | .ownB s p k c,Q,e,H=>match get e s with
  | .op id ver p0=>(match H[id]? with
   | some (.obj v x)=>v=ver∧(match U0 (p0++p) x with
    | some (.val (.slice none 0 0))=>(match Aes (p0++p) x (.os k H.length 0 [] 0 0 0) with
     | some x'=>vwp P c Q e (H.set id (.obj ver x')++[.obj 0 (.arr 0 k [])])
     | none=>False)
    | _=>vwp P c Q e H)
   | _=>False)
  | _=>False
 | .ownT s p t c,Q,e,H=>match get e s with
  | .op id ver p0=>(match H[id]? with
   | some (.obj v x)=>v=ver∧(match U0 (p0++p) x with
    | some (.val (.slice none 0 0))=>(match Aes (p0++p) x (.os 1 H.length 0 [] 0 0 0) with
     | some x'=>vwp P c Q e (H.set id (.obj ver x')++[.bld 0 t []])
     | none=>False)
    | _=>vwp P c Q e H)
   | _=>False)
  | _=>False
 | .frz s c,Q,e,H=>match get e s with
  | .os k id ver p off n _=>(match H[id]? with
   | some (.obj v x)=>v=ver∧(match JU p k off n x with
    | some cs=>vwp P c Q ((s,.sl k cs)::e) (H.set id (.gone ver))
    | none=>False)
   | _=>False)
  | _=>False
 | .rfunc f ps aS bd,Q,e,H=>AkP aS=true∧AkP bd=true∧(match f.ev e with
  | .fn (.func g) first caps=>AiM P g=true∧∀ (N:Nat) (fn:FuncId) (ca cb:Code),BiR P N ps ca cb aS bd→Au P g (first++[.yl H.length 0]++caps) (H++[.lp .ready none fn N e ps ca cb]) (AqB Q e H.length)
  | .val (.func (.func g) xs ys)=>(xs.isEmpty && ys.isEmpty)=true∧AiM P g=true∧∀ (N:Nat) (fn:FuncId) (ca cb:Code),BiR P N ps ca cb aS bd→Au P g [.yl H.length 0] (H++[.lp .ready none fn N e ps ca cb]) (AqB Q e H.length)
  | _=>False)
section sound
variable {P:Program}
theorem Ag4 {c:Ctx} {w:World}:∀ {p:List (Nat×Nat)} {x y z x':TV} {us:List Value},Ak c w x us→U0 p x=some z→(∀ m,Ak c w z m→Ak c w y m)→Aes p x y=some x'→Ak c w x' us:=by
 intro p x y z x' us h hg hm hs
 obtain ⟨a,m,b,rfl,h1,h2⟩:=SQ h hg
 obtain ⟨a',m',b',e,h3,h4,h5,_⟩:=AbU h hs (hm m h2)
 have e1:a=a':=by
  have:=congrArg (List.take a.length) e
  rw [List.append_assoc,List.append_assoc,List.take_left] at this
  rw [this,List.take_left' (by omega)]
 subst e1
 rw [List.append_assoc,List.append_assoc] at e
 have e2:=List.append_cancel_left e
 have e3:m=m':=by
  have:=congrArg (List.take m.length) e2
  rw [List.take_left] at this
  rw [this,List.take_left' (by omega)]
 subst e3
 have e4:=List.append_cancel_left e2
 subst e4
 exact h5
theorem Sim.give {β:Nat→Nat→Option (Nat×Nat)} {H:List Ob} {F:Nat→Prop} {w:World} (hs:Sim ⟨β,H,F⟩ w) {k id ver off n cp:Nat} {p:List (Nat×Nat)} {x:TV} {cs:List TV} (hid:H[id]?=some (.obj ver x)) (hcs:JU p k off n x=some cs) {us:List Value} (hr:Ak ⟨β,H,F⟩ w (.os k id ver p off n cp) us) :
  Ak ⟨β,H.set id (.gone ver),fun b=>F b∨∃ off,β id ver=some (b,off)⟩ w (.sl k cs) us:=by
 have hm:Ry (Ctx.bare ⟨β,H,F⟩) w (Ctx.bare ⟨β,H.set id (.gone ver),fun b=>F b∨∃ off,β id ver=some (b,off)⟩) w :=
  ⟨fun b hb=>⟨.inl hb,rfl⟩,fun _ _ k=>(Ctx.bare_has k).elim,fun _ _=>rfl⟩
 rw [Ak] at hr
 obtain ⟨hr1,hr2⟩:=hr
 rcases hr2 with ⟨rfl,a0,hr2,_⟩ | ⟨b0,o0,cap,t0,m0,hr2,hr3,hr4,hr5,hr6,hr7⟩
 ·have:cs=[]:=by
   unfold JU at hcs
   split at hcs
   ·split at hcs
    ·cases hcs; simp
    ·cases hcs
   ·cases hcs
  subst this
  rw [Ak]
  exact ⟨by simp,.inl ⟨rfl,a0,0,hr2,by omega⟩⟩
 rcases hs.ob id _ hid with ⟨h0,_⟩ | ⟨b,off',pre,vs,post,t,fr,h0,h1,h2,h3,h4⟩
 ·have h0':β id ver=none:=h0
  have hr2':β id ver=some (b0,o0):=hr2
  rw [h0'] at hr2'; cases hr2'
 have h0':β id ver=some (b,off'):=h0
 have hr2':β id ver=some (b0,o0):=hr2
 rw [h0'] at hr2'
 obtain ⟨rfl,rfl⟩:b=b0∧off'=o0:=by simpa using hr2'
 obtain ⟨a,m,q,rfl,k1,k2,k3,k4⟩:=WG h4 hcs
 rw [Ak]
 refine ⟨k3,.inr ⟨b,off'+J8 p+off*k,cap,m,by rw [k4]; exact hr3,by omega,hr5,.inr ⟨off',h0'⟩,Am.mono hm k2,?_⟩⟩
 have e:off'+J8 p+off*k=pre.length+a.length:=by rw [h3,k1]; omega
 rw [e]; exact SK h1
theorem AlH {N:Nat} {D:List Deferred}:∀ {zs:List Nat} {K:Env→List Ob→Prop} {e:Env} {H:List Ob} {β:Nat→Nat→Option (Nat×Nat)} {F:Nat→Prop} {w:World} {a:Act},BjB zs K e H→Sim ⟨β,H,F⟩ w→Fr N D ⟨β,H,F⟩ w e a →
  ∃ e' H' F',K e' H'∧Sim ⟨β,H',F'⟩ w∧Fr N D ⟨β,H',F'⟩ w e' a∧AQ ⟨β,H,F⟩ w ⟨β,H',F'⟩ w
 | [],K,e,H,β,F,w,a,h,hs,hf=>⟨e,H,F,h,hs,hf,AQ.refl _ _⟩
 | s::zs,K,e,H,β,F,w,a,h,hs,hf=>by
  rw [BjB] at h
  split at h
  ·rename_i k id ver p off n cp hg
   split at h
   ·rename_i v y hid
    obtain ⟨rfl,h⟩:=h
    split at h
    ·rename_i cs hcs
     obtain ⟨k1,k2⟩:=hs.freeze hid rfl
     have hr:Rep ⟨β,H,F⟩ w (get e s) (a.tmps.getD s undef):=hf.env.1 s
     rw [hg] at hr
     have hr':Rep ⟨β,H.set id (.gone v),fun b=>F b∨∃ off,β id v=some (b,off)⟩ w (.sl k cs) (a.tmps.getD s undef):=by
      rcases hr with (hr | hr | ⟨us,hr,hr2⟩) | ⟨xs,vs,hr,_⟩
      ·cases hr
      ·cases hr
      ·exact .inl (.inr (.inr ⟨us,hs.give hid hcs hr,by rw [hr2]; rfl⟩))
      ·cases hr
     obtain ⟨e',H',F',q1,q2,q3,q4⟩:=AlH h k1 (a:=a) ⟨⟨fun s'=>by
      rw [DZ]
      by_cases hss:s=s'
      ·subst hss; rw [if_pos rfl]; exact hr'
      ·rw [if_neg hss]; exact Rep.mono (k2.mono hs) (hf.env.1 s'),k1.glob⟩,hf.size,hf.defers⟩
     exact ⟨e',H',F',q1,q2,q3,k2.trans q4⟩
    ·exact h.elim
   ·exact h.elim
  ·exact h.elim
theorem A3T {P:Program} {N:Nat} {all:List Oper}:∀ {os:List Oper} {l1 l2:List VO},trL false P N all os=some (l1++l2)→∃ o1 o2,os=o1++o2∧trL false P N all o1=some l1∧trL false P N all o2=some l2
 | os,[],l2,h=>⟨[],os,rfl,rfl,h⟩
 | [],v::l1,l2,h=>by simp [trL] at h
 | o::os,v::l1,l2,h=>by
  rw [trL] at h
  split at h
  ·rename_i v' g r hv hg hr
   split at h
   ·rename_i hd
    simp only [List.cons_append,Option.some.injEq,List.cons.injEq] at h
    obtain ⟨rfl,rfl⟩:=h
    obtain ⟨o1,o2,rfl,h1,h2⟩:=A3T hr
    refine ⟨o::o1,o2,rfl,?_,h2⟩
    rw [trL,hv,hg,h1]
    simp [hd]
   ·cases h
  ·cases h
theorem Aqe {N:Nat} {D:List Deferred} {ro:Option Nat} {nn:Nat} {all:Array Oper} {os:List Oper} {l1 l2:List VO} {zs:List Nat} (ht:trL false P N all.toList os=some (l1++l2)) {K:Env→List Ob→Prop} {e:Env} {H:List Ob} {β:Nat→Nat→Option (Nat×Nat)} {F:Nat→Prop} {w:World} {a:Act} {QQ:Exit→Act→World→Prop}
  (h:Ajm P l1 (BjB zs (Ajm P l2 K)) e H) (hs:Sim ⟨β,H,F⟩ w) (hf:Fr N D ⟨β,H,F⟩ w e a)
  (hk:∀ e' H' β' F' w' a',K e' H'→Sim ⟨β',H',F'⟩ w'→Fr N D ⟨β',H',F'⟩ w' e' a'→AQ ⟨β,H,F⟩ w ⟨β',H',F'⟩ w'→QQ .normal a' w'):wpListIn (fz ro) nn P all QQ os a w:=by
 obtain ⟨o1,o2,rfl,h1,h2⟩:=A3T ht
 refine Ako (Zj.vop (KP:=fun _ _=>False)) h1 h hs hf (fun e' H' β' F' w' a' k1 k2 k3 k4 => ?_) (fun _ _ _ _ _ _ h=>h.elim)
 obtain ⟨e2,H2,F2,q1,q2,q3,q4⟩:=AlH k1 k2 k3
 exact AlO h2 q1 q2 q3 fun e3 H3 β3 F3 w3 a3 m1 m2 m3 m4=>hk e3 H3 β3 F3 w3 a3 m1 m2 m3 ((k4.trans q4).trans m4)
theorem Sim.own {β:Nat→Nat→Option (Nat×Nat)} {H:List Ob} {F:Nat→Prop} {w:World} (hs:Sim ⟨β,H,F⟩ w) (k:Nat) :
  Sim ⟨upd β H.length 0 none,H++[.obj 0 (.arr 0 k [])],F⟩ w∧AQ ⟨β,H,F⟩ w ⟨upd β H.length 0 none,H++[.obj 0 (.arr 0 k [])],F⟩ w ∧
   Ak ⟨upd β H.length 0 none,H++[.obj 0 (.arr 0 k [])],F⟩ w (.os k H.length 0 [] 0 0 0) [.slice none 0 0]:=by
 obtain ⟨k1,k2⟩:=hs.newNone (x := .arr 0 k []) (by rw [Ak]; exact ⟨rfl,by simp,by rw [Am]⟩)
 exact ⟨k1,k2,by rw [Ak]; exact ⟨NP _ _ _ _ _ (Nat.le_refl _),.inl ⟨rfl,none,rfl,rfl,fun _ h=>by cases h⟩⟩⟩
theorem Sim.ownBld {β:Nat→Nat→Option (Nat×Nat)} {H:List Ob} {F:Nat→Prop} {w:World} (hs:Sim ⟨β,H,F⟩ w) (t:TypeId) :
  Sim ⟨upd β H.length 0 none,H++[.bld 0 t []],F⟩ w∧AQ ⟨β,H,F⟩ w ⟨upd β H.length 0 none,H++[.bld 0 t []],F⟩ w ∧
   Ak ⟨upd β H.length 0 none,H++[.bld 0 t []],F⟩ w (.os 1 H.length 0 [] 0 0 0) [.slice none 0 0]:=by
 obtain ⟨k1,k2⟩:=hs.new (.bld 0 t []) rfl none (w':=w) (fun b off e=>by cases e) rfl rfl rfl (Nat.le_refl _) (fun b hb=>rfl) fun hm => .inl ⟨AX,rfl⟩
 exact ⟨k1,k2,by rw [Ak]; exact ⟨NP _ _ _ _ _ (Nat.le_refl _),.inl ⟨rfl,none,rfl,rfl,fun _ h=>by cases h⟩⟩⟩
def Ctx.cut (c:Ctx) (g:Nat):Ctx:=⟨c.β,c.H.take g,c.F⟩
theorem Ctx.cut_has {c:Ctx} {g id ver:Nat} (h:c.has id ver) (hg:id<g):(c.cut g).has id ver:=by
 obtain ⟨o,h1,h2⟩:=h
 exact ⟨o,by show (c.H.take g)[id]?=some o; rw [List.getElem?_take,if_pos hg]; exact h1,h2⟩
theorem Ctx.cut_get {c:Ctx} {g id:Nat} {o:Ob} (h:(c.cut g).H[id]?=some o):id<g∧c.H[id]?=some o:=by
 have h':(c.H.take g)[id]?=some o:=h
 rw [List.getElem?_take] at h'
 split at h'
 ·exact ⟨‹_›,h'⟩
 ·cases h'
mutual
theorem Ak.cut {c:Ctx} {w:World} {g:Nat}:∀ {x:TV} {us:List Value},TZ g x=true→Ak c w x us→Ak (c.cut g) w x us
 | .val y,us,hf,hr=>by rw [Ak] at hr ⊢; exact hr
 | .any,us,hf,hr=>by rw [Ak] at hr ⊢; exact hr
 | .sl k cs,us,hf,hr=>by rw [Ak] at hr ⊢; exact hr
 | .fp x,us,hf,hr=>by rw [Ak] at hr ⊢; exact hr
 | .arr n k cs,us,hf,hr=>by rw [Ak] at hr ⊢; exact hr
 | .op id ver p,us,hf,hr=>by
  rw [TZ,decide_eq_true_eq] at hf; rw [Ak] at hr ⊢; exact ⟨Ctx.cut_has hr.1 hf,hr.2⟩
 | .os k id ver p off n cp,us,hf,hr=>by
  rw [TZ,decide_eq_true_eq] at hf; rw [Ak] at hr ⊢; exact ⟨Ctx.cut_has hr.1 hf,hr.2⟩
 | .mp id ver,us,hf,hr=>by
  rw [TZ,decide_eq_true_eq] at hf; rw [Ak] at hr ⊢; exact ⟨Ctx.cut_has hr.1 hf,hr.2⟩
 | .yl id ver,us,hf,hr=>by
  rw [TZ,decide_eq_true_eq] at hf; rw [Ak] at hr ⊢; exact ⟨Ctx.cut_has hr.1 hf,hr.2⟩
 | .agg cs,us,hf,hr=>by rw [TZ] at hf; rw [Ak] at hr ⊢; exact Am.cut hf hr
 | .tup cs,us,hf,hr=>by rw [Ak] at hr; exact hr.elim
 | .ifc t x,us,hf,hr=>by
  rw [TZ] at hf; rw [Ak] at hr ⊢
  obtain ⟨u,h1,vs,h2,h3⟩:=hr
  exact ⟨u,h1,vs,Ak.cut hf h2,h3⟩
 | .fn f a b,us,hf,hr=>by
  rw [TZ,Bool.and_eq_true] at hf; rw [Ak] at hr ⊢
  obtain ⟨aS,bs,h1,h2,h3⟩:=hr
  exact ⟨aS,bs,h1,BQ.cut hf.1 h2,BQ.cut hf.2 h3⟩
theorem Am.cut {c:Ctx} {w:World} {g:Nat}:∀ {xs:List TV} {us:List Value},YJ g xs=true→Am c w xs us→Am (c.cut g) w xs us
 | [],us,hf,hr=>by rw [Am] at hr ⊢; exact hr
 | x::xs,us,hf,hr=>by
  rw [YJ,Bool.and_eq_true] at hf; rw [Am] at hr ⊢
  obtain ⟨a,b,h1,h2,h3⟩:=hr
  exact ⟨a,b,h1,Ak.cut hf.1 h2,Am.cut hf.2 h3⟩
theorem BQ.cut {c:Ctx} {w:World} {g:Nat}:∀ {xs:List TV} {us:List Value},YJ g xs=true→BQ c w xs us→BQ (c.cut g) w xs us
 | [],us,hf,hr=>by rw [BQ] at hr ⊢; exact hr
 | x::xs,us,hf,hr=>by
  rw [YJ,Bool.and_eq_true] at hf; rw [BQ] at hr ⊢
  obtain ⟨u,us,h1,h2,h3⟩:=hr
  refine ⟨u,us,h1,?_,BQ.cut hf.2 h3⟩
  rcases h2 with h2 | h2 | ⟨aS,h2,h4⟩
  ·exact .inl h2
  ·exact .inr (.inl h2)
  ·exact .inr (.inr ⟨aS,Ak.cut hf.1 h2,h4⟩)
end
theorem Rep.cut {c:Ctx} {w:World} {g:Nat} {x:TV} {v:Value} (hf:TZ g x=true) (hr:Rep c w x v):Rep (c.cut g) w x v:=by
 rcases hr with (h | h | ⟨us,h,h'⟩) | ⟨xs,vs,rfl,h2,h3⟩
 ·exact .inl (.inl h)
 ·exact .inl (.inr (.inl h))
 ·exact .inl (.inr (.inr ⟨us,Ak.cut hf h,h'⟩))
 ·rw [TZ] at hf; exact .inr ⟨xs,vs,rfl,h2,BQ.cut hf h3⟩
theorem Ais {g:Nat}:∀ {e:Env},AiJ g e=true→∀ s,TZ g (get e s)=true
 | [],_,s=>rfl
 | (k,x)::e,h,s=>by
  rw [AiJ,Bool.and_eq_true] at h
  rw [DZ]
  split
  ·exact h.1
  ·exact Ais h.2 s
theorem Aly {g:Nat}:∀ {H:List Ob},Ai1 g H=true→∀ (i:Nat) (o:Ob),H[i]?=some o→AqY g o=true
 | [],_,i,o,h=>by simp at h
 | o::H,h,i,o',hi=>by
  rw [Ai1,Bool.and_eq_true] at h
  cases i with
  | zero=>simp at hi; subst hi; exact h.1
  | succ i=>exact Aly h.2 i o' (by simpa using hi)
theorem Bc.cut {c:Ctx} {w:World} {g:Nat} {kk:MK}:∀ {es:List (List UInt8×TV)} {ms:List MapEntry},YJ g (es.map (·.2))=true→Bc c w kk es ms→Bc (c.cut g) w kk es ms
 | [],ms,_,h=>h
 | (k,x)::es,ms,hb,h=>by
  rw [List.map_cons,YJ,Bool.and_eq_true] at hb
  obtain ⟨m,r,rfl,h1,h2,h3⟩:=h
  exact ⟨m,r,rfl,h1,⟨Ak.cut hb.1 h2.1,h2.2⟩,Bc.cut hb.2 h3⟩
theorem Sim.cut {c:Ctx} {w:World} {g:Nat} (hs:Sim c w) (hg:Ai1 g (c.H.take g)=true):Sim (c.cut g) w:=by
 have hown:∀ b,(c.cut g).own b→c.own b:=by
  rintro b ⟨i,o,off,h1,h2,h3⟩
  exact ⟨i,o,off,(Ctx.cut_get h1).2,h2,h3⟩
 refine ⟨fun id o ho => ?_,fun i j x y b o o' hx hy hlx hly e e'=>hs.inj i j x y b o o' (Ctx.cut_get hx).2 (Ctx.cut_get hy).2 hlx hly e e',fun b hb=>hs.apart b (hown b hb),hs.lt,hs.glob⟩
 have h1:=hs.ob id o (Ctx.cut_get ho).2
 have hb:=Aly hg id o ho
 cases o with
 | gone v=>trivial
 | ice v m x =>
  obtain ⟨b,off,pre,vs,post,t,fr,h0,h1,h2,h3,h4⟩:=h1
  exact ⟨b,off,pre,vs,post,t,fr,h0,h1,h2,h3,Ak.cut hb h4⟩
 | bld v t l=>exact h1
 | fact i v t m =>
  obtain ⟨h0,h2⟩:=h1
  exact ⟨Ctx.cut_has h0 (by simpa [AqY] using hb),h2⟩
 | lp st pend fn N en ps ca cb =>
  obtain ⟨b,tmps,D,h0,h1,h2,h3⟩:=h1
  exact ⟨b,tmps,D,h0,h1,h2,fun s=>Rep.cut (Ais hb s) (h3 s)⟩
 | mpo kk es =>
  obtain ⟨b,ms,cl,h0,h1,h2,h3⟩:=h1
  exact ⟨b,ms,cl,h0,h1,Bc.cut hb h2,h3⟩
 | sit s pos=>exact h1
 | mpd kk zs cl =>
  obtain ⟨b,ms,h0,h1,h2,h3⟩:=h1
  exact ⟨b,ms,h0,h1,Bc.cut (by rw [List.map_map]; exact hb) h2,h3⟩
 | mit m sn cl =>
  obtain ⟨r,b,h0,⟨g0,g1⟩,h1⟩:=h1
  exact ⟨r,b,h0,⟨Ctx.cut_has g0 (by simpa [AqY] using hb),g1⟩,h1⟩
 | obj v x =>
  rcases h1 with ⟨h0,h4⟩ | ⟨b,off,pre,vs,post,t,fr,h0,h1,h2,h3,h4⟩
  ·exact .inl ⟨h0,Ak.cut hb h4⟩
  ·exact .inr ⟨b,off,pre,vs,post,t,fr,h0,h1,h2,h3,Ak.cut hb h4⟩
theorem AQ.cut {c0 c:Ctx} {w0 w:World} {g:Nat} (hl:AQ c0 w0 c w) (hg:c0.H.length≤g):AQ c0 w0 (c.cut g) w :=
 ⟨hl.os,hl.tape,hl.output,hl.size,fun id ver h=>by
  obtain ⟨h1,h2⟩:=hl.has id ver h
  exact ⟨Ctx.cut_has h1 (Nat.lt_of_lt_of_le (Ctx.has_lt h) hg),h2⟩,hl.shape,hl.same,hl.keepF,hl.oldF,fun b hb ⟨i,o,off,h1,h2,h3⟩=>hl.oldOwn b hb ⟨i,o,off,(Ctx.cut_get h1).2,h2,h3⟩⟩
def Aaa (D0:List Deferred) (B:Nat) (c:Ctx) (w:World) (D:List Deferred):Prop:=∃ ds:List Nat,D=ds.map (fun r=>{ target := .collected r,args := #[] })++D0∧ds.Nodup∧∀ r∈ds,B≤r∧r<w.heap.size∧¬ c.own r∧¬ c.F r∧w.heap[r]?=some (.deferred (some []))
theorem Aaa.nil {D0:List Deferred} {B:Nat} {c:Ctx} {w:World}:Aaa D0 B c w D0:=⟨[],rfl,List.nodup_nil,fun r h=>by cases h⟩
theorem Aaa.later {D0:List Deferred} {B:Nat} {c c':Ctx} {w w':World} {D:List Deferred} (h:Aaa D0 B c w D) (hl:AQ c w c' w'):Aaa D0 B c' w' D:=by
 obtain ⟨ds,h1,h2,h3⟩:=h
 refine ⟨ds,h1,h2,fun r hr => ?_⟩
 obtain ⟨k1,k2,k3,k4,k5⟩:=h3 r hr
 exact ⟨k1,Nat.lt_of_lt_of_le k2 hl.size,fun h=>k3 (hl.oldOwn r k2 h),fun h=>(hl.oldF r k2 h).elim k4 k3,(hl.same r k2 k3).trans k5⟩
theorem Aaa.cut {D0:List Deferred} {B g:Nat} {c:Ctx} {w:World} {D:List Deferred} (h:Aaa D0 B c w D):Aaa D0 B (c.cut g) w D:=by
 obtain ⟨ds,h1,h2,h3⟩:=h
 refine ⟨ds,h1,h2,fun r hr => ?_⟩
 obtain ⟨k1,k2,k3,k4,k5⟩:=h3 r hr
 exact ⟨k1,k2,fun ⟨i,o,off,h1,h2,h3⟩=>k3 ⟨i,o,off,(Ctx.cut_get h1).2,h2,h3⟩,k4,k5⟩
theorem Adg (w:World) (r:Nat) (o:Obj):(w.putObj r o).os=w.os∧(w.putObj r o).tape=w.tape∧(w.putObj r o).output=w.output∧(w.putObj r o).heap.size=w.heap.size:=⟨rfl,rfl,rfl,by simp [World.putObj]⟩
theorem AlX {w:World} {b:Nat} {r:Loop} (h:w.heap[b]?=some (.loop r)):w.shape? b=none:=by simp [World.shape?,h]
theorem Sim.loopTurn {β:Nat→Nat→Option (Nat×Nat)} {H:List Ob} {F:Nat→Prop} {w:World} (hs:Sim ⟨β,H,F⟩ w) {id N:Nat} {fn:FuncId} {e:Env} {ps:List Nat} {ca cb:Code} {st st':LoopState} {pe pe':Option Code}
  (ho:H[id]?=some (.lp st pe fn N e ps ca cb)):∃ (b:Nat) (r:Loop),β id 0=some (b,0)∧w.heap[b]?=some (.loop r)∧r.state=st∧r.pending=pe∧r.fn=fn∧r.tmps.size=N∧r.params=ps.toArray∧r.assign=ca∧r.body=cb∧(∀ s,Rep ⟨β,H,F⟩ w (get e s) (r.tmps.getD s undef)) ∧
   Sim ⟨β,H.set id (.lp st' pe' fn N e ps ca cb),F⟩ (w.putObj b (.loop { r with state:=st',pending:=pe' })) ∧
   AQ ⟨β,H,F⟩ w ⟨β,H.set id (.lp st' pe' fn N e ps ca cb),F⟩ (w.putObj b (.loop { r with state:=st',pending:=pe' })):=by
 obtain ⟨b,tmps,D,h1,h2,h3,h4⟩:=hs.ob id _ ho
 have hlt:b<w.heap.size:=(Array.getElem?_eq_some_iff.1 h2).1
 have hid:id<H.length:=(List.getElem?_eq_some_iff.1 ho).1
 have hput:=World.putObj_heap_same (w:=w) (o := .loop { state:=st',pending:=pe',fn:=fn,tmps:=tmps,params:=ps.toArray,assign:=ca,body:=cb,defers:=D }) hlt
 obtain ⟨k1,k2⟩:=hs.turn (β':=β) (w':=w.putObj b (.loop { state:=st',pending:=pe',fn:=fn,tmps:=tmps,params:=ps.toArray,assign:=ca,body:=cb,defers:=D })) ho (o' := .lp st' pe' fn N e ps ca cb) rfl rfl (Nat.le_refl _) (fun _ _ _=>rfl) (fun b' off hb => .inl ⟨off,hb⟩) rfl rfl rfl
  (by rw [(Adg _ _ _).2.2.2]; exact Nat.le_refl _) (fun b' hb'=>by
   by_cases hbb:b'=b
   ·subst hbb; rw [AlX h2,AlX hput]
   ·exact Dy (World.putObj_heap_other hbb)) (fun b' hb' hne=>World.putObj_heap_other (fun e=>hne 0 (by subst e; exact h1)))
  (fun hm=>⟨b,tmps,D,h1,hput,h3,fun s=>Rep.mono hm (h4 s)⟩)
 exact ⟨b,{ state:=st,pending:=pe,fn:=fn,tmps:=tmps,params:=ps.toArray,assign:=ca,body:=cb,defers:=D },h1,h2,rfl,rfl,rfl,h3,rfl,rfl,rfl,h4,k1,k2⟩
theorem AkK {N nn:Nat} {f0:Operand} {ps0:Array Tmp} {ca cb:Code} {Q:VEx→Env→List Ob→Prop} {e:Env} {H:List Ob} {β:Nat→Nat→Option (Nat×Nat)} {F:Nat→Prop} {w:World} {a:Act} {QQ:Exit→Act→World→Prop} {B:Nat} {D D0:List Deferred}
  (hs:Sim ⟨β,H,F⟩ w) (hf:Fr N D ⟨β,H,F⟩ w e a) (hm:Aaa D0 B ⟨β,H,F⟩ w D) (hB:B≤w.heap.size) {g:FuncId} {us vs:List Value} {first caps:List TV} (hv:a.eval f0 = .func (.func g) us.toArray vs.toArray) (hgo:AiM P g=true) (hfi:BQ ⟨β,H,F⟩ w first us) (hc:BQ ⟨β,H,F⟩ w caps vs)
  (h:∀ fn,Au P g (first++[.yl H.length 0]++caps) (H++[.lp .ready none fn N e ps0.toList ca cb]) (AqB Q e H.length))
  (hk:∀ x e' H' β' F' w' a' D',Q x e' H'→Sim ⟨β',H',F'⟩ w'→Fr N D' ⟨β',H',F'⟩ w' e' a'→Aaa D0 B ⟨β',H',F'⟩ w' D'→AQ ⟨β,H,F⟩ w ⟨β',H',F'⟩ w'→QQ x.ex a' w'):(Code.rangeFunc f0 ps0 ca cb).wpIn (fz none) nn P QQ a w:=by
 refine wpIn_rangeFunc ?_
 intro fn hfn
 obtain ⟨rec,hrec⟩:∃ rec:Loop,rec={ state := .ready,pending:=none,fn:=fn,tmps:=a.tmps,params:=ps0,assign:=ca,body:=cb,defers:=w.heap.size }:=⟨_,rfl⟩
 obtain ⟨W1,hW1⟩:∃ W1,(w.alloc (.deferred (some []))).alloc (.loop rec)=W1:=⟨_,rfl⟩
 have hL1:W1.heap[w.heap.size+1]?=some (.loop rec):=by
  rw [←hW1]; have:=World.alloc_heap_new (w.alloc (.deferred (some []))) (.loop rec); rwa [World.size_alloc] at this
 have hK1:W1.heap[w.heap.size]?=some (.deferred (some [])):=by
  rw [←hW1]; exact (Below.heap_alloc _ _ _ (by simp)).trans (World.alloc_heap_new w _)
 have hsz:W1.heap.size=w.heap.size+2:=by rw [←hW1]; simp
 have hold:∀ b,b<w.heap.size→W1.heap[b]?=w.heap[b]?:=fun b hb=>by
  rw [←hW1]; exact (Below.heap_alloc _ _ _ (by simp; omega)).trans (Below.heap_alloc _ _ _ hb)
 obtain ⟨k1,k2⟩:=hs.new (w':=W1) (.lp .ready none fn N e ps0.toList ca cb) rfl (some (w.heap.size+1,0)) (fun b off h=>by simp at h; omega) (by rw [←hW1]; rfl) (by rw [←hW1]; rfl) (by rw [←hW1]; rfl) (by omega) hold
  (fun hmo=>⟨w.heap.size+1,a.tmps,w.heap.size,AX,by rw [hL1,hrec],hf.size,fun s=>Rep.mono hmo (hf.env.1 s)⟩)
 have hmo:=k2.mono hs
 have hown1:∀ b,Ctx.own ⟨upd β H.length 0 (some (w.heap.size+1,0)),H++[.lp .ready none fn N e ps0.toList ca cb],F⟩ b→b≠w.heap.size:=by
  rintro b ⟨i,o,off,h1,h2,h3⟩ rfl
  by_cases hi:i<H.length
  ·rw [List.getElem?_append_left hi] at h1
   have h3':β i o.ver=some (w.heap.size,off):=by
    have h3:upd β H.length 0 (some (w.heap.size+1,0)) i o.ver=some (w.heap.size,off):=h3
    rw [Agw (fun h=>by omega)] at h3; exact h3
   have:=hs.own_lt ⟨i,o,off,h1,h2,h3'⟩
   omega
  ·have hil:i=H.length:=by
    have:=(List.getElem?_eq_some_iff.1 h1).1
    simp at this; omega
   subst hil
   simp at h1
   subst h1
   have h3:upd β H.length 0 (some (w.heap.size+1,0)) H.length 0=some (w.heap.size,off):=h3
   rw [AX] at h3
   simp at h3
 refine ⟨w.heap.size+1,[{ target := .collected w.heap.size,args := #[] }],W1,{ target := .fn (.func g) vs.toArray,args:=us.toArray ++ #[.func (.yield (w.heap.size+1)) #[] #[]] },W1,g,us.toArray ++ #[.func (.yield (w.heap.size+1)) #[] #[]]++vs.toArray,W1,?_,?_,?_,?_,?_,?_⟩
 ·rw [←hW1,hrec]; exact run_enterLoop_outer _ _ _ _ _
 ·simp only [resolve,hv]
  simp [go_sem]
 ·intro f' hf'; trivial
 ·simp only [invoke,RX hgo]
 ·intro h; simp [fz,Fence.wide] at h
 ·refine (callsIn_wide (n:=nn - 1)).2 ?_
  have hargs:BQ ⟨upd β H.length 0 (some (w.heap.size+1,0)),H++[.lp .ready none fn N e ps0.toList ca cb],F⟩ W1 (first++[.yl H.length 0]++caps) (us++[.func (.yield (w.heap.size+1)) #[] #[]]++vs):=by
   refine BQ.append (BQ.append (BQ.mono hmo hfi) (BQ.cons.2 ⟨_,[],rfl,.inr (.inr ⟨[.func (.yield (w.heap.size+1)) #[] #[]],?_,rfl⟩),by rw [BQ]⟩)) (BQ.mono hmo hc)
   rw [Ak]
   exact ⟨NP _ _ _ _ _ (Nat.le_refl _),_,_,AX,rfl⟩
  have hcall:=h fn _ _ W1 _ k1 hargs
  rw [show (us++[Value.func (.yield (w.heap.size+1)) #[] #[]]++vs).toArray=us.toArray ++ #[.func (.yield (w.heap.size+1)) #[] #[]]++vs.toArray from by simp] at hcall
  refine hcall.mono ?_
  rintro _ w3 ⟨v,x,β',H',F',rfl,hR,hs',hl',hx⟩
  have hmk:Aaa D0 B ⟨β',H',F'⟩ w3 ({ target := .collected w.heap.size,args := #[] }::D):=by
   have h1:Aaa D0 B ⟨upd β H.length 0 (some (w.heap.size+1,0)),H++[.lp .ready none fn N e ps0.toList ca cb],F⟩ W1 ({ target := .collected w.heap.size,args := #[] }::D):=by
    obtain ⟨ds,d1,d2,d3⟩:=hm.later k2
    refine ⟨w.heap.size::ds,by rw [d1]; rfl,List.nodup_cons.2 ⟨fun hin => ?_,d2⟩,fun r hr => ?_⟩
    ·obtain ⟨ds',e1,e2,e3⟩:=hm
     have:ds'=ds:=by
      have:ds'.map (fun r=>({ target := .collected r,args := #[] }:Deferred))=ds.map (fun r=>{ target := .collected r,args := #[] }):=List.append_cancel_right (e1.symm.trans d1)
      exact (List.map_inj_right (fun a b h=>by simpa using h)).1 this
     rw [←this] at hin
     have:=(e3 _ hin).2.1
     omega
    ·rcases List.mem_cons.1 hr with rfl | hr
     ·exact ⟨hB,by omega,fun ho=>hown1 _ ho rfl,fun hF=>absurd (hs.lt _ hF) (by omega),hK1⟩
     ·exact d3 r hr
   exact h1.later hl'
  have fin:∀ (st:LoopState) (pe:Option Code) (fn':FuncId) (N':Nat) (e1:Env) (ps1:List Nat) (c1 c2:Code),st ≠ .busy→H'[H.length]?=some (.lp st pe fn' N' e1 ps1 c1 c2) →
    ∃ w4,(Instr.endLoop (w.heap.size+1)).run P w3 = .ok pe w4∧Sim ⟨β',H'.set H.length (.lp .exhausted pe fn' N' e1 ps1 c1 c2),F'⟩ w4∧AQ ⟨β',H',F'⟩ w3 ⟨β',H'.set H.length (.lp .exhausted pe fn' N' e1 ps1 c1 c2),F'⟩ w4:=by
   intro st pe fn' N' e1 ps1 c1 c2 hst hob
   obtain ⟨b,r,r1,r2,r3,r4,_,_,_,_,_,_,r5,r6⟩:=hs'.loopTurn (st' := .exhausted) (pe':=pe) hob
   have hβ:β' H.length 0=some (w.heap.size+1,0):=((hl'.has H.length 0 (NP _ _ _ _ _ (Nat.le_refl _))).2).trans AX
   rw [hβ] at r1
   obtain ⟨rfl,_⟩:w.heap.size+1=b∧True:=by simpa using r1
   subst r4
   exact ⟨_,run_endLoop (P:=P) r2 (by rw [r3]; exact hst),r5,r6⟩
  have hfr:∀ {c:Ctx} {w4:World},AQ ⟨β,H,F⟩ w c w4→QX c.F w4→Fr N ({ target := .collected w.heap.size,args := #[] }::D) c w4 e { a with defers:={ target := .collected w.heap.size,args := #[] }::a.defers }:=fun {c w4} hl hgl =>
   ⟨⟨fun s=>Rep.mono (hl.mono hs) (hf.env.1 s),hgl⟩,hf.size,by rw [hf.defers]⟩
  unfold AqB at hR
  simp only [rangePost]
  split at hR
  ·rename_i hob
   obtain ⟨w4,e1,e2,e3⟩:=fin .ready none _ _ _ _ _ _ (by simp) hob
   exact ⟨none,w4,e1,hk .nor _ _ _ _ _ _ _ hR e2 (hfr ((k2.trans hl').trans e3) e2.glob) (hmk.later e3) ((k2.trans hl').trans e3)⟩
  ·rename_i hob
   obtain ⟨w4,e1,e2,e3⟩:=fin .done (some .ret) _ _ _ _ _ _ (by simp) hob
   exact ⟨some .ret,w4,e1,wpIn_ret (hk .ret _ _ _ _ _ _ _ hR e2 (hfr ((k2.trans hl').trans e3) e2.glob) (hmk.later e3) ((k2.trans hl').trans e3))⟩
  ·rename_i i _ _ _ _ _ _ hob
   obtain ⟨w4,e1,e2,e3⟩:=fin .done (some (.exit _)) _ _ _ _ _ _ (by simp) hob
   exact ⟨some (.exit _),w4,e1,wpIn_exit (hk (.exit _) _ _ _ _ _ _ _ hR e2 (hfr ((k2.trans hl').trans e3) e2.glob) (hmk.later e3) ((k2.trans hl').trans e3))⟩
  ·exact hR.elim
theorem Og {b:Frame} {a:Act} {k:List Item} {cs:List Frame} {w:World} {c:Code}:step P (lone (b.atR a (.code (.scope c)::k)) cs w) = .next (lone (b.atR a (.code c :: .inScope c::k)) cs w) :=
 step_lone_go (by simp [stepG,stepG.exec,Frame.atR])
theorem Ali {b:Frame} {a:Act} {k:List Item} {cs:List Frame} {w:World} {c:Code}:step P (lone (b.atR a (.inScope c::k)) cs w) = .next (lone (b.atR a k) cs w) :=
 step_lone_go (by simp [stepG,stepG.exec,Frame.atR])
theorem Ao8 {F:Fence} {n:Nat} {Q:Exit→Act→World→Prop} {a:Act} {w:World} {c:Code} (h:c.wpIn F n P (Exit.noGoto Q) a w):(Code.scope c).wpIn F n P Q a w:=by
 intro b k cs hro hb hr
 have h0:(lone (b.atR a (.code (.scope c)::k)) cs w).fenced P F:=fenced_calm hb hr rfl
 obtain ⟨e,a₁,w₁,hq,harr⟩:=h b (.inScope c::k) cs hro hb hr
 cases e with
 | normal=>exact ⟨.normal,a₁,w₁,hq,.head h0 Og (StepsIn.trans harr (.one (fenced_calm hb hr rfl) Ali))⟩
 | exit id' =>
  have hx:exitTo id' (.inScope c::k)=exitTo id' k:=by simp [exitTo]
  exact ⟨.exit id',a₁,w₁,hq,fun k' hk => .head h0 Og (harr.1 k' (by rw [hx]; exact hk)),fun hr' hk=>let ⟨k₁,h1,h2⟩:=harr.2 hr' (by rw [hx]; exact hk); ⟨k₁,h1,.head h0 Og h2⟩⟩
 | goto l=>exact hq.elim
 | ret=>exact ⟨_,a₁,w₁,hq,.of_steps (.one h0 Og) harr⟩
 | panic ch=>exact ⟨_,a₁,w₁,hq,.of_steps (.one h0 Og) harr⟩
 | outgrown=>exact ⟨_,a₁,w₁,hq,.of_steps (.one h0 Og) harr⟩
theorem AsR {N:Nat} {ro:Option Nat} {nn:Nat}:∀ (vc:Af) {code:Code},(ro=none∨AkP vc=true)→trC P N code=some (er vc)→∀ {Q:VEx→Env→List Ob→Prop} {e:Env} {H:List Ob} {β:Nat→Nat→Option (Nat×Nat)} {F:Nat→Prop} {w:World} {a:Act} {QQ:Exit→Act→World→Prop} {B:Nat} {D D0:List Deferred},vwp P vc Q e H→Sim ⟨β,H,F⟩ w→Fr N D ⟨β,H,F⟩ w e a→Aaa D0 B ⟨β,H,F⟩ w D→B≤w.heap.size →
  (∀ x e' H' β' F' w' a' D',Q x e' H'→Sim ⟨β',H',F'⟩ w'→Fr N D' ⟨β',H',F'⟩ w' e' a'→Aaa D0 B ⟨β',H',F'⟩ w' D'→AQ ⟨β,H,F⟩ w ⟨β',H',F'⟩ w'→QQ x.ex a' w')→code.wpIn (fz ro) nn P QQ a w:=by
 intro vc
 have inv:∀ {code:Code} {v:Af},trC P N code=some v→True:=fun _=>trivial
 induction vc with
 | ops l kp =>
  intro code hrf ht Q e H β F w a QQ B D D0 h hs hf hm hB hk
  rw [er] at ht
  cases code with
  | region id ops d =>
   cases d with
   | true=>exact (NJ ht (by simp) (by simp) (by simp)).elim
   | false =>
    obtain ⟨l',hl,e9⟩:=(BfI ht).resolve_right (by simp)
    simp only [Af.ops.injEq,and_true] at e9
    subst e9
    rw [vwp] at h
    exact wpIn_region_list (AlO hl h hs hf fun e' H' β' F' w' a' k1 k2 k3 k4=>hk .nor _ _ _ _ _ _ _ k1 k2 (k3.forget kp) (hm.later k4) k4)
  | seq x y=>simp only [trC] at ht; split at ht<;>simp at ht
  | cond c x y=>simp only [trC] at ht; split at ht<;>simp at ht
  | rangeFunc f ps x y=>simp only [trC] at ht; split at ht<;>(try split at ht)<;>simp at ht
  | _=>simp [trC] at ht
 | opsZ l zs r kp =>
  intro code hrf ht Q e H β F w a QQ B D D0 h hs hf hm hB hk
  rw [er] at ht
  cases code with
  | region id ops d =>
   cases d with
   | true=>exact (NJ ht (by simp) (by simp) (by simp)).elim
   | false =>
    obtain ⟨l',hl,e9⟩:=(BfI ht).resolve_right (by simp)
    simp only [Af.ops.injEq,and_true] at e9
    subst e9
    rw [vwp] at h
    exact wpIn_region_list (Aqe hl h hs hf fun e' H' β' F' w' a' k1 k2 k3 k4=>hk .nor _ _ _ _ _ _ _ k1 k2 (k3.forget kp) (hm.later k4) k4)
  | seq x y=>simp only [trC] at ht; split at ht<;>simp at ht
  | cond c x y=>simp only [trC] at ht; split at ht<;>simp at ht
  | rangeFunc f ps x y=>simp only [trC] at ht; split at ht<;>(try split at ht)<;>simp at ht
  | _=>simp [trC] at ht
 | pops l kp =>
  intro code hrf ht Q e H β F w a QQ B D D0 h hs hf hm hB hk
  rw [er] at ht
  cases code with
  | region id ops d =>
   cases d with
   | true=>exact (NJ ht (by simp) (by simp) (by simp)).elim
   | false =>
    obtain ⟨l',hl,e9⟩:=(BfI ht).resolve_right (by simp)
    simp only [Af.ops.injEq,and_true] at e9
    subst e9
    rw [vwp] at h
    exact wpIn_region_list (Apl hl h hs hf (fun e' H' β' F' w' a' k1 k2 k3 k4=>hk .nor _ _ _ _ _ _ _ k1 k2 (k3.forget kp) (hm.later k4) k4) fun u H' β' F' w' a' k1 k2 k3 k4=>hk (.pan u) _ _ _ _ _ _ _ k1 k2 k3 (hm.later k4) k4)
  | seq x y=>simp only [trC] at ht; split at ht<;>simp at ht
  | cond c x y=>simp only [trC] at ht; split at ht<;>simp at ht
  | rangeFunc f ps x y=>simp only [trC] at ht; split at ht<;>(try split at ht)<;>simp at ht
  | _=>simp [trC] at ht
 | draw n l kp =>
  intro code hrf ht Q e H β F w a QQ B D D0 h hs hf hm hB hk
  rw [er] at ht
  cases code with
  | region id ops d =>
   cases d with
   | false=>exact (NL ht (by simp) (by simp)).elim
   | true =>
    obtain ⟨bz,hsp⟩:=Z8 ((Bgg ht).resolve_right (by simp))
    obtain ⟨n',l',e9,hmo,hh⟩:=hsp.resolve_right (by simp)
    simp only [Af.draw.injEq,and_true] at e9
    obtain ⟨rfl,rfl⟩:=e9
    rw [vwp] at h
    rcases hh with ⟨hl,hck⟩ | ⟨π,hp,hl,hck⟩
    ·exact AlQ WOk.vop hmo hl hck h hs hf ⟨fun e' H' β' F' w' a' k1 k2 k3 k4=>hk .nor _ _ _ _ _ _ _ k1 k2 (k3.forget kp) (hm.later k4) k4,fun _ _ _ _ _ _ (h:False)=>h.elim⟩
    ·exact AfK WOk.vop hmo hp hl hck h hs hf ⟨fun e' H' β' F' w' a' k1 k2 k3 k4=>hk .nor _ _ _ _ _ _ _ k1 k2 (k3.forget kp) (hm.later k4) k4,fun _ _ _ _ _ _ (h:False)=>h.elim⟩
  | seq x y=>simp only [trC] at ht; split at ht<;>simp at ht
  | cond c x y=>simp only [trC] at ht; split at ht<;>simp at ht
  | rangeFunc f ps x y=>simp only [trC] at ht; split at ht<;>(try split at ht)<;>simp at ht
  | _=>simp [trC] at ht
 | pdraw n l kp =>
  intro code hrf ht Q e H β F w a QQ B D D0 h hs hf hm hB hk
  rw [er] at ht
  cases code with
  | region id ops d =>
   cases d with
   | false=>exact (NL ht (by simp) (by simp)).elim
   | true =>
    obtain ⟨bz,hsp⟩:=Z8 ((Bgg ht).resolve_right (by simp))
    obtain ⟨n',l',e9,hmo,hh⟩:=hsp.resolve_right (by simp)
    simp only [Af.draw.injEq,and_true] at e9
    obtain ⟨rfl,rfl⟩:=e9
    rw [vwp] at h
    rcases hh with ⟨hl,hck⟩ | ⟨π,hp,hl,hck⟩
    ·exact AlQ WOk.pvop hmo hl hck h hs hf ⟨fun e' H' β' F' w' a' k1 k2 k3 k4=>hk .nor _ _ _ _ _ _ _ k1 k2 (k3.forget kp) (hm.later k4) k4,fun u H' β' F' w' a' k1 k2 k3 k4=>hk (.pan u) _ _ _ _ _ _ _ k1 k2 k3 (hm.later k4) k4⟩
    ·exact AfK WOk.pvop hmo hp hl hck h hs hf ⟨fun e' H' β' F' w' a' k1 k2 k3 k4=>hk .nor _ _ _ _ _ _ _ k1 k2 (k3.forget kp) (hm.later k4) k4,fun u H' β' F' w' a' k1 k2 k3 k4=>hk (.pan u) _ _ _ _ _ _ _ k1 k2 k3 (hm.later k4) k4⟩
  | seq x y=>simp only [trC] at ht; split at ht<;>simp at ht
  | cond c x y=>simp only [trC] at ht; split at ht<;>simp at ht
  | rangeFunc f ps x y=>simp only [trC] at ht; split at ht<;>(try split at ht)<;>simp at ht
  | _=>simp [trC] at ht
 | sdraw n l kp =>
  intro code hrf ht Q e H β F w a QQ B D D0 h hs hf hm hB hk
  rw [er] at ht
  cases code with
  | region id ops d =>
   cases d with
   | false=>exact (NL ht (by simp) (by simp)).elim
   | true =>
    obtain ⟨bz,hsp⟩:=Z8 ((Bgg ht).resolve_right (by simp))
    obtain ⟨n',l',e9,hmo,π,hp,hl,hck⟩:=hsp.resolve_left (by simp)
    simp only [Af.sdraw.injEq,and_true] at e9
    obtain ⟨rfl,rfl⟩:=e9
    rw [vwp] at h
    exact AfK WOk.pvopS hmo hp hl hck h hs hf ⟨fun e' H' β' F' w' a' k1 k2 k3 k4=>hk .nor _ _ _ _ _ _ _ k1 k2 (k3.forget kp) (hm.later k4) k4,fun u H' β' F' w' a' k1 k2 k3 k4=>hk (.pan u) _ _ _ _ _ _ _ k1 k2 k3 (hm.later k4) k4⟩
  | seq x y=>simp only [trC] at ht; split at ht<;>simp at ht
  | cond c x y=>simp only [trC] at ht; split at ht<;>simp at ht
  | rangeFunc f ps x y=>simp only [trC] at ht; split at ht<;>(try split at ht)<;>simp at ht
  | _=>simp [trC] at ht
 | skip =>
  intro code hrf ht Q e H β F w a QQ B D D0 h hs hf hm hB hk
  rw [er] at ht
  cases code with
  | skip=>exact wpIn_skip (hk .nor _ _ _ _ _ _ _ h hs hf hm (AQ.refl _ _))
  | label l=>exact wpIn_label (hk .nor _ _ _ _ _ _ _ h hs hf hm (AQ.refl _ _))
  | region id ops d =>
   cases d
   ·exact (NL ht (by simp) (by simp)).elim
   ·exact (NJ ht (by simp) (by simp) (by simp)).elim
  | seq x y=>simp only [trC] at ht; split at ht<;>simp at ht
  | cond c x y=>simp only [trC] at ht; split at ht<;>simp at ht
  | rangeFunc f ps x y=>simp only [trC] at ht; split at ht<;>(try split at ht)<;>simp at ht
  | _=>simp [trC] at ht
 | seq x y ihx ihy =>
  intro code hrf ht Q e H β F w a QQ B D D0 h hs hf hm hB hk
  rw [er] at ht
  cases code with
  | region id ops d =>
   cases d
   ·exact (NL ht (by simp) (by simp)).elim
   ·exact (NJ ht (by simp) (by simp) (by simp)).elim
  | seq cx cy =>
   simp only [trC] at ht
   split at ht
   ·rename_i vx vy hx hy
    simp only [Option.some.injEq,Af.seq.injEq] at ht
    obtain ⟨rfl,rfl⟩:=ht
    rw [vwp] at h
    have hrx:ro=none∨AkP x=true:=hrf.imp id fun h=>by simp only [AkP,Bool.and_eq_true] at h; exact h.1
    have hry:ro=none∨AkP y=true:=hrf.imp id fun h=>by simp only [AkP,Bool.and_eq_true] at h; exact h.2
    refine wpIn_seq (ihx hrx hx h hs hf hm hB ?_)
    intro x e' H' β' F' w' a' D' k1 k2 k3 km k4
    cases x with
    | nor=>exact ihy hry hy k1 k2 k3 km (Nat.le_trans hB k4.size) fun x e2 H2 β2 F2 w2 a2 D2 m1 m2 m3 mm m4=>hk _ _ _ _ _ _ _ _ m1 m2 m3 mm (k4.trans m4)
    | exit i=>exact hk (.exit i) _ _ _ _ _ _ _ k1 k2 k3 km k4
    | ret=>exact hk .ret _ _ _ _ _ _ _ k1 k2 k3 km k4
    | pan u=>exact hk (.pan u) _ _ _ _ _ _ _ k1 k2 k3 km k4
   ·simp at ht
  | cond c x y=>simp only [trC] at ht; split at ht<;>simp at ht
  | rangeFunc f ps x y=>simp only [trC] at ht; split at ht<;>(try split at ht)<;>simp at ht
  | _=>simp [trC] at ht
 | cond c x y ihx ihy =>
  intro code hrf ht Q e H β F w a QQ B D D0 h hs hf hm hB hk
  rw [er] at ht
  cases code with
  | region id ops d =>
   cases d
   ·exact (NL ht (by simp) (by simp)).elim
   ·exact (NJ ht (by simp) (by simp) (by simp)).elim
  | seq x y=>simp only [trC] at ht; split at ht<;>simp at ht
  | cond cc cx cy =>
   simp only [trC] at ht
   split at ht
   ·rename_i vx vy hx hy
    simp only [Option.some.injEq,Af.cond.injEq] at ht
    obtain ⟨rfl,rfl,rfl⟩:=ht
    rw [vwp] at h
    split at h
    ·rename_i t hc
     have hrx:ro=none∨AkP x=true:=hrf.imp id fun h=>by simp only [AkP,Bool.and_eq_true] at h; exact h.1
     have hry:ro=none∨AkP y=true:=hrf.imp id fun h=>by simp only [AkP,Bool.and_eq_true] at h; exact h.2
     refine wpIn_cond_split (hf.env.val hc) (fun htt => ?_) (fun htf => ?_)
     ·rw [if_pos htt] at h; exact ihx hrx hx h hs hf hm hB hk
     ·rw [if_neg (by rw [htf]; simp)] at h; exact ihy hry hy h hs hf hm hB hk
    ·exact h.elim
   ·simp at ht
  | rangeFunc f ps x y=>simp only [trC] at ht; split at ht<;>(try split at ht)<;>simp at ht
  | _=>simp [trC] at ht
 | block id x ih =>
  intro code hrf ht Q e H β F w a QQ B D D0 h hs hf hm hB hk
  rw [er] at ht
  cases code with
  | region id ops d =>
   cases d
   ·exact (NL ht (by simp) (by simp)).elim
   ·exact (NJ ht (by simp) (by simp) (by simp)).elim
  | seq x y=>simp only [trC] at ht; split at ht<;>simp at ht
  | cond c x y=>simp only [trC] at ht; split at ht<;>simp at ht
  | rangeFunc f ps x y=>simp only [trC] at ht; split at ht<;>(try split at ht)<;>simp at ht
  | block id' c =>
   simp only [trC,Option.map_eq_some_iff,Af.block.injEq] at ht
   obtain ⟨vx,hx,rfl,rfl⟩:=ht
   rw [vwp] at h
   refine wpIn_block (ih hrf hx h hs hf hm hB ?_)
   intro x e' H' β' F' w' a' D' k1 k2 k3 km k4
   cases x with
   | nor=>exact hk .nor _ _ _ _ _ _ _ k1 k2 k3 km k4
   | exit i =>
    show Exit.inBlock _ QQ (.exit i) a' w'
    simp only [Exit.inBlock]
    simp only at k1
    split at k1
    ·rename_i hi; rw [if_pos hi]; exact hk .nor _ _ _ _ _ _ _ k1 k2 k3 km k4
    ·rename_i hi; rw [if_neg hi]; exact hk (.exit i) _ _ _ _ _ _ _ k1 k2 k3 km k4
   | ret=>exact hk .ret _ _ _ _ _ _ _ k1 k2 k3 km k4
   | pan u=>exact hk (.pan u) _ _ _ _ _ _ _ k1 k2 k3 km k4
  | _=>simp [trC] at ht
 | loop lv x ih =>
  intro code hrf ht Q e H β F w a QQ B D D0 h hs hf hm hB hk
  rw [er] at ht
  cases code with
  | region id ops d =>
   cases d
   ·exact (NL ht (by simp) (by simp)).elim
   ·exact (NJ ht (by simp) (by simp) (by simp)).elim
  | seq x y=>simp only [trC] at ht; split at ht<;>simp at ht
  | cond c x y=>simp only [trC] at ht; split at ht<;>simp at ht
  | rangeFunc f ps x y=>simp only [trC] at ht; split at ht<;>(try split at ht)<;>simp at ht
  | loop c =>
   simp only [trC,Option.map_eq_some_iff,Af.loop.injEq] at ht
   obtain ⟨vx,hx,_,rfl⟩:=ht
   rw [vwp] at h
   obtain ⟨I,n,h0,hstep⟩:=h
   refine wpIn_loop_ghost (fun n a' w'=>∃ e' H' β' F' D',I n e' H'∧Sim ⟨β',H',F'⟩ w'∧Fr N D' ⟨β',H',F'⟩ w' e' a'∧Aaa D0 B ⟨β',H',F'⟩ w' D'∧AQ ⟨β,H,F⟩ w ⟨β',H',F'⟩ w') n ⟨_,_,_,_,_,h0,hs,hf.forget lv,hm,AQ.refl _ _⟩ ?_
   rintro n a' w' ⟨e',H',β',F',D',k1,k2,k3,km,k4⟩
   refine ih hrf hx (hstep n e' H' k1) k2 k3 km (Nat.le_trans hB k4.size) ?_
   intro x e2 H2 β2 F2 w2 a2 D2 m1 m2 m3 mm m4
   cases x with
   | nor =>
    obtain ⟨m,g,hmn,⟨hg,hb⟩,hI⟩:=m1
    have hf3:=m3.forget lv
    rcases hb with hle | ⟨hbe,hbh⟩
    ·rw [List.take_of_length_le hle] at hI
     exact ⟨m,hmn,_,_,_,_,_,hI,m2,hf3,mm,k4.trans m4⟩
    exact ⟨m,hmn,_,_,_,_,_,hI,m2.cut hbh,⟨⟨fun s=>Rep.cut (Ais hbe s) (hf3.env.1 s),hf3.env.2⟩,hf3.size,hf3.defers⟩,mm.cut,(k4.trans m4).cut hg⟩
   | exit i=>exact hk (.exit i) _ _ _ _ _ _ _ m1 m2 m3 mm (k4.trans m4)
   | ret=>exact hk .ret _ _ _ _ _ _ _ m1 m2 m3 mm (k4.trans m4)
   | pan u=>exact hk (.pan u) _ _ _ _ _ _ _ m1 m2 m3 mm (k4.trans m4)
  | _=>simp [trC] at ht
 | exit id =>
  intro code hrf ht Q e H β F w a QQ B D D0 h hs hf hm hB hk
  rw [er] at ht
  cases code with
  | region id ops d =>
   cases d
   ·exact (NL ht (by simp) (by simp)).elim
   ·exact (NJ ht (by simp) (by simp) (by simp)).elim
  | seq x y=>simp only [trC] at ht; split at ht<;>simp at ht
  | cond c x y=>simp only [trC] at ht; split at ht<;>simp at ht
  | rangeFunc f ps x y=>simp only [trC] at ht; split at ht<;>(try split at ht)<;>simp at ht
  | exit id' =>
   simp only [trC,Option.some.injEq,Af.exit.injEq] at ht; subst ht
   exact wpIn_exit (hk (.exit _) _ _ _ _ _ _ _ h hs hf hm (AQ.refl _ _))
  | _=>simp [trC] at ht
 | ret =>
  intro code hrf ht Q e H β F w a QQ B D D0 h hs hf hm hB hk
  rw [er] at ht
  cases code with
  | region id ops d =>
   cases d
   ·exact (NL ht (by simp) (by simp)).elim
   ·exact (NJ ht (by simp) (by simp) (by simp)).elim
  | seq x y=>simp only [trC] at ht; split at ht<;>simp at ht
  | cond c x y=>simp only [trC] at ht; split at ht<;>simp at ht
  | rangeFunc f ps x y=>simp only [trC] at ht; split at ht<;>(try split at ht)<;>simp at ht
  | ret=>exact wpIn_ret (hk .ret _ _ _ _ _ _ _ h hs hf hm (AQ.refl _ _))
  | _=>simp [trC] at ht
 | dead =>
  intro code hrf ht Q e H β F w a QQ B D D0 h
  rw [vwp] at h; exact h.elim
 | scope x ih =>
  intro code hrf ht Q e H β F w a QQ B D D0 h hs hf hm hB hk
  rw [er] at ht
  cases code with
  | region id ops d =>
   cases d
   ·exact (NL ht (by simp) (by simp)).elim
   ·exact (NJ ht (by simp) (by simp) (by simp)).elim
  | seq x y=>simp only [trC] at ht; split at ht<;>simp at ht
  | cond c x y=>simp only [trC] at ht; split at ht<;>simp at ht
  | rangeFunc f ps x y=>simp only [trC] at ht; split at ht<;>(try split at ht)<;>simp at ht
  | scope c =>
   simp only [trC,Option.map_eq_some_iff,Af.scope.injEq] at ht
   obtain ⟨vx,hx,rfl⟩:=ht
   rw [vwp] at h
   refine Ao8 (ih hrf hx h hs hf hm hB ?_)
   intro x e' H' β' F' w' a' D' k1 k2 k3 km k4
   cases x with
   | nor=>exact hk .nor _ _ _ _ _ _ _ k1 k2 k3 km k4
   | exit i=>exact hk (.exit i) _ _ _ _ _ _ _ k1 k2 k3 km k4
   | ret=>exact hk .ret _ _ _ _ _ _ _ k1 k2 k3 km k4
   | pan u=>exact hk (.pan u) _ _ _ _ _ _ _ k1 k2 k3 km k4
  | _=>simp [trC] at ht
 | own s k x ih =>
  intro code hrf ht Q e H β F w a QQ B D D0 h hs hf hm hB hk
  rw [er] at ht
  rw [vwp] at h
  split at h
  ·rename_i hg
   obtain ⟨k1,k2,k3⟩:=hs.own k
   have hv:a.tmps.getD s undef = .slice none 0 0:=by
    have:=hf.env.1 s; rw [hg,Rep.val] at this; exact this
   refine ih hrf ht h k1 ⟨⟨fun s' => ?_,k1.glob⟩,hf.size,hf.defers⟩ (hm.later k2) hB fun x' e' H' β' F' w' a' D' m1 m2 m3 mm m4=>hk x' e' H' β' F' w' a' D' m1 m2 m3 mm (k2.trans m4)
   rw [DZ]
   by_cases hss:s=s'
   ·subst hss; rw [if_pos rfl,hv]; exact Rep.of1 k3 (by simp) (by simp)
   ·rw [if_neg hss]; exact Rep.mono (k2.mono hs) (hf.env.1 s')
  ·exact ih hrf ht h hs hf hm hB hk
 | ownB s p k x ih =>
  intro code hrf ht Q e H β F w a QQ B D D0 h hs hf hm hB hk
  rw [er] at ht
  rw [vwp] at h
  split at h
  ·rename_i id ver p0 hg
   split at h
   ·rename_i v y hid
    obtain ⟨rfl,h⟩:=h
    split at h
    ·rename_i hgp
     split at h
     ·rename_i x' hsp
      obtain ⟨k1,k2,k3⟩:=hs.own k
      have hlt:id<H.length:=(List.getElem?_eq_some_iff.1 hid).1
      have hid':(H++[Ob.obj 0 (.arr 0 k [])])[id]?=some (.obj v y):=by rw [List.getElem?_append_left hlt]; exact hid
      obtain ⟨q1,q2⟩:=k1.turn (o' := .obj v x') (w':=w) (β':=upd β H.length 0 none) hid' rfl rfl (Nat.le_refl _) (fun _ _ _=>rfl) (fun b off e => .inl ⟨off,e⟩) rfl rfl rfl (Nat.le_refl _) (fun _ _=>rfl) (fun _ _ _=>rfl) (fun hm=>by
       rcases k1.ob id _ hid' with ⟨r0,r1⟩ | ⟨b,off,pre,vs,post,t,fr,r0,r1,r2,r3,r4⟩
       ·refine .inl ⟨r0,?_⟩
        exact Ak.mono hm (Ag4 r1 hgp (fun m hm'=>by rw [Ak] at hm'; rw [hm'.1]; exact k3) hsp)
       ·refine .inr ⟨b,off,pre,vs,post,t,fr,r0,r1,r2,r3,?_⟩
        exact Ak.mono hm (Ag4 r4 hgp (fun m hm'=>by rw [Ak] at hm'; rw [hm'.1]; exact k3) hsp))
      rw [List.set_append_left _ _ hlt] at q1 q2
      exact ih hrf ht h q1 ⟨⟨fun s'=>Rep.mono (q2.mono k1) (Rep.mono (k2.mono hs) (hf.env.1 s')),q1.glob⟩,hf.size,hf.defers⟩ (hm.later (k2.trans q2)) hB fun x' e' H' β' F' w' a' D' m1 m2 m3 mm m4=>hk x' e' H' β' F' w' a' D' m1 m2 m3 mm ((k2.trans q2).trans m4)
     ·exact h.elim
    ·exact ih hrf ht h hs hf hm hB hk
   ·exact h.elim
  ·exact h.elim
 | frz s x ih =>
  intro code hrf ht Q e H β F w a QQ B D D0 h hs hf hm hB hk
  rw [er] at ht
  rw [vwp] at h
  split at h
  ·rename_i k id ver p off n cp hg
   split at h
   ·rename_i v y hid
    obtain ⟨rfl,h⟩:=h
    split at h
    ·rename_i cs hcs
     obtain ⟨k1,k2⟩:=hs.freeze hid rfl
     have hr:Rep ⟨β,H,F⟩ w (get e s) (a.tmps.getD s undef):=hf.env.1 s
     rw [hg] at hr
     have hr':Rep ⟨β,H.set id (.gone v),fun b=>F b∨∃ off,β id v=some (b,off)⟩ w (.sl k cs) (a.tmps.getD s undef):=by
      rcases hr with (hr | hr | ⟨us,hr,hr2⟩) | ⟨xs,vs,hr,_⟩
      ·cases hr
      ·cases hr
      ·exact .inl (.inr (.inr ⟨us,hs.give hid hcs hr,by rw [hr2]; rfl⟩))
      ·cases hr
     refine ih hrf ht h k1 ⟨⟨fun s' => ?_,k1.glob⟩,hf.size,hf.defers⟩ (hm.later k2) hB fun x' e' H' β' F' w' a' D' m1 m2 m3 mm m4=>hk x' e' H' β' F' w' a' D' m1 m2 m3 mm (k2.trans m4)
     rw [DZ]
     by_cases hss:s=s'
     ·subst hss; rw [if_pos rfl]; exact hr'
     ·rw [if_neg hss]; exact Rep.mono (k2.mono hs) (hf.env.1 s')
    ·exact h.elim
   ·exact h.elim
  ·exact h.elim
 | ownT s p t x ih =>
  intro code hrf ht Q e H β F w a QQ B D D0 h hs hf hm hB hk
  rw [er] at ht
  rw [vwp] at h
  split at h
  ·rename_i id ver p0 hg
   split at h
   ·rename_i v y hid
    obtain ⟨rfl,h⟩:=h
    split at h
    ·rename_i hgp
     split at h
     ·rename_i x' hsp
      obtain ⟨k1,k2,k3⟩:=hs.ownBld t
      have hlt:id<H.length:=(List.getElem?_eq_some_iff.1 hid).1
      have hid':(H++[Ob.bld 0 t []])[id]?=some (.obj v y):=by rw [List.getElem?_append_left hlt]; exact hid
      obtain ⟨q1,q2⟩:=k1.turn (o' := .obj v x') (w':=w) (β':=upd β H.length 0 none) hid' rfl rfl (Nat.le_refl _) (fun _ _ _=>rfl) (fun b off e => .inl ⟨off,e⟩) rfl rfl rfl (Nat.le_refl _) (fun _ _=>rfl) (fun _ _ _=>rfl) (fun hm=>by
       rcases k1.ob id _ hid' with ⟨r0,r1⟩ | ⟨b,off,pre,vs,post,t,fr,r0,r1,r2,r3,r4⟩
       ·refine .inl ⟨r0,?_⟩
        exact Ak.mono hm (Ag4 r1 hgp (fun m hm'=>by rw [Ak] at hm'; rw [hm'.1]; exact k3) hsp)
       ·refine .inr ⟨b,off,pre,vs,post,t,fr,r0,r1,r2,r3,?_⟩
        exact Ak.mono hm (Ag4 r4 hgp (fun m hm'=>by rw [Ak] at hm'; rw [hm'.1]; exact k3) hsp))
      rw [List.set_append_left _ _ hlt] at q1 q2
      exact ih hrf ht h q1 ⟨⟨fun s'=>Rep.mono (q2.mono k1) (Rep.mono (k2.mono hs) (hf.env.1 s')),q1.glob⟩,hf.size,hf.defers⟩ (hm.later (k2.trans q2)) hB fun x' e' H' β' F' w' a' D' m1 m2 m3 mm m4=>hk x' e' H' β' F' w' a' D' m1 m2 m3 mm ((k2.trans q2).trans m4)
     ·exact h.elim
    ·exact ih hrf ht h hs hf hm hB hk
   ·exact h.elim
  ·exact h.elim
 | rfunc g0 ps aS bd iha ihb =>
  intro code hrf ht Q e H β F w a QQ B D D0 h hs hf hm hB hk
  obtain rfl:ro=none:=hrf.resolve_right (by simp [AkP])
  rw [er] at ht
  cases code with
  | region id ops d =>
   cases d
   ·exact (NL ht (by simp) (by simp)).elim
   ·exact (NJ ht (by simp) (by simp) (by simp)).elim
  | seq x y=>simp only [trC] at ht; split at ht<;>simp at ht
  | cond c x y=>simp only [trC] at ht; split at ht<;>simp at ht
  | rangeFunc f0 ps0 ca cb =>
   simp only [trC] at ht
   split at ht
   ·rename_i hps
    split at ht
    ·rename_i va vb hca hcb
     simp only [Option.some.injEq,Af.rfunc.injEq] at ht
     obtain ⟨rfl,rfl,rfl,rfl⟩:=ht
     rw [vwp] at h
     obtain ⟨-,-,h⟩:=h
     split at h
     ·rename_i g first caps hg
      obtain ⟨hgo,h⟩:=h
      have hr:Rep ⟨β,H,F⟩ w (.fn (.func g) first caps) (a.eval f0):=hf.env.rep (x:=f0) hg
      have h1:=hr.inv1 (by simp) (by simp) (by simp) (by simp) (by simp)
      rw [Ak] at h1
      obtain ⟨us,vs,hv1,hfi,hc⟩:=h1
      have hv':a.eval f0 = .func (.func g) us.toArray vs.toArray:=by simpa using hv1
      refine AkK hs hf hm hB hv' hgo hfi hc (fun fn=>h N fn ca cb ⟨hca,hcb,hps⟩) hk
     ·rename_i g xs ys hg
      obtain ⟨hxy,hgo,h⟩:=h
      rw [Bool.and_eq_true,Array.isEmpty_iff,Array.isEmpty_iff] at hxy
      obtain ⟨rfl,rfl⟩:=hxy
      have hv':a.eval f0 = .func (.func g) #[] #[]:=hf.env.val hg
      refine AkK (us:=[]) (vs:=[]) (first:=[]) (caps:=[]) hs hf hm hB hv' hgo (by rw [BQ]) (by rw [BQ]) (fun fn=>by simpa using h N fn ca cb ⟨hca,hcb,hps⟩) hk
     ·exact h.elim
    ·cases ht
   ·cases ht
  | _=>simp [trC] at ht
end sound
end
section
open Go.RowKit
variable [AL]
set_option autoImplicit false
inductive VR where
 | tmp (t:Nat)
 | cell (a:Nat) (ag:Bool) (sz:Nat)
 deriving Inhabited
def trR (P:Program):List ResultVar→Option (List VR)
 | []=>some []
 | .tmp t::r=>(trR P r).map (.tmp t :: ·)
 | .cell a t::r=>match Ajy P t,Aap P t,trR P r with
  | some ag,some sz,some r=>some (.cell a ag sz::r)
  | _,_,_=>none
def AoX:List VR→Env→List Ob→(List TV→Prop)→Prop
 | [],e,H,K=>K []
 | .tmp t::r,e,H,K=>AoX r e H fun xs=>K (get e t::xs)
 | .cell a ag sz::r,e,H,K=>pop (.load ag sz (.t a)) e H fun x=>AoX r e H fun xs=>K (x::xs)
def res (r:List VR) (e:Env) (H:List Ob) (K:TV→Prop):Prop:=AoX r e H fun xs=>match xs with
 | [x]=>K x
 | xs=>(∀ x∈xs,DY x=false)∧K (.tup xs)
section
variable {P:Program}
def rv (a:Act) (r:ResultVar):Sem Value:=match r with
 | .tmp t=>pure (a.tmps.getD t undef)
 | .cell x t=>do loadVar t (←asAddr (a.tmps.getD x undef))
theorem Amk {c:Ctx} {w:World} {e:Env} {a:Act} (hs:Sim c w) (he:Ba c w e a):∀ {rs:List ResultVar} {vr:List VR} {K:List TV→Prop},trR P rs=some vr→AoX vr e c.H K →
  ∃ (xs:List TV) (vs:List Value),(rs.mapM (rv a)).run P w = .ok vs w∧xs.length=vs.length∧(∀ (i:Nat) x v,xs[i]?=some x→vs[i]?=some v→Rep c w x v)∧K xs
 | [],vr,K,ht,h=>by
  simp only [trR,Option.some.injEq] at ht; subst ht
  exact ⟨[],[],rfl,rfl,by simp,h⟩
 | .tmp t::rs,vr,K,ht,h=>by
  simp only [trR,Option.map_eq_some_iff] at ht
  obtain ⟨r,hr,rfl⟩:=ht
  rw [AoX] at h
  obtain ⟨xs,vs,h1,h2,h3,h4⟩:=Amk hs he hr h
  refine ⟨get e t::xs,a.tmps.getD t undef::vs,by rw [List.mapM_cons]; simp only [rv,Sem.run_bind,Sem.run_pure,Result.andThen_ok,h1],by simp [h2],?_,h4⟩
  intro i x v hx hv
  cases i with
  | zero=>simp at hx hv; subst hx; subst hv; simpa using he.1 t
  | succ i=>exact h3 i x v (by simpa using hx) (by simpa using hv)
 | .cell b t::rs,vr,K,ht,h=>by
  simp only [trR] at ht
  split at ht
  ·rename_i ag sz r h1 h2 hr
   cases ht
   rw [AoX] at h
   have hy:=Bjd (P:=P) (a:=a) (ty:=0) hs he h1 h2 (x := .tmp b) h
   obtain ⟨x,v,hrun,hx,hK⟩:=hy ⟨none,.load t (.tmp b),0, "", #[],none⟩ rfl rfl
   have hload:(do loadVar t (←asAddr (a.tmps.getD b undef)):Sem Value).run P w = .ok v w:=by
    simp only [execOp,Instr.loadAt,Sem.run_bind,Act.eval] at hrun
    simp only [Sem.run_bind]
    cases hp:a.tmps.getD b undef with
    | pointer p =>
     rw [hp] at hrun
     cases p with
     | none=>simp [Instr.sureAddr,stuck] at hrun
     | some ad =>
      simp only [Instr.sureAddr,Sem.run_pure,Result.andThen_ok,asAddr] at hrun ⊢
      cases hl:(loadVar t ad).run P w with
      | ok u w2=>rw [hl] at hrun; simp only [Result.andThen_ok,Sem.run_pure] at hrun; cases hrun; rfl
      | halt hh w2=>rw [hl] at hrun; simp at hrun
    | _=>rw [hp] at hrun; simp [Instr.sureAddr,stuck] at hrun
   obtain ⟨xs,vs,h3,h4,h5,h6⟩:=Amk hs he hr hK
   refine ⟨x::xs,v::vs,by rw [List.mapM_cons,Sem.run_bind]; show Result.andThen ((rv a (.cell b t)).run P w) _=_; rw [show (rv a (.cell b t)).run P w = .ok v w from hload]; simp only [Result.andThen_ok,Sem.run_bind,h3,Sem.run_pure],by simp [h4],?_,h6⟩
   intro i y u hy hu
   cases i with
   | zero=>simp at hy hu; subst hy; subst hu; exact hx
   | succ i=>exact h5 i y u (by simpa using hy) (by simpa using hu)
  ·cases ht
theorem Bkl {c:Ctx} {w:World} {e:Env} {a:Act} (hs:Sim c w) (he:Ba c w e a) {fn:Func} {vr:List VR} {K:TV→Prop} (ht:trR P fn.results.toList=some vr) (h:res vr e c.H K) :
  ∃ x v,(results fn a.tmps).run P w = .ok v w∧Rep c w x v∧K x:=by
 obtain ⟨xs,vs,h1,h2,h3,h4⟩:=Amk hs he ht h
 have hrun:(fn.results.mapM (rv a)).run P w = .ok vs.toArray w:=by
  rw [Array.mapM_eq_mapM_toList]
  simp only [Sem.run_map,h1,Result.andThen_ok]
 have hres:(results fn a.tmps).run P w = .ok (if h:vs.toArray.size=1 then vs.toArray[0] else .tuple vs.toArray) w:=by
  have:results fn a.tmps=(do let vs ← fn.results.mapM (rv a); pure (if h:vs.size=1 then vs[0] else .tuple vs)):=rfl
  rw [this,Sem.run_bind,hrun]; rfl
 rcases xs with _ | ⟨x,_ | ⟨y,xs⟩⟩
 ·have hv:vs=[]:=List.length_eq_zero_iff.1 (by simpa using h2.symm)
  subst hv
  exact ⟨_,_,hres,.inr ⟨[],[],rfl,rfl,by rw [BQ]⟩,h4.2⟩
 ·obtain ⟨v,rfl⟩:=List.length_eq_one_iff.1 (by simpa using h2.symm)
  exact ⟨_,_,hres,h3 0 x v rfl rfl,h4⟩
 ·rcases vs with _ | ⟨u,_ | ⟨v,vs⟩⟩
  ·simp at h2
  ·simp at h2
  ·refine ⟨_,_,hres,.inr ⟨_,u::v::vs,rfl,by simp,?_⟩,h4.2⟩
   have key:∀ (xs:List TV) (vs:List Value),xs.length=vs.length→(∀ x∈xs,DY x=false)→(∀ (i:Nat) x v,xs[i]?=some x→vs[i]?=some v→Rep c w x v)→BQ c w xs vs:=by
    intro xs
    induction xs with
    | nil=>intro vs h _ _; rw [BQ]; exact List.length_eq_zero_iff.1 h.symm
    | cons x xs ih =>
     intro vs hl ht hr
     cases vs with
     | nil=>simp at hl
     | cons v vs =>
      refine BQ.cons.2 ⟨v,vs,rfl,?_,ih vs (by simpa using hl) (fun y hy=>ht y (by simp [hy])) fun i y u hy hu=>hr (i+1) y u (by simpa using hy) (by simpa using hu)⟩
      rcases hr 0 x v rfl rfl with h | ⟨ys,us,rfl,_⟩
      ·exact h
      ·have:=ht (.tup ys) (by simp); simp [DY] at this
   exact key _ _ h2 h4.1 h3
def AmU:Nat→List TV→Env
 | _,[]=>[]
 | i,x::xs=>(i,x)::AmU (i+1) xs
theorem AnJ:∀ (xs:List TV) (i s:Nat),get (AmU i xs) s=if i≤s then (xs[s - i]?).getD .any else .any
 | [],i,s=>by simp [AmU,get]
 | x::xs,i,s=>by
  rw [AmU,DZ,AnJ xs (i+1) s]
  by_cases h:i=s
  ·subst h; simp
  ·rw [if_neg h]
   by_cases h2:i≤s
   ·rw [if_pos (by omega),if_pos h2,show s - i=(s - (i+1))+1 from by omega,List.getElem?_cons_succ]
   ·rw [if_neg (by omega),if_neg h2]
theorem BQ.get {c:Ctx} {w:World}:∀ {xs:List TV} {vs:List Value},BQ c w xs vs→xs.length=vs.length∧∀ (i:Nat) x,xs[i]?=some x→∃ v,vs[i]?=some v∧Rep c w x v
 | [],vs,h=>by rw [BQ] at h; subst h; simp
 | x::xs,vs,h=>by
  obtain ⟨u,us,rfl,h1,h2⟩:=BQ.cons.1 h
  obtain ⟨h3,h4⟩:=BQ.get h2
  refine ⟨by simp [h3],fun i y hy => ?_⟩
  cases i with
  | zero=>simp at hy; subst hy; exact ⟨u,rfl,.inl h1⟩
  | succ i=>simpa using h4 i y (by simpa using hy)
def Acy (vr:List VR) (R:TV→List Ob→Prop):VEx→Env→List Ob→Prop
 | .nor,e,H=>res vr e H fun x=>R x H
 | .ret,e,H=>res vr e H fun x=>R x H
 | .exit _,_,_=>False
 | .pan _,_,_=>False
theorem Sim.nobody {c:Ctx} {w:World} (hs:Sim c w) {r:Nat} {o o':Obj} (hr:w.heap[r]?=some o) (h1:¬ c.own r) (h2:¬ c.F r) (hsh:(w.putObj r o').shape? r=w.shape? r):Sim c (w.putObj r o')∧Ry c w c (w.putObj r o'):=by
 have hoth:∀ b,b≠r→(w.putObj r o').heap[b]?=w.heap[b]?:=fun b hb=>World.putObj_heap_other hb
 have hm:Ry c w c (w.putObj r o'):=⟨fun b hb=>⟨hb,hoth b fun e=>h2 (e▸hb)⟩,fun _ _ h=>⟨h,rfl⟩,fun b _=>by
  by_cases hb:b=r
  ·subst hb; exact hsh
  ·exact Dy (hoth b hb)⟩
 refine ⟨⟨fun id ob ho=>AoS.mono hm (Ctx.has_of ho) (fun hl b off hb=>hoth b fun e=>h1 (e▸Ctx.own_of ho hl hb)) (hs.ob id ob ho),hs.inj,hs.apart,fun b hb => ?_,hs.glob.keep hm.stay⟩,hm⟩
 rw [(Adg w r o').2.2.2]; exact hs.lt b hb
theorem AQ.nobody {c0 c:Ctx} {w0 w:World} (h:AQ c0 w0 c w) {r:Nat} {o':Obj} (hr:w0.heap.size≤r):AQ c0 w0 c (w.putObj r o') :=
 ⟨h.os,h.tape,h.output,by rw [(Adg w r o').2.2.2]; exact h.size,h.has,fun b hb=>(Dy (World.putObj_heap_other (by omega))).trans (h.shape b hb),fun b hb ho=>(World.putObj_heap_other (by omega)).trans (h.same b hb ho),h.keepF,h.oldF,h.oldOwn⟩
theorem Aaa.shut {D0:List Deferred} {u:FrameMode} (hu:u ≠ .run) {FF:Fence} {n:Nat} {fn:Func} {tmps:Array Value} {R:Ending→World→Prop} {B:Nat} {c:Ctx}:∀ {D:List Deferred} {w:World},Aaa D0 B c w D→Sim c w →
  ∃ wF,(LeavesInM FF n P fn tmps R D0 u wF→LeavesInM FF n P fn tmps R D u w)∧Sim c wF∧Ry c w c wF∧∀ (c0:Ctx) (w0:World),w0.heap.size≤B→AQ c0 w0 c w→AQ c0 w0 c wF:=by
 rintro D w ⟨ds,rfl,hnd,hds⟩ hs
 induction ds generalizing w with
 | nil=>exact ⟨w,fun h=>h,hs,Ry.heap rfl,fun c0 w0 _ h=>h⟩
 | cons r ds ih =>
  obtain ⟨k1,k2,k3,k4,k5⟩:=hds r (by simp)
  rw [List.nodup_cons] at hnd
  have hput:=World.putObj_heap_same (w:=w) (o := .deferred none) k2
  obtain ⟨s1,s2⟩:=hs.nobody (o' := .deferred none) k5 k3 k4 (by simp [World.shape?,hput,k5])
  obtain ⟨wF,e1,e2,e3,e4⟩:=ih (w:=w.putObj r (.deferred none)) hnd.2 (fun q hq=>by
   obtain ⟨q1,q2,q3,q4,q5⟩:=hds q (by simp [hq])
   have hne:q≠r:=fun e=>hnd.1 (e▸hq)
   exact ⟨q1,by rw [(Adg w r _).2.2.2]; exact q2,q3,q4,(World.putObj_heap_other hne).trans q5⟩) s1
  refine ⟨wF,fun h=>⟨hu,.inl ⟨r,_,rfl,run_takeDeferred k5,e1 h⟩⟩,e2,⟨fun b hb=>⟨hb,((e3.stay b hb).2).trans (s2.stay b hb).2⟩,fun _ _ h=>⟨h,rfl⟩,fun b hb=>(e3.shape b (by rw [(Adg w r _).2.2.2]; exact hb)).trans (s2.shape b hb)⟩,fun c0 w0 hB hl=>e4 c0 w0 hB (hl.nobody (by omega))⟩
theorem A4m {f:FuncId} {fn:Func} {vc:Af} {vr:List VR} {args:List TV} {H:List Ob} {R:TV→List Ob→Prop} (hf:P.funcs[f]?=some fn) (ht:fn.body.bind (trC P fn.ntmps)=some (er vc)) (hr:trR P fn.results.toList=some vr)
  (hn:args.length≤fn.ntmps) (h:vwp P vc (Acy vr R) (AmU 0 args) H):Au P f args H R:=by
 obtain ⟨code,hb,ht⟩:=Option.bind_eq_some_iff.1 ht
 intro β F w vs hs hv
 obtain ⟨hl,hget⟩:=BQ.get hv
 refine (callsIn_wide (n:=0)).1 (callsIn_of_wp_marks hf hb trivial ?_)
 refine AsR (ro:=none) (nn:=0) (B:=w.heap.size) (D:=[]) (D0:=[]) vc (.inl rfl) ht h hs ⟨⟨fun s => ?_,hs.glob⟩,by simp; omega,rfl⟩ Aaa.nil (Nat.le_refl _) ?_
 ·rw [AnJ]
  simp only [Nat.zero_le,if_true,Nat.sub_zero]
  cases hx:args[s]? with
  | none=>exact Rep.any
  | some x =>
   obtain ⟨v,hv1,hv2⟩:=hget s x hx
   have hs':s<vs.length:=(List.getElem?_eq_some_iff.1 hv1).1
   have:((vs.toArray++Array.replicate (fn.ntmps - vs.toArray.size) undef).getD s undef)=v:=by
    rw [Array.getD_eq_getD_getElem?,Array.getElem?_append_left (by simpa using hs')]
    simp [hv1]
   rw [this]; exact hv2
 ·intro x e' H' β' F' w' a' D' k1 k2 k3 km k4
  have fin:res vr e' H' (fun x=>R x H')→LeavesInM Fence.wide 0 P fn a'.tmps (fun e w'=>∃ v x β' H' F',e = .returned v∧R x H'∧Sim ⟨β',H',F'⟩ w'∧AQ ⟨β,H,F⟩ w ⟨β',H',F'⟩ w'∧Rep ⟨β',H',F'⟩ w' x v) a'.defers .returning w':=fun h=>by
   rw [k3.defers]
   obtain ⟨wF,e1,e2,e3,e4⟩:=Aaa.shut (D0:=[]) (u := .returning) (by simp) (P:=P) (FF:=Fence.wide) (n:=0) (fn:=fn) (tmps:=a'.tmps) (R:=fun e w'=>∃ v x β' H' F',e = .returned v∧R x H'∧Sim ⟨β',H',F'⟩ w'∧AQ ⟨β,H,F⟩ w ⟨β',H',F'⟩ w'∧Rep ⟨β',H',F'⟩ w' x v) km k2
   obtain ⟨y,v,r1,r2,r3⟩:=Bkl (fn:=fn) (a:=a') e2 ⟨fun s=>Rep.mono e3 (k3.env.1 s),e2.glob⟩ hr h
   exact e1 ⟨v,r1,v,y,β',H',F',rfl,r3,e2,e4 _ _ (Nat.le_refl _) k4,r2⟩
  cases x with
  | nor=>exact fin k1
  | ret=>exact fin k1
  | exit i=>exact k1.elim
  | pan u=>exact k1.elim
def Be4 (vr:List VR) (R:TV→List Ob→Prop) (RP:Value→List Ob→Prop):VEx→Env→List Ob→Prop
 | .nor,e,H=>res vr e H fun x=>R x H
 | .ret,e,H=>res vr e H fun x=>R x H
 | .exit _,_,_=>False
 | .pan u,_,H=>RP u H
structure WW (F:Nat→Prop) (w:World) (F':Nat→Prop) (w':World):Prop where
 os:w'.os=w.os
 tape:w'.tape=w.tape
 output:w'.output=w.output
 size:w.heap.size≤w'.heap.size
 same:∀ b,b<w.heap.size→w'.heap[b]?=w.heap[b]?
 keepF:∀ b,F b→F' b
 oldF:∀ b,b<w.heap.size→F' b→F b
 ltF:∀ b,F' b→b<w'.heap.size
def BD (P:Program) (f:FuncId) (args:List TV) (R:TV→Prop):Prop :=
 ∀ (β:Nat→Nat→Option (Nat×Nat)) (F:Nat→Prop) (w:World) (vs:List Value),((∀ b,F b→b<w.heap.size)∧QX F w)→BQ ⟨β,[],F⟩ w args vs →
  Calls P f vs.toArray w fun e w'=>∃ v x F',e = .returned v∧R x∧Rep ⟨β,[],F'⟩ w' x v∧WW F w F' w'
theorem BD.mono {f:FuncId} {args:List TV} {R R':TV→Prop} (h:BD P f args R) (hr:∀ x,R x→R' x):BD P f args R' :=
 fun β F w vs hF hv=>(h β F w vs hF hv).mono fun _ _ ⟨v,x,F',h1,h2,h3⟩=>⟨v,x,F',h1,hr _ h2,h3⟩
theorem Au.toPure {f:FuncId} {args:List TV} {R:TV→Prop} (h:Au P f args [] fun x H'=>match frz H' x with | some y=>R y | none=>False):BD P f args R:=by
 intro β F w vs hF hv
 have hs:Sim ⟨β,[],F⟩ w:=⟨fun id o ho=>by simp at ho,fun i j x y b o o' hx=>by simp at hx,fun b hb=>by obtain ⟨i,o,off,h1,_⟩:=hb; simp at h1,hF.1,hF.2⟩
 refine (h β F w vs hs hv).mono ?_
 rintro _ w' ⟨v,x,β',H',F',rfl,hR,hs',hl,hx⟩
 split at hR
 ·rename_i y hy
  have hno:∀ b,¬ Ctx.own ⟨β,[],F⟩ b:=fun b hb=>by obtain ⟨i,o,off,h1,_⟩:=hb; simp at h1
  have hr:=BjP hs' hy hx
  refine ⟨v,y,fun b=>F' b∨Ctx.own ⟨β',H',F'⟩ b,rfl,hR,Rep.mono (Ry.toBare [] β) hr,⟨hl.os,hl.tape,hl.output,hl.size,fun b hb=>hl.same b hb (hno b),fun b hb => .inl (hl.keepF b hb),fun b hb hF' => ?_,fun b hF'=>hF'.elim (hs'.lt b) hs'.own_lt⟩⟩
  rcases hF' with hF' | hF'
  ·exact (hl.oldF b hb hF').resolve_right (hno b)
  ·exact absurd (hl.oldOwn b hb hF') (hno b)
 ·exact hR.elim
theorem WW.later {β:Nat→Nat→Option (Nat×Nat)} {H:List Ob} {F F':Nat→Prop} {w w':World} (h:WW F w F' w'):AQ ⟨β,H,F⟩ w ⟨β,H,F'⟩ w' :=
 ⟨h.os,h.tape,h.output,h.size,fun id v ⟨o,h1,h2⟩=>⟨⟨o,h1,h2⟩,rfl⟩,fun b hb=>Dy (h.same b hb),fun b hb _=>h.same b hb,h.keepF,fun b hb hF => .inl (h.oldF b hb hF),fun b hb ⟨i,o,off,h1,h2,h3⟩=>⟨i,o,off,h1,h2,h3⟩⟩
theorem WW.sim {β:Nat→Nat→Option (Nat×Nat)} {H:List Ob} {F F':Nat→Prop} {w w':World} (hs:Sim ⟨β,H,F⟩ w) (h:WW F w F' w'):Sim ⟨β,H,F'⟩ w':=by
 have hm:Ry ⟨β,H,F⟩ w ⟨β,H,F'⟩ w':=⟨fun b hb=>⟨h.keepF b hb,h.same b (hs.lt b hb)⟩,fun id v ⟨o,h1,h2⟩=>⟨⟨o,h1,h2⟩,rfl⟩,fun b hb=>Dy (h.same b hb)⟩
 refine ⟨fun id o ho=>AoS.mono hm ⟨o,ho,Nat.le_refl _⟩ (fun hl b off hb=>h.same b (hs.own_lt ⟨id,o,off,ho,hl,hb⟩)) (hs.ob id o ho),hs.inj,fun b hb hF => ?_,h.ltF,hs.glob.keep hm.stay⟩
 obtain ⟨i,o,off,h1,h2,h3⟩:=hb
 have ho:Ctx.own ⟨β,H,F⟩ b:=⟨i,o,off,h1,h2,h3⟩
 exact hs.apart b ho (h.oldF b (hs.own_lt ho) hF)
theorem BD.calls {f:FuncId} {args:List TV} {R:TV→Prop} {H:List Ob} {K:TV→List Ob→Prop} (h:BD P f args R) (hp:DI args=true) (hk:∀ x,R x→K x H):Au P f args H K:=by
 intro β F w vs hs hv
 refine (h β F w vs ⟨hs.lt,hs.glob⟩ (BQ.pure hp hv)).mono ?_
 rintro _ w' ⟨v,x,F',rfl,hR,hx,hst⟩
 exact ⟨v,x,β,H,F',rfl,hk x hR,hst.sim hs,hst.later,Rep.mono (Ry.toBare H β) hx⟩
theorem BD.lends {f:FuncId} {args args':List TV} {R:TV→Prop} {H:List Ob} {K:TV→List Ob→Prop} (h:BD P f args' R) (hp:Bpb H args=some args') (hk:∀ x,R x→Aow x=true∧K x H):Au P f args H K:=by
 intro β F w vs hs hv
 refine (h β (fun b=>F b∨Ctx.own ⟨β,H,F⟩ b) w vs ⟨fun b hb=>hb.elim (hs.lt b) hs.own_lt,hs.glob.keep fun b hb=>⟨.inl hb,rfl⟩⟩ (AqE hs hp hv)).mono ?_
 rintro _ w' ⟨v,x,F',rfl,hR,hx,hst⟩
 obtain ⟨hsc,hK⟩:=hk x hR
 have hst':WW F w F w':=⟨hst.os,hst.tape,hst.output,hst.size,hst.same,fun _ h=>h,fun _ _ h=>h,fun b hb=>Nat.lt_of_lt_of_le (hs.lt b hb) hst.size⟩
 exact ⟨v,x,β,H,F,rfl,hK,hst'.sim hs,hst'.later,BiA hsc hx⟩
theorem Ry.ofF {β β':Nat→Nat→Option (Nat×Nat)} {H:List Ob} {F F':Nat→Prop} {w:World} (h:∀ b,F b→F' b):Ry ⟨β,[],F⟩ w ⟨β',H,F'⟩ w :=
 ⟨fun b hb=>⟨h b hb,rfl⟩,fun id v h=>by obtain ⟨o,h,_⟩:=h; simp at h,fun _ _=>rfl⟩
mutual
def frs (H:List Ob):TV→Option TV
 | .val v=>some (.val v)
 | .any=>some .any
 | .os k id ver p off n cp=>match H[id]? with
  | some (.obj v x)=>if v=ver then (match JU p k off n x with
   | some cs=>if MZ cs then some (.sl k cs) else none
   | none=>none) else none
  | _=>none
 | .agg cs=>(AoY H cs).map .agg
 | .arr n k cs=>if MZ cs then some (.arr n k cs) else none
 | .tup cs=>(AoY H cs).map .tup
 | .ifc t x=>(frs H x).map (.ifc t)
 | _=>none
def AoY (H:List Ob):List TV→Option (List TV)
 | []=>some []
 | x::xs=>match frs H x,AoY H xs with
  | some x,some xs=>some (x::xs)
  | _,_=>none
end
def Ctx.mine (c:Ctx):Ctx:=⟨c.β,[],c.own⟩
theorem Ano {p:List (Nat×Nat)} {k off:Nat} {x:TV} {cs:List TV} (h:JU p k off 0 x=some cs):cs=[]:=by
 unfold JU at h
 split at h
 ·split at h
  ·cases h; simp
  ·cases h
 ·cases h
mutual
theorem Am7 {c:Ctx} {w:World} (hs:Sim c w):∀ {x x':TV} {us:List Value},frs c.H x=some x'→Ak c w x us→Ak c.mine w x' us
 | .val y,x',us,hf,hr=>by simp only [frs,Option.some.injEq] at hf; subst hf; rw [Ak] at hr ⊢; exact hr
 | .any,x',us,hf,hr=>by simp only [frs,Option.some.injEq] at hf; subst hf; rw [Ak] at hr ⊢; exact hr
 | .mp _ _,x',us,hf,hr=>by simp [frs] at hf
 | .yl _ _,x',us,hf,hr=>by simp [frs] at hf
 | .sl k cs,x',us,hf,hr=>by simp [frs] at hf
 | .fp x,x',us,hf,hr=>by simp [frs] at hf
 | .op id ver p,x',us,hf,hr=>by simp [frs] at hf
 | .fn f a b,x',us,hf,hr=>by simp [frs] at hf
 | .os k id ver p off n cp,x',us,hf,hr=>by
  rw [Ak] at hr
  obtain ⟨hr1,hr2⟩:=hr
  rw [frs] at hf
  split at hf
  ·rename_i ver' x hid
   split at hf
   ·rename_i e; subst e
    split at hf
    ·rename_i cs hcs
     split at hf
     ·rename_i hsc
      cases hf
      rcases hr2 with ⟨rfl,a0,hr2,_⟩ | ⟨b0,o0,cap,t0,m0,hr2,hr3,hr4,hr5,hr6,hr7⟩
      ·have:=Ano hcs
       subst this
       rw [Ak]
       exact ⟨by simp,.inl ⟨rfl,a0,0,hr2,by omega⟩⟩
      rcases hs.ob id _ hid with ⟨h0,_⟩ | ⟨b,off',pre,vs,post,t,fr,h0,h1,h2,h3,h4⟩
      ·rw [h0] at hr2; cases hr2
      rw [h0] at hr2
      obtain ⟨rfl,rfl⟩:b=b0∧off'=o0:=by simpa using hr2
      obtain ⟨a,m,q,rfl,k1,k2,k3,k4⟩:=WG h4 hcs
      rw [Ak]
      refine ⟨k3,.inr ⟨b,off'+J8 p+off*k,cap,m,by rw [k4]; exact hr3,by omega,hr5,⟨id,_,off',hid,rfl,h0⟩,VV hsc k2,?_⟩⟩
      have e:off'+J8 p+off*k=pre.length+a.length:=by rw [h3,k1]; omega
      rw [e]; exact SK h1
     ·cases hf
    ·cases hf
   ·cases hf
  ·cases hf
 | .agg cs,x',us,hf,hr=>by
  simp only [frs,Option.map_eq_some_iff] at hf
  obtain ⟨ds,hds,rfl⟩:=hf
  rw [Ak] at hr ⊢
  exact Aog hs hds hr
 | .arr n k cs,x',us,hf,hr=>by
  rw [frs] at hf
  split at hf
  ·rename_i hsc; cases hf; rw [Ak] at hr ⊢; exact ⟨hr.1,hr.2.1,VV hsc hr.2.2⟩
  ·cases hf
 | .tup cs,x',us,hf,hr=>by rw [Ak] at hr; exact hr.elim
 | .ifc t x,x',us,hf,hr=>by
  simp only [frs,Option.map_eq_some_iff] at hf
  obtain ⟨y,hy,rfl⟩:=hf
  rw [Ak] at hr ⊢
  obtain ⟨u,h1,vs,h2,h3⟩:=hr
  exact ⟨u,h1,vs,Am7 hs hy h2,by rw [h3]; exact ApU hy vs⟩
theorem Aog {c:Ctx} {w:World} (hs:Sim c w):∀ {xs xs':List TV} {us:List Value},AoY c.H xs=some xs'→Am c w xs us→Am c.mine w xs' us
 | [],xs',us,hf,hr=>by simp only [AoY,Option.some.injEq] at hf; subst hf; rw [Am] at hr ⊢; exact hr
 | x::xs,xs',us,hf,hr=>by
  rw [AoY] at hf
  split at hf
  ·rename_i y ys hy hys
   cases hf
   rw [Am] at hr ⊢
   obtain ⟨u,us,h1,h2,h3⟩:=hr
   exact ⟨u,us,h1,Am7 hs hy h2,Aog hs hys h3⟩
  ·cases hf
theorem ApU {H:List Ob}:∀ {x x':TV} (hf:frs H x=some x') (us:List Value),mkV x us=mkV x' us
 | .val y,x',hf,us=>by simp only [frs,Option.some.injEq] at hf; subst hf; rfl
 | .any,x',hf,us=>by simp only [frs,Option.some.injEq] at hf; subst hf; rfl
 | .mp _ _,x',hf,us=>by simp [frs] at hf
 | .yl _ _,x',hf,us=>by simp [frs] at hf
 | .sl k cs,x',hf,us=>by simp [frs] at hf
 | .fp x,x',hf,us=>by simp [frs] at hf
 | .op id ver p,x',hf,us=>by simp [frs] at hf
 | .fn f a b,x',hf,us=>by simp [frs] at hf
 | .os k id ver p off n cp,x',hf,us=>by
  rw [frs] at hf
  split at hf
  ·split at hf
   ·split at hf
    ·split at hf
     ·cases hf; rfl
     ·cases hf
    ·cases hf
   ·cases hf
  ·cases hf
 | .agg cs,x',hf,us=>by
  simp only [frs,Option.map_eq_some_iff] at hf
  obtain ⟨ds,hds,rfl⟩:=hf; rfl
 | .arr n k cs,x',hf,us=>by
  rw [frs] at hf
  split at hf
  ·cases hf; rfl
  ·cases hf
 | .tup cs,x',hf,us=>by
  simp only [frs,Option.map_eq_some_iff] at hf
  obtain ⟨ds,hds,rfl⟩:=hf; rfl
 | .ifc t x,x',hf,us=>by
  simp only [frs,Option.map_eq_some_iff] at hf
  obtain ⟨y,hy,rfl⟩:=hf; rfl
end
theorem Aql {c:Ctx} {w:World} (hs:Sim c w):∀ {xs xs':List TV} {vs:List Value},AoY c.H xs=some xs'→BQ c w xs vs→BQ c.mine w xs' vs
 | [],xs',vs,hf,hr=>by simp only [AoY,Option.some.injEq] at hf; subst hf; rw [BQ] at hr ⊢; exact hr
 | x::xs,xs',vs,hf,hr=>by
  rw [AoY] at hf
  split at hf
  ·rename_i y ys hy hys
   cases hf
   rw [BQ] at hr ⊢
   obtain ⟨u,us,h1,h2,h3⟩:=hr
   refine ⟨u,us,h1,?_,Aql hs hys h3⟩
   rcases h2 with rfl | rfl | ⟨aS,h2,h4⟩
   ·simp only [frs,Option.some.injEq] at hy; subst hy; exact .inl rfl
   ·simp only [frs,Option.some.injEq] at hy; subst hy; exact .inr (.inl rfl)
   ·exact .inr (.inr ⟨aS,Am7 hs hy h2,by rw [h4]; exact ApU hy aS⟩)
  ·cases hf
theorem BfB {c:Ctx} {w:World} (hs:Sim c w) {x x':TV} {v:Value} (hf:frs c.H x=some x') (hr:Rep c w x v):Rep c.mine w x' v:=by
 rcases hr with (h | h | ⟨us,h,h'⟩) | ⟨xs,vs,rfl,h2,h3⟩
 ·subst h; simp only [frs,Option.some.injEq] at hf; subst hf; exact Rep.any
 ·subst h; simp only [frs,Option.some.injEq] at hf; subst hf; exact Rep.of_val
 ·exact .inl (.inr (.inr ⟨us,Am7 hs hf h,by rw [h']; exact ApU hf us⟩))
 ·simp only [frs,Option.map_eq_some_iff] at hf
  obtain ⟨ds,hds,rfl⟩:=hf
  exact .inr ⟨ds,vs,rfl,h2,Aql hs hds h3⟩
def P8 (P:Program) (f:FuncId) (args:List TV) (R:TV→Prop):Prop :=
 ∀ (β:Nat→Nat→Option (Nat×Nat)) (F:Nat→Prop) (w:World) (vs:List Value),((∀ b,F b→b<w.heap.size)∧QX F w)→BQ ⟨β,[],F⟩ w args vs →
  Calls P f vs.toArray w fun e w'=>∃ v x F',e = .returned v∧R x∧Rep ⟨β,[],fun b=>F' b∧w.heap.size≤b⟩ w' x v∧WW F w F' w'
theorem P8.mono {f:FuncId} {args:List TV} {R R':TV→Prop} (h:P8 P f args R) (hr:∀ x,R x→R' x):P8 P f args R' :=
 fun β F w vs hF hv=>(h β F w vs hF hv).mono fun _ _ ⟨v,x,F',h1,h2,h3⟩=>⟨v,x,F',h1,hr _ h2,h3⟩
theorem P8.pure {f:FuncId} {args:List TV} {R:TV→Prop} (h:P8 P f args R):BD P f args R :=
 fun β F w vs hF hv=>(h β F w vs hF hv).mono fun _ _ ⟨v,x,F',h1,h2,h3,h4⟩=>⟨v,x,F',h1,h2,Rep.mono (Ry.ofF (F:=fun b=>F' b∧w.heap.size≤b) (F':=F') fun b hb=>hb.1) h3,h4⟩
theorem Au.toFresh {f:FuncId} {args:List TV} {R:TV→Prop} (h:Au P f args [] fun x H'=>match frs H' x with | some y=>R y | none=>False):P8 P f args R:=by
 intro β F w vs hF hv
 have hs:Sim ⟨β,[],F⟩ w:=⟨fun id o ho=>by simp at ho,fun i j x y b o o' hx=>by simp at hx,fun b hb=>by obtain ⟨i,o,off,h1,_⟩:=hb; simp at h1,hF.1,hF.2⟩
 refine (h β F w vs hs hv).mono ?_
 rintro _ w' ⟨v,x,β',H',F',rfl,hR,hs',hl,hx⟩
 split at hR
 ·rename_i y hy
  have hno:∀ b,¬ Ctx.own ⟨β,[],F⟩ b:=fun b hb=>by obtain ⟨i,o,off,h1,_⟩:=hb; simp at h1
  have hr:=BfB hs' hy hx
  have hnew:∀ b,Ctx.own ⟨β',H',F'⟩ b→w.heap.size≤b:=fun b hb=>by
   rcases Nat.lt_or_ge b w.heap.size with h1 | h1
   ·exact absurd (hl.oldOwn b h1 hb) (hno b)
   ·exact h1
  refine ⟨v,y,fun b=>F b∨Ctx.own ⟨β',H',F'⟩ b,rfl,hR,?_,⟨hl.os,hl.tape,hl.output,hl.size,fun b hb=>hl.same b hb (hno b),fun b hb => .inl hb,fun b hb hF'=>hF'.elim id fun h => ?_,fun b hF'=>hF'.elim (fun h=>Nat.lt_of_lt_of_le (hF.1 b h) hl.size) hs'.own_lt⟩⟩
  ·exact Rep.mono (Ry.ofF (F:=Ctx.own ⟨β',H',F'⟩) (F':=fun b=>(F b∨Ctx.own ⟨β',H',F'⟩ b)∧w.heap.size≤b) fun b hb=>⟨.inr hb,hnew b hb⟩) hr
  ·have:=hnew b h; omega
 ·exact hR.elim
theorem P8.lends {f:FuncId} {args args':List TV} {R:TV→Prop} {H:List Ob} {K:TV→List Ob→Prop} (h:P8 P f args' R) (hp:Bpb H args=some args') (hk:∀ x,R x→K x H):Au P f args H K:=by
 intro β F w vs hs hv
 refine (h β (fun b=>F b∨Ctx.own ⟨β,H,F⟩ b) w vs ⟨fun b hb=>hb.elim (hs.lt b) hs.own_lt,hs.glob.keep fun b hb=>⟨.inl hb,rfl⟩⟩ (AqE hs hp hv)).mono ?_
 rintro _ w' ⟨v,x,F',rfl,hR,hx,hst⟩
 have hst':WW F w (fun b=>F b∨(F' b∧w.heap.size≤b)) w':=⟨hst.os,hst.tape,hst.output,hst.size,hst.same,fun _ h => .inl h,fun b hb h=>h.elim id fun h=>by omega,fun b hb=>hb.elim (fun h=>Nat.lt_of_lt_of_le (hs.lt b h) hst.size) fun h=>hst.ltF b h.1⟩
 refine ⟨v,x,β,H,_,rfl,hk x hR,hst'.sim hs,hst'.later,Rep.mono (Ry.ofF (F:=fun b=>F' b∧w.heap.size≤b) (F':=fun b=>F b∨(F' b∧w.heap.size≤b)) fun b hb => .inr hb) hx⟩
end
end
section
open Go.RowKit
variable [AL]
set_option autoImplicit false
theorem Ad {α:Sort _} {a b:α} (h:a=b):a=b:=h
abbrev i64 (n:Int):TV := .val (.int .i64 n)
abbrev tb (b:Bool):TV := .val (.bool b)
abbrev ts (l:List UInt8):TV := .val (.string (str l))
abbrev slB (l:List UInt8):TV := .sl 1 (l.map by8)
abbrev slS (l:List (List UInt8)):TV := .sl 1 (l.map ts)
section
variable {P:Program} {e:Env} {H:List Ob}
theorem BsK {c:Opd} {a:Opd} {b:Opd} {K:TV→Prop}:pop (.pick c a b) e H K=(match c.ev e with
  | .val (.bool t)=>K (if t then a.ev e else b.ev e)
  | _=>False):=Ad rfl
theorem Btn {x:Opd} {K:TV→Prop}:pop (.b2s x) e H K=(match Dz H 1 (x.ev e) with
  | some cs=>(∀ y∈cs,Ase y)∧K (.val (.string (str (cs.map AiX))))
  | none=>False):=Ad rfl
theorem Bsb {ag:Bool} {sz:Nat} {x:Opd} {K:TV→Prop}:pop (.load ag sz x) e H K=(match x.ev e with
  | .fp y=>AlL ag sz y∧K y
  | .op id ver p=>(match H[id]? with
   | some (.obj v x)=>v=ver∧(match U0 p x with | some y=>AlL ag sz y∧K y | none=>False)
   | _=>False)
  | _=>False):=Ad rfl
theorem BqQ {n:Nat} {k:Nat} {x:Opd} {i:Opd} {K:TV→Prop}:pop (.idxAA n k x i) e H K=(match x.ev e,i.ev e with
  | .fp (.arr n' k' cs),.val (.int _ j)=>k'=k∧n'=n∧0≤j∧(match cs[j.toNat]? with | some y=>K (.fp y) | none=>False)
  | .op id ver p,.val (.int _ j)=>0≤j∧j<n∧K (.op id ver (p++[(j.toNat,j.toNat*k)]))
  | _,_=>False):=Ad rfl
theorem BsU {x:Opd} {K:TV→Prop}:pop (.lenV x) e H K=(match x.ev e with
  | .val (.slice _ n _)=>K (.val (.int .i64 n))
  | .sl _ cs=>K (.val (.int .i64 cs.length))
  | .os _ _ _ _ _ n _=>K (.val (.int .i64 n))
  | _=>False):=Ad rfl
theorem Bp7 {k:Nat} {x:Opd} {lo:Option Opd} {hi:Option Opd} {K:TV→Prop}:pop (.slV k x lo hi) e H K=(match x.ev e with
  | .sl k' cs=>k'=k∧bnd e lo hi cs.length cs.length fun l h=>K (.sl k ((cs.drop l).take (h - l)))
  | .os k' id ver p off n cp=>k'=k∧bnd e lo hi n cp fun l h=>K (.os k id ver p (off+l) (h - l) (cp - l))
  | .val (.slice ad 0 0)=>bnd e lo hi 0 0 fun l h=>K (.val (.slice ad 0 0))
  | _=>False):=Ad rfl
theorem BrC {n:Nat} {k:Nat} {x:Opd} {lo:Option Opd} {hi:Option Opd} {K:TV→Prop}:pop (.slA n k x lo hi) e H K=(match x.ev e with
  | .fp (.arr n' k' cs)=>k'=k∧n'=n∧n≤9223372036854775807∧bnd e lo hi n n fun l h=>K (.sl k ((cs.drop l).take (h - l)))
  | .op id ver p=>(match H[id]? with
   | some (.obj v x)=>v=ver∧n≤9223372036854775807∧(match U0 p x with | some (.arr n' k' cs)=>k'=k∧n'=n∧bnd e lo hi n n fun l h=>K (.os k id ver p l (h - l) (n - l)) | _=>False)
   | _=>False)
  | _=>False):=Ad rfl
theorem Brm {f:Fn} {first:List Opd} {caps:List Opd} {K:TV→Prop}:pop (.mkf f first caps) e H K=((∀ x∈first++caps,DY (x.ev e)=false)∧K (.fn f (first.map (·.ev e)) (caps.map (·.ev e)))):=Ad rfl
theorem Br5 {x:Opd} {K:TV→Prop}:pop (.nilc x) e H K=(match x.ev e with
  | .op id ver p=>K (.op id ver p)
  | .fp y=>K (.fp y)
  | .fn (.func f) a b=>K (.fn (.func f) a b)
  | .ifc t y=>K (.ifc t y)
  | .val (.func (.func f) a b)=>K (.val (.func (.func f) a b))
  | _=>False):=Ad rfl
theorem Bfr {k:Nat} {n:Nat} {z:TV} {ps:List (Nat×Opd)} {K:TV→List Ob→Prop}:sop P (.bslice k n z ps) e H K=((JS e (List.replicate n k) ps∧Dh e ps∧n≤1000)∧K (.os k H.length 0 [] 0 n n) (H++[.obj 0 (.arr n k (L8 e (List.replicate n z) ps))])):=Ad rfl
theorem Bp9 {sz:Nat} {x:Opd} {v:Opd} {K:TV→List Ob→Prop}:sop P (.store sz x v) e H K=((lays (v.ev e)=true∧AC (v.ev e)=sz)∧(match x.ev e with
  | .op id ver p=>(match H[id]? with
   | some (.obj vr y)=>vr=ver∧(match Aes p y (v.ev e) with | some y'=>K .any (H.set id (.obj ver y')) | none=>False)
   | _=>False)
  | _=>False)):=Ad rfl
theorem BmA {f:FuncId} {args:List Opd} {K:TV→List Ob→Prop}:sop P (.call f args) e H K=((∀ x∈args,DY (x.ev e)=false)∧Au P f (args.map (·.ev e)) H K):=Ad rfl
theorem BlA {x:Opd} {args:List Opd} {K:TV→List Ob→Prop}:sop P (.callv x args) e H K=((∀ x∈args,DY (x.ev e)=false)∧(match x.ev e with
  | .fn (.func f) first caps=>AiM P f=true∧Au P f (first++args.map (·.ev e)++caps) H K
  | .val (.func (.func f) xs ys)=>(xs.isEmpty && ys.isEmpty)=true∧AiM P f=true∧Au P f (args.map (·.ev e)) H K
  | .yl id ver=>Akn P id ver (args.map (·.ev e)) H K
  | _=>False)):=Ad rfl
theorem Bmg  {Q:VEx→Env→List Ob→Prop}:vwp P (.skip ) Q e H=(Q .nor e H):=Ad rfl
theorem Bs9 {a:Af} {b:Af} {Q:VEx→Env→List Ob→Prop}:vwp P (.seq a b) Q e H=(vwp P a (fun x e H=>match x with | .nor=>vwp P b Q e H | .exit i=>Q (.exit i) e H | .ret=>Q .ret e H | .pan u=>Q (.pan u) e H) e H):=Ad rfl
theorem BnD {lv:List Nat} {c:Af} {Q:VEx→Env→List Ob→Prop} {H0:List Ob}:vwp P (.loop lv c) Q e H0=(∃ (I:Nat→Env→List Ob→Prop) (n:Nat),I n (forget lv e) H0 ∧
   ∀ n e H,I n e H→vwp P c (fun x e H=>match x with | .nor=>∃ m g,m<n∧(H0.length≤g∧(H.length≤g∨(AiJ g (forget lv e)=true∧Ai1 g (H.take g)=true)))∧I m (forget lv e) (H.take g) | .exit i=>Q (.exit i) e H | .ret=>Q .ret e H | .pan u=>Q (.pan u) e H) e H):=Ad rfl
theorem Bn0 {id:Nat} {Q:VEx→Env→List Ob→Prop}:vwp P (.exit id) Q e H=(Q (.exit id) e H):=Ad rfl
theorem Brs  {Q:VEx→Env→List Ob→Prop}:vwp P (.ret ) Q e H=(Q .ret e H):=Ad rfl
theorem Bls {c:Af} {Q:VEx→Env→List Ob→Prop}:vwp P (.scope c) Q e H=(vwp P c Q e H):=Ad rfl
theorem Bta {s k:Nat} {c:Af} {Q:VEx→Env→List Ob→Prop}:vwp P (.own s k c) Q e H=(match get e s with
  | .val (.slice none 0 0)=>vwp P c Q ((s,.os k H.length 0 [] 0 0 0)::e) (H++[.obj 0 (.arr 0 k [])])
  | _=>vwp P c Q e H):=Ad rfl
theorem BoG {s k:Nat} {p:List (Nat×Nat)} {c:Af} {Q:VEx→Env→List Ob→Prop}:vwp P (.ownB s p k c) Q e H=(match get e s with
  | .op id ver p0=>(match H[id]? with
   | some (.obj v x)=>v=ver∧(match U0 (p0++p) x with
    | some (.val (.slice none 0 0))=>(match Aes (p0++p) x (.os k H.length 0 [] 0 0 0) with
     | some x'=>vwp P c Q e (H.set id (.obj ver x')++[.obj 0 (.arr 0 k [])])
     | none=>False)
    | _=>vwp P c Q e H)
   | _=>False)
  | _=>False):=Ad rfl
theorem BoP {s:Nat} {t:TypeId} {p:List (Nat×Nat)} {c:Af} {Q:VEx→Env→List Ob→Prop}:vwp P (.ownT s p t c) Q e H=(match get e s with
  | .op id ver p0=>(match H[id]? with
   | some (.obj v x)=>v=ver∧(match U0 (p0++p) x with
    | some (.val (.slice none 0 0))=>(match Aes (p0++p) x (.os 1 H.length 0 [] 0 0 0) with
     | some x'=>vwp P c Q e (H.set id (.obj ver x')++[.bld 0 t []])
     | none=>False)
    | _=>vwp P c Q e H)
   | _=>False)
  | _=>False):=Ad rfl
theorem BiB {K:Env→List Ob→Prop}:Ajm P [] K e H=K e H:=Ad rfl
theorem BmY {d:Nat} {o:POp} {r:List VO} {K:Env→List Ob→Prop}:Ajm P (⟨some d,.p o,none⟩::r) K e H=pop o e H fun x=>Ajm P r K ((d,x)::e) H:=Ad rfl
theorem Bni {d:Nat} {o:SOp} {r:List VO} {K:Env→List Ob→Prop}:Ajm P (⟨some d,.s o,none⟩::r) K e H=sop P o e H fun x H=>Ajm P r K ((d,x)::e) H:=Ad rfl
theorem Bjv {o:SOp} {r:List VO} {K:Env→List Ob→Prop}:Ajm P (⟨none,.s o,none⟩::r) K e H=sop P o e H fun x H=>Ajm P r K e H:=Ad rfl
theorem Bm1 {d s:Nat} {o:VOp} {b:Bool} {r:List VO} {K:Env→List Ob→Prop}:Ajm P (⟨some d,o,some (s,b)⟩::r) K e H=Alq e s fun e q=>match q with
 | some t=>if t=b then vop P o e H (fun x H=>Ajm P r K ((d,x)::e) H) else Ajm P r K ((d,.val undef)::e) H
 | none=>Ajm P r K ((d,.val undef)::e) H:=Ad rfl
theorem Bp8 {o:POp} {K:TV→List Ob→Prop}:vop P (.p o) e H K=pop o e H fun x=>K x H:=Ad rfl
theorem Brb {o:SOp} {K:TV→List Ob→Prop}:vop P (.s o) e H K=sop P o e H K:=Ad rfl
theorem Bnt {K:Env→Prop}:vq P [] K e H=K e:=Ad rfl
theorem Bs3 {d:Nat} {o:POp} {r:List VO} {K:Env→Prop}:vq P (⟨some d,.p o,none⟩::r) K e H=pop o e H fun x=>vq P r K ((d,x)::e) H:=Ad rfl
theorem Btd {d:Nat} {f:FuncId} {args:List Opd} {r:List VO} {K:Env→Prop}:vq P (⟨some d,.s (.call f args),none⟩::r) K e H=((∀ x∈args,DY (x.ev e)=false)∧∃ x,Au P f (args.map (·.ev e)) H (fun y H'=>y=x∧H'=H)∧vq P r K ((d,x)::e) H):=Ad rfl
theorem Bj2 {o:POp} {k:TV→Prop}:quiet P (.p o) e H k=pop o e H k:=Ad rfl
theorem BkV {f:FuncId} {args:List Opd} {k:TV→Prop}:quiet P (.s (.call f args)) e H k=((∀ x∈args,DY (x.ev e)=false)∧∃ x,Au P f (args.map (·.ev e)) H (fun y H'=>y=x∧H'=H)∧k x):=Ad rfl
variable {t:TypeId} {a b:Int} {k:IntKind}
theorem Nc {n:Int} (h1 : -9223372036854775808≤n) (h2:n≤9223372036854775807):IntKind.i64.wrap n=n:=by rw [IntKind.wrap_i64]; omega
theorem BrR (h1 : -9223372036854775808≤a+b) (h2:a+b≤9223372036854775807):I9 t .add (.int .i64 a) (.int .i64 b)=some (.int .i64 (a+b)):=by
 rw [show I9 t .add (.int .i64 a) (.int .i64 b)=some (.int .i64 (IntKind.i64.wrap (a+b))) from rfl,Nc h1 h2]
theorem Bqz (h1 : -9223372036854775808≤a - b) (h2:a - b≤9223372036854775807):I9 t .sub (.int .i64 a) (.int .i64 b)=some (.int .i64 (a - b)):=by
 rw [show I9 t .sub (.int .i64 a) (.int .i64 b)=some (.int .i64 (IntKind.i64.wrap (a - b))) from rfl,Nc h1 h2]
theorem Bqq (h1 : -9223372036854775808≤a*b) (h2:a*b≤9223372036854775807):I9 t .mul (.int .i64 a) (.int .i64 b)=some (.int .i64 (a*b)):=by
 rw [show I9 t .mul (.int .i64 a) (.int .i64 b)=some (.int .i64 (IntKind.i64.wrap (a*b))) from rfl,Nc h1 h2]
theorem Brp:I9 t .eql (.int k a) (.int k b)=some (.bool (decide (a=b))):=by
 rw [show I9 t .eql (.int k a) (.int k b)=some (.bool (a == b)) from by simp [I9,binOp,Op.intCmp]; rfl]; rfl
theorem Bq2:I9 t .neq (.int k a) (.int k b)=some (.bool (!decide (a=b))):=by
 rw [show I9 t .neq (.int k a) (.int k b)=some (.bool (a != b)) from by simp [I9,binOp,Op.intCmp]; rfl]; rfl
theorem Brz:I9 t .lss (.int k a) (.int k b)=some (.bool (decide (a<b))):=by simp [I9,binOp,Op.intCmp]; rfl
theorem Bq7:I9 t .leq (.int k a) (.int k b)=some (.bool (decide (a≤b))):=by simp [I9,binOp,Op.intCmp]; rfl
theorem BpA:I9 t .gtr (.int k a) (.int k b)=some (.bool (decide (b<a))):=by simp [I9,binOp,Op.intCmp]; rfl
theorem BqJ:I9 t .geq (.int k a) (.int k b)=some (.bool (decide (b≤a))):=by simp [I9,binOp,Op.intCmp]; rfl
theorem A3k:JL 0 (.val (.pointer none))=some true:=Ad rfl
theorem A4k {i v:Nat} {p:List (Nat×Nat)}:JL 0 (.op i v p)=some false:=Ad rfl
theorem AsN {x:TV}:JL 0 (.fp x)=some false:=Ad rfl
theorem BeN:JL 1 (.val .nilIface)=some true:=Ad rfl
theorem Ar9 {t:TypeId} {x:TV}:JL 1 (.ifc t x)=some false:=Ad rfl
theorem A3s:JL 2 (.val (.map none))=some true:=Ad rfl
theorem BeO {i v:Nat}:JL 2 (.mp i v)=some false:=Ad rfl
theorem AsO {i v:Nat}:JL 3 (.yl i v)=some false:=Ad rfl
theorem A3b:JL 3 (.val .nilFunc)=some true:=Ad rfl
theorem AsF {f:Fn} {a b:List TV}:JL 3 (.fn f a b)=some false:=Ad rfl
theorem Bps {n:Int} (h0:0≤n) (h1:n<18446744073709551616):(BitVec.ofInt 64 n).toNat=n.toNat:=by
 rw [BitVec.toNat_ofInt]
 have:n % ((2 ^ 64:Nat):Int)=n:=Int.emod_eq_of_lt h0 (by simpa using h1)
 rw [this]
theorem BpG (h1:0≤a) (h2:a≤9223372036854775807) (h3:0≤b) (h4:b≤9223372036854775807):I9 t .and (.int .i64 a) (.int .i64 b)=some (.int .i64 ((a.toNat &&& b.toNat:Nat):Int)):=by
 rw [show I9 t .and (.int .i64 a) (.int .i64 b)=some (.int .i64 (IntKind.i64.wrap ((BitVec.ofInt 64 a &&& BitVec.ofInt 64 b).toNat:Int))) from rfl,BitVec.toNat_and,Bps h1 (by omega),Bps h3 (by omega)]
 have:=Nat.and_le_left (n:=a.toNat) (m:=b.toNat)
 rw [Nc (by omega) (by omega)]
theorem Btr (h1:0≤a) (h2:a≤9223372036854775807) (h3:0≤b) (h4:b≤9223372036854775807):I9 t .or (.int .i64 a) (.int .i64 b)=some (.int .i64 ((a.toNat ||| b.toNat:Nat):Int)):=by
 rw [show I9 t .or (.int .i64 a) (.int .i64 b)=some (.int .i64 (IntKind.i64.wrap ((BitVec.ofInt 64 a ||| BitVec.ofInt 64 b).toNat:Int))) from rfl,BitVec.toNat_or,Bps h1 (by omega),Bps h3 (by omega)]
 have:=Nat.or_lt_two_pow (n:=63) (x:=a.toNat) (y:=b.toNat) (by omega) (by omega)
 rw [Nc (by omega) (by omega)]
theorem Br0 {k2:IntKind} (h1:0≤b) (h2:b≤63) (h3:0≤a*2 ^ b.toNat) (h4:a*2 ^ b.toNat≤9223372036854775807):I9 t .shl (.int .i64 a) (.int k2 b)=some (.int .i64 (a*2 ^ b.toNat)):=by
 have e:binOp .shl t (.int .i64 a) (.int k2 b)=pure (.int .i64 (a*2 ^ b.toNat)):=by
  show Op.shift .shl .i64 a k2 b=_
  unfold Op.shift
  rw [if_neg (by omega)]
  have hm:min b.toNat IntKind.i64.bits=b.toNat:=by
   have:IntKind.i64.bits=64:=rfl
   omega
  simp only [hm]
  rw [Nc (by omega) h4]
 unfold I9; rw [e]; rfl
theorem BqY {k2:IntKind} (h1:0≤b) (h2:b≤63) (h3:0≤a):I9 t .shr (.int .i64 a) (.int k2 b)=some (.int .i64 (a / 2 ^ b.toNat)):=by
 have e:binOp .shr t (.int .i64 a) (.int k2 b)=pure (.int .i64 (a / 2 ^ b.toNat)):=by
  show Op.shift .shr .i64 a k2 b=_
  unfold Op.shift
  rw [if_neg (by omega)]
  have hm:min b.toNat IntKind.i64.bits=b.toNat:=by
   have:IntKind.i64.bits=64:=rfl
   omega
  simp only [hm]
  rw [Int.fdiv_eq_ediv_of_nonneg _ (by exact Int.le_of_lt (Int.pow_pos (by omega)))]
 unfold I9; rw [e]; rfl
theorem Bri (h1:0≤a) (h2:b≠0):I9 t .rem (.int k a) (.int k b)=some (.int k (a % b)):=by
 have e:binOp .rem t (.int k a) (.int k b)=pure (.int k (a % b)):=by
  unfold binOp
  simp only [ne_eq,not_true_eq_false,if_false,Op.intDiv,h2,Int.tmod_eq_emod_of_nonneg h1]
 unfold I9; rw [e]; rfl
theorem Brg (h1:0≤a) (h2:0<b) (h3:a≤9223372036854775807):I9 t .quo (.int .i64 a) (.int .i64 b)=some (.int .i64 (a / b)):=by
 have e:binOp .quo t (.int .i64 a) (.int .i64 b)=pure (.int .i64 (a / b)):=by
  unfold binOp
  simp only [ne_eq,not_true_eq_false,if_false,Op.intDiv,show ¬ b=0 from by omega,Int.tdiv_eq_ediv_of_nonneg h1]
  have h4:a / b≤a:=Int.ediv_le_self _ h1
  have h5:0≤a / b:=Int.ediv_nonneg h1 (by omega)
  rw [Nc (by omega) (by omega)]
 unfold I9; rw [e]; rfl
theorem BnX {x y:UInt8}:I9 t .xor (.int .u8 (x.toNat:Int)) (.int .u8 (y.toNat:Int))=some (.int .u8 ((x ^^^ y).toNat:Int)):=by
 rw [show I9 t .xor (.int .u8 (x.toNat:Int)) (.int .u8 (y.toNat:Int))=some (.int .u8 (IntKind.u8.wrap ((BitVec.ofInt 8 (x.toNat:Int) ^^^ BitVec.ofInt 8 (y.toNat:Int)).toNat:Int))) from rfl]
 rw [BitVec.ofInt_natCast,BitVec.ofInt_natCast,UInt8.toNat_xor,BitVec.toNat_xor,BitVec.toNat_ofNat,BitVec.toNat_ofNat,Nat.mod_eq_of_lt x.toNat_lt,Nat.mod_eq_of_lt y.toNat_lt]
 have:=Nat.xor_lt_two_pow (n:=8) x.toNat_lt y.toNat_lt
 rw [IntKind.wrap_u8]; congr 2; omega
theorem Adr (l:List UInt8):(str l).toList=l:=by simp [str,ByteArray.toList_eq]
theorem Aqs {l m:List UInt8}:(l == m)=decide (l=m):=by
 by_cases h:l=m<;>simp [h]
theorem BqC {l m:List UInt8}:I9 t .eql (.string (str l)) (.string (str m))=some (.bool (decide (l=m))):=by
 rw [show I9 t .eql (.string (str l)) (.string (str m))=some (.bool ((str l).toList == (str m).toList)) from rfl,Adr,Adr,Aqs]
theorem Bpw {l m:List UInt8}:I9 t .neq (.string (str l)) (.string (str m))=some (.bool (!decide (l=m))):=by
 rw [show I9 t .neq (.string (str l)) (.string (str m))=some (.bool (!((str l).toList == (str m).toList))) from rfl,Adr,Adr,Aqs]
theorem BpR {b:Bool}:unV .not (.bool b)=some (.bool (!b)):=Ad rfl
theorem Bf1 {u:Value}:BgI (.int k a) u=true:=by cases u<;>rfl
theorem Bhe {s:ByteArray} {u:Value}:BgI (.string s) u=true:=by cases u<;>rfl
theorem BhT {v:Value}:Aiq (TV.val v)=false:=Ad rfl
theorem BfT  : Aiq (TV.any)=false:=Ad rfl
theorem Bjk {k:Nat} {cs:List TV}:Aiq (TV.sl k cs)=false:=Ad rfl
theorem Bko {x:TV}:Aiq (TV.fp x)=false:=Ad rfl
theorem BlV {i:Nat} {v:Nat} {p:List (Nat×Nat)}:Aiq (TV.op i v p)=false:=Ad rfl
theorem Bjp {k:Nat} {i:Nat} {v:Nat} {p:List (Nat×Nat)} {o:Nat} {n:Nat} {cp:Nat}:Aiq (TV.os k i v p o n cp)=false:=Ad rfl
theorem BhQ {cs:List TV}:Aiq (TV.agg cs)=true:=Ad rfl
theorem Bfm {n:Nat} {k:Nat} {cs:List TV}:Aiq (TV.arr n k cs)=true:=Ad rfl
theorem BgR {vs:List TV}:Aiq (TV.tup vs)=false:=Ad rfl
theorem Bfz {t:TypeId} {x:TV}:Aiq (TV.ifc t x)=false:=Ad rfl
theorem BlW {f:Fn} {a:List TV} {b:List TV}:Aiq (TV.fn f a b)=false:=Ad rfl
theorem BkS {i:Nat} {v:Nat}:Aiq (TV.mp i v)=false:=Ad rfl
theorem Bj8 {i:Nat} {v:Nat}:Aiq (TV.yl i v)=false:=Ad rfl
theorem A3I {v:Value}:DY (TV.val v)=false:=Ad rfl
theorem BeS  : DY (TV.any)=false:=Ad rfl
theorem BfV {k:Nat} {cs:List TV}:DY (TV.sl k cs)=false:=Ad rfl
theorem Bh5 {x:TV}:DY (TV.fp x)=false:=Ad rfl
theorem BgK {i:Nat} {v:Nat} {p:List (Nat×Nat)}:DY (TV.op i v p)=false:=Ad rfl
theorem BhM {k:Nat} {i:Nat} {v:Nat} {p:List (Nat×Nat)} {o:Nat} {n:Nat} {cp:Nat}:DY (TV.os k i v p o n cp)=false:=Ad rfl
theorem Be3 {cs:List TV}:DY (TV.agg cs)=false:=Ad rfl
theorem Be2 {n:Nat} {k:Nat} {cs:List TV}:DY (TV.arr n k cs)=false:=Ad rfl
theorem Be5 {vs:List TV}:DY (TV.tup vs)=true:=Ad rfl
theorem A2T {t:TypeId} {x:TV}:DY (TV.ifc t x)=false:=Ad rfl
theorem BhV {f:Fn} {a:List TV} {b:List TV}:DY (TV.fn f a b)=false:=Ad rfl
theorem Bhf {i:Nat} {v:Nat}:DY (TV.mp i v)=false:=Ad rfl
theorem BhI {i:Nat} {v:Nat}:DY (TV.yl i v)=false:=Ad rfl
theorem BhF  : lays (TV.any)=false:=Ad rfl
theorem Bkf {k:Nat} {cs:List TV}:lays (TV.sl k cs)=true:=Ad rfl
theorem Bky {x:TV}:lays (TV.fp x)=true:=Ad rfl
theorem BlQ {i:Nat} {v:Nat} {p:List (Nat×Nat)}:lays (TV.op i v p)=true:=Ad rfl
theorem BkC {k:Nat} {i:Nat} {v:Nat} {p:List (Nat×Nat)} {o:Nat} {n:Nat} {cp:Nat}:lays (TV.os k i v p o n cp)=true:=Ad rfl
theorem Bfy {cs:List TV}:lays (TV.agg cs)=true:=Ad rfl
theorem Biu {n:Nat} {k:Nat} {cs:List TV}:lays (TV.arr n k cs)=true:=Ad rfl
theorem BgC {vs:List TV}:lays (TV.tup vs)=false:=Ad rfl
theorem Bhd {t:TypeId} {x:TV}:lays (TV.ifc t x)=true:=Ad rfl
theorem Blf {f:Fn} {a:List TV} {b:List TV}:lays (TV.fn f a b)=true:=Ad rfl
theorem Bjn {i:Nat} {v:Nat}:lays (TV.mp i v)=true:=Ad rfl
theorem BjF {i:Nat} {v:Nat}:lays (TV.yl i v)=true:=Ad rfl
theorem A2J {v:Value}:Hm (TV.val v)=true:=Ad rfl
theorem BeX  : Hm (TV.any)=true:=Ad rfl
theorem Bhc {k:Nat} {cs:List TV}:Hm (TV.sl k cs)=true:=Ad rfl
theorem BgU {x:TV}:Hm (TV.fp x)=true:=Ad rfl
theorem Biw {i:Nat} {v:Nat} {p:List (Nat×Nat)}:Hm (TV.op i v p)=false:=Ad rfl
theorem Bhm {k:Nat} {i:Nat} {v:Nat} {p:List (Nat×Nat)} {o:Nat} {n:Nat} {cp:Nat}:Hm (TV.os k i v p o n cp)=false:=Ad rfl
theorem A3d {n:Nat} {k:Nat} {cs:List TV}:Hm (TV.arr n k cs)=true:=Ad rfl
theorem BgY {i:Nat} {v:Nat}:Hm (TV.mp i v)=false:=Ad rfl
theorem Bfn {i:Nat} {v:Nat}:Hm (TV.yl i v)=false:=Ad rfl
theorem As4 {v:Value}:AC (TV.val v)=1:=Ad rfl
theorem A2Q  : AC (TV.any)=1:=Ad rfl
theorem BhK {k:Nat} {cs:List TV}:AC (TV.sl k cs)=1:=Ad rfl
theorem Bf9 {x:TV}:AC (TV.fp x)=1:=Ad rfl
theorem Bid {i:Nat} {v:Nat} {p:List (Nat×Nat)}:AC (TV.op i v p)=1:=Ad rfl
theorem Bil {k:Nat} {i:Nat} {v:Nat} {p:List (Nat×Nat)} {o:Nat} {n:Nat} {cp:Nat}:AC (TV.os k i v p o n cp)=1:=Ad rfl
theorem A2I {vs:List TV}:AC (TV.tup vs)=1:=Ad rfl
theorem A3r {t:TypeId} {x:TV}:AC (TV.ifc t x)=1:=Ad rfl
theorem BgJ {f:Fn} {a:List TV} {b:List TV}:AC (TV.fn f a b)=1:=Ad rfl
theorem BfX {i:Nat} {v:Nat}:AC (TV.mp i v)=1:=Ad rfl
theorem BgA {i:Nat} {v:Nat}:AC (TV.yl i v)=1:=Ad rfl
theorem BeW {cs:List TV}:AC (.agg cs)=Dw cs:=by rw [AC]
theorem A31 {n k:Nat} {cs:List TV}:AC (.arr n k cs)=n*k:=by rw [AC]
theorem Asu:Dw []=0:=Ad rfl
theorem Apk {x:TV} {xs:List TV}:Dw (x::xs)=AC x+Dw xs:=by rw [Dw]
theorem A4p {cs:List TV}:Hm (.agg cs)=DI cs:=by rw [Hm]
theorem As3 {t:TypeId} {x:TV}:Hm (.ifc t x)=Hm x:=by rw [Hm]
theorem A3y {cs:List TV}:Hm (.tup cs)=DI cs:=by rw [Hm]
theorem A3z:DI []=true:=Ad rfl
theorem Asq {x:TV} {xs:List TV}:DI (x::xs)=(Hm x && DI xs):=by rw [DI]
theorem BhP {k:IntKind} {n:Int}:lays (.val (.int k n))=true:=Ad rfl
theorem A4o {b:Bool}:lays (.val (.bool b))=true:=Ad rfl
theorem ApD {s:ByteArray}:lays (.val (.string s))=true:=Ad rfl
theorem Aop {p:Option Addr}:lays (.val (.pointer p))=true:=Ad rfl
theorem Ass {p:Option Addr} {n c:Nat}:lays (.val (.slice p n c))=true:=Ad rfl
theorem Bgj {r:Option Nat}:lays (.val (.map r))=true:=Ad rfl
theorem A35 {f:Fn} {a b:Array Value}:lays (.val (.func f a b))=true:=Ad rfl
theorem Aoz:lays (.val .nilFunc)=true:=Ad rfl
theorem Amo:lays (.val .nilIface)=true:=Ad rfl
theorem Bs2 {e:Env} {n:Nat}:(Opd.t n).ev e=get e n:=Ad rfl
theorem Bs5 {e:Env} {n:Nat}:(Opd.g n).ev e=(match Qx n with | some x => .fp x.tv | none => .val (.pointer (some ⟨n,0,none⟩))):=Ad rfl
theorem BsW {e:Env} {v:Value}:(Opd.c v).ev e = .val v:=Ad rfl
theorem BfC {x:TV}:U0 [] x=some x:=Ad rfl
theorem Bgb {i d:Nat} {p:List (Nat×Nat)} {cs:List TV}:U0 ((i,d)::p) (.agg cs)=if Dw (cs.take i)=d then (cs[i]?).bind (U0 p) else none:=by rw [U0]
theorem BhR {i d n k:Nat} {p:List (Nat×Nat)} {cs:List TV}:U0 ((i,d)::p) (.arr n k cs)=if d=i*k then (cs[i]?).bind (U0 p) else none:=by rw [U0]
theorem Am4 {x y:TV}:Aes [] x y=if AC y=AC x then some y else none:=by rw [Aes]
theorem BiL {i d:Nat} {p:List (Nat×Nat)} {cs:List TV} {y:TV}:Aes ((i,d)::p) (.agg cs) y=if Dw (cs.take i)=d then (cs[i]?).bind fun c=>(Aes p c y).map fun c' => .agg (cs.set i c') else none:=by rw [Aes]
theorem BfS {i d n k:Nat} {p:List (Nat×Nat)} {cs:List TV} {y:TV}:Aes ((i,d)::p) (.arr n k cs) y=if d=i*k∧Hm y=true then (cs[i]?).bind fun c=>(Aes p c y).map fun c' => .arr n k (cs.set i c') else none:=by rw [Aes]
theorem Asw {e:Env}:forget [] e=[]:=Ad rfl
theorem ApJ {e:Env} {s:Nat} {ks:List Nat}:forget (s::ks) e=(s,get e s)::forget ks e:=Ad rfl
theorem A38 {i:Nat}:AmU i []=[]:=Ad rfl
theorem Arw {i:Nat} {x:TV} {xs:List TV}:AmU i (x::xs)=(i,x)::AmU (i+1) xs:=Ad rfl
theorem BfO {ag:Bool} {sz:Nat} {y:TV}:AlL ag sz y=(AC y=sz∧Aiq y=ag):=Ad rfl
theorem Arz {H:List Ob} {k k2:Nat} {cs:List TV}:Dz H k (.sl k2 cs)=if k2=k then some cs else none:=Ad rfl
theorem Apu {H:List Ob} {k:Nat} {p:Option Addr} {n c:Nat}:Dz H k (.val (.slice p n c))=if n=0∧p.isNone∧c=0 then some [] else none:=Ad rfl
theorem Ar3 {H:List Ob} {k k2 i v o n cp:Nat} {p:List (Nat×Nat)}:Dz H k (.os k2 i v p o n cp)=if k2=k then (match H[i]? with | some (.obj vr x)=>if vr=v then JU p k o n x else none | _=>none) else none:=Ad rfl
theorem ApE {k k2 o n N:Nat} {cs:List TV}:JU [] k o n (.arr N k2 cs)=if k2=k∧o+n≤cs.length then some ((cs.drop o).take n) else none:=Ad rfl
theorem AsM {e:Env} {zs:List TV}:L8 e zs []=zs:=Ad rfl
theorem Arl {e:Env} {zs:List TV} {i:Nat} {x:Opd} {ps:List (Nat×Opd)}:L8 e zs ((i,x)::ps)=L8 e (zs.set i (x.ev e)) ps:=Ad rfl
theorem Ape {e:Env} {ks:List Nat}:JS e ks []=True:=Ad rfl
theorem Aot {e:Env} {ks:List Nat} {i:Nat} {x:Opd} {ps:List (Nat×Opd)}:JS e ks ((i,x)::ps)=((lays (x.ev e)=true∧ks[i]?=some (AC (x.ev e)))∧JS e ks ps):=Ad rfl
theorem Anh {e:Env}:Dh e []=True:=Ad rfl
theorem Alu {e:Env} {i:Nat} {x:Opd} {ps:List (Nat×Opd)}:Dh e ((i,x)::ps)=(Hm (x.ev e)=true∧Dh e ps):=Ad rfl
theorem Bkz {t:Nat} {e:Env} {H:List Ob} {K:TV→Prop}:res [.tmp t] e H K=K (get e t):=Ad rfl
theorem Bhv {a sz:Nat} {ag:Bool} {e:Env} {H:List Ob} {K:TV→Prop}:res [.cell a ag sz] e H K=pop (.load ag sz (.t a)) e H K:=Ad rfl
theorem Bfc {e:Env} {H:List Ob} {K:TV→Prop}:res [] e H K=((∀ x∈([]:List TV),DY x=false)∧K (.tup [])):=Ad rfl
theorem BqB {r s:VR} {e:Env} {H:List Ob} {K:TV→Prop}:res [r,s] e H K=AoX [r,s] e H fun xs=>match xs with | [x]=>K x | xs=>(∀ x∈xs,DY x=false)∧K (.tup xs):=Ad rfl
theorem Bhp {r s:VR} {l:List VR} {e:Env} {H:List Ob} {K:TV→Prop}:res (r::s::l) e H K=AoX (r::s::l) e H fun xs=>match xs with | [x]=>K x | xs=>(∀ x∈xs,DY x=false)∧K (.tup xs):=Ad rfl
theorem Aqw {e:Env} {H:List Ob} {K:List TV→Prop}:AoX [] e H K=K []:=Ad rfl
theorem Bga {t:Nat} {r:List VR} {e:Env} {H:List Ob} {K:List TV→Prop}:AoX (.tmp t::r) e H K=AoX r e H fun xs=>K (get e t::xs):=Ad rfl
theorem Aoc {a sz:Nat} {ag:Bool} {r:List VR} {e:Env} {H:List Ob} {K:List TV→Prop}:AoX (.cell a ag sz::r) e H K=pop (.load ag sz (.t a)) e H fun x=>AoX r e H fun xs=>K (x::xs):=Ad rfl
theorem Anz {vr:List VR} {R:TV→List Ob→Prop} {e:Env} {H:List Ob}:Acy vr R .ret e H=res vr e H fun x=>R x H:=Ad rfl
theorem An7 {vr:List VR} {R:TV→List Ob→Prop} {e:Env} {H:List Ob}:Acy vr R .nor e H=res vr e H fun x=>R x H:=Ad rfl
theorem BfR {H:List Ob} {g:TV→Option TV} {v:Value}:Oq H g (TV.val v)=some (.val v):=by rw [Oq]
theorem Bhz {H:List Ob} {g:TV→Option TV}  : Oq H g (TV.any)=some (.any):=by rw [Oq]
theorem Bkd {H:List Ob} {g:TV→Option TV} {k:Nat} {cs:List TV}:Oq H g (TV.sl k cs)=some (.sl k cs):=by rw [Oq]
theorem Bku {H:List Ob} {g:TV→Option TV} {x:TV}:Oq H g (TV.fp x)=some (.fp x):=by rw [Oq]
theorem BfZ {H:List Ob} {g:TV→Option TV} {n:Nat} {k:Nat} {cs:List TV}:Oq H g (TV.arr n k cs)=some (.arr n k cs):=by rw [Oq]
theorem BkP {H:List Ob} {g:TV→Option TV} {k i v o n cp:Nat} {p:List (Nat×Nat)}:Oq H g (.os k i v p o n cp)=(match H[i]? with | some (.obj vr x)=>if vr=v then (JU p k o n x).map (.sl k) else none | _=>none):=by rw [Oq]; rfl
theorem Bka {H:List Ob} {g:TV→Option TV} {i v:Nat} {p:List (Nat×Nat)}:Oq H g (.op i v p)=(match H[i]? with | some (.obj vr x)=>if vr=v then (U0 p x).bind fun y=>(g y).map .fp else none | _=>none):=by rw [Oq]; rfl
theorem BgS {H:List Ob} {g:TV→Option TV} {cs:List TV}:Oq H g (.agg cs)=(Aas H g cs).map .agg:=by rw [Oq]
theorem Bho {H:List Ob} {g:TV→Option TV} {cs:List TV}:Oq H g (.tup cs)=(Aas H g cs).map .tup:=by rw [Oq]
theorem BhY {H:List Ob} {g:TV→Option TV} {t:TypeId} {x:TV}:Oq H g (.ifc t x)=(Oq H g x).map (.ifc t):=by rw [Oq]
theorem AsV {H:List Ob} {g:TV→Option TV}:Aas H g []=some []:=Ad rfl
theorem ArQ {H:List Ob} {g:TV→Option TV} {x:TV} {xs:List TV}:Aas H g (x::xs)=(match Oq H g x,Aas H g xs with | some x,some xs=>some (x::xs) | _,_=>none):=by rw [Aas]; rfl
theorem BrK {H:List Ob} {x:TV}:frz H x=Oq H (Asx H 2) x:=Ad rfl
theorem BoK {H:List Ob} {x:List TV}:Bpb H x=Aas H (Asx H 2) x:=Ad rfl
theorem BmF {H:List Ob} {d:Nat} {x:TV}:Asx H (d+1) x=Oq H (Asx H d) x:=Ad rfl
theorem BlT {H:List Ob} {v:Value}:frs H (.val v)=some (.val v):=by rw [frs]
theorem BlS {H:List Ob}:frs H .any=some .any:=by rw [frs]
theorem BnP {H:List Ob} {k i v o n cp:Nat} {p:List (Nat×Nat)}:frs H (.os k i v p o n cp)=(match H[i]? with | some (.obj vr x)=>if vr=v then (match JU p k o n x with | some cs=>if MZ cs then some (.sl k cs) else none | none=>none) else none | _=>none):=by rw [frs]; try rfl
theorem Bjj {H:List Ob} {cs:List TV}:frs H (.agg cs)=(AoY H cs).map .agg:=by rw [frs]
theorem Bk5 {H:List Ob} {n k:Nat} {cs:List TV}:frs H (.arr n k cs)=if MZ cs then some (.arr n k cs) else none:=by rw [frs]
theorem BkT {H:List Ob} {cs:List TV}:frs H (.tup cs)=(AoY H cs).map .tup:=by rw [frs]
theorem Bjm {H:List Ob} {t:TypeId} {x:TV}:frs H (.ifc t x)=(frs H x).map (.ifc t):=by rw [frs]
theorem BfM {H:List Ob}:AoY H []=some []:=by rw [AoY]
theorem A24 {H:List Ob} {x:TV} {xs:List TV}:AoY H (x::xs)=(match frs H x,AoY H xs with | some x,some xs=>some (x::xs) | _,_=>none):=by rw [AoY]; try rfl
theorem AoG {l:List UInt8}:MZ (l.map by8)=true:=by
 induction l with
 | nil=>rfl
 | cons x l ih=>rw [List.map_cons,MZ,ih]; rfl
theorem Bie {l:List (List UInt8)}:MZ (l.map ts)=true:=by
 induction l with
 | nil=>rfl
 | cons x l ih=>rw [List.map_cons,MZ,ih]; rfl
theorem Bfu {l:List UInt8}:(l.map by8).map AiX=l:=by
 rw [List.map_map]
 have:(AiX ∘ by8)=id:=by funext b; simp
 rw [this,List.map_id]
theorem Bif {l:List UInt8}:(∀ y∈l.map by8,Ase y)=True:=by simp
theorem BhU {a b:Nat}:((a:Int)+(b:Int))=((a+b:Nat):Int):=by omega
theorem BjY {a b:Nat}:((a:Int)<(b:Int))=(a<b):=by simp
theorem BjL {a b:Nat}:((a:Int)≤(b:Int))=(a≤b):=by simp
theorem BkZ {a b:Nat}:((a:Int)=(b:Int))=(a=b):=propext ⟨fun h=>by omega,fun h=>by omega⟩
theorem BlO {a:Nat}:(0≤(a:Int))=True:=by simp
theorem Bop {d s:Nat} {x:TV}:get ((d,x)::e) s=if d=s then x else get e s:=Ad rfl
end
end
section
open Go.RowKit
variable [AL]
set_option autoImplicit false
universe u
class Tg {α:Sort u} (a:α):Type where
instance tg {α:Sort u} (a:α):Tg a:={}
def vif (t:Bool) (A B:Prop) [Tg A] [Tg B]:Prop:=if t=true then A else B
def CQ {α:Type} (o:Option α) (K:α→Prop) [Tg K]:Prop:=match o with | some y=>K y | none=>False
def Iu (A K:Prop) [Tg K]:Prop:=A∧K
def Ce {α:Type} (x:α) (K:α→Prop) [Tg K]:Prop:=K x
def vex (K:TV→Prop) [Tg K]:Prop:=∃ x,K x
def VC (P:Program) (f:FuncId) (xs:List TV) (H:List Ob) (K:TV→List Ob→Prop) [Tg K]:Prop:=Au P f xs H K
def VY (P:Program) (id ver:Nat) (xs:List TV) (H:List Ob) (K:TV→List Ob→Prop) [Tg K]:Prop:=Akn P id ver xs H K
theorem Js {P:Program} {f:FuncId} {xs:List TV} {H:List Ob} {K:TV→List Ob→Prop} (h:Au P f xs H K):VC P f xs H K:=h
section
variable {A A' B K:Prop} {α:Type}
@[congr] theorem BoQ {t t':Bool} (h:t=t'):vif t A B=vif t' A B:=by rw [h]
@[congr] theorem Bl9 {o o':Option α} {K:α→Prop} (h:o=o'):CQ o K=CQ o' K:=by rw [h]
@[congr] theorem Bl6 (h:A=A'):Iu A K=Iu A' K:=by rw [h]
@[congr] theorem BlZ {x x':α} {K:α→Prop} (h:x=x'):Ce x K=Ce x' K:=by rw [h]
@[congr] theorem BoL {P:Program} {c:Af} {Q:VEx→Env→List Ob→Prop} {e e':Env} {H H':List Ob} (he:e=e') (hH:H=H'):vwp P c Q e H=vwp P c Q e' H':=by rw [he,hH]
@[congr] theorem Bpf {P:Program} {f:FuncId} {xs xs':List TV} {H H':List Ob} {K:TV→List Ob→Prop} (he:xs=xs') (hH:H=H'):VC P f xs H K=VC P f xs' H' K:=by rw [he,hH]
@[congr] theorem Bpi {P:Program} {id ver:Nat} {xs xs':List TV} {H H':List Ob} {K:TV→List Ob→Prop} (he:xs=xs') (hH:H=H'):VY P id ver xs H K=VY P id ver xs' H' K:=by rw [he,hH]
theorem Bg6:vif true A B=A:=by simp [vif]
theorem Be1:vif false A B=B:=by simp [vif]
theorem BoB {p:Prop} [Decidable p] (h:p):vif (decide p) A B=A:=by simp [vif,h]
theorem BmO {p:Prop} [Decidable p] (h:¬ p):vif (decide p) A B=B:=by simp [vif,h]
theorem BjD {t:Bool}:vif (!t) A B=vif t B A:=by cases t<;>simp [vif]
theorem A4g {p:Prop} [Decidable p] (h1:p→A) (h2:¬ p→B):vif (decide p) A B:=by by_cases h:p<;>simp [vif,h,h1,h2]
theorem Bjr {s t:Bool}:vif (s && t) A B=vif s (vif t A B) B:=by cases s<;>simp [vif]
theorem Bn5 {s t:Bool}:vif (s || t) A B=vif s A (vif t A B):=by cases s<;>simp [vif]
theorem A3W {y:α} {K:α→Prop}:CQ (some y) K=K y:=rfl
theorem Bii {β:Type} {f:α→β} {o:Option α} {K:β→Prop}:CQ (o.map f) K=CQ o fun y=>K (f y):=by cases o<;>rfl
theorem Bji {cs:List α} {i:Nat} {K:α→Prop} (h:i<cs.length):CQ cs[i]? K=K cs[i]:=by rw [List.getElem?_eq_getElem h]; rfl
theorem A2P (h:A):Iu A K=K:=by simp [Iu,h]
theorem Bov:Iu True K=K:=by simp [Iu]
theorem Bhw:Iu (A∧B) K=Iu A (Iu B K):=by simp [Iu,and_assoc]
theorem BkH {x:α} {K:α→Prop}:Ce x K=K x:=rfl
end
def O9:Option Ob→Nat→Option TV
 | some (.obj v x),ver=>if v=ver then some x else none
 | _,_=>none
theorem Bib {v:Nat} {x:TV}:O9 (some (.obj v x)) v=some x:=by simp [O9]
section
variable {H l:List Ob} {o:Ob} {n k:Nat}
theorem Bi7 (h:H.length=n):(H++l)[n]?=l[0]?:=by rw [List.getElem?_append_right (by omega),h,Nat.sub_self]
theorem BlL (h:H.length=n):(H++l)[n+k]?=l[k]?:=by rw [List.getElem?_append_right (by omega)]; congr 1; omega
theorem Bmb (h:n<H.length):(H++l)[n]?=H[n]?:=List.getElem?_append_left h
theorem Boa (h:n<H.length):(H.set n o)[n]?=some o:=by simp [h]
theorem A3H {m:Nat} (h:m≠n):(H.set m o)[n]?=H[n]?:=by rw [List.getElem?_set_ne h]
theorem BlB (h:H.length=n):(H++l).set n o=H++l.set 0 o:=by rw [List.set_append_right _ _ (by omega),h,Nat.sub_self]
theorem Bf3 (h:H.length=n):(H++l).set (n+k) o=H++l.set k o:=by rw [List.set_append_right _ _ (by omega)]; congr 2; omega
theorem BlI (h:n<H.length):(H++l).set n o=H.set n o++l:=List.set_append_left _ _ h
end
section
variable {P:Program} {e:Env} {H:List Ob}
def BeY (c a b:TV) (K:TV→Prop) [Tg K]:Prop:=match c with | .val (.bool t)=>K (if t then a else b) | _=>False
def Bpp (t:TypeId) (op:BinOp) (x y:TV) (K:TV→Prop) [Tg K]:Prop:=match x,y with
  | .val u,.val v=>BgI u v=true∧(match I9 t op u v with | some r=>K (.val r) | none=>False)
  | _,_=>False
def Pun (op:UnOp) (x:TV) (K:TV→Prop) [Tg K]:Prop:=match x with
  | .val u=>(match unV op u with | some r=>K (.val r) | none=>False)
  | _=>False
def Bfv (k:IntKind) (x:TV) (K:TV→Prop) [Tg K]:Prop:=match x with
  | .val (.int _ n)=>K (.val (.int k (k.wrap n)))
  | _=>False
def Bpt (x:TV) (K:TV→Prop) [Tg K]:Prop:=match x with
  | .val (.string s)=>K (.val (.string s))
  | _=>False
def Bpq (x:Option (List TV)) (K:TV→Prop) [Tg K]:Prop:=match x with
  | some cs=>(∀ y∈cs,Ase y)∧K (.val (.string (str (cs.map AiX))))
  | none=>False
def Apq (H:List Ob) (ag:Bool) (sz:Nat) (x:TV) (K:TV→Prop) [Tg K]:Prop:=match x with
  | .fp y=>AlL ag sz y∧K y
  | .op id ver p=>(match H[id]? with
   | some (.obj v x)=>v=ver∧(match U0 p x with | some y=>AlL ag sz y∧K y | none=>False)
   | _=>False)
  | _=>False
def Ah1 (i off:Nat) (x:TV) (K:TV→Prop) [Tg K]:Prop:=match x with
  | .op id ver p=>K (.op id ver (p++[(i,off)]))
  | .fp (.agg cs)=>Dw (cs.take i)=off∧(match cs[i]? with | some y=>K (.fp y) | none=>False)
  | _=>False
def Aos (ag:Bool) (sz i off:Nat) (x:TV) (K:TV→Prop) [Tg K]:Prop:=match x with
  | .agg cs=>Dw (cs.take i)=off∧(match cs[i]? with | some y=>AlL ag sz y∧K y | none=>False)
  | _=>False
def ArI (k:Nat) (x i:TV) (K:TV→Prop) [Tg K]:Prop:=match x,i with
  | .sl k' cs,.val (.int _ j)=>k'=k∧0≤j∧(match cs[j.toNat]? with | some y=>K (.fp y) | none=>False)
  | .os k' id ver p off n cp,.val (.int _ j)=>k'=k∧0≤j∧j<n∧K (.op id ver (p++[(off+j.toNat,(off+j.toNat)*k)]))
  | _,_=>False
def Al5 (n k:Nat) (x i:TV) (K:TV→Prop) [Tg K]:Prop:=match x,i with
  | .fp (.arr n' k' cs),.val (.int _ j)=>k'=k∧n'=n∧0≤j∧(match cs[j.toNat]? with | some y=>K (.fp y) | none=>False)
  | .op id ver p,.val (.int _ j)=>0≤j∧j<n∧K (.op id ver (p++[(j.toNat,j.toNat*k)]))
  | _,_=>False
def Bny (ag:Bool) (n k:Nat) (x i:TV) (K:TV→Prop) [Tg K]:Prop:=match x,i with
  | .arr n' k' cs,.val (.int _ j)=>k'=k∧n'=n∧0≤j∧(match cs[j.toNat]? with | some y=>AlL ag k y∧K y | none=>False)
  | _,_=>False
def A3A (x i:TV) (K:TV→Prop) [Tg K]:Prop:=match x,i with
  | .val (.string s),.val (.int _ j)=>0≤j∧(match (bl s)[j.toNat]? with | some b=>K (by8 b) | none=>False)
  | _,_=>False
def BnV (i:Nat) (x:TV) (K:TV→Prop) [Tg K]:Prop:=match x with
  | .tup xs=>(match xs[i]? with | some y=>K y | none=>False)
  | _=>False
def Bft (x:TV) (K:TV→Prop) [Tg K]:Prop:=match x with
  | .val (.string s)=>K (.val (.int .i64 (bl s).length))
  | _=>False
def ArS (x:TV) (K:TV→Prop) [Tg K]:Prop:=match x with
  | .val (.slice _ n _)=>K (.val (.int .i64 n))
  | .sl _ cs=>K (.val (.int .i64 cs.length))
  | .os _ _ _ _ _ n _=>K (.val (.int .i64 n))
  | _=>False
def AmK (lo hi:Option TV) (len lim:Nat) (K:Nat→Nat→Prop) [Tg K]:Prop :=
 match (match lo with | none=>some 0 | some x=>(match x with | .val (.int _ i)=>some i | _=>none)),(match hi with | none=>some (len:Int) | some x=>(match x with | .val (.int _ i)=>some i | _=>none)) with
 | some l,some h=>(0≤l∧l≤h∧h≤lim)∧K l.toNat h.toNat
 | _,_=>False
def evO (e:Env):Option Opd→Option TV
 | none=>none
 | some x=>some (x.ev e)
theorem BhZ:evO e none=none:=Ad rfl
theorem Bf6 {x:Opd}:evO e (some x)=some (x.ev e):=Ad rfl
theorem AsD {lo hi:Option Opd} {len lim:Nat} {K:Nat→Nat→Prop}:bnd e lo hi len lim K=AmK (evO e lo) (evO e hi) len lim K:=by
 cases lo<;>cases hi<;>rfl
def Bpg (x:TV) (lo hi:Option TV) (K:TV→Prop) [Tg K]:Prop:=match x with
  | .val (.string s)=>AmK lo hi (bl s).length (bl s).length fun l h=>K (.val (.string (str (((bl s).drop l).take (h - l)))))
  | _=>False
def Bl0 (k:Nat) (x:TV) (lo hi:Option TV) (K:TV→Prop) [Tg K]:Prop:=match x with
  | .sl k' cs=>k'=k∧AmK lo hi cs.length cs.length fun l h=>K (.sl k ((cs.drop l).take (h - l)))
  | .os k' id ver p off n cp=>k'=k∧AmK lo hi n cp fun l h=>K (.os k id ver p (off+l) (h - l) (cp - l))
  | .val (.slice ad 0 0)=>AmK lo hi 0 0 fun l h=>K (.val (.slice ad 0 0))
  | _=>False
def Bl5 (H:List Ob) (n k:Nat) (x:TV) (lo hi:Option TV) (K:TV→Prop) [Tg K]:Prop:=match x with
  | .fp (.arr n' k' cs)=>k'=k∧n'=n∧n≤9223372036854775807∧AmK lo hi n n fun l h=>K (.sl k ((cs.drop l).take (h - l)))
  | .op id ver p=>(match H[id]? with
   | some (.obj v x)=>v=ver∧n≤9223372036854775807∧(match U0 p x with | some (.arr n' k' cs)=>k'=k∧n'=n∧AmK lo hi n n fun l h=>K (.os k id ver p l (h - l) (n - l)) | _=>False)
   | _=>False)
  | _=>False
def Aqx (t:TypeId) (x:TV) (K:TV→Prop) [Tg K]:Prop:=lays x=true∧K (.ifc t x)
def Bm7 (f:Fn) (first caps:List TV) (K:TV→Prop) [Tg K]:Prop:=(∀ x∈first++caps,DY x=false)∧K (.fn f first caps)
def Aoy (x:TV) (K:TV→Prop) [Tg K]:Prop:=match x with
  | .op id ver p=>K (.op id ver p)
  | .fp y=>K (.fp y)
  | .fn (.func f) a b=>K (.fn (.func f) a b)
  | .ifc t y=>K (.ifc t y)
  | .val (.func (.func f) a b)=>K (.val (.func (.func f) a b))
  | _=>False
def Bpa (x y:TV) (K:TV→Prop) [Tg K]:Prop:=match x,y with
  | .val (.int k a),.val (.int _ b)=>K (.val (.int k (if b<a then b else a)))
  | _,_=>False
def Bo9 (x y:TV) (K:TV→Prop) [Tg K]:Prop:=match x,y with
  | .val (.int k a),.val (.int _ b)=>K (.val (.int k (if b > a then b else a)))
  | _,_=>False
def AkY (g:GOp) (H:List Ob) (xs:List TV) (K:TV→Prop) [Tg K]:Prop:=match gev g H xs with
  | some y=>K y
  | none=>False
def BnA (neg:Bool) (x y:TV) (K:TV→Prop) [Tg K]:Prop:=match x,y with
  | .val (.bool a),.val (.bool b)=>K (.val (.bool (xor neg (a == b))))
  | _,_=>False
def BoN (neg:Bool) (x y:Option Bool) (K:TV→Prop) [Tg K]:Prop:=match x,y with
  | some true,some b=>K (.val (.bool (xor neg b)))
  | some false,some true=>K (.val (.bool (xor neg false)))
  | _,_=>False
def AnH (H:List Ob) (sz:Nat) (x v:TV) (K:TV→List Ob→Prop) [Tg K]:Prop:=(lays v=true∧AC v=sz)∧(match x with
  | .op id ver p=>(match H[id]? with
   | some (.obj vr y)=>vr=ver∧(match Aes p y v with | some y'=>K .any (H.set id (.obj ver y')) | none=>False)
   | _=>False)
  | _=>False)
def Bpm (H:List Ob) (k bytes:Nat) (z l c:TV) (K:TV→List Ob→Prop) [Tg K]:Prop:=match l,c with
  | .val (.int _ l),.val (.int _ c)=>(0≤l∧l≤c∧(bytes:Int)*c≤281474976710656∧c≤9223372036854775807)∧K (.os k H.length 0 [] 0 l.toNat c.toNat) (H++[.obj 0 (.arr c.toNat k (List.replicate c.toNat z))])
  | _,_=>False
def BhO (k bytes:Nat) (et:TypeId) (x:TV) (y:Option (List TV)) (H:List Ob) (K:TV→List Ob→Prop) [Tg K]:Prop:=match y with
  | some ys=>Ak6 k bytes et x ys H K
  | none=>False
def ApM (k:Nat) (x:TV) (y:Option (List TV)) (H:List Ob) (K:TV→List Ob→Prop) [Tg K]:Prop:=match y with
  | some ys=>Aer k x ys H K
  | none=>False
def BfW (et:TypeId) (x y:TV) (H:List Ob) (K:TV→List Ob→Prop) [Tg K]:Prop:=match y with
  | .val (.string s)=>Ak6 1 1 et x ((bl s).map by8) H K
  | _=>False
def AqS (x y:TV) (H:List Ob) (K:TV→List Ob→Prop) [Tg K]:Prop:=match y with
  | .val (.string s)=>Aer 1 x ((bl s).map by8) H K
  | _=>False
def Bfw (P:Program) (f:FuncId) (x:Option (Nat×Nat×List UInt8)) (H:List Ob) (K:TV→List Ob→Prop) [Tg K]:Prop:=Bqd P f∧(match x with
  | some (j,v,l)=>l.length≤9223372036854775807∧K (.val (.string (str l))) (H.set j (.gone v))
  | none=>False)
def Bpd (H:List Ob) (x:TV) (K:TV→List Ob→Prop) [Tg K]:Prop:=match x with
  | .val (.string s)=>(bl s).length≤9223372036854775807∧K (.os 1 H.length 0 [] 0 (bl s).length (bl s).length) (H++[.obj 0 (.arr (bl s).length 1 ((bl s).map by8))])
  | _=>False
def ArJ (k bytes:Nat) (et:TypeId) (z x n:TV) (H:List Ob) (K:TV→List Ob→Prop) [Tg K]:Prop:=match x,n with
  | .val (.slice none 0 0),.val (.int .i64 j)=>(0≤j∧(bytes:Int)*j≤140737488355328∧j≤9223372036854775807)∧K (.os k H.length 0 [] 0 j.toNat j.toNat) (H++[.obj 0 (.arr j.toNat k (List.replicate j.toNat z))])
  | .os k' id ver p off m cp,.val (.int .i64 j)=>(0≤j∧(bytes:Int)*j≤140737488355328∧j≤9223372036854775807)∧Ak6 k bytes et (.os k' id ver p off m cp) (List.replicate j.toNat z) H K
  | _,_=>False
def Apv (H:List Ob) (K:TV→List Ob→Prop) [Tg K]:Prop:=K (.val (.bool true)) H∧K (.val (.bool false)) H
def BiQ (neg:Bool) (x:TV) (H:List Ob) (K:TV→List Ob→Prop) [Tg K]:Prop:=match x with
  | .val (.slice a _ _)=>K (.val (.bool (xor neg a.isNone))) H
  | .sl _ cs=>(cs=[]→K (.val (.bool true)) H∧K (.val (.bool false)) H)∧(cs≠[]→K (.val (.bool neg)) H)
  | .os _ _ _ _ _ n _=>(n=0→K (.val (.bool true)) H∧K (.val (.bool false)) H)∧(n≠0→K (.val (.bool neg)) H)
  | _=>False
def Al6 (P:Program) (x:TV) (args:List TV) (H:List Ob) (K:TV→List Ob→Prop) [Tg K]:Prop:=match x with
  | .fn (.func f) first caps=>AiM P f=true∧Au P f (first++args++caps) H K
  | .val (.func (.func f) xs ys)=>(xs.isEmpty && ys.isEmpty)=true∧AiM P f=true∧Au P f args H K
  | .yl id ver=>Akn P id ver args H K
  | _=>False
def Bmo (P:Program) (nm:String) (x:TV) (args:List TV) (H:List Ob) (K:TV→List Ob→Prop) [Tg K]:Prop:=Bo7 P nm H x fun f r=>Au P f (r::args) H K
def Bl1 (P:Program) (q:Option (FuncId×Option (Bool×Nat))) (r:TV) (args:List TV) (H:List Ob) (K:TV→List Ob→Prop) [Tg K]:Prop:=match q with
 | some (f,none)=>AiM P f=true∧Au P f (r::args) H K
 | some (f,some (ag,sz))=>AiM P f=true∧ldT H ag sz r fun y=>Au P f (y::args) H K
 | none=>False
def Gd (q:Option Bool) (b:Bool) (A B:Prop) [Tg A] [Tg B]:Prop:=match q with
 | some t=>if t=b then A else B
 | none=>B
def evs (e:Env) (xs:List Opd):List TV:=xs.map (·.ev e)
theorem Blc:evs e []=[]:=Ad rfl
theorem Bhu {x:Opd} {xs:List Opd}:evs e (x::xs)=x.ev e::evs e xs:=Ad rfl
def AdE (xs:List TV):Prop:=∀ x∈xs,DY x=false
theorem A2K:AdE []=True:=by simp [AdE]
theorem ArZ {x:TV} {xs:List TV}:AdE (x::xs)=(DY x=false∧AdE xs):=by simp [AdE]
theorem Aad {args:List Opd}:(∀ x∈args,DY (x.ev e)=false)=AdE (evs e args):=by simp [AdE,evs]
section
variable {c c' a a' b b' x x' y y':TV} {K:TV→Prop} {KK:TV→List Ob→Prop} {lo lo' hi hi':Option TV} {ox ox':Option (List TV)} {q q' q2 q2':Option Bool} {xs xs':List TV} {A B:Prop} {H':List Ob}
@[congr] theorem Bq6 (h1:c=c') (h2:a=a') (h3:b=b'):BeY c a b K=BeY c' a' b' K:=by rw [h1,h2,h3]
@[congr] theorem BsP {t:TypeId} {op:BinOp} (h1:x=x') (h2:y=y'):Bpp t op x y K=Bpp t op x' y' K:=by rw [h1,h2]
@[congr] theorem BsV {op:UnOp} (h1:x=x'):Pun op x K=Pun op x' K:=by rw [h1]
@[congr] theorem BrL {k:IntKind} (h1:x=x'):Bfv k x K=Bfv k x' K:=by rw [h1]
@[congr] theorem BsA (h1:x=x'):Bpt x K=Bpt x' K:=by rw [h1]
@[congr] theorem Bsc (h1:ox=ox'):Bpq ox K=Bpq ox' K:=by rw [h1]
@[congr] theorem BpO {ag:Bool} {sz:Nat} (h1:x=x') (h2:H=H'):Apq H ag sz x K=Apq H' ag sz x' K:=by rw [h1,h2]
@[congr] theorem Bo0 {i o:Nat} (h1:x=x'):Ah1 i o x K=Ah1 i o x' K:=by rw [h1]
@[congr] theorem Bpe {ag:Bool} {sz i o:Nat} (h1:x=x'):Aos ag sz i o x K=Aos ag sz i o x' K:=by rw [h1]
@[congr] theorem BrT {k:Nat} (h1:x=x') (h2:y=y'):ArI k x y K=ArI k x' y' K:=by rw [h1,h2]
@[congr] theorem Bpc {n k:Nat} (h1:x=x') (h2:y=y'):Al5 n k x y K=Al5 n k x' y' K:=by rw [h1,h2]
@[congr] theorem Bsv {ag:Bool} {n k:Nat} (h1:x=x') (h2:y=y'):Bny ag n k x y K=Bny ag n k x' y' K:=by rw [h1,h2]
@[congr] theorem BrO (h1:x=x') (h2:y=y'):A3A x y K=A3A x' y' K:=by rw [h1,h2]
@[congr] theorem BsM {i:Nat} (h1:x=x'):BnV i x K=BnV i x' K:=by rw [h1]
@[congr] theorem Brr (h1:x=x'):Bft x K=Bft x' K:=by rw [h1]
@[congr] theorem BqM (h1:x=x'):ArS x K=ArS x' K:=by rw [h1]
@[congr] theorem BsL {n m:Nat} {K:Nat→Nat→Prop} {n' m':Nat} (h1:lo=lo') (h2:hi=hi') (h3:n=n') (h4:m=m'):AmK lo hi n m K=AmK lo' hi' n' m' K:=by rw [h1,h2,h3,h4]
@[congr] theorem Bsl (h1:x=x') (h2:lo=lo') (h3:hi=hi'):Bpg x lo hi K=Bpg x' lo' hi' K:=by rw [h1,h2,h3]
@[congr] theorem Bsx {k:Nat} (h1:x=x') (h2:lo=lo') (h3:hi=hi'):Bl0 k x lo hi K=Bl0 k x' lo' hi' K:=by rw [h1,h2,h3]
@[congr] theorem BsG {n k:Nat} (h0:H=H') (h1:x=x') (h2:lo=lo') (h3:hi=hi'):Bl5 H n k x lo hi K=Bl5 H' n k x' lo' hi' K:=by rw [h0,h1,h2,h3]
@[congr] theorem Bpr {t:TypeId} (h1:x=x'):Aqx t x K=Aqx t x' K:=by rw [h1]
@[congr] theorem BsN {f:Fn} {ys ys':List TV} (h1:xs=xs') (h2:ys=ys'):Bm7 f xs ys K=Bm7 f xs' ys' K:=by rw [h1,h2]
@[congr] theorem Bq8 (h1:x=x'):Aoy x K=Aoy x' K:=by rw [h1]
@[congr] theorem Bsz (h1:x=x') (h2:y=y'):Bpa x y K=Bpa x' y' K:=by rw [h1,h2]
@[congr] theorem Bsh (h1:x=x') (h2:y=y'):Bo9 x y K=Bo9 x' y' K:=by rw [h1,h2]
@[congr] theorem Bss {g:GOp} {xs xs':List TV} (h1:H=H') (h2:xs=xs'):AkY g H xs K=AkY g H' xs' K:=by rw [h1,h2]
@[congr] theorem BsC {n:Bool} (h1:x=x') (h2:y=y'):BnA n x y K=BnA n x' y' K:=by rw [h1,h2]
@[congr] theorem Br7 {n:Bool} (h1:q=q') (h2:q2=q2'):BoN n q q2 K=BoN n q' q2' K:=by rw [h1,h2]
@[congr] theorem Bo5 {sz:Nat} (h0:H=H') (h1:x=x') (h2:y=y'):AnH H sz x y KK=AnH H' sz x' y' KK:=by rw [h0,h1,h2]
@[congr] theorem BsD {k n:Nat} {z:TV} (h0:H=H') (h1:x=x') (h2:y=y'):Bpm H k n z x y KK=Bpm H' k n z x' y' KK:=by rw [h0,h1,h2]
@[congr] theorem BsQ {k n:Nat} {et:TypeId} (h0:H=H') (h1:x=x') (h2:ox=ox'):BhO k n et x ox H KK=BhO k n et x' ox' H' KK:=by rw [h0,h1,h2]
@[congr] theorem BpK {k:Nat} (h0:H=H') (h1:x=x') (h2:ox=ox'):ApM k x ox H KK=ApM k x' ox' H' KK:=by rw [h0,h1,h2]
@[congr] theorem Brq {et:TypeId} (h0:H=H') (h1:x=x') (h2:y=y'):BfW et x y H KK=BfW et x' y' H' KK:=by rw [h0,h1,h2]
@[congr] theorem Bpj (h0:H=H') (h1:x=x') (h2:y=y'):AqS x y H KK=AqS x' y' H' KK:=by rw [h0,h1,h2]
@[congr] theorem BqL {P:Program} {f:FuncId} {r r':Option (Nat×Nat×List UInt8)} (h0:H=H') (h1:r=r'):Bfw P f r H KK=Bfw P f r' H' KK:=by rw [h0,h1]
@[congr] theorem BqO {k n:Nat} {et:TypeId} {z:TV} (h0:H=H') (h1:x=x') (h2:y=y'):ArJ k n et z x y H KK=ArJ k n et z x' y' H' KK:=by rw [h0,h1,h2]
@[congr] theorem BsE {n:Bool} (h0:H=H') (h1:x=x'):BiQ n x H KK=BiQ n x' H' KK:=by rw [h0,h1]
@[congr] theorem BpU (h0:H=H'):Apv H KK=Apv H' KK:=by rw [h0]
@[congr] theorem Br2 (h0:H=H') (h1:x=x'):Bpd H x KK=Bpd H' x' KK:=by rw [h0,h1]
@[congr] theorem Bpl (h0:H=H') (h1:x=x') (h2:xs=xs'):Al6 P x xs H KK=Al6 P x' xs' H' KK:=by rw [h0,h1,h2]
@[congr] theorem BsS {P:Program} {nm:String} (h0:H=H') (h1:x=x') (h2:xs=xs'):Bmo P nm x xs H KK=Bmo P nm x' xs' H' KK:=by rw [h0,h1,h2]
@[congr] theorem BsH {P:Program} {g g':Option (FuncId×Option (Bool×Nat))} (h:g=g') (h0:H=H') (h1:x=x') (h2:xs=xs'):Bl1 P g x xs H KK=Bl1 P g' x' xs' H' KK:=by rw [h,h0,h1,h2]
@[congr] theorem Btt {b:Bool} (h1:q=q'):Gd q b A B=Gd q' b A B:=by rw [h1]
end
section
variable {K:TV→Prop} {KK:TV→List Ob→Prop} {x y i a b c:Opd} {lo hi:Option Opd}
theorem Brf:pop (.mov x) e H K=Ce (x.ev e) K:=Ad rfl
theorem Bmi:pop (.pick c a b) e H K=BeY (c.ev e) (a.ev e) (b.ev e) K:=Ad rfl
theorem Bru {t:TypeId} {op:BinOp}:pop (.bin t op x y) e H K=Bpp t op (x.ev e) (y.ev e) K:=Ad rfl
theorem Btm {op:UnOp}:pop (.un op x) e H K=Pun op (x.ev e) K:=Ad rfl
theorem BoC {k:IntKind}:pop (.conv k x) e H K=Bfv k (x.ev e) K:=Ad rfl
theorem BpL:pop (.s2s x) e H K=Bpt (x.ev e) K:=Ad rfl
theorem Brk:pop (.b2s x) e H K=Bpq (Dz H 1 (x.ev e)) K:=Ad rfl
theorem Bms {ag:Bool} {sz:Nat}:pop (.load ag sz x) e H K=Apq H ag sz (x.ev e) K:=Ad rfl
theorem Bgl {n o:Nat}:pop (.fieldA n o x) e H K=Ah1 n o (x.ev e) K:=Ad rfl
theorem BlF {ag:Bool} {sz n o:Nat}:pop (.field ag sz n o x) e H K=Aos ag sz n o (x.ev e) K:=Ad rfl
theorem Bn7 {k:Nat}:pop (.idxA k x i) e H K=ArI k (x.ev e) (i.ev e) K:=Ad rfl
theorem Blx {n k:Nat}:pop (.idxAA n k x i) e H K=Al5 n k (x.ev e) (i.ev e) K:=Ad rfl
theorem Bqv {ag:Bool} {n k:Nat}:pop (.idx ag n k x i) e H K=Bny ag n k (x.ev e) (i.ev e) K:=Ad rfl
theorem Bog:pop (.idxS x i) e H K=A3A (x.ev e) (i.ev e) K:=Ad rfl
theorem Bqr {n:Nat}:pop (.ext n x) e H K=BnV n (x.ev e) K:=Ad rfl
theorem Bmm:pop (.lenS x) e H K=Bft (x.ev e) K:=Ad rfl
theorem BnY:pop (.lenV x) e H K=ArS (x.ev e) K:=Ad rfl
theorem Bpu:pop (.slS x lo hi) e H K=Bpg (x.ev e) (evO e lo) (evO e hi) K:=by
 show (match x.ev e with | .val (.string s)=>bnd e lo hi (bl s).length (bl s).length fun l h=>K (.val (.string (str (((bl s).drop l).take (h - l))))) | _=>False)=_
 simp only [AsD]; rfl
theorem BrH {k:Nat}:pop (.slV k x lo hi) e H K=Bl0 k (x.ev e) (evO e lo) (evO e hi) K:=by
 rw [Bp7]; simp only [AsD]; rfl
theorem Bqi {n k:Nat}:pop (.slA n k x lo hi) e H K=Bl5 H n k (x.ev e) (evO e lo) (evO e hi) K:=by
 rw [BrC]; simp only [AsD]; rfl
theorem Bjy {t:TypeId}:pop (.iface t x) e H K=Aqx t (x.ev e) K:=Ad rfl
theorem BrW {f:Fn} {xs ys:List Opd}:pop (.mkf f xs ys) e H K=Bm7 f (evs e xs) (evs e ys) K:=by
 rw [Brm]; unfold Bm7 evs; rw [←List.map_append]
 refine congrArg (· ∧ _) (propext ⟨fun h y hy => ?_,fun h y hy=>h _ (List.mem_map.2 ⟨y,hy,rfl⟩)⟩)
 obtain ⟨z,hz,rfl⟩:=List.mem_map.1 hy; exact h z hz
theorem Bmr:pop (.nilc x) e H K=Aoy (x.ev e) K:=Ad rfl
theorem Bqh:pop (.min x y) e H K=Bpa (x.ev e) (y.ev e) K:=Ad rfl
theorem Bpz:pop (.max x y) e H K=Bo9 (x.ev e) (y.ev e) K:=Ad rfl
theorem Brl {g:GOp} {xs:List Opd}:pop (.gen g xs) e H K=AkY g H (evs e xs) K:=Ad rfl
theorem Brd {n:Bool}:pop (.eqB x y n) e H K=BnA n (x.ev e) (y.ev e) K:=Ad rfl
theorem Bpx {kd:Nat} {n:Bool}:pop (.eqN kd x y n) e H K=BoN n (JL kd (x.ev e)) (JL kd (y.ev e)) K:=Ad rfl
theorem Blg {zs:List TV} {szs:List Nat} {ps:List (Nat×Opd)}:pop (.build zs szs ps) e H K=Iu (JS e szs ps) (Ce (TV.agg (L8 e zs ps)) K):=Ad rfl
theorem Bh2 {n k:Nat} {zs:List TV} {ps:List (Nat×Opd)}:pop (.buildA n k zs ps) e H K=Iu (JS e (List.replicate n k) ps) (Iu (Dh e ps) (Ce (TV.arr n k (L8 e zs ps)) K)):=Ad rfl
theorem Bqc {k n:Nat} {z:TV} {ps:List (Nat×Opd)}:pop (.bsl k n z ps) e H K=Iu (JS e (List.replicate n k) ps) (Iu (Dh e ps∧n≤1000) (Ce (TV.sl k (L8 e (List.replicate n z) ps)) K)):=by
 show ((_∧_∧_)∧_)=_
 simp only [Iu,Ce,and_assoc]
theorem BkK {z:TV}:sop P (.alloc z) e H KK=Ce (H.length) fun n=>Ce (H++[.obj 0 z]) fun H'=>KK (.op n 0 []) H':=Ad rfl
theorem Bg1 {z:TV} {t:TypeId}:sop P (.allocT z t) e H KK=Ce (H.length) fun n=>Ce (AC z) fun m=>Ce (H++[.obj 0 z,.fact n 0 t m]) fun H'=>KK (.op n 0 []) H':=Ad rfl
theorem Bo3 {t:TypeId}:sop P (.boxT x t) e H KK=Ce (x.ev e) fun v=>Iu (lays v=true) (Ce (H.length) fun n=>Ce (AC v) fun m=>Ce (H++[.obj 0 v,.fact n 0 t m]) fun H'=>KK (.op n 0 []) H'):=Ad rfl
theorem Bmh {f:FuncId}:sop P (.bstr f x) e H KK=Bfw P f (ArP H (x.ev e)) H KK:=Ad rfl
def BiH (x:TV) (H:List Ob) (K:TV→List Ob→Prop) [Tg K]:Prop:=match x with
 | .val (.string s)=>K (.op H.length 0 []) (H++[.sit (bl s) 0])
 | _=>False
@[congr] theorem Brv {x x':TV} {H':List Ob} (h1:x=x') (h2:H=H'):BiH x H KK=BiH x' H' KK:=by rw [h1,h2]
theorem Bmp:sop P (.rngS x) e H KK=BiH (x.ev e) H KK:=Ad rfl
theorem BhE {s:ByteArray}:BiH (.val (.string s)) H KK=Ce H.length fun n=>Ce (H++[.sit (bl s) 0]) fun H'=>KK (.op n 0 []) H':=Ad rfl
def AsK:Option Ob→Option (List UInt8×Nat)
 | some (.sit s pos)=>some (s,pos)
 | _=>none
theorem Biz {s:List UInt8} {pos:Nat}:AsK (some (.sit s pos))=some (s,pos):=Ad rfl
def A3v (x:TV) (H:List Ob) (K:TV→List Ob→Prop) [Tg K]:Prop:=match x with
 | .op id 0 []=>(match H[id]? with
  | some (.sit s pos)=>if pos<s.length then K (.tup [.val (.bool true),.val (.int .i64 (pos:Int)),.val (.int .i32 ((Utf8.decode (str s) pos).1:Int))]) (H.set id (.sit s (pos+(Utf8.decode (str s) pos).2))) else K (.tup [.val (.bool false)]) H
  | _=>False)
 | _=>False
@[congr] theorem BrF {x x':TV} {H':List Ob} (h1:x=x') (h2:H=H'):A3v x H KK=A3v x' H' KK:=by rw [h1,h2]
theorem BmE:sop P (.nxtS x) e H KK=A3v (x.ev e) H KK:=Ad rfl
theorem Bg9 {id:Nat}:A3v (.op id 0 []) H KK=CQ (AsK H[id]?) fun p=>vif (decide (p.2<p.1.length))
  (Ce (H.set id (.sit p.1 (p.2+(Utf8.decode (str p.1) p.2).2))) fun H'=>KK (.tup [.val (.bool true),.val (.int .i64 (p.2:Int)),.val (.int .i32 ((Utf8.decode (str p.1) p.2).1:Int))]) H') (KK (.tup [.val (.bool false)]) H):=by
 unfold A3v
 cases h:H[id]? with
 | none=>simp [AsK,CQ,h]
 | some o =>
  cases o with
  | sit s pos=>simp only [h,AsK,CQ,Ce]; by_cases hp:pos<s.length<;>simp [vif,hp]
  | _=>simp [AsK,CQ,h]
theorem BpW:sop P (.box x) e H KK=Ce (x.ev e) fun v=>Iu (lays v=true) (Ce (H.length) fun n=>Ce (H++[.obj 0 v]) fun H'=>KK (.op n 0 []) H'):=Ad rfl
theorem BfY {k n:Nat} {z:TV} {ps:List (Nat×Opd)}:sop P (.bslice k n z ps) e H KK=Iu (JS e (List.replicate n k) ps) (Iu (Dh e ps∧n≤1000) (Ce H.length fun m=>Ce (H++[.obj 0 (.arr n k (L8 e (List.replicate n z) ps))]) fun H'=>KK (.os k m 0 [] 0 n n) H')):=by
 rw [Bfr]; simp only [Iu,Ce,and_assoc]
def Ajx (kk:MK):Option Ob→Option (List (List UInt8×TV))
 | some (.mpo kk' es)=>if kk'=kk then some es else none
 | _=>none
def AkA (kk:MK):Option Ob→Option (List (List UInt8×TV))
 | some (.mpo kk' es)=>if kk'=kk then some es else none
 | some (.mpd kk' zs _)=>if kk'=kk then some (zs.map (·.2)) else none
 | _=>none
theorem BgH {kk:MK} {es:List (List UInt8×TV)}:AkA kk (some (.mpo kk es))=some es:=by simp [AkA]
theorem Bkh {kk:MK} {zs:List (Nat×List UInt8×TV)} {cl:Nat}:AkA kk (some (.mpd kk zs cl))=some (zs.map (·.2)):=by simp [AkA]
def ApQ:Option Ob→Option (List (List UInt8×TV))
 | some (.mpo _ es)=>some es
 | some (.mpd _ zs _)=>some (zs.map (·.2))
 | _=>none
theorem Bhq {kk:MK} {es:List (List UInt8×TV)}:ApQ (some (.mpo kk es))=some es:=by simp [ApQ]
theorem Bk6 {kk:MK} {zs:List (Nat×List UInt8×TV)} {cl:Nat}:ApQ (some (.mpd kk zs cl))=some (zs.map (·.2)):=by simp [ApQ]
theorem Bki {kk:MK} {es:List (List UInt8×TV)}:stO (some (.mpo kk es))=some (kk,AiL 0 es,es.length):=Ad rfl
theorem Bjs {kk:MK} {zs:List (Nat×List UInt8×TV)} {cl:Nat}:stO (some (.mpd kk zs cl))=some (kk,zs,cl):=Ad rfl
def A3a (x:TV) (H:List Ob) (K:TV→List Ob→Prop) [Tg K]:Prop:=match x with
 | .mp id 0=>(match stO H[id]? with
  | some (_,_,cl)=>K (.op H.length 0 []) (H++[.mit id [] cl])
  | none=>False)
 | _=>False
@[congr] theorem Bp5 {x x':TV} {H':List Ob} (h1:x=x') (h2:H=H'):A3a x H KK=A3a x' H' KK:=by rw [h1,h2]
theorem BoY:sop P (.rngM x) e H KK=A3a (x.ev e) H KK:=Ad rfl
theorem Bic {id:Nat}:A3a (.mp id 0) H KK=CQ (stO H[id]?) fun p=>Ce H.length fun n=>Ce (H++[.mit id [] p.2.2]) fun H'=>KK (.op n 0 []) H':=by
 unfold A3a
 cases h:stO H[id]? with
 | none=>simp [CQ,h]
 | some o=>obtain ⟨a,b,c⟩:=o; simp [CQ,Ce,h]
def Am3:Option Ob→Option (Nat×List Nat×Nat)
 | some (.mit m sn cl)=>some (m,sn,cl)
 | _=>none
theorem Bim {m cl:Nat} {sn:List Nat}:Am3 (some (.mit m sn cl))=some (m,sn,cl):=Ad rfl
def AsE (x:TV) (H:List Ob) (K:TV→List Ob→Prop) [Tg K]:Prop:=match x with
 | .op id 0 []=>(match H[id]? with
  | some (.mit m sn cl)=>(match stO H[m]? with
   | some (kk,zs,cl')=>(cl'=cl∧∀ z∈zs,z.1<cl)∧(∀ z∈zs,z.1∉sn→K (.tup [.val (.bool true),kTV kk z.2.1,z.2.2]) (H.set id (.mit m (sn++[z.1]) cl)))∧((∀ z∈zs,z.1∈sn)→K (.tup [.val (.bool false)]) H)
   | none=>False)
  | _=>False)
 | _=>False
@[congr] theorem Bq4 {x x':TV} {H':List Ob} (h1:x=x') (h2:H=H'):AsE x H KK=AsE x' H' KK:=by rw [h1,h2]
theorem Bmn:sop P (.nxtM x) e H KK=AsE (x.ev e) H KK:=Ad rfl
def Bpk (id m:Nat) (sn:List Nat) (cl:Nat) (kk:MK) (zs:List (Nat×List UInt8×TV)) (cl':Nat) (H:List Ob) (K:TV→List Ob→Prop) [Tg K]:Prop :=
 (cl'=cl∧∀ z∈zs,z.1<cl)∧(∀ z∈zs,z.1∉sn→K (.tup [.val (.bool true),kTV kk z.2.1,z.2.2]) (H.set id (.mit m (sn++[z.1]) cl)))∧((∀ z∈zs,z.1∈sn)→K (.tup [.val (.bool false)]) H)
@[congr] theorem Bsj {id m:Nat} {sn sn':List Nat} {cl c2:Nat} {kk:MK} {zs zs':List (Nat×List UInt8×TV)} {cl' c2':Nat} {H':List Ob} (h1:sn=sn') (h2:cl=c2) (h3:zs=zs') (h4:cl'=c2') (h5:H=H'):Bpk id m sn cl kk zs cl' H KK=Bpk id m sn' c2 kk zs' c2' H' KK:=by rw [h1,h2,h3,h4,h5]
theorem BiO {id:Nat}:AsE (.op id 0 []) H KK=CQ (Am3 H[id]?) fun p=>CQ (stO H[p.1]?) fun q=>Bpk id p.1 p.2.1 p.2.2 q.1 q.2.1 q.2.2 H KK:=by
 unfold AsE
 cases h:H[id]? with
 | none=>simp [Am3,CQ,h]
 | some o =>
  cases o with
  | mit m sn cl =>
   simp only [h,Am3,CQ]
   cases h2:stO H[m]? with
   | none=>simp
   | some q=>obtain ⟨a,b,c⟩:=q; simp only [Bpk]
  | _=>simp [Am3,CQ,h]
def BoU (p:Nat×List Nat×Nat) (q:MK×List (Nat×List UInt8×TV)×Nat):Option TV:=match p.2.1.getLast? with
 | some s=>if q.2.2=p.2.2 then (match q.2.1.find? (·.1 == s) with
  | some z=>some (.tup [kTV q.1 z.2.1,z.2.2])
  | none=>none) else none
 | none=>none
def Bl3 (kk:MK) (o:Option Ob):Option (List (Nat×List UInt8×TV)×Nat):=match stO o with
 | some (kk',zs,cl)=>if kk'=kk then some (zs,cl) else none
 | none=>none
theorem Bih {kk:MK} {es:List (List UInt8×TV)}:Bl3 kk (some (.mpo kk es))=some (AiL 0 es,es.length):=by simp [Bl3,stO]
theorem Bgk {kk:MK} {zs:List (Nat×List UInt8×TV)} {cl:Nat}:Bl3 kk (some (.mpd kk zs cl))=some (zs,cl):=by simp [Bl3,stO]
def A4e (kk:MK) (m k:TV) (H:List Ob) (K:TV→List Ob→Prop) [Tg K]:Prop:=match m,Dv kk k with
 | .mp id 0,some kb=>(match stO H[id]? with
  | some (kk',zs,cl)=>kk'=kk∧K .any (H.set id (.mpd kk (zs.eraseIdx (AkZ kb (zs.map (·.2)))) cl))
  | none=>False)
 | _,_=>False
@[congr] theorem BrM {kk:MK} {H':List Ob} {m m' k k':TV} (h1:m=m') (h2:k=k') (h4:H=H'):A4e kk m k H KK=A4e kk m' k' H' KK:=by rw [h1,h2,h4]
theorem BoR {kk:MK} {m k:Opd}:sop P (.delM kk m k) e H KK=A4e kk (m.ev e) (k.ev e) H KK:=Ad rfl
theorem BhL {kk:MK} {id:Nat} {kx:TV}:A4e kk (.mp id 0) kx H KK=CQ (Bl3 kk H[id]?) fun p=>CQ (Dv kk kx) fun kb=>Ce (p.1.eraseIdx (AkZ kb (p.1.map (·.2)))) fun zs=>Ce (H.set id (.mpd kk zs p.2)) fun H'=>KK .any H':=by
 unfold A4e Bl3
 cases h:stO H[id]? with
 | none=>cases Dv kk kx<;>simp [h,CQ]
 | some q =>
  obtain ⟨kk',zs,cl⟩:=q
  by_cases hk:kk'=kk
  ·subst hk; cases Dv kk' kx<;>simp [h,CQ,Ce]
  ·cases Dv kk kx<;>simp [h,CQ,hk]
def Bo8 (H:List Ob) (x:TV) (K:TV→List Ob→Prop) [Tg K]:Prop:=match x with
 | .os k id ver [] off n cp=>n≠0∧obV H[id]?=some ver∧K (.os k id ver [] off n cp) H
 | _=>False
@[congr] theorem BsB {H':List Ob} {x x':TV} (h0:H=H') (h1:x=x'):Bo8 H x KK=Bo8 H' x' KK:=by rw [h0,h1]
theorem BpD {x:Opd}:sop P (.cvS x) e H KK=Bo8 H (x.ev e) KK:=Ad rfl
theorem BkB {k id ver off n cp:Nat}:Bo8 H (.os k id ver [] off n cp) KK=Iu (n≠0) (Iu (obV H[id]?=some ver) (KK (.os k id ver [] off n cp) H)):=Ad rfl
theorem Bow {v:Nat} {y:TV}:obV (some (.obj v y))=some v:=Ad rfl
def AsU (k:Nat) (z x:TV) (H:List Ob) (K:TV→List Ob→Prop) [Tg K]:Prop:=match x with
 | .os k' id ver p off n cp=>Aer k (.os k' id ver p off n cp) (List.replicate n z) H fun _ H'=>K .any H'
 | .val (.slice none 0 0)=>K .any H
 | _=>False
@[congr] theorem BqP {k:Nat} {z x x':TV} {H':List Ob} (h1:x=x') (h2:H=H'):AsU k z x H KK=AsU k z x' H' KK:=by rw [h1,h2]
theorem Bmt {k:Nat} {z:TV}:sop P (.clrS k z x) e H KK=AsU k z (x.ev e) H KK:=Ad rfl
theorem A2C {k:Nat} {z:TV}:AsU k z (.val (.slice none 0 0)) H KK=KK .any H:=Ad rfl
theorem BgM {k id ver off n cp:Nat} {p:List (Nat×Nat)} {z:TV}:AsU k z (.os k id ver p off n cp) H KK=Ce (List.replicate n z) fun ys=>ApM k (.os k id ver p off n cp) (some ys) H fun _ H'=>KK .any H':=Ad rfl
theorem Bik {kk:MK} {es:List (List UInt8×TV)}:Ajx kk (some (.mpo kk es))=some es:=by simp [Ajx]
theorem BmW {l:List UInt8}:Dv .str (.val (.string (str l)))=some l:=by simp [Dv,bl,str]
theorem Bne {n:Nat} {l:List UInt8}:Dv (.arr n) (.arr n 1 (l.map by8))=some l:=by
 unfold Dv; simp only [Agg,WF,and_self,if_true]
theorem Bkk {z:TV} {r:Option TV}:Ajt z false r=r.getD z:=by simp [Ajt]
theorem BjE {z:TV} {r:Option TV}:Ajt z true r = .tup [r.getD z,.val (.bool r.isSome)]:=by simp [Ajt]
def Bl4 (x:TV) (A:Prop) [Tg A]:Prop:=match x with
 | .val (.int _ _)=>A
 | _=>False
@[congr] theorem BsI {x x':TV} {A:Prop} (h:x=x'):Bl4 x A=Bl4 x' A:=by rw [h]
theorem BlN {q:IntKind} {n:Int} {A:Prop}:Bl4 (.val (.int q n)) A=A:=by simp [Bl4]
theorem Bm2 {kk:MK}:sop P (.mkm kk none) e H KK=Ce H.length fun n=>Ce (H++[.mpo kk []]) fun H'=>KK (.mp n 0) H':=by simp [sop,Ce]
theorem Bno {kk:MK}:sop P (.mkm kk (some x)) e H KK=Bl4 (x.ev e) (Ce H.length fun n=>Ce (H++[.mpo kk []]) fun H'=>KK (.mp n 0) H'):=by
 simp only [sop,Ce,Bl4]
 cases x.ev e with
 | val v=>cases v<;>simp
 | _=>simp
def A3p (kk:MK) (m k v:TV) (H:List Ob) (K:TV→List Ob→Prop) [Tg K]:Prop:=match m,Dv kk k with
 | .mp id 0,some kb=>(match H[id]? with
  | some (.mpo kk' es)=>(kk'=kk∧lays v=true)∧K .any (H.set id (.mpo kk (AbS kb v es)))
  | _=>False)
 | _,_=>False
@[congr] theorem Bq1 {kk:MK} {H':List Ob} {m m' k k' v v':TV} (h1:m=m') (h2:k=k') (h3:v=v') (h4:H=H'):A3p kk m k v H KK=A3p kk m' k' v' H' KK:=by rw [h1,h2,h3,h4]
theorem Bm5 {kk:MK} {m k:Opd}:sop P (.mupd kk m k x) e H KK=A3p kk (m.ev e) (k.ev e) (x.ev e) H KK:=Ad rfl
def A3N (kk:MK) (z m k:TV) (H:List Ob) (K:TV→List Ob→Prop) [Tg K]:Prop:=match m,Dv kk k with
 | .mp id 0,some kb=>(match H[id]? with
  | some (.mpo kk' es)=>kk'=kk∧K (.tup [(Vr kb es).getD z,.val (.int .i64 (AkZ kb es))]) (H.set id (.mpo kk (AbS kb ((Vr kb es).getD z) es)))
  | _=>False)
 | _,_=>False
@[congr] theorem Bqo {kk:MK} {H':List Ob} {z m m' k k':TV} (h1:m=m') (h2:k=k') (h4:H=H'):A3N kk z m k H KK=A3N kk z m' k' H' KK:=by rw [h1,h2,h4]
theorem Bnr {kk:MK} {z:TV} {m k:Opd}:sop P (.ment kk z m k) e H KK=A3N kk z (m.ev e) (k.ev e) H KK:=Ad rfl
def As1 (m st v:TV) (H:List Ob) (K:TV→List Ob→Prop) [Tg K]:Prop:=match m,st with
 | .mp id 0,.val (.int _ j)=>(match H[id]? with
  | some (.mpo kk es)=>(0≤j∧lays v=true)∧(match es[j.toNat]? with
   | some (k,_)=>K .any (H.set id (.mpo kk (es.set j.toNat (k,v))))
   | none=>False)
  | _=>False)
 | _,_=>False
@[congr] theorem BpZ {H':List Ob} {m m' st st' v v':TV} (h1:m=m') (h2:st=st') (h3:v=v') (h4:H=H'):As1 m st v H KK=As1 m' st' v' H' KK:=by rw [h1,h2,h3,h4]
theorem BoM {m st:Opd}:sop P (.mest m st x) e H KK=As1 (m.ev e) (st.ev e) (x.ev e) H KK:=Ad rfl
theorem BlD {sz:Nat}:sop P (.store sz x y) e H KK=AnH H sz (x.ev e) (y.ev e) KK:=Ad rfl
theorem BqK {k n:Nat} {z:TV}:sop P (.mks k n z x y) e H KK=Bpm H k n z (x.ev e) (y.ev e) KK:=Ad rfl
theorem Brc {k n:Nat} {et:TypeId}:sop P (.app k n et x y) e H KK=BhO k n et (x.ev e) (Dz H k (y.ev e)) H KK:=Ad rfl
theorem BmX {et:TypeId}:sop P (.appS et x y) e H KK=BfW et (x.ev e) (y.ev e) H KK:=Ad rfl
theorem BoE {k:Nat}:sop P (.copy k x y) e H KK=ApM k (x.ev e) (Dz H k (y.ev e)) H KK:=Ad rfl
theorem Bjo:sop P (.copyS x y) e H KK=AqS (x.ev e) (y.ev e) H KK:=Ad rfl
theorem Bns {k n:Nat} {et:TypeId} {z:TV}:sop P (.appZ k n et z x y) e H KK=ArJ k n et z (x.ev e) (y.ev e) H KK:=Ad rfl
theorem BrG {n:Bool}:sop P (.eqS x n) e H KK=BiQ n (x.ev e) H KK:=Ad rfl
theorem BpC:sop P (.s2b x) e H KK=Bpd H (x.ev e) KK:=Ad rfl
theorem Bnl {f:FuncId} {args:List Opd}:sop P (.call f args) e H KK=Ce (evs e args) fun xs=>Iu (AdE xs) (VC P f xs H KK):=by
 rw [BmA,Aad]; rfl
theorem Bre {nm:String} {args:List Opd}:sop P (.inv x nm args) e H KK=Ce (evs e args) fun xs=>Iu (AdE xs) (Bmo P nm (x.ev e) xs H KK):=by
 show ((∀ y∈args,DY (y.ev e)=false)∧_)=_
 rw [Aad]; rfl
theorem BjX {args:List Opd}:sop P (.callv x args) e H KK=Ce (evs e args) fun xs=>Iu (AdE xs) (Al6 P (x.ev e) xs H KK):=by
 rw [BlA,Aad]; rfl
end
section
variable {K:TV→Prop} {KK:TV→List Ob→Prop} {x y:TV} {cs ys:List TV} {n n' k k':Nat} {id ver off cp:Nat} {p:List (Nat×Nat)} {j:Int} {q:IntKind} {lo hi:Option TV}
theorem Bgy {t:Bool}:BeY (.val (.bool t)) x y K=vif t (K x) (K y):=by cases t<;>simp [BeY,vif]
theorem Bk8 {t:TypeId} {op:BinOp} {u v:Value}:Bpp t op (.val u) (.val v) K=Iu (BgI u v=true) (CQ (I9 t op u v) fun r=>Ce (TV.val r) K):=by
 show (_∧_)=_; cases I9 t op u v<;>rfl
theorem BoD {op:UnOp} {u:Value}:Pun op (.val u) K=CQ (unV op u) fun r=>Ce (TV.val r) K:=by
 unfold Pun; simp only; cases unV op u<;>rfl
theorem BhX {k:IntKind}:Bfv k (.val (.int q j)) K=Ce (TV.val (.int k (k.wrap j))) K:=Ad rfl
theorem Blw {s:ByteArray}:Bpt (.val (.string s)) K=K (.val (.string s)):=Ad rfl
theorem BkR:Bpq (some cs) K=Iu (∀ y∈cs,Ase y) (Ce (TV.val (.string (str (cs.map AiX)))) K):=Ad rfl
theorem Bfj {ag:Bool} {sz:Nat}:Apq H ag sz (.fp y) K=Iu (AlL ag sz y) (K y):=Ad rfl
theorem Bgo {ag:Bool} {sz:Nat}:Apq H ag sz (.op id ver p) K=CQ (O9 H[id]? ver) fun x=>CQ (U0 p x) fun y=>Iu (AlL ag sz y) (K y):=by
 unfold Apq
 simp only
 cases h:H[id]? with
 | none=>simp [O9,CQ]
 | some o =>
  cases o with
  | gone v=>simp [O9,CQ]
  | ice v m y=>simp [O9,CQ]
  | fact i v t m=>simp [O9,CQ]
  | bld v t l=>simp [O9,CQ]
  | lp st pe fn N en ps ca cb=>simp [O9,CQ]
  | mpo kk es=>simp [O9,CQ]
  | mpd kk zs cl=>simp [O9,CQ]
  | mit m sn cl=>simp [O9,CQ]
  | sit s pos=>simp [O9,CQ]
  | obj v x =>
   by_cases hv:v=ver
   ·subst hv; simp only [O9,CQ,Iu,if_true,true_and]; cases U0 p x<;>rfl
   ·simp [O9,CQ,hv]
theorem ArW {i o:Nat}:Ah1 i o (.op id ver p) K=Ce (p++[(i,o)]) fun p=>K (.op id ver p):=Ad rfl
theorem Ar2 {i o:Nat}:Ah1 i o (.fp (.agg cs)) K=Iu (Dw (cs.take i)=o) (CQ cs[i]? fun y=>K (.fp y)):=by
 unfold Ah1; simp only; cases cs[i]?<;>rfl
theorem AsI {ag:Bool} {sz i o:Nat}:Aos ag sz i o (.agg cs) K=Iu (Dw (cs.take i)=o) (CQ cs[i]? fun y=>Iu (AlL ag sz y) (K y)):=by
 unfold Aos; simp only; cases cs[i]?<;>rfl
theorem BgG:ArI k (.sl k cs) (.val (.int q j)) K=Iu (0≤j) (CQ cs[j.toNat]? fun y=>K (.fp y)):=by
 unfold ArI; simp only [true_and]; cases cs[j.toNat]?<;>rfl
theorem Bg7:ArI k (.os k id ver p off n cp) (.val (.int q j)) K=Iu (0≤j∧j<n) (Ce (off+j.toNat) fun m=>Ce (p++[(m,m*k)]) fun p=>K (.op id ver p)):=by
 show (k=k∧_)=_; simp [Iu,Ce,and_assoc]
theorem A3G:Al5 n k (.fp (.arr n k cs)) (.val (.int q j)) K=Iu (0≤j) (CQ cs[j.toNat]? fun y=>K (.fp y)):=by
 unfold Al5; simp only [true_and]; cases cs[j.toNat]?<;>rfl
theorem A4n:Al5 n k (.op id ver p) (.val (.int q j)) K=Iu (0≤j∧j<n) (Ce j.toNat fun m=>Ce (p++[(m,m*k)]) fun p=>K (.op id ver p)):=by
 show (_∧_)=_; simp [Iu,Ce,and_assoc]
theorem BjC {ag:Bool}:Bny ag n k (.arr n k cs) (.val (.int q j)) K=Iu (0≤j) (CQ cs[j.toNat]? fun y=>Iu (AlL ag k y) (K y)):=by
 unfold Bny; simp only [true_and]; cases cs[j.toNat]?<;>rfl
theorem BiM {s:ByteArray}:A3A (.val (.string s)) (.val (.int q j)) K=Iu (0≤j) (CQ (bl s)[j.toNat]? fun b=>K (by8 b)):=by
 unfold A3A; simp only; cases (bl s)[j.toNat]?<;>rfl
theorem BjA {i:Nat}:BnV i (.tup cs) K=CQ cs[i]? K:=by
 unfold BnV; simp only; cases cs[i]?<;>rfl
theorem Bhl {s:ByteArray}:Bft (.val (.string s)) K=Ce (TV.val (.int .i64 (bl s).length)) K:=Ad rfl
theorem BhH:ArS (.sl k cs) K=Ce (TV.val (.int .i64 cs.length)) K:=Ad rfl
theorem Bgc:ArS (.os k id ver p off n cp) K=K (.val (.int .i64 n)):=Ad rfl
theorem A3X {ad:Option Addr} {c:Nat}:ArS (.val (.slice ad n c)) K=K (.val (.int .i64 n)):=Ad rfl
section
variable {len lim:Nat} {KN:Nat→Nat→Prop} {l h:Int} {q2:IntKind}
theorem Blh:AmK none none len lim KN=Iu (len≤lim) (KN 0 len):=by
 show ((0≤(0:Int)∧(0:Int)≤(len:Int)∧(len:Int)≤lim)∧KN (Int.toNat 0) (Int.toNat len))=_
 simp [Iu]
theorem Bkw:AmK (some (.val (.int q l))) none len lim KN=Iu (0≤l∧l≤len∧(len:Int)≤lim) (Ce l.toNat fun l=>KN l len):=by
 show ((0≤l∧l≤(len:Int)∧(len:Int)≤lim)∧KN l.toNat (Int.toNat len))=_
 simp [Iu,Ce]
theorem BjQ:AmK none (some (.val (.int q h))) len lim KN=Iu (0≤h∧h≤lim) (Ce h.toNat fun h=>KN 0 h):=by
 show ((0≤(0:Int)∧0≤h∧h≤lim)∧KN (Int.toNat 0) h.toNat)=_
 simp [Iu,Ce]
theorem Bkq:AmK (some (.val (.int q l))) (some (.val (.int q2 h))) len lim KN=Iu (0≤l∧l≤h∧h≤lim) (Ce l.toNat fun l=>Ce h.toNat fun h=>KN l h):=Ad rfl
end
theorem BkW {s:ByteArray}:Bpg (.val (.string s)) lo hi K=AmK lo hi (bl s).length (bl s).length fun l h=>Ce (((bl s).drop l).take (h - l)) fun r=>K (.val (.string (str r))):=Ad rfl
theorem BkE:Bl0 k (.sl k cs) lo hi K=AmK lo hi cs.length cs.length fun l h=>Ce ((cs.drop l).take (h - l)) fun r=>K (.sl k r):=by
 exact propext ⟨fun h=>h.2,fun h=>⟨rfl,h⟩⟩
theorem BlR:Bl0 k (.os k id ver p off n cp) lo hi K=AmK lo hi n cp fun l h=>Ce (off+l) fun o=>Ce (h - l) fun m=>Ce (cp - l) fun c=>K (.os k id ver p o m c):=by
 exact propext ⟨fun h=>h.2,fun h=>⟨rfl,h⟩⟩
theorem Bg3 {ad:Option Addr}:Bl0 k (.val (.slice ad 0 0)) lo hi K=AmK lo hi 0 0 fun l h=>K (.val (.slice ad 0 0)):=Ad rfl
theorem Bjw:Bl5 H n k (.fp (.arr n k cs)) lo hi K=Iu (n≤9223372036854775807) (AmK lo hi n n fun l h=>Ce ((cs.drop l).take (h - l)) fun r=>K (.sl k r)):=by
 exact propext ⟨fun h=>⟨h.2.2.1,h.2.2.2⟩,fun h=>⟨rfl,rfl,h.1,h.2⟩⟩
def AoW:Option TV→Nat→Nat→Option (List TV)
 | some (.arr n' k' cs),n,k=>if n'=n∧k'=k then some cs else none
 | _,_,_=>none
theorem BfN:AoW (some (.arr n k cs)) n k=some cs:=by simp [AoW]
theorem BkI:Bl5 H n k (.op id ver p) lo hi K=CQ (O9 H[id]? ver) fun x=>Iu (n≤9223372036854775807) (CQ (AoW (U0 p x) n k) fun _=>AmK lo hi n n fun l h=>Ce (h - l) fun m=>Ce (n - l) fun c=>K (.os k id ver p l m c)):=by
 unfold Bl5
 simp only
 cases h:H[id]? with
 | none=>simp [O9,CQ]
 | some o =>
  cases o with
  | gone v=>simp [O9,CQ]
  | ice v m y=>simp [O9,CQ]
  | fact i v t m=>simp [O9,CQ]
  | bld v t l=>simp [O9,CQ]
  | lp st pe fn N en ps ca cb=>simp [O9,CQ]
  | mpo kk es=>simp [O9,CQ]
  | mpd kk zs cl=>simp [O9,CQ]
  | mit m sn cl=>simp [O9,CQ]
  | sit s pos=>simp [O9,CQ]
  | obj v x =>
   by_cases hv:v=ver
   ·simp only [O9,CQ,hv,Iu,Ce,if_true,true_and]
    congr 1
    cases hg:U0 p x with
    | none=>simp [AoW]
    | some y =>
     cases y with
     | arr n2 k2 ds =>
      by_cases h1:n2=n
      ·by_cases h2:k2=k
       ·simp [AoW,h1,h2]; exact Iff.rfl
       ·simp [AoW,h1,h2]
      ·simp [AoW,h1]
     | _=>simp [AoW]
   ·simp [O9,CQ,hv]
theorem A39 {t:TypeId}:Aqx t x K=Iu (lays x=true) (K (.ifc t x)):=Ad rfl
theorem BlM {f:Fn}:Bm7 f cs ys K=Iu (AdE (cs++ys)) (K (.fn f cs ys)):=Ad rfl
theorem Bg4:Aoy (.op id ver p) K=K (.op id ver p):=Ad rfl
theorem BfG:Aoy (.fp y) K=K (.fp y):=Ad rfl
theorem Bg2 {f:FuncId} {a b:List TV}:Aoy (.fn (.func f) a b) K=K (.fn (.func f) a b):=Ad rfl
theorem AsP {t:TypeId}:Aoy (.ifc t y) K=K (.ifc t y):=Ad rfl
theorem Arn {f:FuncId} {a b:Array Value}:Aoy (.val (.func (.func f) a b)) K=K (.val (.func (.func f) a b)):=Ad rfl
section
variable {a b:Int} {q2:IntKind}
theorem BkF:Bpa (.val (.int q a)) (.val (.int q2 b)) K=vif (decide (b<a)) (K (.val (.int q b))) (K (.val (.int q a))):=by
 show K _=_
 by_cases h:b<a<;>simp [vif,h]
theorem Bj6:Bo9 (.val (.int q a)) (.val (.int q2 b)) K=vif (decide (a<b)) (K (.val (.int q b))) (K (.val (.int q a))):=by
 show K _=_
 by_cases h:a<b<;>simp [vif,h]
theorem Bh7 {q1 q2 q3:IntKind} {l h m:Int}:AkY (.sl3 k) H [.sl k cs,.val (.int q1 l),.val (.int q2 h),.val (.int q3 m)] K=Iu (0≤l∧l≤h∧h≤m∧m≤cs.length) (Ce ((cs.drop l.toNat).take (h.toNat - l.toNat)) fun r=>K (.sl k r)):=by
 unfold AkY gev Iu Ce
 simp only [true_and]
 by_cases hc:0≤l∧l≤h∧h≤m∧m≤cs.length
 ·rw [if_pos hc]; simp [hc]
 ·rw [if_neg hc]; simp only [hc,false_and]
theorem BfU {sh:List EL} {b:Bool} {xs ys:List TV}:AkY (.eqR sh b) H [.agg xs,.agg ys] K=CQ (AmC sh xs ys) fun r=>Ce (TV.val (.bool (xor b r))) K:=by
 have hg:gev (.eqR sh b) H [.agg xs,.agg ys]=(AmC sh xs ys).map fun r => .val (.bool (xor b r)):=by unfold gev; rfl
 unfold AkY CQ Ce
 rw [hg]
 cases AmC sh xs ys<;>rfl
theorem BfQ:AmC [] [] []=some true:=Ad rfl
theorem BmK {l:List EL} {k:IntKind} {a b:Int} {xs ys:List TV}:AmC (.i::l) (.val (.int k a)::xs) (.val (.int k b)::ys)=(AmC l xs ys).map fun r=>(a == b) && r:=by rw [AmC,if_pos rfl]
theorem Bot {l:List EL} {a b:ByteArray} {xs ys:List TV}:AmC (.s::l) (.val (.string a)::xs) (.val (.string b)::ys)=(AmC l xs ys).map fun r=>(a == b) && r:=Ad rfl
theorem BmG {l:List EL} {n:Nat} {a b:List UInt8} {xs ys:List TV}:AmC (.b n::l) (.arr n 1 (a.map by8)::xs) (.arr n 1 (b.map by8)::ys)=(AmC l xs ys).map fun r=>(a == b) && r:=by
 rw [AmC]
 simp only [Agg,WF,and_self,if_true]
theorem BgO {n:Nat} {b:Bool} {xs ys:List UInt8}:AkY (.eqA n b) H [.arr n 1 (xs.map by8),.arr n 1 (ys.map by8)] K=Ce (TV.val (.bool (xor b (xs == ys)))) K:=by
 unfold AkY gev Ce
 simp only [Agg,WF,and_self,if_true]
theorem BgQ {q:IntKind} {n:Int}:AkY .r2s H [.val (.int q n)] K=Ce (TV.val (.string (Utf8.encode n))) K:=Ad rfl
theorem Bf2 {t t':TypeId}:AkY (.tas t) H [.ifc t' x] K=Iu (t'=t) (K x):=by
 unfold AkY gev Iu
 by_cases h:t'=t<;>simp [h]
theorem A3P {a:Option Addr} {l n:Nat}:AkY .capV H [.val (.slice a l n)] K=Ce (TV.val (.int .i64 (n:Int))) K:=Ad rfl
theorem BfP {n:Nat}:AkY (.s2a n k) H [.sl k cs] K=Iu (0<n∧n≤cs.length) (Ce (cs.take n) fun r=>K (.fp (.arr n k r))):=by
 unfold AkY gev Iu Ce
 simp only [true_and]
 by_cases hc:0<n∧n≤cs.length
 ·rw [if_pos hc]; simp [hc]
 ·rw [if_neg hc]; simp only [hc,false_and]
theorem BoZ {s t:Bool}:BnA false (.val (.bool s)) (.val (.bool t)) K=Ce (TV.val (.bool (s == t))) K:=by
 show K _=_; simp [Ce]
theorem Bn2 {s t:Bool}:BnA true (.val (.bool s)) (.val (.bool t)) K=Ce (TV.val (.bool (!(s == t)))) K:=by
 show K _=_; simp [Ce]
theorem Bnq {m b:Bool}:BoN m (some true) (some b) K=Ce (TV.val (.bool (xor m b))) K:=Ad rfl
theorem BoF {m:Bool}:BoN m (some false) (some true) K=Ce (TV.val (.bool (xor m false))) K:=Ad rfl
end
theorem Bf8 {kk:MK} {m:Nat} {kx v:TV}:A3p kk (.mp m 0) kx v H KK=CQ (Ajx kk H[m]?) fun es=>CQ (Dv kk kx) fun kb=>Iu (lays v=true) (Ce (AbS kb v es) fun es'=>Ce (H.set m (.mpo kk es')) fun H'=>KK .any H'):=by
 unfold A3p
 cases hh:H[m]? with
 | none=>cases Dv kk kx<;>simp [hh,Ajx,CQ]
 | some o =>
  cases o with
  | mpo kk' es =>
   by_cases hk:kk'=kk
   ·subst hk; cases Dv kk' kx<;>simp [hh,Ajx,CQ,Iu,Ce]
   ·cases Dv kk kx<;>simp [hh,Ajx,CQ,hk]
  | _=>cases Dv kk kx<;>simp [hh,Ajx,CQ]
theorem Bgm {kk:MK} {m:Nat} {kx z:TV}:A3N kk z (.mp m 0) kx H KK=CQ (Ajx kk H[m]?) fun es=>CQ (Dv kk kx) fun kb=>Ce ((Vr kb es).getD z) fun y=>Ce (AkZ kb es) fun p=>Ce (AbS kb y es) fun es'=>Ce (H.set m (.mpo kk es')) fun H'=>KK (.tup [y,.val (.int .i64 (p:Int))]) H':=by
 unfold A3N
 cases hh:H[m]? with
 | none=>cases Dv kk kx<;>simp [hh,Ajx,CQ]
 | some o =>
  cases o with
  | mpo kk' es =>
   by_cases hk:kk'=kk
   ·subst hk; cases Dv kk' kx<;>simp [hh,Ajx,CQ,Ce]
   ·cases Dv kk kx<;>simp [hh,Ajx,CQ,hk]
  | _=>cases Dv kk kx<;>simp [hh,Ajx,CQ]
def AlE:Option Ob→Option (MK×List (List UInt8×TV))
 | some (.mpo kk es)=>some (kk,es)
 | _=>none
theorem A29 {kk:MK} {es:List (List UInt8×TV)}:AlE (some (.mpo kk es))=some (kk,es):=by simp [AlE]
theorem BgB {m j:Nat} {q:IntKind} {v:TV}:As1 (.mp m 0) (.val (.int q (j:Int))) v H KK=CQ (AlE H[m]?) fun p=>Iu (lays v=true) (CQ p.2[j]? fun y=>Ce (p.2.set j (y.1,v)) fun es'=>Ce (H.set m (.mpo p.1 es')) fun H'=>KK .any H'):=by
 unfold As1
 cases hh:H[m]? with
 | none=>simp [hh,AlE,CQ]
 | some o =>
  cases o with
  | mpo kk' es =>
   simp only [hh,AlE,CQ,Iu,Ce,Int.natCast_nonneg,true_and,Int.toNat_natCast]
   cases es[j]?<;>simp
  | _=>simp [hh,AlE,CQ]
theorem A28 {kk:MK} {z kx:TV} {ok:Bool} {m:Nat}:AkY (.look kk z ok) H [.mp m 0,kx] K=CQ (AkA kk H[m]?) fun es=>CQ (Dv kk kx) fun kb=>Ce (Ajt z ok (Vr kb es)) K:=by
 unfold AkY gev AmT
 cases hh:H[m]? with
 | none=>cases hb:Dv kk kx<;>simp [hh,hb,AkA,CQ]
 | some o =>
  cases o with
  | mpo kk' es =>
   by_cases hk:kk'=kk
   ·subst hk; cases hb:Dv kk' kx<;>simp [hh,hb,AkA,CQ,Ce]
   ·cases hb:Dv kk kx<;>simp [hh,hb,AkA,CQ,hk]
  | mpd kk' zs cl =>
   by_cases hk:kk'=kk
   ·subst hk; cases hb:Dv kk' kx<;>simp [hh,hb,AkA,CQ,Ce]
   ·cases hb:Dv kk kx<;>simp [hh,hb,AkA,CQ,hk]
  | _=>cases hb:Dv kk kx<;>simp [hh,hb,AkA,CQ]
theorem Arx {kk:MK} {z kx:TV} {ok:Bool}:AkY (.look kk z ok) H [.val (.map none),kx] K=CQ (Dv kk kx) fun kb=>Ce (Ajt z ok none) K:=by
 unfold AkY gev AmT
 cases hb:Dv kk kx<;>simp [hb,CQ,Ce]
theorem A26 {m:Nat}:AkY .lenM H [.mp m 0] K=CQ (ApQ H[m]?) fun p=>Ce p.length fun n=>Ce (TV.val (.int .i64 (n:Int))) K:=by
 unfold AkY gev Bfx
 cases hh:H[m]? with
 | none=>simp [hh,ApQ,CQ]
 | some o=>cases o<;>simp [hh,ApQ,CQ,Ce]
theorem A37 {id:Nat}:AkY .entM H [.op id 0 []] K=CQ (Am3 H[id]?) fun p=>CQ (stO H[p.1]?) fun q=>CQ (BoU p q) K:=by
 unfold AkY gev Bo4
 cases hh:H[id]? with
 | none=>simp [hh,Am3,CQ]
 | some o =>
  cases o with
  | mit m sn cl =>
   simp only [hh,Am3,CQ,BoU]
   cases h2:stO H[m]? with
   | none=>simp
   | some q =>
    obtain ⟨kk,zs,cl'⟩:=q
    cases h3:sn.getLast? with
    | none=>simp
    | some s =>
     by_cases hc:cl'=cl
     ·subst hc; cases hf:zs.find? (·.1 == s)<;>simp [hf]
     ·simp [hc]
  | _=>simp [hh,Am3,CQ]
theorem A3e {sz:Nat}:AnH H sz (.op id ver p) y KK=Iu (lays y=true∧AC y=sz) (CQ (O9 H[id]? ver) fun z=>CQ (Aes p z y) fun z'=>Ce (H.set id (.obj ver z')) fun H'=>KK .any H'):=by
 unfold AnH
 simp only [Iu]
 congr 1
 cases h:H[id]? with
 | none=>simp [O9,CQ]
 | some o =>
  cases o with
  | gone v=>simp [O9,CQ]
  | ice v m y=>simp [O9,CQ]
  | fact i v t m=>simp [O9,CQ]
  | bld v t l=>simp [O9,CQ]
  | lp st pe fn N en ps ca cb=>simp [O9,CQ]
  | mpo kk es=>simp [O9,CQ]
  | mpd kk zs cl=>simp [O9,CQ]
  | mit m sn cl=>simp [O9,CQ]
  | sit s pos=>simp [O9,CQ]
  | obj v x =>
   by_cases hv:v=ver
   ·subst hv; simp only [O9,CQ,Ce,if_true,true_and]; cases Aes p x y<;>rfl
   ·simp [O9,CQ,hv]
theorem Blo {z:TV} {l c:Int} {q2:IntKind} {bytes:Nat}:Bpm H k bytes z (.val (.int q l)) (.val (.int q2 c)) KK=Iu (0≤l∧l≤c∧(bytes:Int)*c≤281474976710656∧c≤9223372036854775807) (Ce l.toNat fun l=>Ce c.toNat fun c=>Ce H.length fun m=>Ce (H++[.obj 0 (.arr c k (List.replicate c z))]) fun H'=>KK (.os k m 0 [] 0 l c) H'):=Ad rfl
theorem Bgd {bytes:Nat} {et:TypeId}:BhO k bytes et (.val (.slice none 0 0)) (some ys) H KK=Iu (ys.length*bytes≤140737488355328∧ys.length≤9223372036854775807) (Ce ys.length fun n=>Ce H.length fun m=>Ce (H++[.obj 1 (.arr n k ys)]) fun H'=>KK (.os k m 1 [] 0 n n) H'):=Ad rfl
def Apb:Option TV→Nat→Option (List TV)
 | some (.arr _ k' cs),k=>if k'=k then some cs else none
 | _,_=>none
theorem BgF:Apb (some (.arr n k cs)) k=some cs:=by simp [Apb]
theorem Bgu {v n2:Nat} {et:TypeId}:Bhy (some (.obj v (.arr n2 k cs))) v k et off n ys=some (.obj (v+1) (.arr (n+ys.length) k ((cs.drop off).take n++ys))):=by simp [Bhy]
theorem Arj {v:Nat} {et:TypeId} {l m:List UInt8}:Bhy (some (.bld v et l)) v 1 et 0 n (m.map by8)=some (.bld (v+1) et (l.take n++m)):=by
 simp only [Bhy,Agg,WF,and_self,if_true]
theorem A4f {v:Nat} {et:TypeId} {l:List UInt8} {b:UInt8}:Bhy (some (.bld v et l)) v 1 et 0 n [by8 b]=some (.bld (v+1) et (l.take n++[b])):=Arj (m:=[b])
theorem BhJ {v n2:Nat}:BlY (some (.obj v (.arr n2 k cs)))=cs.length:=by simp [BlY]
theorem BiK {v:Nat} {et:TypeId} {l:List UInt8}:BlY (some (.bld v et l))=l.length:=by simp [BlY]
theorem BkY {bytes:Nat} {et:TypeId}:BhO k bytes et (.os k id ver [] off n cp) (some ys) H KK=CQ (Bhy H[id]? ver k et off n ys) fun o=>Iu (off+n≤BlY H[id]?∧(n+ys.length)*bytes≤140737488355328∧n+ys.length≤9223372036854775807)
   (Ce (n+ys.length) fun m=>Ce (H.set id o) fun H'=>KK (.os k id (ver+1) [] 0 m m) H'):=by
 unfold BhO Ak6
 simp only [true_and]
 cases h:Bhy H[id]? ver k et off n ys with
 | none=>simp [CQ]
 | some o=>simp [CQ,Iu,Ce]
theorem BfE {s:ByteArray} {et:TypeId}:BfW et x (.val (.string s)) H KK=Ce ((bl s).map by8) fun ys=>BhO 1 1 et x (some ys) H KK:=Ad rfl
def BrS:Option TV→Option Nat
 | some (.arr n _ _)=>some n
 | _=>none
theorem Bkv:BrS (some (.arr n k cs))=some n:=Ad rfl
theorem BiN:ApM k (.os k id ver p off n cp) (some ys) H KK=CQ (O9 H[id]? ver) fun z=>CQ (Apb (U0 p z) k) fun cs=>CQ (BrS (U0 p z)) fun N=>Iu (off+n≤cs.length) (CQ (Aes p z (.arr N k (cs.take off++(ys.take n++cs.drop (off+min ys.length n))))) fun z' =>
  Ce (H.set id (.obj ver z')) fun H'=>Ce (TV.val (.int .i64 (min ys.length n:Nat))) fun r=>KK r H'):=by
 unfold ApM Aer
 simp only [true_and]
 cases h:H[id]? with
 | none=>simp [O9,CQ]
 | some o =>
  cases o with
  | gone v=>simp [O9,CQ]
  | ice v m y=>simp [O9,CQ]
  | fact i v t m=>simp [O9,CQ]
  | bld v t l=>simp [O9,CQ]
  | lp st pe fn N en ps ca cb=>simp [O9,CQ]
  | mpo kk es=>simp [O9,CQ]
  | mpd kk zs cl=>simp [O9,CQ]
  | mit m sn cl=>simp [O9,CQ]
  | sit s pos=>simp [O9,CQ]
  | obj v x =>
   by_cases hv:v=ver
   ·simp only [O9,CQ,hv,if_true,true_and]
    cases hg:U0 p x with
    | none=>simp [Apb]
    | some y =>
     cases y with
     | arr n2 k2 ds =>
      by_cases h1:k2=k
      ·subst h1; simp only [Apb,BrS,Iu,Ce,if_true,true_and]; refine congrArg (_ ∧ ·) ?_; cases Aes p x (.arr n2 k2 (ds.take off++(ys.take n++ds.drop (off+min ys.length n))))<;>rfl
      ·simp [Apb,h1]
     | _=>simp [Apb]
   ·simp [O9,CQ,hv]
theorem A2U {s:ByteArray}:AqS x (.val (.string s)) H KK=Ce ((bl s).map by8) fun ys=>ApM 1 x (some ys) H KK:=Ad rfl
theorem Bg0 {f:FuncId} {j v:Nat} {l:List UInt8}:Bfw P f (some (j,v,l)) H KK=Iu (Bqd P f) (Iu (l.length≤9223372036854775807) (Ce (H.set j (.gone v)) fun H'=>KK (.val (.string (str l))) H')):=Ad rfl
def BnC (o:Option Ob) (j v n:Nat) (a:TV):Option (Nat×Nat×List UInt8):=match o with
 | some (.bld v3 t l)=>if v3=v∧t=AnQ∧n=l.length∧AC a=1 then some (j,v,l) else none
 | _=>none
def Bg5 (H:List Ob) (j v n:Nat) (a:TV):Option (Nat×Nat×List UInt8):=BnC H[j]? j v n a
def ArY (H:List Ob) (q:Option TV):Option (Nat×Nat×List UInt8):=match q with
 | some (.agg [a,.os 1 j v2 [] 0 n cp])=>Bg5 H j v2 n a
 | _=>none
theorem Bgh {id ver:Nat} {p:List (Nat×Nat)}:ArP H (.op id ver p)=ArY H ((O9 H[id]? ver).bind (U0 p)):=by
 unfold ArP
 simp only []
 cases h:H[id]? with
 | none=>simp [O9,ArY]
 | some o =>
  cases o with
  | obj v y =>
   by_cases hv:v=ver
   ·simp only [O9,hv,if_true,Option.bind_some]
    unfold ArY Bg5 BnC
    rfl
   ·simp [O9,ArY,hv]
  | _=>simp [O9,ArY]
theorem Bfl {a:TV} {j v n cp:Nat}:ArY H (some (.agg [a,.os 1 j v [] 0 n cp]))=Bg5 H j v n a:=Ad rfl
theorem Bit {a:TV} {j v n:Nat}:Bg5 H j v n a=BnC H[j]? j v n a:=Ad rfl
theorem BjW {a:TV} {j v n:Nat} {l:List UInt8} (hn:n=l.length) (ha:AC a=1):BnC (some (.bld v 5 l)) j v n a=some (j,v,l):=by
 simp [BnC,hn,ha,AnQ]
theorem Bj9 {s:ByteArray}:Bpd H (.val (.string s)) KK=Iu ((bl s).length≤9223372036854775807) (Ce (bl s).length fun n=>Ce ((bl s).map by8) fun r=>Ce H.length fun m=>Ce (H++[.obj 0 (.arr n 1 r)]) fun H'=>KK (.os 1 m 0 [] 0 n n) H'):=Ad rfl
theorem Bh9 {et:TypeId} {z:TV} {j:Nat} {bytes:Nat}:ArJ k bytes et z (.os k id ver [] off n cp) (.val (.int .i64 (j:Int))) H KK=Iu ((bytes:Int)*j≤140737488355328∧(j:Int)≤9223372036854775807) (BhO k bytes et (.os k id ver [] off n cp) (some (List.replicate j z)) H KK):=by
 unfold ArJ BhO
 simp only [Int.toNat_natCast]
 exact propext ⟨fun h=>⟨h.1.2,h.2⟩,fun h=>⟨⟨Int.natCast_nonneg _,h.1⟩,h.2⟩⟩
theorem Bis {et:TypeId} {z:TV} {j:Int} {bytes:Nat}:ArJ k bytes et z (.val (.slice none 0 0)) (.val (.int .i64 j)) H KK=Iu (0≤j∧(bytes:Int)*j≤140737488355328∧j≤9223372036854775807) (Ce j.toNat fun n=>Ce H.length fun m=>Ce (H++[.obj 0 (.arr n k (List.replicate n z))]) fun H'=>KK (.os k m 0 [] 0 n n) H'):=Ad rfl
theorem BiC {n:Bool} {a:Option Addr} {l c:Nat}:BiQ n (.val (.slice a l c)) H KK=KK (.val (.bool (xor n a.isNone))) H:=Ad rfl
theorem BkN {n:Bool}:BiQ n (.sl k cs) H KK=vif (decide (cs.length=0)) (Apv H KK) (KK (.val (.bool n)) H):=by
 unfold BiQ vif Apv
 by_cases h:cs=[]
 ·subst h; simp
 ·have h2:¬ cs.length=0:=fun e=>h (List.length_eq_zero_iff.1 e)
  simp [h,h2]
theorem BkJ {n:Bool} {m off l cp:Nat} {p:List (Nat×Nat)}:BiQ n (.os k m ver p off l cp) H KK=vif (decide (l=0)) (Apv H KK) (KK (.val (.bool n)) H):=by
 unfold BiQ vif Apv
 by_cases h:l=0
 ·subst h; simp
 ·simp [h]
theorem Apw (h1:KK (.val (.bool true)) H) (h2:KK (.val (.bool false)) H):Apv H KK:=⟨h1,h2⟩
theorem A4b {f:FuncId} {a b:List TV}:Al6 P (.fn (.func f) a b) cs H KK=Iu (AiM P f=true) (Ce (a++cs++b) fun xs=>VC P f xs H KK):=Ad rfl
theorem ArT {f:FuncId}:Al6 P (.val (.func (.func f) #[] #[])) cs H KK=Iu (AiM P f=true) (VC P f cs H KK):=by
 exact propext ⟨fun h=>⟨h.2.1,h.2.2⟩,fun h=>⟨rfl,h.1,h.2⟩⟩
theorem A4c:Al6 P (.yl id ver) cs H KK=VY P id ver cs H KK:=Ad rfl
theorem Bj0 {nm:String} {t:TypeId}:Bmo P nm (.ifc t x) cs H KK=Bl1 P (Biq P t nm) x cs H KK:=by
 unfold Bmo Bo7 Bl1
 show (match Biq P t nm with | some (f,none)=>_ | some (f,some (ag,sz))=>_ | none=>False)=_
 rcases Biq P t nm with _ | ⟨f,_ | ⟨ag,sz⟩⟩<;>rfl
theorem BnS {f:FuncId}:Bl1 P (some (f,none)) x cs H KK=Iu (AiM P f=true) (Ce (x::cs) fun xs=>VC P f xs H KK):=Ad rfl
theorem BnE {f:FuncId} {ag:Bool} {sz:Nat}:Bl1 P (some (f,some (ag,sz))) x cs H KK=Iu (AiM P f=true) (Apq H ag sz x fun y=>Ce (y::cs) fun xs=>VC P f xs H KK):=Ad rfl
theorem Bqt {t:Bool} {A B:Prop}:Gd (some t) true A B=vif t A B:=Ad rfl
theorem BpY {t:Bool} {A B:Prop}:Gd (some t) false A B=vif t B A:=by cases t<;>simp [Gd,vif]
theorem Bs6 {b:Bool} {A B:Prop}:Gd none b A B=B:=Ad rfl
end
section
variable {Q:VEx→Env→List Ob→Prop} {l:List VO} {kp:List Nat} {a b:Af}
def Bgz (x:TV) (A B:Prop) [Tg A] [Tg B]:Prop:=match x with
  | .val (.bool t)=>if t=true then A else B
  | _=>False
@[congr] theorem Bq3 {x x':TV} {A B:Prop} (h:x=x'):Bgz x A B=Bgz x' A B:=by rw [h]
theorem Bgn {t:Bool} {A B:Prop}:Bgz (.val (.bool t)) A B=vif t A B:=Ad rfl
theorem BrX:vwp P (.ops l kp) Q e H=Ajm P l (fun e H=>Ce (forget kp e) fun e=>Q .nor e H) e H:=Ad rfl
def Aqc (zs:List Nat) (e:Env) (H:List Ob) (K:Env→List Ob→Prop) [Tg K]:Prop:=BjB zs K e H
@[congr] theorem Brw {zs:List Nat} {e e':Env} {H H':List Ob} {K:Env→List Ob→Prop} (h1:e=e') (h2:H=H'):Aqc zs e H K=Aqc zs e' H' K:=by rw [h1,h2]
theorem BpS {K:Env→List Ob→Prop}:Aqc [] e H K=K e H:=Ad rfl
theorem A25 {s k id ver off n cp m:Nat} {zs:List Nat} {xs:List TV} {K:Env→List Ob→Prop} (hg:get e s = .os k id ver [] off n cp) (ho:H[id]?=some (.obj ver (.arr m k xs))) (hn:off+n≤xs.length) (h:Aqc zs ((s,.sl k ((xs.drop off).take n))::e) (H.set id (.gone ver)) K):Aqc (s::zs) e H K:=by
 unfold Aqc at h ⊢
 rw [BjB,hg]
 simp only [ho]
 refine ⟨trivial,?_⟩
 have:JU [] k off n (.arr m k xs)=some ((xs.drop off).take n):=by unfold JU; simp [U0,hn]
 rw [this]; exact h
theorem BmZ {l r:List VO} {zs kp:List Nat}:vwp P (.opsZ l zs r kp) Q e H=Ajm P l (fun e H=>Aqc zs e H fun e H=>Ajm P r (fun e H=>Ce (forget kp e) fun e=>Q .nor e H) e H) e H:=Ad rfl
theorem Bmv {n:Nat}:vwp P (.draw n l kp) Q e H=(vq P (l.take n) (fun e=>Ajm P (l.drop n) (fun e H=>Ce (forget kp e) fun e=>Q .nor e H) e H) e H):=Ad rfl
def Thn (P:Program) (b:Af) (Q:VEx→Env→List Ob→Prop):VEx→Env→List Ob→Prop:=fun x e H=>match x with | .nor=>vwp P b Q e H | .exit i=>Q (.exit i) e H | .ret=>Q .ret e H | .pan u=>Q (.pan u) e H
theorem Bkb:Thn P b Q .nor e H=vwp P b Q e H:=Ad rfl
theorem Bfk {i:Nat}:Thn P b Q (.exit i) e H=Q (.exit i) e H:=Ad rfl
theorem Blz:Thn P b Q .ret e H=Q .ret e H:=Ad rfl
theorem Bqs:vwp P (.seq a b) Q e H=vwp P a (Thn P b Q) e H:=Ad rfl
def Blk (id:Nat) (Q:VEx→Env→List Ob→Prop):VEx→Env→List Ob→Prop:=fun x e H=>match x with | .nor=>Q .nor e H | .exit i=>if i=id then Q .nor e H else Q (.exit i) e H | .ret=>Q .ret e H | .pan u=>Q (.pan u) e H
theorem Bkg {id:Nat}:Blk id Q .nor e H=Q .nor e H:=Ad rfl
theorem Bfq {id:Nat}:Blk id Q (.exit id) e H=Q .nor e H:=by simp [Blk]
theorem Apz {id i:Nat} (h:i≠id):Blk id Q (.exit i) e H=Q (.exit i) e H:=by simp [Blk,h]
theorem Bk4 {id:Nat}:Blk id Q .ret e H=Q .ret e H:=Ad rfl
theorem Bjx {id:Nat}:vwp P (.block id a) Q e H=vwp P a (Blk id Q) e H:=Ad rfl
theorem Boe {c:Opd}:vwp P (.cond c a b) Q e H=Bgz (c.ev e) (vwp P a Q e H) (vwp P b Q e H):=Ad rfl
def Rnd (n0:Nat) (lv:List Nat) (Q:VEx→Env→List Ob→Prop) (I:Nat→Env→List Ob→Prop) (n:Nat):VEx→Env→List Ob→Prop:=fun x e H=>match x with
 | .nor=>∃ m g,m<n∧(n0≤g∧(H.length≤g∨(AiJ g (forget lv e)=true∧Ai1 g (H.take g)=true)))∧I m (forget lv e) (H.take g)
 | .exit i=>Q (.exit i) e H | .ret=>Q .ret e H | .pan u=>Q (.pan u) e H
section
variable {n0:Nat} {lv:List Nat} {I:Nat→Env→List Ob→Prop} {n:Nat}
theorem Bgf {i:Nat}:Rnd n0 lv Q I n (.exit i) e H=Q (.exit i) e H:=Ad rfl
theorem BjJ:Rnd n0 lv Q I n .ret e H=Q .ret e H:=Ad rfl
theorem Aq (m:Nat) (hm:m<n) (h:n0≤H.length) (hR:I m (forget lv e) H):Rnd n0 lv Q I n .nor e H:=by
 refine ⟨m,H.length,hm,⟨h,.inl (Nat.le_refl _)⟩,?_⟩
 rw [List.take_length]; exact hR
theorem Blq (m g:Nat) (hm:m<n) (h:n0≤g) (he:AiJ g (forget lv e)=true) (hH:Ai1 g (H.take g)=true) (hR:I m (forget lv e) (H.take g)):Rnd n0 lv Q I n .nor e H :=
 ⟨m,g,hm,⟨h,.inr ⟨he,hH⟩⟩,hR⟩
end
theorem Cj {lv:List Nat} {H0:List Ob} (I:Nat→Env→List Ob→Prop) (n:Nat) (h0:I n (forget lv e) H0)
  (hs:∀ n e H,I n e H→vwp P a (Rnd H0.length lv Q I n) e H):vwp P (.loop lv a) Q e H0:=by
 rw [BnD]
 exact ⟨I,n,h0,hs⟩
theorem o_g {d s:Nat} {o:VOp} {b:Bool} {r:List VO} {K:Env→List Ob→Prop}:Ajm P (⟨some d,o,some (s,b)⟩::r) K e H=Alq e s fun e q=>Gd q b (vop P o e H (fun x H=>Ajm P r K ((d,x)::e) H)) (Ajm P r K ((d,.val undef)::e) H):=by
 rw [Bm1]; refine congrArg (Alq e s) ?_; funext e q; cases q<;>rfl
def As7 (x:TV) (e:Env) (s:Nat) (Q:Env→Option Bool→Prop) [Tg Q]:Prop:=match x with
 | .val v=>Q e (isB v)
 | .any=>(∀ t,Q ((s,.val (.bool t))::e) (some t))∧∀ v,isB v=none→Q ((s,.val v)::e) none
 | _=>False
@[congr] theorem Bq9 {x x':TV} {s:Nat} {Q:Env→Option Bool→Prop} (h:x=x'):As7 x e s Q=As7 x' e s Q:=by rw [h]
theorem BmS {s:Nat} {Q:Env→Option Bool→Prop}:Alq e s Q=As7 (get e s) e s Q:=Ad rfl
theorem Bk1 {b:Bool} {s:Nat} {Q:Env→Option Bool→Prop}:As7 (.val (.bool b)) e s Q=Q e (some b):=Ad rfl
theorem BlX {s:Nat} {Q:Env→Option Bool→Prop}:As7 (.val undef) e s Q=Q e none:=Ad rfl
theorem u_c {d:Nat} {f:FuncId} {args:List Opd} {r:List VO} {K:Env→Prop}:vq P (⟨some d,.s (.call f args),none⟩::r) K e H=Ce (evs e args) fun xs=>Iu (AdE xs) (vex fun x=>VC P f xs H (fun y H'=>y=x∧H'=H)∧vq P r K ((d,x)::e) H):=by
 rw [Btd,Aad]; rfl
def Gq (x:TV) (b:Bool) (A B:Prop) [Tg A] [Tg B]:Prop:=match x with
 | .val v=>if isB v=some b then A else B
 | _=>False
@[congr] theorem Btu {x x':TV} {b:Bool} {A B:Prop} (h:x=x'):Gq x b A B=Gq x' b A B:=by rw [h]
theorem Btc {t:Bool} {A B:Prop}:Gq (.val (.bool t)) true A B=vif t A B:=by cases t<;>simp [Gq,vif,isB]
theorem BsX {b:Bool} {A B:Prop}:Gq (.val undef) b A B=B:=by simp [Gq,isB,undef]
theorem Btg {t:Bool} {A B:Prop}:Gq (.val (.bool t)) false A B=vif t B A:=by cases t<;>simp [Gq,vif,isB]
theorem u_g {d s:Nat} {o:VOp} {b:Bool} {r:List VO} {K:Env→Prop}:vq P (⟨some d,o,some (s,b)⟩::r) K e H=Gq (get e s) b (quiet P o e H fun x=>vq P r K ((d,x)::e) H) (vq P r K ((d,.val undef)::e) H):=Ad rfl
theorem Bs7 {f:FuncId} {args:List Opd} {k:TV→Prop}:quiet P (.s (.call f args)) e H k=Ce (evs e args) fun xs=>Iu (AdE xs) (vex fun x=>VC P f xs H (fun y H'=>y=x∧H'=H)∧k x):=by
 rw [BkV,Aad]; rfl
def BmJ (P:Program) (x:TV) (s k:Nat) (c:Af) (Q:VEx→Env→List Ob→Prop) (e:Env) (H:List Ob):Prop:=match x with
  | .val (.slice none 0 0)=>vwp P c Q ((s,.os k H.length 0 [] 0 0 0)::e) (H++[.obj 0 (.arr 0 k [])])
  | _=>vwp P c Q e H
@[congr] theorem BsF {x x':TV} {s k:Nat} (h:x=x'):BmJ P x s k a Q e H=BmJ P x' s k a Q e H:=by rw [h]
theorem BpX {s k:Nat}:vwp P (.own s k a) Q e H=BmJ P (get e s) s k a Q e H:=Ad rfl
theorem Bf4 {s k:Nat}:BmJ P (.val (.slice none 0 0)) s k a Q e H=vwp P a Q ((s,.os k H.length 0 [] 0 0 0)::e) (H++[.obj 0 (.arr 0 k [])]):=Ad rfl
theorem BlE {s k k' id ver off n cp:Nat} {p:List (Nat×Nat)}:BmJ P (.os k' id ver p off n cp) s k a Q e H=vwp P a Q e H:=Ad rfl
end
theorem Bpy {t:Nat} {K:TV→Prop}:res [.tmp t] e H K=Ce (get e t) K:=Ad rfl
theorem BnL {t:Nat} {r:List VR} {K:List TV→Prop}:AoX (.tmp t::r) e H K=Ce (get e t) fun x=>AoX r e H fun xs=>K (x::xs):=Ad rfl
def Br8 (K:TV→Prop) (xs:List TV):Prop:=match xs with
 | [x]=>K x
 | xs=>(∀ x∈xs,DY x=false)∧K (.tup xs)
theorem BhA {x y:TV} {l:List TV} {K:TV→Prop}:Br8 K (x::y::l)=Iu (AdE (x::y::l)) (Ce (TV.tup (x::y::l)) K):=Ad rfl
theorem Bod {r s:VR} {l:List VR} {K:TV→Prop}:res (r::s::l) e H K=AoX (r::s::l) e H (Br8 K):=Ad rfl
theorem BmI {a sz:Nat} {ag:Bool} {K:TV→Prop}:res [.cell a ag sz] e H K=pop (.load ag sz (.t a)) e H K:=Ad rfl
theorem Bp1 {K:TV→Prop}:res [] e H K=K (.tup []):=by rw [Bfc]; simp
end
def VCP (P:Program) (f:FuncId) (xs:List TV) (H:List Ob) (K:TV→List Ob→Prop) (KP:Value→List Ob→Prop) [Tg K] [Tg KP]:Prop:=Aia P f xs H K KP
@[congr] theorem Bnz {P:Program} {f:FuncId} {xs xs':List TV} {H H':List Ob} {K:TV→List Ob→Prop} {KP:Value→List Ob→Prop} (he:xs=xs') (hH:H=H'):VCP P f xs H K KP=VCP P f xs' H' K KP:=by rw [he,hH]
def Bl2 (x:TV) (K:Value→Prop) [Tg K]:Prop:=match x with
 | .val (.iface t v)=>K (.iface t v)
 | .ifc t (.val v)=>K (.iface t v)
 | _=>False
@[congr] theorem Bsy {x x':TV} {K:Value→Prop} (h:x=x'):Bl2 x K=Bl2 x' K:=by rw [h]
theorem BhC {t:TypeId} {v:Value} {K:Value→Prop}:Bl2 (.ifc t (.val v)) K=K (.iface t v):=Ad rfl
theorem BjT {t:TypeId} {v:Value} {K:Value→Prop}:Bl2 (.val (.iface t v)) K=K (.iface t v):=Ad rfl
section
variable {P:Program} {e:Env} {H:List Ob} {r:List VO} {K:Env→List Ob→Prop} {PP:Value→List Ob→Prop} {Q:VEx→Env→List Ob→Prop}
@[congr] theorem BkX {l:List VO} {e':Env} {H':List Ob} (he:e=e') (hH:H=H'):AdT P PP l K e H=AdT P PP l K e' H':=by rw [he,hH]
@[congr] theorem Bjq {o:VOp} {e':Env} {H':List Ob} {KK:TV→List Ob→Prop} (he:e=e') (hH:H=H'):pvop P PP o e H KK=pvop P PP o e' H' KK:=by rw [he,hH]
theorem BmT {l:List VO} {kp:List Nat}:vwp P (.pops l kp) Q e H=AdT P (fun u H=>Q (.pan u) (ApR l e) H) l (fun e H=>Ce (forget kp e) fun e=>Q .nor e H) e H:=Ad rfl
theorem BjH {n:Nat} {l:List VO} {kp:List Nat}:vwp P (.pdraw n l kp) Q e H=(vq P (l.take n) (fun e=>AdT P (fun u H=>Q (.pan u) [] H) (l.drop n) (fun e H=>Ce (forget kp e) fun e=>Q .nor e H) e H) e H):=Ad rfl
theorem Boy:AdT P PP [] K e H=K e H:=Ad rfl
theorem Bs4 {d:Nat} {o:VOp}:AdT P PP (⟨some d,o,none⟩::r) K e H=pvop P PP o e H (fun x H=>AdT P PP r K ((d,x)::e) H):=Ad rfl
theorem BrU {o:VOp}:AdT P PP (⟨none,o,none⟩::r) K e H=pvop P PP o e H (fun x H=>AdT P PP r K e H):=Ad rfl
theorem Bth {d s:Nat} {o:VOp} {b:Bool}:AdT P PP (⟨some d,o,some (s,b)⟩::r) K e H=Alq e s fun e q=>Gd q b (pvop P PP o e H (fun x H=>AdT P PP r K ((d,x)::e) H)) (AdT P PP r K ((d,.val undef)::e) H):=by
 show XZ (pvop P PP) _ K e H=_
 rw [XZ]
 refine congrArg (Alq e s) ?_; funext e q; cases q<;>rfl
theorem Bob {o:POp} {KK:TV→List Ob→Prop}:pvop P PP (.p o) e H KK=pop o e H fun x=>KK x H:=Ad rfl
theorem As5 {f:FuncId} {args:List Opd} {KK:TV→List Ob→Prop}:pvop P PP (.s (.call f args)) e H KK=Ce (evs e args) fun xs=>Iu (AdE xs) (VCP P f xs H KK PP):=by
 show ((∀ x∈args,DY (x.ev e)=false)∧_)=_
 rw [Aad]; rfl
theorem Bgv {x:Opd} {KK:TV→List Ob→Prop}:pvop P PP (.s (.pan x)) e H KK=Bl2 (x.ev e) (fun u=>PP u H):=by
 show (match x.ev e with | .val (.iface t v)=>PP (.iface t v) H | .ifc t (.val v)=>PP (.iface t v) H | _=>False)=_
 unfold Bl2
 split<;>simp_all
theorem Aru {z:TV} {KK:TV→List Ob→Prop}:pvop P PP (.s (.alloc z)) e H KK=sop P (.alloc z) e H KK:=Ad rfl
theorem BhD {x:Opd} {KK:TV→List Ob→Prop}:pvop P PP (.s (.box x)) e H KK=sop P (.box x) e H KK:=Ad rfl
theorem ApW {k n:Nat} {z:TV} {ps:List (Nat×Opd)} {KK:TV→List Ob→Prop}:pvop P PP (.s (.bslice k n z ps)) e H KK=sop P (.bslice k n z ps) e H KK:=Ad rfl
theorem Ar8 {sz:Nat} {x v:Opd} {KK:TV→List Ob→Prop}:pvop P PP (.s (.store sz x v)) e H KK=sop P (.store sz x v) e H KK:=Ad rfl
theorem Bhx {k bytes:Nat} {z:TV} {l c:Opd} {KK:TV→List Ob→Prop}:pvop P PP (.s (.mks k bytes z l c)) e H KK=sop P (.mks k bytes z l c) e H KK:=Ad rfl
theorem Bht {k bytes:Nat} {et:TypeId} {x y:Opd} {KK:TV→List Ob→Prop}:pvop P PP (.s (.app k bytes et x y)) e H KK=sop P (.app k bytes et x y) e H KK:=Ad rfl
theorem A2y {et:TypeId} {x y:Opd} {KK:TV→List Ob→Prop}:pvop P PP (.s (.appS et x y)) e H KK=sop P (.appS et x y) e H KK:=Ad rfl
theorem A2N {k n:Nat} {et:TypeId} {z:TV} {x y:Opd} {KK:TV→List Ob→Prop}:pvop P PP (.s (.appZ k n et z x y)) e H KK=sop P (.appZ k n et z x y) e H KK:=Ad rfl
theorem BfK {x:Opd} {n:Bool} {KK:TV→List Ob→Prop}:pvop P PP (.s (.eqS x n)) e H KK=sop P (.eqS x n) e H KK:=Ad rfl
theorem BiJ {x:Opd} {KK:TV→List Ob→Prop}:pvop P PP (.s (.s2b x)) e H KK=sop P (.s2b x) e H KK:=Ad rfl
theorem Bfb {k:Nat} {x y:Opd} {KK:TV→List Ob→Prop}:pvop P PP (.s (.copy k x y)) e H KK=sop P (.copy k x y) e H KK:=Ad rfl
theorem Asm {x y:Opd} {KK:TV→List Ob→Prop}:pvop P PP (.s (.copyS x y)) e H KK=sop P (.copyS x y) e H KK:=Ad rfl
theorem ArR {x:Opd} {args:List Opd} {KK:TV→List Ob→Prop}:pvop P PP (.s (.callv x args)) e H KK=sop P (.callv x args) e H KK:=Ad rfl
theorem BfL {x:Opd} {nm:String} {args:List Opd} {KK:TV→List Ob→Prop}:pvop P PP (.s (.inv x nm args)) e H KK=sop P (.inv x nm args) e H KK:=Ad rfl
theorem BgP {kk:MK} {h:Option Opd} {KK:TV→List Ob→Prop}:pvop P PP (.s (.mkm kk h)) e H KK=sop P (.mkm kk h) e H KK:=Ad rfl
theorem Be6 {kk:MK} {m k x:Opd} {KK:TV→List Ob→Prop}:pvop P PP (.s (.mupd kk m k x)) e H KK=sop P (.mupd kk m k x) e H KK:=Ad rfl
theorem AsG {kk:MK} {z:TV} {m k:Opd} {KK:TV→List Ob→Prop}:pvop P PP (.s (.ment kk z m k)) e H KK=sop P (.ment kk z m k) e H KK:=Ad rfl
theorem A2W {m st x:Opd} {KK:TV→List Ob→Prop}:pvop P PP (.s (.mest m st x)) e H KK=sop P (.mest m st x) e H KK:=Ad rfl
theorem Aqg {z:TV} {t:TypeId} {KK:TV→List Ob→Prop}:pvop P PP (.s (.allocT z t)) e H KK=sop P (.allocT z t) e H KK:=Ad rfl
theorem A20 {x:Opd} {t:TypeId} {KK:TV→List Ob→Prop}:pvop P PP (.s (.boxT x t)) e H KK=sop P (.boxT x t) e H KK:=Ad rfl
theorem A3Q {x:Opd} {KK:TV→List Ob→Prop}:pvop P PP (.s (.rngS x)) e H KK=sop P (.rngS x) e H KK:=Ad rfl
theorem Be7 {x:Opd} {KK:TV→List Ob→Prop}:pvop P PP (.s (.nxtS x)) e H KK=sop P (.nxtS x) e H KK:=Ad rfl
theorem A3L {x:Opd} {KK:TV→List Ob→Prop}:pvop P PP (.s (.rngM x)) e H KK=sop P (.rngM x) e H KK:=Ad rfl
theorem A2A {x:Opd} {KK:TV→List Ob→Prop}:pvop P PP (.s (.nxtM x)) e H KK=sop P (.nxtM x) e H KK:=Ad rfl
theorem AsJ {kk:MK} {m k:Opd} {KK:TV→List Ob→Prop}:pvop P PP (.s (.delM kk m k)) e H KK=sop P (.delM kk m k) e H KK:=Ad rfl
theorem BgZ {x:Opd} {KK:TV→List Ob→Prop}:pvop P PP (.s (.cvS x)) e H KK=sop P (.cvS x) e H KK:=Ad rfl
theorem A3B {k:Nat} {z:TV} {x:Opd} {KK:TV→List Ob→Prop}:pvop P PP (.s (.clrS k z x)) e H KK=sop P (.clrS k z x) e H KK:=Ad rfl
theorem A3U {f:FuncId} {x:Opd} {KK:TV→List Ob→Prop}:pvop P PP (.s (.bstr f x)) e H KK=sop P (.bstr f x) e H KK:=Ad rfl
theorem Bj3 {b:Af} {u:Value}:Thn P b Q (.pan u) e H=Q (.pan u) e H:=Ad rfl
theorem Bk7 {id:Nat} {u:Value}:Blk id Q (.pan u) e H=Q (.pan u) e H:=Ad rfl
theorem Blm {n0:Nat} {lv:List Nat} {I:Nat→Env→List Ob→Prop} {n:Nat} {u:Value}:Rnd n0 lv Q I n (.pan u) e H=Q (.pan u) e H:=Ad rfl
theorem Asv {vr:List VR} {R:TV→List Ob→Prop} {RP:Value→List Ob→Prop}:Be4 vr R RP .ret e H=res vr e H fun x=>R x H:=Ad rfl
theorem Ar0 {vr:List VR} {R:TV→List Ob→Prop} {RP:Value→List Ob→Prop}:Be4 vr R RP .nor e H=res vr e H fun x=>R x H:=Ad rfl
theorem ArX {vr:List VR} {R:TV→List Ob→Prop} {RP:Value→List Ob→Prop} {u:Value}:Be4 vr R RP (.pan u) e H=RP u H:=Ad rfl
def Aox (P:Program) (PP:Value→List Ob→Prop) (Ss:SsT) (l:List VO) (K:Env→List Ob→Prop) (e:Env) (H:List Ob):Prop:=XZ (pvopS P PP Ss) l K e H
@[congr] theorem Bj4 {Ss:SsT} {l:List VO} {e':Env} {H':List Ob} (he:e=e') (hH:H=H'):Aox P PP Ss l K e H=Aox P PP Ss l K e' H':=by rw [he,hH]
@[congr] theorem Bi2 {Ss:SsT} {o:VOp} {e':Env} {H':List Ob} {KK:TV→List Ob→Prop} (he:e=e') (hH:H=H'):pvopS P PP Ss o e H KK=pvopS P PP Ss o e' H' KK:=by rw [he,hH]
theorem Bju {n:Nat} {l:List VO} {kp:List Nat}:vwp P (.sdraw n l kp) Q e H=(vq P (l.take (nOf n)) (fun e=>Aox P (fun u H=>Q (.pan u) [] H) (ssN n l) (l.drop (nOf n)) (fun e H=>Ce (forget kp e) fun e=>Q .nor e H) e H) e H):=Ad rfl
section
variable {Ss:SsT}
theorem BoT:Aox P PP Ss [] K e H=K e H:=Ad rfl
theorem Btp {d:Nat} {o:VOp}:Aox P PP Ss (⟨some d,o,none⟩::r) K e H=pvopS P PP Ss o e H (fun x H=>Aox P PP Ss r K ((d,x)::e) H):=Ad rfl
theorem Brj {o:VOp}:Aox P PP Ss (⟨none,o,none⟩::r) K e H=pvopS P PP Ss o e H (fun x H=>Aox P PP Ss r K e H):=Ad rfl
theorem BnZ {o:POp} {KK:TV→List Ob→Prop}:pvopS P PP Ss (.p o) e H KK=pop o e H fun x=>KK x H:=Ad rfl
theorem A2z {f:FuncId} {args:List Opd} {KK:TV→List Ob→Prop}:pvopS P PP Ss (.s (.call f args)) e H KK=Ce (evs e args) fun xs=>Iu (AdE xs) (VCP P f xs H (fun x H'=>KK x H'∧Adx Ss.l e H H') PP):=by
 show ((∀ x∈args,DY (x.ev e)=false)∧_)=_
 rw [Aad]; rfl
theorem ArM {sz:Nat} {x v:Opd} {KK:TV→List Ob→Prop}:pvopS P PP Ss (.s (.store sz x v)) e H KK=sop P (.store sz x v) e H fun x H'=>KK x H'∧Adx Ss.st e H H':=Ad rfl
theorem ArC {z:TV} {KK:TV→List Ob→Prop}:pvopS P PP Ss (.s (.alloc z)) e H KK=sop P (.alloc z) e H KK:=Ad rfl
theorem BgV {k bytes:Nat} {z:TV} {l c:Opd} {KK:TV→List Ob→Prop}:pvopS P PP Ss (.s (.mks k bytes z l c)) e H KK=sop P (.mks k bytes z l c) e H KK:=Ad rfl
theorem Bhg {k bytes:Nat} {et:TypeId} {x y:Opd} {KK:TV→List Ob→Prop}:pvopS P PP Ss (.s (.app k bytes et x y)) e H KK=vif Ss.ap (sop P (.app k bytes et x y) e H fun x H'=>KK x H'∧Adx Ss.l e H H') (sop P (.app k bytes et x y) e H KK):=by
 show sop P (.app k bytes et x y) e H (fun x H'=>KK x H'∧(Ss.ap=true→Adx Ss.l e H H'))=_
 unfold vif
 split
 ·rename_i h
  congr 1; funext x H'; simp [h]
 ·rename_i h
  congr 1; funext x H'; simp [h]
theorem A2O {et:TypeId} {x y:Opd} {KK:TV→List Ob→Prop}:pvopS P PP Ss (.s (.appS et x y)) e H KK=sop P (.appS et x y) e H KK:=Ad rfl
theorem Bon {n:Nat}:nOf n=n % 10000:=Ad rfl
theorem Bm8 {n:Nat} {l:List VO}:(ssN n l).ap=decide (10000≤n):=Ad rfl
theorem BgX {x:Opd} {KK:TV→List Ob→Prop}:pvopS P PP Ss (.s (.s2b x)) e H KK=sop P (.s2b x) e H KK:=Ad rfl
theorem Ao7 {k n:Nat} {z:TV} {ps:List (Nat×Opd)} {KK:TV→List Ob→Prop}:pvopS P PP Ss (.s (.bslice k n z ps)) e H KK=sop P (.bslice k n z ps) e H KK:=Ad rfl
end
theorem Aq9 {e:Env} {H H':List Ob}:Adx [] e H H':=Adx.nil
theorem AsQ {s:Nat} {Ss:List Nat} {e:Env} {H H':List Ob} {id ver:Nat} {p:List (Nat×Nat)} (h:get e s = .op id ver p) (h1:H'[id]?=H[id]?) (h2:Adx Ss e H H'):Adx (s::Ss) e H H':=fun t ht id' hg=>by
 rcases List.mem_cons.1 ht with rfl | ht
 ·rw [h] at hg; cases hg; exact h1
 ·exact h2 t ht id' hg
end
def Ag:=(aI_ (aI_ (aI_ (aI_ (aI_ (aI_ (aI_ (aI_ @Brf @Bmi) (aI_ @Bru @Btm)) (aI_ (aI_ @BoC @BpL) (aI_ @Brk @Bms))) (aI_ (aI_ (aI_ @Bgl @BlF) (aI_ @Bn7 @Blx)) (aI_ (aI_ @Bqv @Bog) (aI_ @Bqr @Bmm)))) (aI_ (aI_ (aI_ (aI_ @BnY @Bpu) (aI_ @BrH @Bqi)) (aI_ (aI_ @Bjy @BrW) (aI_ @Bmr @Bqh))) (aI_ (aI_ (aI_ @Bpz @Brd) (aI_ @Bpx @Brl)) (aI_ (aI_ @Blg @Bh2) (aI_ @Bqc @BkK))))) (aI_ (aI_ (aI_ (aI_ (aI_ @Bg1 @BpW) (aI_ @Bo3 @Bmh)) (aI_ (aI_ @Bmp @BmE) (aI_ @BoY @Bmn))) (aI_ (aI_ (aI_ @BoR @Bmt) (aI_ @BpD @BfY)) (aI_ (aI_ @BlD @BqK) (aI_ @Brc @BmX)))) (aI_ (aI_ (aI_ (aI_ @BoE @Bjo) (aI_ @BpC @Bns)) (aI_ (aI_ @BrG @Bm2) (aI_ @Bno @Bm5))) (aI_ (aI_ (aI_ @Bnr @BoM) (aI_ @Bnl @BjX)) (aI_ (aI_ @Bre @BrX) (aI_ @BmZ @BpS)))))) (aI_ (aI_ (aI_ (aI_ (aI_ (aI_ @Bmv @Bmg) (aI_ @Bqs @Bjx)) (aI_ (aI_ @Boe @Bn0) (aI_ @Brs @Bls))) (aI_ (aI_ (aI_ @BpX @BoG) (aI_ @BoP @BiB)) (aI_ (aI_ @BmY @Bni) (aI_ @Bjv @o_g)))) (aI_ (aI_ (aI_ (aI_ @BmS @Bp8) (aI_ @Brb @Bnt)) (aI_ (aI_ @Bs3 @u_c) (aI_ @u_g @Bj2))) (aI_ (aI_ (aI_ @Bs7 @Anz) (aI_ @An7 @Bpy)) (aI_ (aI_ @BmI @Bp1) (aI_ @Bod @Aqw))))) (aI_ (aI_ (aI_ (aI_ (aI_ @BnL @Aoc) (aI_ @BhA @Bkb)) (aI_ (aI_ @Bfk @Blz) (aI_ @Bkg @Bfq))) (aI_ (aI_ (aI_ @Apz @Bk4) (aI_ @Bgf @BjJ)) (aI_ (aI_ @BmT @BjH) (aI_ @Bju @BoT)))) (aI_ (aI_ (aI_ (aI_ @Btp @Brj) (aI_ @BnZ @A2z)) (aI_ (aI_ @ArM @ArC) (aI_ @BgV @Bhg))) (aI_ (aI_ (aI_ @A2O @BgX) (aI_ @Ao7 @Boy)) (aI_ (aI_ @Bs4 @BrU) (aI_ @Bth @Bob))))))) (aI_ (aI_ (aI_ (aI_ (aI_ (aI_ @As5 @Bgv) (aI_ @Aru @BhD)) (aI_ (aI_ @ApW @Ar8) (aI_ @Bhx @Bht))) (aI_ (aI_ (aI_ @A2y @BiJ) (aI_ @A2N @BfK)) (aI_ (aI_ @Bfb @Asm) (aI_ @ArR @BfL)))) (aI_ (aI_ (aI_ (aI_ @BgP @Be6) (aI_ @AsG @A2W)) (aI_ (aI_ @Aqg @A20) (aI_ @A3Q @Be7))) (aI_ (aI_ (aI_ @A3L @A2A) (aI_ @AsJ @A3B)) (aI_ (aI_ @BgZ @A3U) (aI_ @Bj3 @Bk7))))) (aI_ (aI_ @Blm @Asv) (aI_ @Ar0 @ArX))))
def Ae:=(aI_ (aI_ (aI_ (aI_ (aI_ (aI_ (aI_ (aI_ @Bon @Bm8) (aI_ @BjT @BhC)) (aI_ (aI_ @Bg6 @Be1) (aI_ @BjD @Bjr))) (aI_ (aI_ (aI_ @Bn5 @BoB) (aI_ @BmO @A3W)) (aI_ (aI_ @Bii @Bji) (aI_ @Bhw @Bov)))) (aI_ (aI_ (aI_ (aI_ @A2P @BkH) (aI_ @Bib @Bi7)) (aI_ (aI_ @BlL @Bmb) (aI_ @Boa @A3H))) (aI_ (aI_ (aI_ @BlB @Bf3) (aI_ @BlI @Bgy)) (aI_ (aI_ @Bk8 @BoD) (aI_ @BhX @Blw))))) (aI_ (aI_ (aI_ (aI_ (aI_ @BkR @Bfj) (aI_ @Bgo @ArW)) (aI_ (aI_ @Ar2 @AsI) (aI_ @BgG @Bg7))) (aI_ (aI_ (aI_ @A3G @A4n) (aI_ @BjC @BiM)) (aI_ (aI_ @BjA @Bhl) (aI_ @BhH @Bgc)))) (aI_ (aI_ (aI_ (aI_ @A3X @Blh) (aI_ @Bkw @BjQ)) (aI_ (aI_ @Bkq @BkW) (aI_ @BkE @BlR))) (aI_ (aI_ (aI_ @Bg3 @Bjw) (aI_ @BfN @BkI)) (aI_ (aI_ @A39 @BlM) (aI_ @Bg4 @BfG)))))) (aI_ (aI_ (aI_ (aI_ (aI_ (aI_ @Bg2 @AsP) (aI_ @Arn @BkF)) (aI_ (aI_ @Bj6 @BoZ) (aI_ @Bn2 @Bnq))) (aI_ (aI_ (aI_ @BoF @Bh7) (aI_ @BgO @BfU)) (aI_ (aI_ @BfQ @BmK) (aI_ @Bot @BmG)))) (aI_ (aI_ (aI_ (aI_ @A28 @Arx) (aI_ @A26 @BgQ)) (aI_ (aI_ @BfP @A3P) (aI_ @Bf2 @Bis))) (aI_ (aI_ (aI_ @Bh9 @BiC) (aI_ @BkN @BkJ)) (aI_ (aI_ @Bik @A29) (aI_ @BgH @Bkh))))) (aI_ (aI_ (aI_ (aI_ (aI_ @Bhq @Bk6) (aI_ @Bki @Bjs)) (aI_ (aI_ @Bic @BiO) (aI_ @Bim @BhL))) (aI_ (aI_ (aI_ @Bih @Bgk) (aI_ @A2C @BgM)) (aI_ (aI_ @BkB @Bow) (aI_ @A37 @BmW)))) (aI_ (aI_ (aI_ (aI_ @Bne @Bkk) (aI_ @BjE @BlN)) (aI_ (aI_ @Bf8 @Bgm) (aI_ @BgB @Option.getD_none.{0}))) (aI_ (aI_ (aI_ @Option.getD_some.{0} @A3e) (aI_ @Blo @Bgd)) (aI_ (aI_ @BgF @Bgu) (aI_ @Arj @A4f))))))) (aI_ (aI_ (aI_ (aI_ (aI_ (aI_ @BhJ @BiK) (aI_ @BkY @BfE)) (aI_ (aI_ @Bkv @BiN) (aI_ @A2U @Bj9))) (aI_ (aI_ (aI_ @Bg0 @BhE) (aI_ @Bg9 @Biz)) (aI_ (aI_ @Bgh @Bfl) (aI_ @Bit @BjW)))) (aI_ (aI_ (aI_ (aI_ @A4b @Bj0) (aI_ @BnS @BnE)) (aI_ (aI_ @ArT @A4c) (aI_ @Bqt @BpY))) (aI_ (aI_ (aI_ @Bs6 @Bgn) (aI_ @Bk1 @BlX)) (aI_ (aI_ @Btc @Btg) (aI_ @BsX @Bf4))))) (aI_ (aI_ (aI_ @BlE @BhZ) (aI_ @Bf6 @Blc)) (aI_ (aI_ @Bhu @A2K) @ArZ))))
def Ai:=(aI_ (aI_ (aI_ (aI_ (aI_ (aI_ (aI_ (aI_ @BhT @BfT) (aI_ @Bjk @Bko)) (aI_ (aI_ @BlV @Bjp) (aI_ @BhQ @Bfm))) (aI_ (aI_ (aI_ @BgR @Bfz) (aI_ @BlW @BkS)) (aI_ (aI_ @Bj8 @A3I) (aI_ @BeS @BfV)))) (aI_ (aI_ (aI_ (aI_ @Bh5 @BgK) (aI_ @BhM @Be3)) (aI_ (aI_ @Be2 @Be5) (aI_ @A2T @BhV))) (aI_ (aI_ (aI_ @Bhf @BhI) (aI_ @BhF @Bkf)) (aI_ (aI_ @Bky @BlQ) (aI_ @BkC @Bfy))))) (aI_ (aI_ (aI_ (aI_ (aI_ @Biu @BgC) (aI_ @Bhd @Blf)) (aI_ (aI_ @Bjn @BjF) (aI_ @A2J @BeX))) (aI_ (aI_ (aI_ @Bhc @BgU) (aI_ @Biw @Bhm)) (aI_ (aI_ @A3d @BgY) (aI_ @Bfn @As4)))) (aI_ (aI_ (aI_ (aI_ @A2Q @BhK) (aI_ @Bf9 @Bid)) (aI_ (aI_ @Bil @A2I) (aI_ @A3r @BgJ))) (aI_ (aI_ (aI_ @BfX @BgA) (aI_ @BeW @A31)) (aI_ (aI_ @Asu @Apk) (aI_ @A4p @As3)))))) (aI_ (aI_ (aI_ (aI_ (aI_ (aI_ @A3y @A3z) (aI_ @Asq @BhP)) (aI_ (aI_ @A4o @ApD) (aI_ @Aop @Ass))) (aI_ (aI_ (aI_ @Bgj @A35) (aI_ @Aoz @Amo)) (aI_ (aI_ @Bs2 @BsW) (aI_ @Bs5 @BfC)))) (aI_ (aI_ (aI_ (aI_ @Bgb @BhR) (aI_ @Am4 @BiL)) (aI_ (aI_ @BfS @Asw) (aI_ @ApJ @A38))) (aI_ (aI_ (aI_ @Arw @BfO) (aI_ @Arz @Apu)) (aI_ (aI_ @Ar3 @ApE) (aI_ @AsM @Arl))))) (aI_ (aI_ (aI_ (aI_ (aI_ @Ape @Aot) (aI_ @Anh @Alu)) (aI_ (aI_ @Bkz @Bhv) (aI_ @Bfc @Bhp))) (aI_ (aI_ (aI_ @Aqw @Bga) (aI_ @Aoc @Anz)) (aI_ (aI_ @An7 @BfR) (aI_ @Bhz @Bkd)))) (aI_ (aI_ (aI_ (aI_ @Bku @BfZ) (aI_ @BkP @Bka)) (aI_ (aI_ @BgS @Bho) (aI_ @BhY @AsV))) (aI_ (aI_ (aI_ @ArQ @BlT) (aI_ @BlS @BnP)) (aI_ (aI_ @Bjj @Bk5) (aI_ @BkT @Bjm))))))) (aI_ (aI_ (aI_ @BfM @A24) (aI_ @AoG @Bie)) (aI_ (aI_ @BrK @BoK) @BmF)))
theorem ArN {α β:Type} {f:α→β} {l:List α} {i:Nat}:(l.map f).drop i=(l.drop i).map f:=List.map_drop.symm
theorem Ar7 {α β:Type} {f:α→β} {l:List α} {i:Nat}:(l.map f).take i=(l.take i).map f:=List.map_take.symm
theorem BnO {b:UInt8}:IntKind.i64.wrap (b.toNat:Int)=b.toNat:=Nc (by omega) (by have:=b.toNat_lt; omega)
theorem Bi1 {n:Nat}:IntKind.u8.wrap (n:Int)=((UInt8.ofNat n).toNat:Int):=by
 rw [IntKind.wrap_u8,UInt8.toNat_ofNat']; omega
theorem BmN {α:Type} {n i:Nat} {a:α} (h:i<n):(List.replicate n a)[i]?=some a:=by simp [h]
section
variable {a b c:Nat}
theorem BiG:(a:Int)*(b:Int)=((a*b:Nat):Int):=Ad rfl
theorem Bio (h:b≤a):(a:Int) - (b:Int)=((a - b:Nat):Int):=by omega
theorem Biv:(a:Int) / (b:Int)=((a / b:Nat):Int):=Ad rfl
theorem Bg8:(a:Int) % (b:Int)=((a % b:Nat):Int):=Ad rfl
variable {t:TypeId} {k2:IntKind}
theorem BmU (h1:b≤63) (h2:a*2 ^ b≤9223372036854775807):I9 t .shl (.int .i64 (a:Int)) (.int k2 (b:Int))=some (.int .i64 ((a*2 ^ b:Nat):Int)):=by
 have e:(a:Int)*2 ^ ((b:Int).toNat)=((a*2 ^ b:Nat):Int):=by rw [Int.toNat_natCast,Int.natCast_mul,Int.natCast_pow]; rfl
 rw [Br0 (by omega) (by omega) (by rw [e]; omega) (by rw [e]; omega),e]
theorem Bnb (h1:b≤63):I9 t .shr (.int .i64 (a:Int)) (.int k2 (b:Int))=some (.int .i64 ((a / 2 ^ b:Nat):Int)):=by
 have e:(a:Int) / 2 ^ ((b:Int).toNat)=((a / 2 ^ b:Nat):Int):=by rw [Int.toNat_natCast,Int.natCast_ediv,Int.natCast_pow]; rfl
 rw [BqY (by omega) (by omega) (by omega),e]
variable {k:IntKind}
theorem BiU (h:b≠0):I9 t .rem (.int k (a:Int)) (.int k (b:Int))=some (.int k ((a % b:Nat):Int)):=by rw [Bri (by omega) (by omega),Int.natCast_emod]
theorem Bmw (h:b≠0) (h2:a≤9223372036854775807):I9 t .quo (.int .i64 (a:Int)) (.int .i64 (b:Int))=some (.int .i64 ((a / b:Nat):Int)):=by rw [Brg (by omega) (by omega) (by omega),Int.natCast_ediv]
end
theorem Au.toPureV {P:Program} {f:FuncId} {args:List TV} {R:TV→Prop} (h:Au P f args [] fun x H'=>CQ (frz H' x) R):BD P f args R :=
 Au.toPure (h.mono fun x H' hx=>by
  cases hf:frz H' x with
  | none=>rw [hf] at hx; exact hx
  | some y=>rw [hf] at hx; exact hx)
abbrev mv_ (d s:Nat):VO:=⟨some d,.p (.mov (.t s)),none⟩
abbrev po_ (d:Nat) (p:POp):VO:=⟨some d,.p p,none⟩
abbrev so_ (d:Nat) (q:SOp):VO:=⟨some d,.s q,none⟩
abbrev ci_ (n:Nat):Opd := .c (.int .i64 (n:Int))
theorem D7 {P:Program} {f:FuncId} {fn:Func} {vc:Af} {vr:List VR} (n:Nat) (hf:P.funcs[f]?=some fn) (ht:fn.body.bind (trC P fn.ntmps)=some (er vc)) (hr:trR P fn.results.toList=some vr) (hn:fn.ntmps=n) :
  ∀ ⦃args:List TV⦄ ⦃H:List Ob⦄ ⦃R:TV→List Ob→Prop⦄,args.length≤n→vwp P vc (Acy vr R) (AmU 0 args) H→Au P f args H R:=fun _ _ _ h1 h2=>A4m hf ht hr (hn▸h1) h2
theorem Aa {c c':Af} (h:c=c'):∀ (P:Program) (Q:VEx→Env→List Ob→Prop) (e:Env) (H:List Ob),vwp P c Q e H=vwp P c' Q e H:=fun _ _ _ _=>by rw [h]
theorem Ac {α:Type}:(∀ {l:List α} {i:Nat} {a:α},(l.set i a).length=l.length)∧(∀ {l m:List α},(l++m).length=l.length+m.length)∧(∀ {a:α} {l:List α},(a::l).length=l.length+1)∧([]:List α).length=0:=⟨List.length_set,List.length_append,List.length_cons,List.length_nil⟩
theorem Au.toFreshV {P:Program} {f:FuncId} {args:List TV} {R:TV→Prop} (h:Au P f args [] fun x H'=>CQ (frs H' x) R):P8 P f args R :=
 Au.toFresh (h.mono fun x H' hx=>by
  cases hf:frs H' x with
  | none=>rw [hf] at hx; exact hx
  | some y=>rw [hf] at hx; exact hx)
theorem BhN {α:Type} {l:List α} {n:Nat} (h:l.length≤n):l.take n=l:=List.take_of_length_le h
theorem Bra {α:Type} {c:Prop} [Decidable c] {a b:α} (h:c):(if c then a else b)=a:=if_pos h
theorem Bqy {α:Type} {c:Prop} [Decidable c] {a b:α} (h:¬ c):(if c then a else b)=b:=if_neg h
theorem Ap7 {α:Type} {l:List α} {n:Nat} (h:n≤l.length):(l.take n).length=n:=by simp [h]
theorem AmS {α:Type} {l:List α} {i:Nat}:(l.drop i).take (l.length - i)=l.drop i:=List.take_of_length_le (by simp)
theorem BiF {a b:Nat}:a+b - a=b:=Nat.add_sub_cancel_left a b
theorem Bge {α:Type} {l m:List α}:(l++m).take l.length=l:=List.take_left
theorem BgW {α:Type} {l m:List α}:(l++m).drop l.length=m:=List.drop_left
theorem Bgr {a b:Nat}:a+b - b=a:=Nat.add_sub_cancel a b
def Ah:=(aI_ (aI_ (aI_ (aI_ (aI_ (aI_ (aI_ @Bge @BgW) (aI_ @BiF @AmS)) (aI_ (aI_ @Ap7 @List.length_drop.{0}) (aI_ @Bra @Bqy))) (aI_ (aI_ (aI_ @BhN @Bgr) (aI_ @Nat.zero_le @Bop)) (aI_ (aI_ @List.nil_append.{0} @List.length_nil.{0}) (aI_ @List.length_cons.{0} @List.cons_append.{0})))) (aI_ (aI_ (aI_ (aI_ @List.getElem?_cons_zero.{0} @List.getElem?_cons_succ.{0}) (aI_ @List.set_cons_zero.{0} @List.set_cons_succ.{0})) (aI_ (aI_ @List.map_cons.{0,0} @List.map_nil.{0,0}) (aI_ @Bf1 @Bhe))) (aI_ (aI_ (aI_ @true_and @and_true) (aI_ @List.take_zero.{0} @List.take_succ_cons.{0})) (aI_ (aI_ @List.drop_succ_cons.{0} @List.take_nil.{0}) (aI_ @List.drop_nil.{0} @Nat.zero_add))))) (aI_ (aI_ (aI_ (aI_ (aI_ @BrR @Bqq) (aI_ @Bqz @Brp)) (aI_ (aI_ @Bq2 @Brz) (aI_ @Bq7 @BpA))) (aI_ (aI_ (aI_ @BqJ @BpG) (aI_ @Btr @BiU)) (aI_ (aI_ @Bmw @BnX) (aI_ @A3k @A4k)))) (aI_ (aI_ (aI_ (aI_ @AsN @BeN) (aI_ @Ar9 @A3s)) (aI_ (aI_ @BeO @A3b) (aI_ @AsF @AsO))) (aI_ (aI_ (aI_ @Bool.false_xor @Bool.true_xor) (aI_ @BqC @Bpw)) (aI_ (aI_ @BpR @decide_true) (aI_ @decide_false @Bool.not_true)))))) (aI_ (aI_ (aI_ (aI_ (aI_ (aI_ @Bool.not_false @not_true_eq_false) (aI_ @not_false_eq_true @Bool.false_eq_true)) (aI_ (aI_ @Bool.true_eq_false @Option.bind_some.{0,0}) (aI_ @Option.map_some.{0,0} @Bool.and_self))) (aI_ (aI_ (aI_ @and_self @Nat.sub_zero) (aI_ @Nat.mul_one @List.length_map.{0,0})) (aI_ (aI_ @Int.toNat_natCast @List.getElem?_map.{0,0}) (aI_ @Int.natCast_nonneg @List.length_append.{0})))) (aI_ (aI_ (aI_ (aI_ @List.drop_zero.{0} @ArN) (aI_ @Ar7 @Bfu)) (aI_ (aI_ @Bif @BhU) (aI_ @BjY @BjL))) (aI_ (aI_ (aI_ @BkZ @BlO) (aI_ @List.replicate_zero.{0} @List.take_length.{0})) (aI_ (aI_ @List.length_set.{0} @List.length_replicate.{0}) (aI_ @BnO @Nc))))) (aI_ (aI_ (aI_ (aI_ @Bi1 @List.set_set.{0}) (aI_ @List.getElem?_nil.{0} @BmN)) (aI_ (aI_ @BiG @Bio) (aI_ @Biv @Bg8))) (aI_ @BmU @Bnb))))
end
end Go.Proofs.YtnkpoloeifhflaaGreatDoor
