/- What the proof of DeltaMovedCard stands on (texts merged; names shortened by a program): part 4. -/
import Derived.Test.YthlbcfmbldcngaaDoorQC
import Derived.RangeFuncIn
import Derived.RangeFuncRecord
import Derived.RangeFuncLeaves
import Derived.Sort.LoopGhostIn
set_option linter.unusedSectionVars false
set_option linter.unusedSimpArgs false
set_option linter.unusedVariables false
namespace Go.Proofs.YthlbcfmbldcngaaDoor
section
open Go.RowKit
variable [A7]
set_option autoImplicit false
inductive Ad where
 | ops (l:List VO) (keep:List Nat)
 | draw (nA:Nat) (l:List VO) (keep:List Nat)
 | skip
 | opsZ (l:List VO) (zs:List Nat) (r:List VO) (keep:List Nat)
 | pops (l:List VO) (keep:List Nat)
 | pdraw (n:Nat) (l:List VO) (keep:List Nat)
 | sdraw (n:Nat) (l:List VO) (keep:List Nat)
 | seq (a b:Ad)
 | cond (c:Opd) (a b:Ad)
 | block (id:Nat) (c:Ad)
 | loop (live:List Nat) (c:Ad)
 | exit (id:Nat)
 | ret
 | scope (c:Ad)
 | own (s k:Nat) (c:Ad)
 | ownB (s:Nat) (p:List (Nat×Nat)) (k:Nat) (c:Ad)
 | ownT (s:Nat) (p:List (Nat×Nat)) (t:TypeId) (c:Ad)
 | frz (s:Nat) (c:Ad)
 | rfunc (f:Opd) (ps:List Nat) (aS bd:Ad)
 | dead
 deriving Inhabited
def AjB:List Nat→(Env→List Ob→Prop)→Env→List Ob→Prop
 | [],K,e,H=>K e H
 | s::zs,K,e,H=>match get e s with
  | .os k id ver p off n _=>(match H[id]? with
   | some (.obj v x)=>v=ver∧(match DV p k off n x with
    | some cs=>AjB zs K ((s,.sl k cs)::e) (H.set id (.gone ver))
    | none=>False)
   | _=>False)
  | _=>False
def er:Ad→Ad
 | .ops l _ => .ops l []
 | .draw n l _ => .draw n l []
 | .opsZ l _ r _ => .ops (l++r) []
 | .pops l _ => .ops l []
 | .pdraw n l _ => .draw n l []
 | .sdraw n l _ => .sdraw n l []
 | .seq a b => .seq (er a) (er b)
 | .cond c a b => .cond c (er a) (er b)
 | .block id c => .block id (er c)
 | .loop _ c => .loop [] (er c)
 | .scope c => .scope (er c)
 | .own _ _ c=>er c
 | .ownB _ _ _ c=>er c
 | .ownT _ _ _ c=>er c
 | .frz _ c=>er c
 | .rfunc f ps aS bd => .rfunc f ps (er aS) (er bd)
 | .skip => .skip
 | .exit id => .exit id
 | .ret => .ret
 | .dead => .dead
def TZ:Code→Bool
 | .seq a b=>TZ a || TZ b
 | .cond _ a b=>TZ a || TZ b
 | .block _ c=>TZ c
 | .loop c=>TZ c
 | .scope c=>TZ c
 | .region _ ops _=>ops.toList.any fun o=>match o.op with | .panic _=>true | .store .. => true | _=>false
 | _=>false
def AmP:List String:=["(*gitlike/pack.reader).number", "(*gitlike/pack.reader).byte", "(*gitlike/pack.reader).head", "(*gitlike/pack.reader).distance", "(*gitlike/pack.reader).entry", "gitlike/stage.put", "gitlike/gitlikeref8.number"]
def Adp (P:Program) (v:VO):Bool:=match v.op with
 | .s (.call f _)=>(match P.funcs[f]? with | some fn=>fn.body.any TZ || AmP.contains fn.name | none=>false)
 | .s (.store _ _ _)=>true
 | _=>false
def nOf (n:Nat):Nat:=n % 10000
def ssN (n:Nat) (l:List VO):SsT:=⟨Aij l,Acz l,decide (10000≤n)⟩
theorem AjA {n:Nat} (h:n<10000):nOf n=n:=Nat.mod_eq_of_lt h
theorem Ahu {n:Nat} (h:n<10000):nOf (10000+n)=n:=by unfold nOf; omega
theorem Ah0 {n:Nat} {l:List VO} (h:n<10000):ssN n l=⟨Aij l,Acz l,false⟩:=by unfold ssN; rw [decide_eq_false (by omega)]
theorem AhS {n:Nat} {l:List VO}:ssN (10000+n) l=⟨Aij l,Acz l,true⟩:=by unfold ssN; rw [decide_eq_true (by omega)]
def Zx (chk:Nat→Bool) (n:Nat):Option Nat:=(List.range (n+1)).find? fun j=>chk j && decide (j<10000)
theorem QL {chk:Nat→Bool} {n j:Nat} (h:Zx chk n=some j):chk j=true∧j<10000:=by
 have:=List.find?_some h
 simpa using this
def Aoy (v:VO):Bool:=match v.op with
 | .s (.app _ _ _ _ _)=>true
 | _=>false
def WT (P:Program) (ops:List Oper) (l:List VO) (n:Nat):Option Ad:=match (List.range (n+1)).find? (PL ss0 ops l) with
 | some k=>if (l.take k).any (Adp P) then (match Zx (PL ⟨Aij l,Acz l,false⟩ ops l) n with
   | some j=>if (l.take j).any (Adp P) then (match Zx (CQ ⟨Aij l,Acz l,false⟩ ops l) n with
     | some j'=>some (.sdraw j' l [])
     | none=>some (.sdraw j l [])) else some (.sdraw j l [])
   | none=>none) else some (.draw k l [])
 | none=>none
theorem WR {P:Program} {ops:List Oper} {l:List VO} {n:Nat} {c:Ad} (h:WT P ops l n=some c):∃ k,(c = .draw k l []∧CQ ss0 ops l k=true)∨(c = .sdraw k l []∧CQ (ssN k l) ops l (nOf k)=true):=by
 have low:∀ {j},CQ ⟨Aij l,Acz l,false⟩ ops l j=true→j<10000→CQ (ssN j l) ops l (nOf j)=true:=fun h1 h2=>by rw [Ah0 h2,AjA h2]; exact h1
 unfold WT at h
 split at h
 ·rename_i k hk
  split at h
  ·split at h
   ·rename_i j hj
    obtain ⟨hj,hj2⟩:=QL hj
    split at h
    ·split at h
     ·rename_i j' hj'
      obtain ⟨hj',hj2'⟩:=QL hj'
      cases h; exact ⟨j',.inr ⟨rfl,low hj' hj2'⟩⟩
     ·cases h; exact ⟨j,.inr ⟨rfl,low (JJ hj) hj2⟩⟩
    ·cases h; exact ⟨j,.inr ⟨rfl,low (JJ hj) hj2⟩⟩
   ·cases h
  ·cases h; exact ⟨k,.inl ⟨rfl,JJ (List.find?_some hk)⟩⟩
 ·cases h
def Abn (ops:List Oper) (l:List VO) (n:Nat):Option Ad:=(Zx (PL ⟨Aij l,Acz l,true⟩ ops l) n).map fun j => .sdraw (10000+j) l []
theorem X7 {ops:List Oper} {l:List VO} {n:Nat} {c:Ad} (h:Abn ops l n=some c):∃ k,c = .sdraw k l []∧CQ (ssN k l) ops l (nOf k)=true:=by
 obtain ⟨j,hj,rfl⟩:=Option.map_eq_some_iff.1 h
 obtain ⟨hj,hj2⟩:=QL hj
 exact ⟨10000+j,rfl,by rw [AhS,Ahu hj2]; exact JJ hj⟩
def WO (bz:Bool) (P:Program) (N:Nat) (ops:Array Oper):Option Ad:=match trL bz P N ops.toList ops.toList with
 | some l=>if P.follows .mixedOrders then (if l.any AlJ || l.any (Adp P) then (match trL bz P N (AP ops.toList (Ahk ops.toList l)) (AP ops.toList (Ahk ops.toList l)) with
   | some l'=>if N7 (Ahk ops.toList l) ops.toList.length then WT P (AP ops.toList (Ahk ops.toList l)) l' ops.size else none
   | none=>none)
  else (match (List.range (ops.size+1)).find? (PL ss0 ops.toList l) with
   | some n=>if (l.take n).any Aoy then (match trL bz P N (AP ops.toList (Ahk ops.toList l)) (AP ops.toList (Ahk ops.toList l)) with
     | some l'=>if N7 (Ahk ops.toList l) ops.toList.length then (match Abn (AP ops.toList (Ahk ops.toList l)) l' ops.size with
       | some c=>some c
       | none=>some (.draw n l [])) else some (.draw n l [])
     | none=>some (.draw n l [])) else some (.draw n l [])
   | none=>none)) else none
 | none=>none
theorem Pv {bz:Bool} {P:Program} {N:Nat} {ops:Array Oper} {c:Ad} (h:WO bz P N ops=some c):(∃ n l,c = .draw n l []∧P.follows .mixedOrders=true ∧
  ((trL bz P N ops.toList ops.toList=some l∧CQ ss0 ops.toList l n=true)∨∃ π,N7 π ops.toList.length=true∧trL bz P N (AP ops.toList π) (AP ops.toList π)=some l∧CQ ss0 (AP ops.toList π) l n=true)) ∨
  ∃ n l,c = .sdraw n l []∧P.follows .mixedOrders=true∧∃ π,N7 π ops.toList.length=true∧trL bz P N (AP ops.toList π) (AP ops.toList π)=some l∧CQ (ssN n l) (AP ops.toList π) l (nOf n)=true:=by
 unfold WO at h
 split at h
 ·rename_i l hl
  split at h
  ·rename_i hm
   split at h
   ·split at h
    ·rename_i l' hl'
     split at h
     ·rename_i hp
      obtain ⟨k,⟨rfl,hk⟩ | ⟨rfl,hk⟩⟩:=WR h
      ·exact .inl ⟨k,l',rfl,hm,.inr ⟨_,hp,hl',hk⟩⟩
      ·exact .inr ⟨k,l',rfl,hm,_,hp,hl',hk⟩
     ·cases h
    ·cases h
   ·split at h
    ·rename_i n hn
     have plain:∀ {c:Ad},some (Ad.draw n l [])=some c→_:=fun {c} (h:some (Ad.draw n l [])=some c)=>(Or.inl ⟨n,l,(Option.some.inj h).symm,hm,.inl ⟨hl,JJ (List.find?_some hn)⟩⟩:(∃ n l,c = .draw n l []∧P.follows .mixedOrders=true ∧
  ((trL bz P N ops.toList ops.toList=some l∧CQ ss0 ops.toList l n=true)∨∃ π,N7 π ops.toList.length=true∧trL bz P N (AP ops.toList π) (AP ops.toList π)=some l∧CQ ss0 (AP ops.toList π) l n=true)) ∨
  ∃ n l,c = .sdraw n l []∧P.follows .mixedOrders=true∧∃ π,N7 π ops.toList.length=true∧trL bz P N (AP ops.toList π) (AP ops.toList π)=some l∧CQ (ssN n l) (AP ops.toList π) l (nOf n)=true)
     split at h
     ·split at h
      ·rename_i l' hl'
       split at h
       ·rename_i hp
        split at h
        ·rename_i c' hc'
         cases h
         obtain ⟨k,rfl,hk⟩:=X7 hc'
         exact .inr ⟨k,l',rfl,hm,_,hp,hl',hk⟩
        ·exact plain h
       ·exact plain h
      ·exact plain h
     ·exact plain h
    ·cases h
  ·cases h
 ·cases h
def Ai6:Ad→Bool
 | .draw n l _=>(l.take n).any fun v=>match v.op with | .s (.bslice _ _ _ _)=>true | _=>false
 | .sdraw n l _=>(l.take (nOf n)).any fun v=>match v.op with | .s (.bslice _ _ _ _)=>true | _=>false
 | _=>false
def Yf (P:Program) (N:Nat) (ops:Array Oper):Option Ad:=match WO false P N ops with
 | some c=>if Ai6 c then (match WO true P N ops with | some c'=>some c' | none=>some c) else some c
 | none=>none
theorem NJ {P:Program} {N:Nat} {ops:Array Oper} {c:Ad} (h:Yf P N ops=some c):∃ bz:Bool,(∃ n l,c = .draw n l []∧P.follows .mixedOrders=true ∧
  ((trL bz P N ops.toList ops.toList=some l∧CQ ss0 ops.toList l n=true)∨∃ π,N7 π ops.toList.length=true∧trL bz P N (AP ops.toList π) (AP ops.toList π)=some l∧CQ ss0 (AP ops.toList π) l n=true)) ∨
  ∃ n l,c = .sdraw n l []∧P.follows .mixedOrders=true∧∃ π,N7 π ops.toList.length=true∧trL bz P N (AP ops.toList π) (AP ops.toList π)=some l∧CQ (ssN n l) (AP ops.toList π) l (nOf n)=true:=by
 unfold Yf at h
 split at h
 ·rename_i c1 h1
  split at h
  ·split at h
   ·rename_i c2 h2; cases h; exact ⟨true,Pv h2⟩
   ·cases h; exact ⟨false,Pv h1⟩
  ·cases h; exact ⟨false,Pv h1⟩
 ·cases h
theorem Acb {P:Program} {N:Nat} {ops:Array Oper} {c:Ad} (h:Yf P N ops=some c) (hc:∀ n l,c ≠ .draw n l []) (hc2:∀ n l,c ≠ .sdraw n l []):False:=by
 obtain ⟨bz,⟨n,l,e,_⟩ | ⟨n,l,e,_⟩⟩:=NJ h
 ·exact hc n l e
 ·exact hc2 n l e
def trC (P:Program) (N:Nat):Code→Option Ad
 | .skip=>some .skip
 | .region _ ops false=>some (match trL false P N ops.toList ops.toList with | some l => .ops l [] | none => .dead)
 | .region _ ops true=>some (match Yf P N ops with | some c=>c | none => .dead)
 | .seq a b=>match trC P N a,trC P N b with
  | some a,some b=>some (.seq a b)
  | _,_=>none
 | .cond c a b=>match trC P N a,trC P N b with
  | some a,some b=>some (.cond (trO c) a b)
  | _,_=>none
 | .block id c=>(trC P N c).map (.block id)
 | .loop c=>(trC P N c).map (.loop [])
 | .exit id=>some (.exit id)
 | .scope c=>(trC P N c).map .scope
 | .label _=>some .skip
 | .ret=>some .ret
 | .rangeFunc f ps aS bd=>if ps.toList.all (· < N) then (match trC P N aS,trC P N bd with
  | some aS,some bd=>some (.rfunc (trO f) ps.toList aS bd)
  | _,_=>none) else none
 | _=>some .dead
theorem Aft {P:Program} {N id:Nat} {ops:Array Oper} {c:Ad} (h:trC P N (.region id ops false)=some c):(∃ l,trL false P N ops.toList ops.toList=some l∧c = .ops l [])∨c = .dead:=by
 simp only [trC,Option.some.injEq] at h
 split at h
 ·rename_i l hl; exact .inl ⟨l,hl,h.symm⟩
 ·exact .inr h.symm
theorem Ae6 {P:Program} {N id:Nat} {ops:Array Oper} {c:Ad} (h:trC P N (.region id ops true)=some c):Yf P N ops=some c∨c = .dead:=by
 simp only [trC,Option.some.injEq] at h
 split at h
 ·rename_i l hl; exact .inl (hl.trans (by rw [h]))
 ·exact .inr h.symm
theorem EW {P:Program} {N id:Nat} {ops:Array Oper} {c:Ad} (h:trC P N (.region id ops false)=some c) (hc:∀ l,c ≠ .ops l []) (hd:c ≠ .dead):False:=by
 rcases Aft h with ⟨l,_,e⟩ | e
 ·exact hc l e
 ·exact hd e
theorem EU {P:Program} {N id:Nat} {ops:Array Oper} {c:Ad} (h:trC P N (.region id ops true)=some c) (hc:∀ n l,c ≠ .draw n l []) (hc2:∀ n l,c ≠ .sdraw n l []) (hd:c ≠ .dead):False:=by
 rcases Ae6 h with e | e
 ·exact Acb e hc hc2
 ·exact hd e
def SN:Ad→Bool
 | .seq a b=>SN a && SN b
 | .cond _ a b=>SN a && SN b
 | .block _ c=>SN c
 | .loop _ c=>SN c
 | .scope c=>SN c
 | .own _ _ c=>SN c
 | .ownB _ _ _ c=>SN c
 | .ownT _ _ _ c=>SN c
 | .frz _ c=>SN c
 | .rfunc _ _ _ _=>false
 | _=>true
inductive VEx where
 | nor
 | exit (id:Nat)
 | ret
 | pan (u:Value)
def VEx.ex:VEx→Exit
 | .nor => .normal
 | .exit id => .exit id
 | .ret => .ret
 | .pan u => .panic [{ v:=u,recovered:=false }]
mutual
def FX (g:Nat):TV→Bool
 | .op id _ _=>decide (id<g)
 | .os _ id _ _ _ _ _=>decide (id<g)
 | .mp id _=>decide (id<g)
 | .yl id _=>decide (id<g)
 | .agg cs=>Ls g cs
 | .tup cs=>Ls g cs
 | .ifc _ x=>FX g x
 | .fn _ a b=>Ls g a && Ls g b
 | _=>true
def Ls (g:Nat):List TV→Bool
 | []=>true
 | x::xs=>FX g x && Ls g xs
end
def Qo (g:Nat):Env→Bool
 | []=>true
 | (_,x)::e=>FX g x && Qo g e
def ZM (g:Nat):Ob→Bool
 | .obj _ x=>FX g x
 | .ice _ _ x=>FX g x
 | .fact id _ _ _=>decide (id<g)
 | .lp _ _ _ _ e _ _ _=>Qo g e
 | .mpo _ es=>Ls g (es.map (·.2))
 | .bld _ _ _=>true
 | .sit _ _=>true
 | .mpd _ zs _=>Ls g (zs.map (·.2.2))
 | .mit m _ _=>decide (m<g)
 | .gone _=>true
def Rx (g:Nat):List Ob→Bool
 | []=>true
 | o::H=>ZM g o && Rx g H
def VG (Q:VEx→Env→List Ob→Prop) (e:Env) (L:Nat):TV→List Ob→Prop:=fun _ H'=>match H'[L]? with
 | some (.lp .ready none fn N e1 ps ca cb)=>Q .nor e (H'.set L (.lp .exhausted none fn N e1 ps ca cb))
 | some (.lp .done (some .ret) fn N e1 ps ca cb)=>Q .ret e (H'.set L (.lp .exhausted (some .ret) fn N e1 ps ca cb))
 | some (.lp .done (some (.exit i)) fn N e1 ps ca cb)=>Q (.exit i) e (H'.set L (.lp .exhausted (some (.exit i)) fn N e1 ps ca cb))
 | _=>False
structure Zm (P:Program) (N:Nat) (ps:List Nat) (ca cb:Code) (aS bd:Ad):Prop where
 a:trC P N ca=some (er aS)
 b:trC P N cb=some (er bd)
 p:ps.all (· < N)=true
def vwp (P:Program):Ad→(VEx→Env→List Ob→Prop)→Env→List Ob→Prop
 | .ops l kp,Q,e,H=>TK P l (fun e H=>Q .nor (forget kp e) H) e H
 | .opsZ l zs r kp,Q,e,H=>TK P l (AjB zs (TK P r (fun e H=>Q .nor (forget kp e) H))) e H
 | .pops l kp,Q,e,H=>P9 P (fun u H=>Q (.pan u) (Zf l e) H) l (fun e H=>Q .nor (forget kp e) H) e H
 | .pdraw n l kp,Q,e,H=>vq P (l.take n) (fun e=>P9 P (fun u H=>Q (.pan u) [] H) (l.drop n) (fun e H=>Q .nor (forget kp e) H) e H) e H
 | .sdraw n l kp,Q,e,H=>vq P (l.take (nOf n)) (fun e=>Lc (pvopS P (fun u H=>Q (.pan u) [] H) (ssN n l)) (l.drop (nOf n)) (fun e H=>Q .nor (forget kp e) H) e H) e H
 | .draw n l kp,Q,e,H=>vq P (l.take n) (fun e=>TK P (l.drop n) (fun e H=>Q .nor (forget kp e) H) e H) e H
 | .skip,Q,e,H=>Q .nor e H
 | .seq a b,Q,e,H=>vwp P a (fun x e H=>match x with | .nor=>vwp P b Q e H | .exit i=>Q (.exit i) e H | .ret=>Q .ret e H | .pan u=>Q (.pan u) e H) e H
 | .cond c a b,Q,e,H=>match c.ev e with
  | .val (.bool t)=>if t=true then vwp P a Q e H else vwp P b Q e H
  | _=>False
 | .block id c,Q,e,H=>vwp P c (fun x e H=>match x with | .nor=>Q .nor e H | .exit i=>if i=id then Q .nor e H else Q (.exit i) e H | .ret=>Q .ret e H | .pan u=>Q (.pan u) e H) e H
 | .loop lv c,Q,e,H0=>∃ (I:Nat→Env→List Ob→Prop) (n:Nat),I n (forget lv e) H0 ∧
   ∀ n e H,I n e H→vwp P c (fun x e H=>match x with | .nor=>∃ m g,m<n∧(H0.length≤g∧(H.length≤g∨(Qo g (forget lv e)=true∧Rx g (H.take g)=true)))∧I m (forget lv e) (H.take g) | .exit i=>Q (.exit i) e H | .ret=>Q .ret e H | .pan u=>Q (.pan u) e H) e H
 | .exit id,Q,e,H=>Q (.exit id) e H
 | .ret,Q,e,H=>Q .ret e H
 | .scope c,Q,e,H=>vwp P c Q e H
 | .dead,_,_,_=>False
 | .own s k c,Q,e,H=>match get e s with
  | .val (.slice none 0 0)=>vwp P c Q ((s,.os k H.length 0 [] 0 0 0)::e) (H++[.obj 0 (.arr 0 k [])])
  | _=>vwp P c Q e H
 | .ownB s p k c,Q,e,H=>match get e s with
  | .op id ver p0=>(match H[id]? with
   | some (.obj v x)=>v=ver∧(match J5 (p0++p) x with
    | some (.val (.slice none 0 0))=>(match QO (p0++p) x (.os k H.length 0 [] 0 0 0) with
     | some x'=>vwp P c Q e (H.set id (.obj ver x')++[.obj 0 (.arr 0 k [])])
     | none=>False)
    | _=>vwp P c Q e H)
   | _=>False)
  | _=>False
 | .ownT s p t c,Q,e,H=>match get e s with
  | .op id ver p0=>(match H[id]? with
   | some (.obj v x)=>v=ver∧(match J5 (p0++p) x with
    | some (.val (.slice none 0 0))=>(match QO (p0++p) x (.os 1 H.length 0 [] 0 0 0) with
     | some x'=>vwp P c Q e (H.set id (.obj ver x')++[.bld 0 t []])
     | none=>False)
    | _=>vwp P c Q e H)
   | _=>False)
  | _=>False
 | .frz s c,Q,e,H=>match get e s with
  | .os k id ver p off n _=>(match H[id]? with
   | some (.obj v x)=>v=ver∧(match DV p k off n x with
    | some cs=>vwp P c Q ((s,.sl k cs)::e) (H.set id (.gone ver))
    | none=>False)
   | _=>False)
  | _=>False
 | .rfunc f ps aS bd,Q,e,H=>SN aS=true∧SN bd=true∧(match f.ev e with
  | .fn (.func g) first caps=>SK P g=true∧∀ (N:Nat) (fn:FuncId) (ca cb:Code),Zm P N ps ca cb aS bd→Au P g (first++[.yl H.length 0]++caps) (H++[.lp .ready none fn N e ps ca cb]) (VG Q e H.length)
  | .val (.func (.func g) xs ys)=>(xs.isEmpty && ys.isEmpty)=true∧SK P g=true∧∀ (N:Nat) (fn:FuncId) (ca cb:Code),Zm P N ps ca cb aS bd→Au P g [.yl H.length 0] (H++[.lp .ready none fn N e ps ca cb]) (VG Q e H.length)
  | _=>False)
section sound
variable {P:Program}
theorem Ru {c:Ctx} {w:World}:∀ {p:List (Nat×Nat)} {x y z x':TV} {us:List Value},Ag c w x us→J5 p x=some z→(∀ m,Ag c w z m→Ag c w y m)→QO p x y=some x'→Ag c w x' us:=by
 intro p x y z x' us h hg hm hs
 obtain ⟨a,m,b,rfl,h1,h2⟩:=Iq h hg
 obtain ⟨a',m',b',e,h3,h4,h5,_⟩:=OX h hs (hm m h2)
 have e1:a=a':=by
  have:=congrArg (List.take a.length) e
  rw [List.append_assoc,List.append_assoc,List.take_left] at this
  rw [this,List.take_left' (by omega)]
 subst e1
 rw [List.append_assoc,List.append_assoc] at e
 have e2:=List.append_cancel_left e
 have e3:m=m':=by
  have:=congrArg (List.take m.length) e2
  rw [List.take_left] at this
  rw [this,List.take_left' (by omega)]
 subst e3
 have e4:=List.append_cancel_left e2
 subst e4
 exact h5
theorem Sim.give {β:Nat→Nat→Option (Nat×Nat)} {H:List Ob} {F:Nat→Prop} {w:World} (hs:Sim ⟨β,H,F⟩ w) {k id ver off n cp:Nat} {p:List (Nat×Nat)} {x:TV} {cs:List TV} (hid:H[id]?=some (.obj ver x)) (hcs:DV p k off n x=some cs) {us:List Value} (hr:Ag ⟨β,H,F⟩ w (.os k id ver p off n cp) us) :
  Ag ⟨β,H.set id (.gone ver),fun b=>F b∨∃ off,β id ver=some (b,off)⟩ w (.sl k cs) us:=by
 have hm:Hm (Ctx.bare ⟨β,H,F⟩) w (Ctx.bare ⟨β,H.set id (.gone ver),fun b=>F b∨∃ off,β id ver=some (b,off)⟩) w :=
  ⟨fun b hb=>⟨.inl hb,rfl⟩,fun _ _ k=>(Ctx.bare_has k).elim,fun _ _=>rfl⟩
 rw [Ag] at hr
 obtain ⟨hr1,hr2⟩:=hr
 rcases hr2 with ⟨rfl,a0,hr2,_⟩ | ⟨b0,o0,cap,t0,m0,hr2,hr3,hr4,hr5,hr6,hr7⟩
 ·have:cs=[]:=by
   unfold DV at hcs
   split at hcs
   ·split at hcs
    ·cases hcs; simp
    ·cases hcs
   ·cases hcs
  subst this
  rw [Ag]
  exact ⟨by simp,.inl ⟨rfl,a0,0,hr2,by omega⟩⟩
 rcases hs.ob id _ hid with ⟨h0,_⟩ | ⟨b,off',pre,vs,post,t,fr,h0,h1,h2,h3,h4⟩
 ·have h0':β id ver=none:=h0
  have hr2':β id ver=some (b0,o0):=hr2
  rw [h0'] at hr2'; cases hr2'
 have h0':β id ver=some (b,off'):=h0
 have hr2':β id ver=some (b0,o0):=hr2
 rw [h0'] at hr2'
 obtain ⟨rfl,rfl⟩:b=b0∧off'=o0:=by simpa using hr2'
 obtain ⟨a,m,q,rfl,k1,k2,k3,k4⟩:=J4 h4 hcs
 rw [Ag]
 refine ⟨k3,.inr ⟨b,off'+C9 p+off*k,cap,m,by rw [k4]; exact hr3,by omega,hr5,.inr ⟨off',h0'⟩,Ah.mono hm k2,?_⟩⟩
 have e:off'+C9 p+off*k=pre.length+a.length:=by rw [h3,k1]; omega
 rw [e]; exact Ir h1
theorem V6 {N:Nat} {D:List Deferred}:∀ {zs:List Nat} {K:Env→List Ob→Prop} {e:Env} {H:List Ob} {β:Nat→Nat→Option (Nat×Nat)} {F:Nat→Prop} {w:World} {a:Act},AjB zs K e H→Sim ⟨β,H,F⟩ w→Fr N D ⟨β,H,F⟩ w e a →
  ∃ e' H' F',K e' H'∧Sim ⟨β,H',F'⟩ w∧Fr N D ⟨β,H',F'⟩ w e' a∧Ar ⟨β,H,F⟩ w ⟨β,H',F'⟩ w
 | [],K,e,H,β,F,w,a,h,hs,hf=>⟨e,H,F,h,hs,hf,Ar.refl _ _⟩
 | s::zs,K,e,H,β,F,w,a,h,hs,hf=>by
  rw [AjB] at h
  split at h
  ·rename_i k id ver p off n cp hg
   split at h
   ·rename_i v y hid
    obtain ⟨rfl,h⟩:=h
    split at h
    ·rename_i cs hcs
     obtain ⟨k1,k2⟩:=hs.freeze hid rfl
     have hr:Rep ⟨β,H,F⟩ w (get e s) (a.tmps.getD s undef):=hf.env.1 s
     rw [hg] at hr
     have hr':Rep ⟨β,H.set id (.gone v),fun b=>F b∨∃ off,β id v=some (b,off)⟩ w (.sl k cs) (a.tmps.getD s undef):=by
      rcases hr with (hr | hr | ⟨us,hr,hr2⟩) | ⟨xs,vs,hr,_⟩
      ·cases hr
      ·cases hr
      ·exact .inl (.inr (.inr ⟨us,hs.give hid hcs hr,by rw [hr2]; rfl⟩))
      ·cases hr
     obtain ⟨e',H',F',q1,q2,q3,q4⟩:=V6 h k1 (a:=a) ⟨⟨fun s'=>by
      rw [Bz]
      by_cases hss:s=s'
      ·subst hss; rw [if_pos rfl]; exact hr'
      ·rw [if_neg hss]; exact Rep.mono (k2.mono hs) (hf.env.1 s'),k1.glob⟩,hf.size,hf.defers⟩
     exact ⟨e',H',F',q1,q2,q3,k2.trans q4⟩
    ·exact h.elim
   ·exact h.elim
  ·exact h.elim
theorem AbU {P:Program} {N:Nat} {all:List Oper}:∀ {os:List Oper} {l1 l2:List VO},trL false P N all os=some (l1++l2)→∃ o1 o2,os=o1++o2∧trL false P N all o1=some l1∧trL false P N all o2=some l2
 | os,[],l2,h=>⟨[],os,rfl,rfl,h⟩
 | [],v::l1,l2,h=>by simp [trL] at h
 | o::os,v::l1,l2,h=>by
  rw [trL] at h
  split at h
  ·rename_i v' g r hv hg hr
   split at h
   ·rename_i hd
    simp only [List.cons_append,Option.some.injEq,List.cons.injEq] at h
    obtain ⟨rfl,rfl⟩:=h
    obtain ⟨o1,o2,rfl,h1,h2⟩:=AbU hr
    refine ⟨o::o1,o2,rfl,?_,h2⟩
    rw [trL,hv,hg,h1]
    simp [hd]
   ·cases h
  ·cases h
theorem Yz {N:Nat} {D:List Deferred} {ro:Option Nat} {nn:Nat} {all:Array Oper} {os:List Oper} {l1 l2:List VO} {zs:List Nat} (ht:trL false P N all.toList os=some (l1++l2)) {K:Env→List Ob→Prop} {e:Env} {H:List Ob} {β:Nat→Nat→Option (Nat×Nat)} {F:Nat→Prop} {w:World} {a:Act} {QQ:Exit→Act→World→Prop}
  (h:TK P l1 (AjB zs (TK P l2 K)) e H) (hs:Sim ⟨β,H,F⟩ w) (hf:Fr N D ⟨β,H,F⟩ w e a)
  (hk:∀ e' H' β' F' w' a',K e' H'→Sim ⟨β',H',F'⟩ w'→Fr N D ⟨β',H',F'⟩ w' e' a'→Ar ⟨β,H,F⟩ w ⟨β',H',F'⟩ w'→QQ .normal a' w'):wpListIn (fz ro) nn P all QQ os a w:=by
 obtain ⟨o1,o2,rfl,h1,h2⟩:=AbU ht
 refine UF (L8.vop (KP:=fun _ _=>False)) h1 h hs hf (fun e' H' β' F' w' a' k1 k2 k3 k4 => ?_) (fun _ _ _ _ _ _ h=>h.elim)
 obtain ⟨e2,H2,F2,q1,q2,q3,q4⟩:=V6 k1 k2 k3
 exact VQ h2 q1 q2 q3 fun e3 H3 β3 F3 w3 a3 m1 m2 m3 m4=>hk e3 H3 β3 F3 w3 a3 m1 m2 m3 ((k4.trans q4).trans m4)
theorem Sim.own {β:Nat→Nat→Option (Nat×Nat)} {H:List Ob} {F:Nat→Prop} {w:World} (hs:Sim ⟨β,H,F⟩ w) (k:Nat) :
  Sim ⟨upd β H.length 0 none,H++[.obj 0 (.arr 0 k [])],F⟩ w∧Ar ⟨β,H,F⟩ w ⟨upd β H.length 0 none,H++[.obj 0 (.arr 0 k [])],F⟩ w ∧
   Ag ⟨upd β H.length 0 none,H++[.obj 0 (.arr 0 k [])],F⟩ w (.os k H.length 0 [] 0 0 0) [.slice none 0 0]:=by
 obtain ⟨k1,k2⟩:=hs.newNone (x := .arr 0 k []) (by rw [Ag]; exact ⟨rfl,by simp,by rw [Ah]⟩)
 exact ⟨k1,k2,by rw [Ag]; exact ⟨E9 _ _ _ _ _ (Nat.le_refl _),.inl ⟨rfl,none,rfl,rfl,fun _ h=>by cases h⟩⟩⟩
theorem Sim.ownBld {β:Nat→Nat→Option (Nat×Nat)} {H:List Ob} {F:Nat→Prop} {w:World} (hs:Sim ⟨β,H,F⟩ w) (t:TypeId) :
  Sim ⟨upd β H.length 0 none,H++[.bld 0 t []],F⟩ w∧Ar ⟨β,H,F⟩ w ⟨upd β H.length 0 none,H++[.bld 0 t []],F⟩ w ∧
   Ag ⟨upd β H.length 0 none,H++[.bld 0 t []],F⟩ w (.os 1 H.length 0 [] 0 0 0) [.slice none 0 0]:=by
 obtain ⟨k1,k2⟩:=hs.new (.bld 0 t []) rfl none (w':=w) (fun b off e=>by cases e) rfl rfl rfl (Nat.le_refl _) (fun b hb=>rfl) fun hm => .inl ⟨AA,rfl⟩
 exact ⟨k1,k2,by rw [Ag]; exact ⟨E9 _ _ _ _ _ (Nat.le_refl _),.inl ⟨rfl,none,rfl,rfl,fun _ h=>by cases h⟩⟩⟩
def Ctx.cut (c:Ctx) (g:Nat):Ctx:=⟨c.β,c.H.take g,c.F⟩
theorem Ctx.cut_has {c:Ctx} {g id ver:Nat} (h:c.has id ver) (hg:id<g):(c.cut g).has id ver:=by
 obtain ⟨o,h1,h2⟩:=h
 exact ⟨o,by show (c.H.take g)[id]?=some o; rw [List.getElem?_take,if_pos hg]; exact h1,h2⟩
theorem Ctx.cut_get {c:Ctx} {g id:Nat} {o:Ob} (h:(c.cut g).H[id]?=some o):id<g∧c.H[id]?=some o:=by
 have h':(c.H.take g)[id]?=some o:=h
 rw [List.getElem?_take] at h'
 split at h'
 ·exact ⟨‹_›,h'⟩
 ·cases h'
mutual
theorem Ag.cut {c:Ctx} {w:World} {g:Nat}:∀ {x:TV} {us:List Value},FX g x=true→Ag c w x us→Ag (c.cut g) w x us
 | .val y,us,hf,hr=>by rw [Ag] at hr ⊢; exact hr
 | .any,us,hf,hr=>by rw [Ag] at hr ⊢; exact hr
 | .sl k cs,us,hf,hr=>by rw [Ag] at hr ⊢; exact hr
 | .fp x,us,hf,hr=>by rw [Ag] at hr ⊢; exact hr
 | .arr n k cs,us,hf,hr=>by rw [Ag] at hr ⊢; exact hr
 | .op id ver p,us,hf,hr=>by
  rw [FX,decide_eq_true_eq] at hf; rw [Ag] at hr ⊢; exact ⟨Ctx.cut_has hr.1 hf,hr.2⟩
 | .os k id ver p off n cp,us,hf,hr=>by
  rw [FX,decide_eq_true_eq] at hf; rw [Ag] at hr ⊢; exact ⟨Ctx.cut_has hr.1 hf,hr.2⟩
 | .mp id ver,us,hf,hr=>by
  rw [FX,decide_eq_true_eq] at hf; rw [Ag] at hr ⊢; exact ⟨Ctx.cut_has hr.1 hf,hr.2⟩
 | .yl id ver,us,hf,hr=>by
  rw [FX,decide_eq_true_eq] at hf; rw [Ag] at hr ⊢; exact ⟨Ctx.cut_has hr.1 hf,hr.2⟩
 | .agg cs,us,hf,hr=>by rw [FX] at hf; rw [Ag] at hr ⊢; exact Ah.cut hf hr
 | .tup cs,us,hf,hr=>by rw [Ag] at hr; exact hr.elim
 | .ifc t x,us,hf,hr=>by
  rw [FX] at hf; rw [Ag] at hr ⊢
  obtain ⟨u,h1,vs,h2,h3⟩:=hr
  exact ⟨u,h1,vs,Ag.cut hf h2,h3⟩
 | .fn f a b,us,hf,hr=>by
  rw [FX,Bool.and_eq_true] at hf; rw [Ag] at hr ⊢
  obtain ⟨aS,bs,h1,h2,h3⟩:=hr
  exact ⟨aS,bs,h1,AY.cut hf.1 h2,AY.cut hf.2 h3⟩
theorem Ah.cut {c:Ctx} {w:World} {g:Nat}:∀ {xs:List TV} {us:List Value},Ls g xs=true→Ah c w xs us→Ah (c.cut g) w xs us
 | [],us,hf,hr=>by rw [Ah] at hr ⊢; exact hr
 | x::xs,us,hf,hr=>by
  rw [Ls,Bool.and_eq_true] at hf; rw [Ah] at hr ⊢
  obtain ⟨a,b,h1,h2,h3⟩:=hr
  exact ⟨a,b,h1,Ag.cut hf.1 h2,Ah.cut hf.2 h3⟩
theorem AY.cut {c:Ctx} {w:World} {g:Nat}:∀ {xs:List TV} {us:List Value},Ls g xs=true→AY c w xs us→AY (c.cut g) w xs us
 | [],us,hf,hr=>by rw [AY] at hr ⊢; exact hr
 | x::xs,us,hf,hr=>by
  rw [Ls,Bool.and_eq_true] at hf; rw [AY] at hr ⊢
  obtain ⟨u,us,h1,h2,h3⟩:=hr
  refine ⟨u,us,h1,?_,AY.cut hf.2 h3⟩
  rcases h2 with h2 | h2 | ⟨aS,h2,h4⟩
  ·exact .inl h2
  ·exact .inr (.inl h2)
  ·exact .inr (.inr ⟨aS,Ag.cut hf.1 h2,h4⟩)
end
theorem Rep.cut {c:Ctx} {w:World} {g:Nat} {x:TV} {v:Value} (hf:FX g x=true) (hr:Rep c w x v):Rep (c.cut g) w x v:=by
 rcases hr with (h | h | ⟨us,h,h'⟩) | ⟨xs,vs,rfl,h2,h3⟩
 ·exact .inl (.inl h)
 ·exact .inl (.inr (.inl h))
 ·exact .inl (.inr (.inr ⟨us,Ag.cut hf h,h'⟩))
 ·rw [FX] at hf; exact .inr ⟨xs,vs,rfl,h2,AY.cut hf h3⟩
theorem Tn {g:Nat}:∀ {e:Env},Qo g e=true→∀ s,FX g (get e s)=true
 | [],_,s=>rfl
 | (k,x)::e,h,s=>by
  rw [Qo,Bool.and_eq_true] at h
  rw [Bz]
  split
  ·exact h.1
  ·exact Tn h.2 s
theorem VS {g:Nat}:∀ {H:List Ob},Rx g H=true→∀ (i:Nat) (o:Ob),H[i]?=some o→ZM g o=true
 | [],_,i,o,h=>by simp at h
 | o::H,h,i,o',hi=>by
  rw [Rx,Bool.and_eq_true] at h
  cases i with
  | zero=>simp at hi; subst hi; exact h.1
  | succ i=>exact VS h.2 i o' (by simpa using hi)
theorem AL.cut {c:Ctx} {w:World} {g:Nat} {kk:MK}:∀ {es:List (List UInt8×TV)} {ms:List MapEntry},Ls g (es.map (·.2))=true→AL c w kk es ms→AL (c.cut g) w kk es ms
 | [],ms,_,h=>h
 | (k,x)::es,ms,hb,h=>by
  rw [List.map_cons,Ls,Bool.and_eq_true] at hb
  obtain ⟨m,r,rfl,h1,h2,h3⟩:=h
  exact ⟨m,r,rfl,h1,⟨Ag.cut hb.1 h2.1,h2.2⟩,AL.cut hb.2 h3⟩
theorem Sim.cut {c:Ctx} {w:World} {g:Nat} (hs:Sim c w) (hg:Rx g (c.H.take g)=true):Sim (c.cut g) w:=by
 have hown:∀ b,(c.cut g).own b→c.own b:=by
  rintro b ⟨i,o,off,h1,h2,h3⟩
  exact ⟨i,o,off,(Ctx.cut_get h1).2,h2,h3⟩
 refine ⟨fun id o ho => ?_,fun i j x y b o o' hx hy hlx hly e e'=>hs.inj i j x y b o o' (Ctx.cut_get hx).2 (Ctx.cut_get hy).2 hlx hly e e',fun b hb=>hs.apart b (hown b hb),hs.lt,hs.glob⟩
 have h1:=hs.ob id o (Ctx.cut_get ho).2
 have hb:=VS hg id o ho
 cases o with
 | gone v=>trivial
 | ice v m x =>
  obtain ⟨b,off,pre,vs,post,t,fr,h0,h1,h2,h3,h4⟩:=h1
  exact ⟨b,off,pre,vs,post,t,fr,h0,h1,h2,h3,Ag.cut hb h4⟩
 | bld v t l=>exact h1
 | fact i v t m =>
  obtain ⟨h0,h2⟩:=h1
  exact ⟨Ctx.cut_has h0 (by simpa [ZM] using hb),h2⟩
 | lp st pend fn N en ps ca cb =>
  obtain ⟨b,tmps,D,h0,h1,h2,h3⟩:=h1
  exact ⟨b,tmps,D,h0,h1,h2,fun s=>Rep.cut (Tn hb s) (h3 s)⟩
 | mpo kk es =>
  obtain ⟨b,ms,cl,h0,h1,h2,h3⟩:=h1
  exact ⟨b,ms,cl,h0,h1,AL.cut hb h2,h3⟩
 | sit s pos=>exact h1
 | mpd kk zs cl =>
  obtain ⟨b,ms,h0,h1,h2,h3⟩:=h1
  exact ⟨b,ms,h0,h1,AL.cut (by rw [List.map_map]; exact hb) h2,h3⟩
 | mit m sn cl =>
  obtain ⟨r,b,h0,⟨g0,g1⟩,h1⟩:=h1
  exact ⟨r,b,h0,⟨Ctx.cut_has g0 (by simpa [ZM] using hb),g1⟩,h1⟩
 | obj v x =>
  rcases h1 with ⟨h0,h4⟩ | ⟨b,off,pre,vs,post,t,fr,h0,h1,h2,h3,h4⟩
  ·exact .inl ⟨h0,Ag.cut hb h4⟩
  ·exact .inr ⟨b,off,pre,vs,post,t,fr,h0,h1,h2,h3,Ag.cut hb h4⟩
theorem Ar.cut {c0 c:Ctx} {w0 w:World} {g:Nat} (hl:Ar c0 w0 c w) (hg:c0.H.length≤g):Ar c0 w0 (c.cut g) w :=
 ⟨hl.os,hl.tape,hl.output,hl.size,fun id ver h=>by
  obtain ⟨h1,h2⟩:=hl.has id ver h
  exact ⟨Ctx.cut_has h1 (Nat.lt_of_lt_of_le (Ctx.has_lt h) hg),h2⟩,hl.shape,hl.same,hl.keepF,hl.oldF,fun b hb ⟨i,o,off,h1,h2,h3⟩=>hl.oldOwn b hb ⟨i,o,off,(Ctx.cut_get h1).2,h2,h3⟩⟩
def JV (D0:List Deferred) (B:Nat) (c:Ctx) (w:World) (D:List Deferred):Prop:=∃ ds:List Nat,D=ds.map (fun r=>{ target := .collected r,args := #[] })++D0∧ds.Nodup∧∀ r∈ds,B≤r∧r<w.heap.size∧¬ c.own r∧¬ c.F r∧w.heap[r]?=some (.deferred (some []))
theorem JV.nil {D0:List Deferred} {B:Nat} {c:Ctx} {w:World}:JV D0 B c w D0:=⟨[],rfl,List.nodup_nil,fun r h=>by cases h⟩
theorem JV.later {D0:List Deferred} {B:Nat} {c c':Ctx} {w w':World} {D:List Deferred} (h:JV D0 B c w D) (hl:Ar c w c' w'):JV D0 B c' w' D:=by
 obtain ⟨ds,h1,h2,h3⟩:=h
 refine ⟨ds,h1,h2,fun r hr => ?_⟩
 obtain ⟨k1,k2,k3,k4,k5⟩:=h3 r hr
 exact ⟨k1,Nat.lt_of_lt_of_le k2 hl.size,fun h=>k3 (hl.oldOwn r k2 h),fun h=>(hl.oldF r k2 h).elim k4 k3,(hl.same r k2 k3).trans k5⟩
theorem JV.cut {D0:List Deferred} {B g:Nat} {c:Ctx} {w:World} {D:List Deferred} (h:JV D0 B c w D):JV D0 B (c.cut g) w D:=by
 obtain ⟨ds,h1,h2,h3⟩:=h
 refine ⟨ds,h1,h2,fun r hr => ?_⟩
 obtain ⟨k1,k2,k3,k4,k5⟩:=h3 r hr
 exact ⟨k1,k2,fun ⟨i,o,off,h1,h2,h3⟩=>k3 ⟨i,o,off,(Ctx.cut_get h1).2,h2,h3⟩,k4,k5⟩
theorem O6 (w:World) (r:Nat) (o:Obj):(w.putObj r o).os=w.os∧(w.putObj r o).tape=w.tape∧(w.putObj r o).output=w.output∧(w.putObj r o).heap.size=w.heap.size:=⟨rfl,rfl,rfl,by simp [World.putObj]⟩
theorem VT {w:World} {b:Nat} {r:Loop} (h:w.heap[b]?=some (.loop r)):w.shape? b=none:=by simp [World.shape?,h]
theorem Sim.loopTurn {β:Nat→Nat→Option (Nat×Nat)} {H:List Ob} {F:Nat→Prop} {w:World} (hs:Sim ⟨β,H,F⟩ w) {id N:Nat} {fn:FuncId} {e:Env} {ps:List Nat} {ca cb:Code} {st st':LoopState} {pe pe':Option Code}
  (ho:H[id]?=some (.lp st pe fn N e ps ca cb)):∃ (b:Nat) (r:Loop),β id 0=some (b,0)∧w.heap[b]?=some (.loop r)∧r.state=st∧r.pending=pe∧r.fn=fn∧r.tmps.size=N∧r.params=ps.toArray∧r.assign=ca∧r.body=cb∧(∀ s,Rep ⟨β,H,F⟩ w (get e s) (r.tmps.getD s undef)) ∧
   Sim ⟨β,H.set id (.lp st' pe' fn N e ps ca cb),F⟩ (w.putObj b (.loop { r with state:=st',pending:=pe' })) ∧
   Ar ⟨β,H,F⟩ w ⟨β,H.set id (.lp st' pe' fn N e ps ca cb),F⟩ (w.putObj b (.loop { r with state:=st',pending:=pe' })):=by
 obtain ⟨b,tmps,D,h1,h2,h3,h4⟩:=hs.ob id _ ho
 have hlt:b<w.heap.size:=(Array.getElem?_eq_some_iff.1 h2).1
 have hid:id<H.length:=(List.getElem?_eq_some_iff.1 ho).1
 have hput:=World.putObj_heap_same (w:=w) (o := .loop { state:=st',pending:=pe',fn:=fn,tmps:=tmps,params:=ps.toArray,assign:=ca,body:=cb,defers:=D }) hlt
 obtain ⟨k1,k2⟩:=hs.turn (β':=β) (w':=w.putObj b (.loop { state:=st',pending:=pe',fn:=fn,tmps:=tmps,params:=ps.toArray,assign:=ca,body:=cb,defers:=D })) ho (o' := .lp st' pe' fn N e ps ca cb) rfl rfl (Nat.le_refl _) (fun _ _ _=>rfl) (fun b' off hb => .inl ⟨off,hb⟩) rfl rfl rfl
  (by rw [(O6 _ _ _).2.2.2]; exact Nat.le_refl _) (fun b' hb'=>by
   by_cases hbb:b'=b
   ·subst hbb; rw [VT h2,VT hput]
   ·exact Bh (World.putObj_heap_other hbb)) (fun b' hb' hne=>World.putObj_heap_other (fun e=>hne 0 (by subst e; exact h1)))
  (fun hm=>⟨b,tmps,D,h1,hput,h3,fun s=>Rep.mono hm (h4 s)⟩)
 exact ⟨b,{ state:=st,pending:=pe,fn:=fn,tmps:=tmps,params:=ps.toArray,assign:=ca,body:=cb,defers:=D },h1,h2,rfl,rfl,rfl,h3,rfl,rfl,rfl,h4,k1,k2⟩
theorem UM {N nn:Nat} {f0:Operand} {ps0:Array Tmp} {ca cb:Code} {Q:VEx→Env→List Ob→Prop} {e:Env} {H:List Ob} {β:Nat→Nat→Option (Nat×Nat)} {F:Nat→Prop} {w:World} {a:Act} {QQ:Exit→Act→World→Prop} {B:Nat} {D D0:List Deferred}
  (hs:Sim ⟨β,H,F⟩ w) (hf:Fr N D ⟨β,H,F⟩ w e a) (hm:JV D0 B ⟨β,H,F⟩ w D) (hB:B≤w.heap.size) {g:FuncId} {us vs:List Value} {first caps:List TV} (hv:a.eval f0 = .func (.func g) us.toArray vs.toArray) (hgo:SK P g=true) (hfi:AY ⟨β,H,F⟩ w first us) (hc:AY ⟨β,H,F⟩ w caps vs)
  (h:∀ fn,Au P g (first++[.yl H.length 0]++caps) (H++[.lp .ready none fn N e ps0.toList ca cb]) (VG Q e H.length))
  (hk:∀ x e' H' β' F' w' a' D',Q x e' H'→Sim ⟨β',H',F'⟩ w'→Fr N D' ⟨β',H',F'⟩ w' e' a'→JV D0 B ⟨β',H',F'⟩ w' D'→Ar ⟨β,H,F⟩ w ⟨β',H',F'⟩ w'→QQ x.ex a' w'):(Code.rangeFunc f0 ps0 ca cb).wpIn (fz none) nn P QQ a w:=by
 refine wpIn_rangeFunc ?_
 intro fn hfn
 obtain ⟨rec,hrec⟩:∃ rec:Loop,rec={ state := .ready,pending:=none,fn:=fn,tmps:=a.tmps,params:=ps0,assign:=ca,body:=cb,defers:=w.heap.size }:=⟨_,rfl⟩
 obtain ⟨W1,hW1⟩:∃ W1,(w.alloc (.deferred (some []))).alloc (.loop rec)=W1:=⟨_,rfl⟩
 have hL1:W1.heap[w.heap.size+1]?=some (.loop rec):=by
  rw [←hW1]; have:=World.alloc_heap_new (w.alloc (.deferred (some []))) (.loop rec); rwa [World.size_alloc] at this
 have hK1:W1.heap[w.heap.size]?=some (.deferred (some [])):=by
  rw [←hW1]; exact (Below.heap_alloc _ _ _ (by simp)).trans (World.alloc_heap_new w _)
 have hsz:W1.heap.size=w.heap.size+2:=by rw [←hW1]; simp
 have hold:∀ b,b<w.heap.size→W1.heap[b]?=w.heap[b]?:=fun b hb=>by
  rw [←hW1]; exact (Below.heap_alloc _ _ _ (by simp; omega)).trans (Below.heap_alloc _ _ _ hb)
 obtain ⟨k1,k2⟩:=hs.new (w':=W1) (.lp .ready none fn N e ps0.toList ca cb) rfl (some (w.heap.size+1,0)) (fun b off h=>by simp at h; omega) (by rw [←hW1]; rfl) (by rw [←hW1]; rfl) (by rw [←hW1]; rfl) (by omega) hold
  (fun hmo=>⟨w.heap.size+1,a.tmps,w.heap.size,AA,by rw [hL1,hrec],hf.size,fun s=>Rep.mono hmo (hf.env.1 s)⟩)
 have hmo:=k2.mono hs
 have hown1:∀ b,Ctx.own ⟨upd β H.length 0 (some (w.heap.size+1,0)),H++[.lp .ready none fn N e ps0.toList ca cb],F⟩ b→b≠w.heap.size:=by
  rintro b ⟨i,o,off,h1,h2,h3⟩ rfl
  by_cases hi:i<H.length
  ·rw [List.getElem?_append_left hi] at h1
   have h3':β i o.ver=some (w.heap.size,off):=by
    have h3:upd β H.length 0 (some (w.heap.size+1,0)) i o.ver=some (w.heap.size,off):=h3
    rw [Pm (fun h=>by omega)] at h3; exact h3
   have:=hs.own_lt ⟨i,o,off,h1,h2,h3'⟩
   omega
  ·have hil:i=H.length:=by
    have:=(List.getElem?_eq_some_iff.1 h1).1
    simp at this; omega
   subst hil
   simp at h1
   subst h1
   have h3:upd β H.length 0 (some (w.heap.size+1,0)) H.length 0=some (w.heap.size,off):=h3
   rw [AA] at h3
   simp at h3
 refine ⟨w.heap.size+1,[{ target := .collected w.heap.size,args := #[] }],W1,{ target := .fn (.func g) vs.toArray,args:=us.toArray ++ #[.func (.yield (w.heap.size+1)) #[] #[]] },W1,g,us.toArray ++ #[.func (.yield (w.heap.size+1)) #[] #[]]++vs.toArray,W1,?_,?_,?_,?_,?_,?_⟩
 ·rw [←hW1,hrec]; exact run_enterLoop_outer _ _ _ _ _
 ·simp only [resolve,hv]
  simp [go_sem]
 ·intro f' hf'; trivial
 ·simp only [invoke,Fa hgo]
 ·intro h; simp [fz,Fence.wide] at h
 ·refine (callsIn_wide (n:=nn - 1)).2 ?_
  have hargs:AY ⟨upd β H.length 0 (some (w.heap.size+1,0)),H++[.lp .ready none fn N e ps0.toList ca cb],F⟩ W1 (first++[.yl H.length 0]++caps) (us++[.func (.yield (w.heap.size+1)) #[] #[]]++vs):=by
   refine AY.append (AY.append (AY.mono hmo hfi) (AY.cons.2 ⟨_,[],rfl,.inr (.inr ⟨[.func (.yield (w.heap.size+1)) #[] #[]],?_,rfl⟩),by rw [AY]⟩)) (AY.mono hmo hc)
   rw [Ag]
   exact ⟨E9 _ _ _ _ _ (Nat.le_refl _),_,_,AA,rfl⟩
  have hcall:=h fn _ _ W1 _ k1 hargs
  rw [show (us++[Value.func (.yield (w.heap.size+1)) #[] #[]]++vs).toArray=us.toArray ++ #[.func (.yield (w.heap.size+1)) #[] #[]]++vs.toArray from by simp] at hcall
  refine hcall.mono ?_
  rintro _ w3 ⟨v,x,β',H',F',rfl,hR,hs',hl',hx⟩
  have hmk:JV D0 B ⟨β',H',F'⟩ w3 ({ target := .collected w.heap.size,args := #[] }::D):=by
   have h1:JV D0 B ⟨upd β H.length 0 (some (w.heap.size+1,0)),H++[.lp .ready none fn N e ps0.toList ca cb],F⟩ W1 ({ target := .collected w.heap.size,args := #[] }::D):=by
    obtain ⟨ds,d1,d2,d3⟩:=hm.later k2
    refine ⟨w.heap.size::ds,by rw [d1]; rfl,List.nodup_cons.2 ⟨fun hin => ?_,d2⟩,fun r hr => ?_⟩
    ·obtain ⟨ds',e1,e2,e3⟩:=hm
     have:ds'=ds:=by
      have:ds'.map (fun r=>({ target := .collected r,args := #[] }:Deferred))=ds.map (fun r=>{ target := .collected r,args := #[] }):=List.append_cancel_right (e1.symm.trans d1)
      exact (List.map_inj_right (fun a b h=>by simpa using h)).1 this
     rw [←this] at hin
     have:=(e3 _ hin).2.1
     omega
    ·rcases List.mem_cons.1 hr with rfl | hr
     ·exact ⟨hB,by omega,fun ho=>hown1 _ ho rfl,fun hF=>absurd (hs.lt _ hF) (by omega),hK1⟩
     ·exact d3 r hr
   exact h1.later hl'
  have fin:∀ (st:LoopState) (pe:Option Code) (fn':FuncId) (N':Nat) (e1:Env) (ps1:List Nat) (c1 c2:Code),st ≠ .busy→H'[H.length]?=some (.lp st pe fn' N' e1 ps1 c1 c2) →
    ∃ w4,(Instr.endLoop (w.heap.size+1)).run P w3 = .ok pe w4∧Sim ⟨β',H'.set H.length (.lp .exhausted pe fn' N' e1 ps1 c1 c2),F'⟩ w4∧Ar ⟨β',H',F'⟩ w3 ⟨β',H'.set H.length (.lp .exhausted pe fn' N' e1 ps1 c1 c2),F'⟩ w4:=by
   intro st pe fn' N' e1 ps1 c1 c2 hst hob
   obtain ⟨b,r,r1,r2,r3,r4,_,_,_,_,_,_,r5,r6⟩:=hs'.loopTurn (st' := .exhausted) (pe':=pe) hob
   have hβ:β' H.length 0=some (w.heap.size+1,0):=((hl'.has H.length 0 (E9 _ _ _ _ _ (Nat.le_refl _))).2).trans AA
   rw [hβ] at r1
   obtain ⟨rfl,_⟩:w.heap.size+1=b∧True:=by simpa using r1
   subst r4
   exact ⟨_,run_endLoop (P:=P) r2 (by rw [r3]; exact hst),r5,r6⟩
  have hfr:∀ {c:Ctx} {w4:World},Ar ⟨β,H,F⟩ w c w4→MB c.F w4→Fr N ({ target := .collected w.heap.size,args := #[] }::D) c w4 e { a with defers:={ target := .collected w.heap.size,args := #[] }::a.defers }:=fun {c w4} hl hgl =>
   ⟨⟨fun s=>Rep.mono (hl.mono hs) (hf.env.1 s),hgl⟩,hf.size,by rw [hf.defers]⟩
  unfold VG at hR
  simp only [rangePost]
  split at hR
  ·rename_i hob
   obtain ⟨w4,e1,e2,e3⟩:=fin .ready none _ _ _ _ _ _ (by simp) hob
   exact ⟨none,w4,e1,hk .nor _ _ _ _ _ _ _ hR e2 (hfr ((k2.trans hl').trans e3) e2.glob) (hmk.later e3) ((k2.trans hl').trans e3)⟩
  ·rename_i hob
   obtain ⟨w4,e1,e2,e3⟩:=fin .done (some .ret) _ _ _ _ _ _ (by simp) hob
   exact ⟨some .ret,w4,e1,wpIn_ret (hk .ret _ _ _ _ _ _ _ hR e2 (hfr ((k2.trans hl').trans e3) e2.glob) (hmk.later e3) ((k2.trans hl').trans e3))⟩
  ·rename_i i _ _ _ _ _ _ hob
   obtain ⟨w4,e1,e2,e3⟩:=fin .done (some (.exit _)) _ _ _ _ _ _ (by simp) hob
   exact ⟨some (.exit _),w4,e1,wpIn_exit (hk (.exit _) _ _ _ _ _ _ _ hR e2 (hfr ((k2.trans hl').trans e3) e2.glob) (hmk.later e3) ((k2.trans hl').trans e3))⟩
  ·exact hR.elim
theorem FH {b:Frame} {a:Act} {k:List Item} {cs:List Frame} {w:World} {c:Code}:step P (lone (b.atR a (.code (.scope c)::k)) cs w) = .next (lone (b.atR a (.code c :: .inScope c::k)) cs w) :=
 step_lone_go (by simp [stepG,stepG.exec,Frame.atR])
theorem Va {b:Frame} {a:Act} {k:List Item} {cs:List Frame} {w:World} {c:Code}:step P (lone (b.atR a (.inScope c::k)) cs w) = .next (lone (b.atR a k) cs w) :=
 step_lone_go (by simp [stepG,stepG.exec,Frame.atR])
theorem Yx {F:Fence} {n:Nat} {Q:Exit→Act→World→Prop} {a:Act} {w:World} {c:Code} (h:c.wpIn F n P (Exit.noGoto Q) a w):(Code.scope c).wpIn F n P Q a w:=by
 intro b k cs hro hb hr
 have h0:(lone (b.atR a (.code (.scope c)::k)) cs w).fenced P F:=fenced_calm hb hr rfl
 obtain ⟨e,a₁,w₁,hq,harr⟩:=h b (.inScope c::k) cs hro hb hr
 cases e with
 | normal=>exact ⟨.normal,a₁,w₁,hq,.head h0 FH (StepsIn.trans harr (.one (fenced_calm hb hr rfl) Va))⟩
 | exit id' =>
  have hx:exitTo id' (.inScope c::k)=exitTo id' k:=by simp [exitTo]
  exact ⟨.exit id',a₁,w₁,hq,fun k' hk => .head h0 FH (harr.1 k' (by rw [hx]; exact hk)),fun hr' hk=>let ⟨k₁,h1,h2⟩:=harr.2 hr' (by rw [hx]; exact hk); ⟨k₁,h1,.head h0 FH h2⟩⟩
 | goto l=>exact hq.elim
 | ret=>exact ⟨_,a₁,w₁,hq,.of_steps (.one h0 FH) harr⟩
 | panic ch=>exact ⟨_,a₁,w₁,hq,.of_steps (.one h0 FH) harr⟩
 | outgrown=>exact ⟨_,a₁,w₁,hq,.of_steps (.one h0 FH) harr⟩
theorem Rh {N:Nat} {ro:Option Nat} {nn:Nat}:∀ (vc:Ad) {code:Code},(ro=none∨SN vc=true)→trC P N code=some (er vc)→∀ {Q:VEx→Env→List Ob→Prop} {e:Env} {H:List Ob} {β:Nat→Nat→Option (Nat×Nat)} {F:Nat→Prop} {w:World} {a:Act} {QQ:Exit→Act→World→Prop} {B:Nat} {D D0:List Deferred},vwp P vc Q e H→Sim ⟨β,H,F⟩ w→Fr N D ⟨β,H,F⟩ w e a→JV D0 B ⟨β,H,F⟩ w D→B≤w.heap.size →
  (∀ x e' H' β' F' w' a' D',Q x e' H'→Sim ⟨β',H',F'⟩ w'→Fr N D' ⟨β',H',F'⟩ w' e' a'→JV D0 B ⟨β',H',F'⟩ w' D'→Ar ⟨β,H,F⟩ w ⟨β',H',F'⟩ w'→QQ x.ex a' w')→code.wpIn (fz ro) nn P QQ a w:=by
 intro vc
 have inv:∀ {code:Code} {v:Ad},trC P N code=some v→True:=fun _=>trivial
 induction vc with
 | ops l kp =>
  intro code hrf ht Q e H β F w a QQ B D D0 h hs hf hm hB hk
  rw [er] at ht
  cases code with
  | region id ops d =>
   cases d with
   | true=>exact (EU ht (by simp) (by simp) (by simp)).elim
   | false =>
    obtain ⟨l',hl,e9⟩:=(Aft ht).resolve_right (by simp)
    simp only [Ad.ops.injEq,and_true] at e9
    subst e9
    rw [vwp] at h
    exact wpIn_region_list (VQ hl h hs hf fun e' H' β' F' w' a' k1 k2 k3 k4=>hk .nor _ _ _ _ _ _ _ k1 k2 (k3.forget kp) (hm.later k4) k4)
  | seq x y=>simp only [trC] at ht; split at ht<;>simp at ht
  | cond c x y=>simp only [trC] at ht; split at ht<;>simp at ht
  | rangeFunc f ps x y=>simp only [trC] at ht; split at ht<;>(try split at ht)<;>simp at ht
  | _=>simp [trC] at ht
 | opsZ l zs r kp =>
  intro code hrf ht Q e H β F w a QQ B D D0 h hs hf hm hB hk
  rw [er] at ht
  cases code with
  | region id ops d =>
   cases d with
   | true=>exact (EU ht (by simp) (by simp) (by simp)).elim
   | false =>
    obtain ⟨l',hl,e9⟩:=(Aft ht).resolve_right (by simp)
    simp only [Ad.ops.injEq,and_true] at e9
    subst e9
    rw [vwp] at h
    exact wpIn_region_list (Yz hl h hs hf fun e' H' β' F' w' a' k1 k2 k3 k4=>hk .nor _ _ _ _ _ _ _ k1 k2 (k3.forget kp) (hm.later k4) k4)
  | seq x y=>simp only [trC] at ht; split at ht<;>simp at ht
  | cond c x y=>simp only [trC] at ht; split at ht<;>simp at ht
  | rangeFunc f ps x y=>simp only [trC] at ht; split at ht<;>(try split at ht)<;>simp at ht
  | _=>simp [trC] at ht
 | pops l kp =>
  intro code hrf ht Q e H β F w a QQ B D D0 h hs hf hm hB hk
  rw [er] at ht
  cases code with
  | region id ops d =>
   cases d with
   | true=>exact (EU ht (by simp) (by simp) (by simp)).elim
   | false =>
    obtain ⟨l',hl,e9⟩:=(Aft ht).resolve_right (by simp)
    simp only [Ad.ops.injEq,and_true] at e9
    subst e9
    rw [vwp] at h
    exact wpIn_region_list (Y4 hl h hs hf (fun e' H' β' F' w' a' k1 k2 k3 k4=>hk .nor _ _ _ _ _ _ _ k1 k2 (k3.forget kp) (hm.later k4) k4) fun u H' β' F' w' a' k1 k2 k3 k4=>hk (.pan u) _ _ _ _ _ _ _ k1 k2 k3 (hm.later k4) k4)
  | seq x y=>simp only [trC] at ht; split at ht<;>simp at ht
  | cond c x y=>simp only [trC] at ht; split at ht<;>simp at ht
  | rangeFunc f ps x y=>simp only [trC] at ht; split at ht<;>(try split at ht)<;>simp at ht
  | _=>simp [trC] at ht
 | draw n l kp =>
  intro code hrf ht Q e H β F w a QQ B D D0 h hs hf hm hB hk
  rw [er] at ht
  cases code with
  | region id ops d =>
   cases d with
   | false=>exact (EW ht (by simp) (by simp)).elim
   | true =>
    obtain ⟨bz,hsp⟩:=NJ ((Ae6 ht).resolve_right (by simp))
    obtain ⟨n',l',e9,hmo,hh⟩:=hsp.resolve_right (by simp)
    simp only [Ad.draw.injEq,and_true] at e9
    obtain ⟨rfl,rfl⟩:=e9
    rw [vwp] at h
    rcases hh with ⟨hl,hck⟩ | ⟨π,hp,hl,hck⟩
    ·exact VH WOk.vop hmo hl hck h hs hf ⟨fun e' H' β' F' w' a' k1 k2 k3 k4=>hk .nor _ _ _ _ _ _ _ k1 k2 (k3.forget kp) (hm.later k4) k4,fun _ _ _ _ _ _ (h:False)=>h.elim⟩
    ·exact QZ WOk.vop hmo hp hl hck h hs hf ⟨fun e' H' β' F' w' a' k1 k2 k3 k4=>hk .nor _ _ _ _ _ _ _ k1 k2 (k3.forget kp) (hm.later k4) k4,fun _ _ _ _ _ _ (h:False)=>h.elim⟩
  | seq x y=>simp only [trC] at ht; split at ht<;>simp at ht
  | cond c x y=>simp only [trC] at ht; split at ht<;>simp at ht
  | rangeFunc f ps x y=>simp only [trC] at ht; split at ht<;>(try split at ht)<;>simp at ht
  | _=>simp [trC] at ht
 | pdraw n l kp =>
  intro code hrf ht Q e H β F w a QQ B D D0 h hs hf hm hB hk
  rw [er] at ht
  cases code with
  | region id ops d =>
   cases d with
   | false=>exact (EW ht (by simp) (by simp)).elim
   | true =>
    obtain ⟨bz,hsp⟩:=NJ ((Ae6 ht).resolve_right (by simp))
    obtain ⟨n',l',e9,hmo,hh⟩:=hsp.resolve_right (by simp)
    simp only [Ad.draw.injEq,and_true] at e9
    obtain ⟨rfl,rfl⟩:=e9
    rw [vwp] at h
    rcases hh with ⟨hl,hck⟩ | ⟨π,hp,hl,hck⟩
    ·exact VH WOk.pvop hmo hl hck h hs hf ⟨fun e' H' β' F' w' a' k1 k2 k3 k4=>hk .nor _ _ _ _ _ _ _ k1 k2 (k3.forget kp) (hm.later k4) k4,fun u H' β' F' w' a' k1 k2 k3 k4=>hk (.pan u) _ _ _ _ _ _ _ k1 k2 k3 (hm.later k4) k4⟩
    ·exact QZ WOk.pvop hmo hp hl hck h hs hf ⟨fun e' H' β' F' w' a' k1 k2 k3 k4=>hk .nor _ _ _ _ _ _ _ k1 k2 (k3.forget kp) (hm.later k4) k4,fun u H' β' F' w' a' k1 k2 k3 k4=>hk (.pan u) _ _ _ _ _ _ _ k1 k2 k3 (hm.later k4) k4⟩
  | seq x y=>simp only [trC] at ht; split at ht<;>simp at ht
  | cond c x y=>simp only [trC] at ht; split at ht<;>simp at ht
  | rangeFunc f ps x y=>simp only [trC] at ht; split at ht<;>(try split at ht)<;>simp at ht
  | _=>simp [trC] at ht
 | sdraw n l kp =>
  intro code hrf ht Q e H β F w a QQ B D D0 h hs hf hm hB hk
  rw [er] at ht
  cases code with
  | region id ops d =>
   cases d with
   | false=>exact (EW ht (by simp) (by simp)).elim
   | true =>
    obtain ⟨bz,hsp⟩:=NJ ((Ae6 ht).resolve_right (by simp))
    obtain ⟨n',l',e9,hmo,π,hp,hl,hck⟩:=hsp.resolve_left (by simp)
    simp only [Ad.sdraw.injEq,and_true] at e9
    obtain ⟨rfl,rfl⟩:=e9
    rw [vwp] at h
    exact QZ WOk.pvopS hmo hp hl hck h hs hf ⟨fun e' H' β' F' w' a' k1 k2 k3 k4=>hk .nor _ _ _ _ _ _ _ k1 k2 (k3.forget kp) (hm.later k4) k4,fun u H' β' F' w' a' k1 k2 k3 k4=>hk (.pan u) _ _ _ _ _ _ _ k1 k2 k3 (hm.later k4) k4⟩
  | seq x y=>simp only [trC] at ht; split at ht<;>simp at ht
  | cond c x y=>simp only [trC] at ht; split at ht<;>simp at ht
  | rangeFunc f ps x y=>simp only [trC] at ht; split at ht<;>(try split at ht)<;>simp at ht
  | _=>simp [trC] at ht
 | skip =>
  intro code hrf ht Q e H β F w a QQ B D D0 h hs hf hm hB hk
  rw [er] at ht
  cases code with
  | skip=>exact wpIn_skip (hk .nor _ _ _ _ _ _ _ h hs hf hm (Ar.refl _ _))
  | label l=>exact wpIn_label (hk .nor _ _ _ _ _ _ _ h hs hf hm (Ar.refl _ _))
  | region id ops d =>
   cases d
   ·exact (EW ht (by simp) (by simp)).elim
   ·exact (EU ht (by simp) (by simp) (by simp)).elim
  | seq x y=>simp only [trC] at ht; split at ht<;>simp at ht
  | cond c x y=>simp only [trC] at ht; split at ht<;>simp at ht
  | rangeFunc f ps x y=>simp only [trC] at ht; split at ht<;>(try split at ht)<;>simp at ht
  | _=>simp [trC] at ht
 | seq x y ihx ihy =>
  intro code hrf ht Q e H β F w a QQ B D D0 h hs hf hm hB hk
  rw [er] at ht
  cases code with
  | region id ops d =>
   cases d
   ·exact (EW ht (by simp) (by simp)).elim
   ·exact (EU ht (by simp) (by simp) (by simp)).elim
  | seq cx cy =>
   simp only [trC] at ht
   split at ht
   ·rename_i vx vy hx hy
    simp only [Option.some.injEq,Ad.seq.injEq] at ht
    obtain ⟨rfl,rfl⟩:=ht
    rw [vwp] at h
    have hrx:ro=none∨SN x=true:=hrf.imp id fun h=>by simp only [SN,Bool.and_eq_true] at h; exact h.1
    have hry:ro=none∨SN y=true:=hrf.imp id fun h=>by simp only [SN,Bool.and_eq_true] at h; exact h.2
    refine wpIn_seq (ihx hrx hx h hs hf hm hB ?_)
    intro x e' H' β' F' w' a' D' k1 k2 k3 km k4
    cases x with
    | nor=>exact ihy hry hy k1 k2 k3 km (Nat.le_trans hB k4.size) fun x e2 H2 β2 F2 w2 a2 D2 m1 m2 m3 mm m4=>hk _ _ _ _ _ _ _ _ m1 m2 m3 mm (k4.trans m4)
    | exit i=>exact hk (.exit i) _ _ _ _ _ _ _ k1 k2 k3 km k4
    | ret=>exact hk .ret _ _ _ _ _ _ _ k1 k2 k3 km k4
    | pan u=>exact hk (.pan u) _ _ _ _ _ _ _ k1 k2 k3 km k4
   ·simp at ht
  | cond c x y=>simp only [trC] at ht; split at ht<;>simp at ht
  | rangeFunc f ps x y=>simp only [trC] at ht; split at ht<;>(try split at ht)<;>simp at ht
  | _=>simp [trC] at ht
 | cond c x y ihx ihy =>
  intro code hrf ht Q e H β F w a QQ B D D0 h hs hf hm hB hk
  rw [er] at ht
  cases code with
  | region id ops d =>
   cases d
   ·exact (EW ht (by simp) (by simp)).elim
   ·exact (EU ht (by simp) (by simp) (by simp)).elim
  | seq x y=>simp only [trC] at ht; split at ht<;>simp at ht
  | cond cc cx cy =>
   simp only [trC] at ht
   split at ht
   ·rename_i vx vy hx hy
    simp only [Option.some.injEq,Ad.cond.injEq] at ht
    obtain ⟨rfl,rfl,rfl⟩:=ht
    rw [vwp] at h
    split at h
    ·rename_i t hc
     have hrx:ro=none∨SN x=true:=hrf.imp id fun h=>by simp only [SN,Bool.and_eq_true] at h; exact h.1
     have hry:ro=none∨SN y=true:=hrf.imp id fun h=>by simp only [SN,Bool.and_eq_true] at h; exact h.2
     refine wpIn_cond_split (hf.env.val hc) (fun htt => ?_) (fun htf => ?_)
     ·rw [if_pos htt] at h; exact ihx hrx hx h hs hf hm hB hk
     ·rw [if_neg (by rw [htf]; simp)] at h; exact ihy hry hy h hs hf hm hB hk
    ·exact h.elim
   ·simp at ht
  | rangeFunc f ps x y=>simp only [trC] at ht; split at ht<;>(try split at ht)<;>simp at ht
  | _=>simp [trC] at ht
 | block id x ih =>
  intro code hrf ht Q e H β F w a QQ B D D0 h hs hf hm hB hk
  rw [er] at ht
  cases code with
  | region id ops d =>
   cases d
   ·exact (EW ht (by simp) (by simp)).elim
   ·exact (EU ht (by simp) (by simp) (by simp)).elim
  | seq x y=>simp only [trC] at ht; split at ht<;>simp at ht
  | cond c x y=>simp only [trC] at ht; split at ht<;>simp at ht
  | rangeFunc f ps x y=>simp only [trC] at ht; split at ht<;>(try split at ht)<;>simp at ht
  | block id' c =>
   simp only [trC,Option.map_eq_some_iff,Ad.block.injEq] at ht
   obtain ⟨vx,hx,rfl,rfl⟩:=ht
   rw [vwp] at h
   refine wpIn_block (ih hrf hx h hs hf hm hB ?_)
   intro x e' H' β' F' w' a' D' k1 k2 k3 km k4
   cases x with
   | nor=>exact hk .nor _ _ _ _ _ _ _ k1 k2 k3 km k4
   | exit i =>
    show Exit.inBlock _ QQ (.exit i) a' w'
    simp only [Exit.inBlock]
    simp only at k1
    split at k1
    ·rename_i hi; rw [if_pos hi]; exact hk .nor _ _ _ _ _ _ _ k1 k2 k3 km k4
    ·rename_i hi; rw [if_neg hi]; exact hk (.exit i) _ _ _ _ _ _ _ k1 k2 k3 km k4
   | ret=>exact hk .ret _ _ _ _ _ _ _ k1 k2 k3 km k4
   | pan u=>exact hk (.pan u) _ _ _ _ _ _ _ k1 k2 k3 km k4
  | _=>simp [trC] at ht
 | loop lv x ih =>
  intro code hrf ht Q e H β F w a QQ B D D0 h hs hf hm hB hk
  rw [er] at ht
  cases code with
  | region id ops d =>
   cases d
   ·exact (EW ht (by simp) (by simp)).elim
   ·exact (EU ht (by simp) (by simp) (by simp)).elim
  | seq x y=>simp only [trC] at ht; split at ht<;>simp at ht
  | cond c x y=>simp only [trC] at ht; split at ht<;>simp at ht
  | rangeFunc f ps x y=>simp only [trC] at ht; split at ht<;>(try split at ht)<;>simp at ht
  | loop c =>
   simp only [trC,Option.map_eq_some_iff,Ad.loop.injEq] at ht
   obtain ⟨vx,hx,_,rfl⟩:=ht
   rw [vwp] at h
   obtain ⟨I,n,h0,hstep⟩:=h
   refine wpIn_loop_ghost (fun n a' w'=>∃ e' H' β' F' D',I n e' H'∧Sim ⟨β',H',F'⟩ w'∧Fr N D' ⟨β',H',F'⟩ w' e' a'∧JV D0 B ⟨β',H',F'⟩ w' D'∧Ar ⟨β,H,F⟩ w ⟨β',H',F'⟩ w') n ⟨_,_,_,_,_,h0,hs,hf.forget lv,hm,Ar.refl _ _⟩ ?_
   rintro n a' w' ⟨e',H',β',F',D',k1,k2,k3,km,k4⟩
   refine ih hrf hx (hstep n e' H' k1) k2 k3 km (Nat.le_trans hB k4.size) ?_
   intro x e2 H2 β2 F2 w2 a2 D2 m1 m2 m3 mm m4
   cases x with
   | nor =>
    obtain ⟨m,g,hmn,⟨hg,hb⟩,hI⟩:=m1
    have hf3:=m3.forget lv
    rcases hb with hle | ⟨hbe,hbh⟩
    ·rw [List.take_of_length_le hle] at hI
     exact ⟨m,hmn,_,_,_,_,_,hI,m2,hf3,mm,k4.trans m4⟩
    exact ⟨m,hmn,_,_,_,_,_,hI,m2.cut hbh,⟨⟨fun s=>Rep.cut (Tn hbe s) (hf3.env.1 s),hf3.env.2⟩,hf3.size,hf3.defers⟩,mm.cut,(k4.trans m4).cut hg⟩
   | exit i=>exact hk (.exit i) _ _ _ _ _ _ _ m1 m2 m3 mm (k4.trans m4)
   | ret=>exact hk .ret _ _ _ _ _ _ _ m1 m2 m3 mm (k4.trans m4)
   | pan u=>exact hk (.pan u) _ _ _ _ _ _ _ m1 m2 m3 mm (k4.trans m4)
  | _=>simp [trC] at ht
 | exit id =>
  intro code hrf ht Q e H β F w a QQ B D D0 h hs hf hm hB hk
  rw [er] at ht
  cases code with
  | region id ops d =>
   cases d
   ·exact (EW ht (by simp) (by simp)).elim
   ·exact (EU ht (by simp) (by simp) (by simp)).elim
  | seq x y=>simp only [trC] at ht; split at ht<;>simp at ht
  | cond c x y=>simp only [trC] at ht; split at ht<;>simp at ht
  | rangeFunc f ps x y=>simp only [trC] at ht; split at ht<;>(try split at ht)<;>simp at ht
  | exit id' =>
   simp only [trC,Option.some.injEq,Ad.exit.injEq] at ht; subst ht
   exact wpIn_exit (hk (.exit _) _ _ _ _ _ _ _ h hs hf hm (Ar.refl _ _))
  | _=>simp [trC] at ht
 | ret =>
  intro code hrf ht Q e H β F w a QQ B D D0 h hs hf hm hB hk
  rw [er] at ht
  cases code with
  | region id ops d =>
   cases d
   ·exact (EW ht (by simp) (by simp)).elim
   ·exact (EU ht (by simp) (by simp) (by simp)).elim
  | seq x y=>simp only [trC] at ht; split at ht<;>simp at ht
  | cond c x y=>simp only [trC] at ht; split at ht<;>simp at ht
  | rangeFunc f ps x y=>simp only [trC] at ht; split at ht<;>(try split at ht)<;>simp at ht
  | ret=>exact wpIn_ret (hk .ret _ _ _ _ _ _ _ h hs hf hm (Ar.refl _ _))
  | _=>simp [trC] at ht
 | dead =>
  intro code hrf ht Q e H β F w a QQ B D D0 h
  rw [vwp] at h; exact h.elim
 | scope x ih =>
  intro code hrf ht Q e H β F w a QQ B D D0 h hs hf hm hB hk
  rw [er] at ht
  cases code with
  | region id ops d =>
   cases d
   ·exact (EW ht (by simp) (by simp)).elim
   ·exact (EU ht (by simp) (by simp) (by simp)).elim
  | seq x y=>simp only [trC] at ht; split at ht<;>simp at ht
  | cond c x y=>simp only [trC] at ht; split at ht<;>simp at ht
  | rangeFunc f ps x y=>simp only [trC] at ht; split at ht<;>(try split at ht)<;>simp at ht
  | scope c =>
   simp only [trC,Option.map_eq_some_iff,Ad.scope.injEq] at ht
   obtain ⟨vx,hx,rfl⟩:=ht
   rw [vwp] at h
   refine Yx (ih hrf hx h hs hf hm hB ?_)
   intro x e' H' β' F' w' a' D' k1 k2 k3 km k4
   cases x with
   | nor=>exact hk .nor _ _ _ _ _ _ _ k1 k2 k3 km k4
   | exit i=>exact hk (.exit i) _ _ _ _ _ _ _ k1 k2 k3 km k4
   | ret=>exact hk .ret _ _ _ _ _ _ _ k1 k2 k3 km k4
   | pan u=>exact hk (.pan u) _ _ _ _ _ _ _ k1 k2 k3 km k4
  | _=>simp [trC] at ht
 | own s k x ih =>
  intro code hrf ht Q e H β F w a QQ B D D0 h hs hf hm hB hk
  rw [er] at ht
  rw [vwp] at h
  split at h
  ·rename_i hg
   obtain ⟨k1,k2,k3⟩:=hs.own k
   have hv:a.tmps.getD s undef = .slice none 0 0:=by
    have:=hf.env.1 s; rw [hg,Rep.val] at this; exact this
   refine ih hrf ht h k1 ⟨⟨fun s' => ?_,k1.glob⟩,hf.size,hf.defers⟩ (hm.later k2) hB fun x' e' H' β' F' w' a' D' m1 m2 m3 mm m4=>hk x' e' H' β' F' w' a' D' m1 m2 m3 mm (k2.trans m4)
   rw [Bz]
   by_cases hss:s=s'
   ·subst hss; rw [if_pos rfl,hv]; exact Rep.of1 k3 (by simp) (by simp)
   ·rw [if_neg hss]; exact Rep.mono (k2.mono hs) (hf.env.1 s')
  ·exact ih hrf ht h hs hf hm hB hk
 | ownB s p k x ih =>
  intro code hrf ht Q e H β F w a QQ B D D0 h hs hf hm hB hk
  rw [er] at ht
  rw [vwp] at h
  split at h
  ·rename_i id ver p0 hg
   split at h
   ·rename_i v y hid
    obtain ⟨rfl,h⟩:=h
    split at h
    ·rename_i hgp
     split at h
     ·rename_i x' hsp
      obtain ⟨k1,k2,k3⟩:=hs.own k
      have hlt:id<H.length:=(List.getElem?_eq_some_iff.1 hid).1
      have hid':(H++[Ob.obj 0 (.arr 0 k [])])[id]?=some (.obj v y):=by rw [List.getElem?_append_left hlt]; exact hid
      obtain ⟨q1,q2⟩:=k1.turn (o' := .obj v x') (w':=w) (β':=upd β H.length 0 none) hid' rfl rfl (Nat.le_refl _) (fun _ _ _=>rfl) (fun b off e => .inl ⟨off,e⟩) rfl rfl rfl (Nat.le_refl _) (fun _ _=>rfl) (fun _ _ _=>rfl) (fun hm=>by
       rcases k1.ob id _ hid' with ⟨r0,r1⟩ | ⟨b,off,pre,vs,post,t,fr,r0,r1,r2,r3,r4⟩
       ·refine .inl ⟨r0,?_⟩
        exact Ag.mono hm (Ru r1 hgp (fun m hm'=>by rw [Ag] at hm'; rw [hm'.1]; exact k3) hsp)
       ·refine .inr ⟨b,off,pre,vs,post,t,fr,r0,r1,r2,r3,?_⟩
        exact Ag.mono hm (Ru r4 hgp (fun m hm'=>by rw [Ag] at hm'; rw [hm'.1]; exact k3) hsp))
      rw [List.set_append_left _ _ hlt] at q1 q2
      exact ih hrf ht h q1 ⟨⟨fun s'=>Rep.mono (q2.mono k1) (Rep.mono (k2.mono hs) (hf.env.1 s')),q1.glob⟩,hf.size,hf.defers⟩ (hm.later (k2.trans q2)) hB fun x' e' H' β' F' w' a' D' m1 m2 m3 mm m4=>hk x' e' H' β' F' w' a' D' m1 m2 m3 mm ((k2.trans q2).trans m4)
     ·exact h.elim
    ·exact ih hrf ht h hs hf hm hB hk
   ·exact h.elim
  ·exact h.elim
 | frz s x ih =>
  intro code hrf ht Q e H β F w a QQ B D D0 h hs hf hm hB hk
  rw [er] at ht
  rw [vwp] at h
  split at h
  ·rename_i k id ver p off n cp hg
   split at h
   ·rename_i v y hid
    obtain ⟨rfl,h⟩:=h
    split at h
    ·rename_i cs hcs
     obtain ⟨k1,k2⟩:=hs.freeze hid rfl
     have hr:Rep ⟨β,H,F⟩ w (get e s) (a.tmps.getD s undef):=hf.env.1 s
     rw [hg] at hr
     have hr':Rep ⟨β,H.set id (.gone v),fun b=>F b∨∃ off,β id v=some (b,off)⟩ w (.sl k cs) (a.tmps.getD s undef):=by
      rcases hr with (hr | hr | ⟨us,hr,hr2⟩) | ⟨xs,vs,hr,_⟩
      ·cases hr
      ·cases hr
      ·exact .inl (.inr (.inr ⟨us,hs.give hid hcs hr,by rw [hr2]; rfl⟩))
      ·cases hr
     refine ih hrf ht h k1 ⟨⟨fun s' => ?_,k1.glob⟩,hf.size,hf.defers⟩ (hm.later k2) hB fun x' e' H' β' F' w' a' D' m1 m2 m3 mm m4=>hk x' e' H' β' F' w' a' D' m1 m2 m3 mm (k2.trans m4)
     rw [Bz]
     by_cases hss:s=s'
     ·subst hss; rw [if_pos rfl]; exact hr'
     ·rw [if_neg hss]; exact Rep.mono (k2.mono hs) (hf.env.1 s')
    ·exact h.elim
   ·exact h.elim
  ·exact h.elim
 | ownT s p t x ih =>
  intro code hrf ht Q e H β F w a QQ B D D0 h hs hf hm hB hk
  rw [er] at ht
  rw [vwp] at h
  split at h
  ·rename_i id ver p0 hg
   split at h
   ·rename_i v y hid
    obtain ⟨rfl,h⟩:=h
    split at h
    ·rename_i hgp
     split at h
     ·rename_i x' hsp
      obtain ⟨k1,k2,k3⟩:=hs.ownBld t
      have hlt:id<H.length:=(List.getElem?_eq_some_iff.1 hid).1
      have hid':(H++[Ob.bld 0 t []])[id]?=some (.obj v y):=by rw [List.getElem?_append_left hlt]; exact hid
      obtain ⟨q1,q2⟩:=k1.turn (o' := .obj v x') (w':=w) (β':=upd β H.length 0 none) hid' rfl rfl (Nat.le_refl _) (fun _ _ _=>rfl) (fun b off e => .inl ⟨off,e⟩) rfl rfl rfl (Nat.le_refl _) (fun _ _=>rfl) (fun _ _ _=>rfl) (fun hm=>by
       rcases k1.ob id _ hid' with ⟨r0,r1⟩ | ⟨b,off,pre,vs,post,t,fr,r0,r1,r2,r3,r4⟩
       ·refine .inl ⟨r0,?_⟩
        exact Ag.mono hm (Ru r1 hgp (fun m hm'=>by rw [Ag] at hm'; rw [hm'.1]; exact k3) hsp)
       ·refine .inr ⟨b,off,pre,vs,post,t,fr,r0,r1,r2,r3,?_⟩
        exact Ag.mono hm (Ru r4 hgp (fun m hm'=>by rw [Ag] at hm'; rw [hm'.1]; exact k3) hsp))
      rw [List.set_append_left _ _ hlt] at q1 q2
      exact ih hrf ht h q1 ⟨⟨fun s'=>Rep.mono (q2.mono k1) (Rep.mono (k2.mono hs) (hf.env.1 s')),q1.glob⟩,hf.size,hf.defers⟩ (hm.later (k2.trans q2)) hB fun x' e' H' β' F' w' a' D' m1 m2 m3 mm m4=>hk x' e' H' β' F' w' a' D' m1 m2 m3 mm ((k2.trans q2).trans m4)
     ·exact h.elim
    ·exact ih hrf ht h hs hf hm hB hk
   ·exact h.elim
  ·exact h.elim
 | rfunc g0 ps aS bd iha ihb =>
  intro code hrf ht Q e H β F w a QQ B D D0 h hs hf hm hB hk
  obtain rfl:ro=none:=hrf.resolve_right (by simp [SN])
  rw [er] at ht
  cases code with
  | region id ops d =>
   cases d
   ·exact (EW ht (by simp) (by simp)).elim
   ·exact (EU ht (by simp) (by simp) (by simp)).elim
  | seq x y=>simp only [trC] at ht; split at ht<;>simp at ht
  | cond c x y=>simp only [trC] at ht; split at ht<;>simp at ht
  | rangeFunc f0 ps0 ca cb =>
   simp only [trC] at ht
   split at ht
   ·rename_i hps
    split at ht
    ·rename_i va vb hca hcb
     simp only [Option.some.injEq,Ad.rfunc.injEq] at ht
     obtain ⟨rfl,rfl,rfl,rfl⟩:=ht
     rw [vwp] at h
     obtain ⟨-,-,h⟩:=h
     split at h
     ·rename_i g first caps hg
      obtain ⟨hgo,h⟩:=h
      have hr:Rep ⟨β,H,F⟩ w (.fn (.func g) first caps) (a.eval f0):=hf.env.rep (x:=f0) hg
      have h1:=hr.inv1 (by simp) (by simp) (by simp) (by simp) (by simp)
      rw [Ag] at h1
      obtain ⟨us,vs,hv1,hfi,hc⟩:=h1
      have hv':a.eval f0 = .func (.func g) us.toArray vs.toArray:=by simpa using hv1
      refine UM hs hf hm hB hv' hgo hfi hc (fun fn=>h N fn ca cb ⟨hca,hcb,hps⟩) hk
     ·rename_i g xs ys hg
      obtain ⟨hxy,hgo,h⟩:=h
      rw [Bool.and_eq_true,Array.isEmpty_iff,Array.isEmpty_iff] at hxy
      obtain ⟨rfl,rfl⟩:=hxy
      have hv':a.eval f0 = .func (.func g) #[] #[]:=hf.env.val hg
      refine UM (us:=[]) (vs:=[]) (first:=[]) (caps:=[]) hs hf hm hB hv' hgo (by rw [AY]) (by rw [AY]) (fun fn=>by simpa using h N fn ca cb ⟨hca,hcb,hps⟩) hk
     ·exact h.elim
    ·cases ht
   ·cases ht
  | _=>simp [trC] at ht
end sound
end
section
open Go.RowKit
variable [A7]
set_option autoImplicit false
inductive VR where
 | tmp (t:Nat)
 | cell (a:Nat) (ag:Bool) (sz:Nat)
 deriving Inhabited
def trR (P:Program):List ResultVar→Option (List VR)
 | []=>some []
 | .tmp t::r=>(trR P r).map (.tmp t :: ·)
 | .cell a t::r=>match Us P t,Oe P t,trR P r with
  | some ag,some sz,some r=>some (.cell a ag sz::r)
  | _,_,_=>none
def Yr:List VR→Env→List Ob→(List TV→Prop)→Prop
 | [],e,H,K=>K []
 | .tmp t::r,e,H,K=>Yr r e H fun xs=>K (get e t::xs)
 | .cell a ag sz::r,e,H,K=>pop (.load ag sz (.t a)) e H fun x=>Yr r e H fun xs=>K (x::xs)
def res (r:List VR) (e:Env) (H:List Ob) (K:TV→Prop):Prop:=Yr r e H fun xs=>match xs with
 | [x]=>K x
 | xs=>(∀ x∈xs,CE x=false)∧K (.tup xs)
section
variable {P:Program}
def rv (a:Act) (r:ResultVar):Sem Value:=match r with
 | .tmp t=>pure (a.tmps.getD t undef)
 | .cell x t=>do loadVar t (←asAddr (a.tmps.getD x undef))
theorem WM {c:Ctx} {w:World} {e:Env} {a:Act} (hs:Sim c w) (he:AC c w e a):∀ {rs:List ResultVar} {vr:List VR} {K:List TV→Prop},trR P rs=some vr→Yr vr e c.H K →
  ∃ (xs:List TV) (vs:List Value),(rs.mapM (rv a)).run P w = .ok vs w∧xs.length=vs.length∧(∀ (i:Nat) x v,xs[i]?=some x→vs[i]?=some v→Rep c w x v)∧K xs
 | [],vr,K,ht,h=>by
  simp only [trR,Option.some.injEq] at ht; subst ht
  exact ⟨[],[],rfl,rfl,by simp,h⟩
 | .tmp t::rs,vr,K,ht,h=>by
  simp only [trR,Option.map_eq_some_iff] at ht
  obtain ⟨r,hr,rfl⟩:=ht
  rw [Yr] at h
  obtain ⟨xs,vs,h1,h2,h3,h4⟩:=WM hs he hr h
  refine ⟨get e t::xs,a.tmps.getD t undef::vs,by rw [List.mapM_cons]; simp only [rv,Sem.run_bind,Sem.run_pure,Result.andThen_ok,h1],by simp [h2],?_,h4⟩
  intro i x v hx hv
  cases i with
  | zero=>simp at hx hv; subst hx; subst hv; simpa using he.1 t
  | succ i=>exact h3 i x v (by simpa using hx) (by simpa using hv)
 | .cell b t::rs,vr,K,ht,h=>by
  simp only [trR] at ht
  split at ht
  ·rename_i ag sz r h1 h2 hr
   cases ht
   rw [Yr] at h
   have hy:=Ag9 (P:=P) (a:=a) (ty:=0) hs he h1 h2 (x := .tmp b) h
   obtain ⟨x,v,hrun,hx,hK⟩:=hy ⟨none,.load t (.tmp b),0, "", #[],none⟩ rfl rfl
   have hload:(do loadVar t (←asAddr (a.tmps.getD b undef)):Sem Value).run P w = .ok v w:=by
    simp only [execOp,Instr.loadAt,Sem.run_bind,Act.eval] at hrun
    simp only [Sem.run_bind]
    cases hp:a.tmps.getD b undef with
    | pointer p =>
     rw [hp] at hrun
     cases p with
     | none=>simp [Instr.sureAddr,stuck] at hrun
     | some ad =>
      simp only [Instr.sureAddr,Sem.run_pure,Result.andThen_ok,asAddr] at hrun ⊢
      cases hl:(loadVar t ad).run P w with
      | ok u w2=>rw [hl] at hrun; simp only [Result.andThen_ok,Sem.run_pure] at hrun; cases hrun; rfl
      | halt hh w2=>rw [hl] at hrun; simp at hrun
    | _=>rw [hp] at hrun; simp [Instr.sureAddr,stuck] at hrun
   obtain ⟨xs,vs,h3,h4,h5,h6⟩:=WM hs he hr hK
   refine ⟨x::xs,v::vs,by rw [List.mapM_cons,Sem.run_bind]; show Result.andThen ((rv a (.cell b t)).run P w) _=_; rw [show (rv a (.cell b t)).run P w = .ok v w from hload]; simp only [Result.andThen_ok,Sem.run_bind,h3,Sem.run_pure],by simp [h4],?_,h6⟩
   intro i y u hy hu
   cases i with
   | zero=>simp at hy hu; subst hy; subst hu; exact hx
   | succ i=>exact h5 i y u (by simpa using hy) (by simpa using hu)
  ·cases ht
theorem AdA {c:Ctx} {w:World} {e:Env} {a:Act} (hs:Sim c w) (he:AC c w e a) {fn:Func} {vr:List VR} {K:TV→Prop} (ht:trR P fn.results.toList=some vr) (h:res vr e c.H K) :
  ∃ x v,(results fn a.tmps).run P w = .ok v w∧Rep c w x v∧K x:=by
 obtain ⟨xs,vs,h1,h2,h3,h4⟩:=WM hs he ht h
 have hrun:(fn.results.mapM (rv a)).run P w = .ok vs.toArray w:=by
  rw [Array.mapM_eq_mapM_toList]
  simp only [Sem.run_map,h1,Result.andThen_ok]
 have hres:(results fn a.tmps).run P w = .ok (if h:vs.toArray.size=1 then vs.toArray[0] else .tuple vs.toArray) w:=by
  have:results fn a.tmps=(do let vs ← fn.results.mapM (rv a); pure (if h:vs.size=1 then vs[0] else .tuple vs)):=rfl
  rw [this,Sem.run_bind,hrun]; rfl
 rcases xs with _ | ⟨x,_ | ⟨y,xs⟩⟩
 ·have hv:vs=[]:=List.length_eq_zero_iff.1 (by simpa using h2.symm)
  subst hv
  exact ⟨_,_,hres,.inr ⟨[],[],rfl,rfl,by rw [AY]⟩,h4.2⟩
 ·obtain ⟨v,rfl⟩:=List.length_eq_one_iff.1 (by simpa using h2.symm)
  exact ⟨_,_,hres,h3 0 x v rfl rfl,h4⟩
 ·rcases vs with _ | ⟨u,_ | ⟨v,vs⟩⟩
  ·simp at h2
  ·simp at h2
  ·refine ⟨_,_,hres,.inr ⟨_,u::v::vs,rfl,by simp,?_⟩,h4.2⟩
   have key:∀ (xs:List TV) (vs:List Value),xs.length=vs.length→(∀ x∈xs,CE x=false)→(∀ (i:Nat) x v,xs[i]?=some x→vs[i]?=some v→Rep c w x v)→AY c w xs vs:=by
    intro xs
    induction xs with
    | nil=>intro vs h _ _; rw [AY]; exact List.length_eq_zero_iff.1 h.symm
    | cons x xs ih =>
     intro vs hl ht hr
     cases vs with
     | nil=>simp at hl
     | cons v vs =>
      refine AY.cons.2 ⟨v,vs,rfl,?_,ih vs (by simpa using hl) (fun y hy=>ht y (by simp [hy])) fun i y u hy hu=>hr (i+1) y u (by simpa using hy) (by simpa using hu)⟩
      rcases hr 0 x v rfl rfl with h | ⟨ys,us,rfl,_⟩
      ·exact h
      ·have:=ht (.tup ys) (by simp); simp [CE] at this
   exact key _ _ h2 h4.1 h3
def WU:Nat→List TV→Env
 | _,[]=>[]
 | i,x::xs=>(i,x)::WU (i+1) xs
theorem XO:∀ (xs:List TV) (i s:Nat),get (WU i xs) s=if i≤s then (xs[s - i]?).getD .any else .any
 | [],i,s=>by simp [WU,get]
 | x::xs,i,s=>by
  rw [WU,Bz,XO xs (i+1) s]
  by_cases h:i=s
  ·subst h; simp
  ·rw [if_neg h]
   by_cases h2:i≤s
   ·rw [if_pos (by omega),if_pos h2,show s - i=(s - (i+1))+1 from by omega,List.getElem?_cons_succ]
   ·rw [if_neg (by omega),if_neg h2]
theorem AY.get {c:Ctx} {w:World}:∀ {xs:List TV} {vs:List Value},AY c w xs vs→xs.length=vs.length∧∀ (i:Nat) x,xs[i]?=some x→∃ v,vs[i]?=some v∧Rep c w x v
 | [],vs,h=>by rw [AY] at h; subst h; simp
 | x::xs,vs,h=>by
  obtain ⟨u,us,rfl,h1,h2⟩:=AY.cons.1 h
  obtain ⟨h3,h4⟩:=AY.get h2
  refine ⟨by simp [h3],fun i y hy => ?_⟩
  cases i with
  | zero=>simp at hy; subst hy; exact ⟨u,rfl,.inl h1⟩
  | succ i=>simpa using h4 i y (by simpa using hy)
def Vs (vr:List VR) (R:TV→List Ob→Prop):VEx→Env→List Ob→Prop
 | .nor,e,H=>res vr e H fun x=>R x H
 | .ret,e,H=>res vr e H fun x=>R x H
 | .exit _,_,_=>False
 | .pan _,_,_=>False
theorem Sim.nobody {c:Ctx} {w:World} (hs:Sim c w) {r:Nat} {o o':Obj} (hr:w.heap[r]?=some o) (h1:¬ c.own r) (h2:¬ c.F r) (hsh:(w.putObj r o').shape? r=w.shape? r):Sim c (w.putObj r o')∧Hm c w c (w.putObj r o'):=by
 have hoth:∀ b,b≠r→(w.putObj r o').heap[b]?=w.heap[b]?:=fun b hb=>World.putObj_heap_other hb
 have hm:Hm c w c (w.putObj r o'):=⟨fun b hb=>⟨hb,hoth b fun e=>h2 (e▸hb)⟩,fun _ _ h=>⟨h,rfl⟩,fun b _=>by
  by_cases hb:b=r
  ·subst hb; exact hsh
  ·exact Bh (hoth b hb)⟩
 refine ⟨⟨fun id ob ho=>Xk.mono hm (Ctx.has_of ho) (fun hl b off hb=>hoth b fun e=>h1 (e▸Ctx.own_of ho hl hb)) (hs.ob id ob ho),hs.inj,hs.apart,fun b hb => ?_,hs.glob.keep hm.stay⟩,hm⟩
 rw [(O6 w r o').2.2.2]; exact hs.lt b hb
theorem Ar.nobody {c0 c:Ctx} {w0 w:World} (h:Ar c0 w0 c w) {r:Nat} {o':Obj} (hr:w0.heap.size≤r):Ar c0 w0 c (w.putObj r o') :=
 ⟨h.os,h.tape,h.output,by rw [(O6 w r o').2.2.2]; exact h.size,h.has,fun b hb=>(Bh (World.putObj_heap_other (by omega))).trans (h.shape b hb),fun b hb ho=>(World.putObj_heap_other (by omega)).trans (h.same b hb ho),h.keepF,h.oldF,h.oldOwn⟩
theorem JV.shut {D0:List Deferred} {u:FrameMode} (hu:u ≠ .run) {FF:Fence} {n:Nat} {fn:Func} {tmps:Array Value} {R:Ending→World→Prop} {B:Nat} {c:Ctx}:∀ {D:List Deferred} {w:World},JV D0 B c w D→Sim c w →
  ∃ wF,(LeavesInM FF n P fn tmps R D0 u wF→LeavesInM FF n P fn tmps R D u w)∧Sim c wF∧Hm c w c wF∧∀ (c0:Ctx) (w0:World),w0.heap.size≤B→Ar c0 w0 c w→Ar c0 w0 c wF:=by
 rintro D w ⟨ds,rfl,hnd,hds⟩ hs
 induction ds generalizing w with
 | nil=>exact ⟨w,fun h=>h,hs,Hm.heap rfl,fun c0 w0 _ h=>h⟩
 | cons r ds ih =>
  obtain ⟨k1,k2,k3,k4,k5⟩:=hds r (by simp)
  rw [List.nodup_cons] at hnd
  have hput:=World.putObj_heap_same (w:=w) (o := .deferred none) k2
  obtain ⟨s1,s2⟩:=hs.nobody (o' := .deferred none) k5 k3 k4 (by simp [World.shape?,hput,k5])
  obtain ⟨wF,e1,e2,e3,e4⟩:=ih (w:=w.putObj r (.deferred none)) hnd.2 (fun q hq=>by
   obtain ⟨q1,q2,q3,q4,q5⟩:=hds q (by simp [hq])
   have hne:q≠r:=fun e=>hnd.1 (e▸hq)
   exact ⟨q1,by rw [(O6 w r _).2.2.2]; exact q2,q3,q4,(World.putObj_heap_other hne).trans q5⟩) s1
  refine ⟨wF,fun h=>⟨hu,.inl ⟨r,_,rfl,run_takeDeferred k5,e1 h⟩⟩,e2,⟨fun b hb=>⟨hb,((e3.stay b hb).2).trans (s2.stay b hb).2⟩,fun _ _ h=>⟨h,rfl⟩,fun b hb=>(e3.shape b (by rw [(O6 w r _).2.2.2]; exact hb)).trans (s2.shape b hb)⟩,fun c0 w0 hB hl=>e4 c0 w0 hB (hl.nobody (by omega))⟩
theorem Ie {f:FuncId} {fn:Func} {vc:Ad} {vr:List VR} {args:List TV} {H:List Ob} {R:TV→List Ob→Prop} (hf:P.funcs[f]?=some fn) (ht:fn.body.bind (trC P fn.ntmps)=some (er vc)) (hr:trR P fn.results.toList=some vr)
  (hn:args.length≤fn.ntmps) (h:vwp P vc (Vs vr R) (WU 0 args) H):Au P f args H R:=by
 obtain ⟨code,hb,ht⟩:=Option.bind_eq_some_iff.1 ht
 intro β F w vs hs hv
 obtain ⟨hl,hget⟩:=AY.get hv
 refine (callsIn_wide (n:=0)).1 (callsIn_of_wp_marks hf hb trivial ?_)
 refine Rh (ro:=none) (nn:=0) (B:=w.heap.size) (D:=[]) (D0:=[]) vc (.inl rfl) ht h hs ⟨⟨fun s => ?_,hs.glob⟩,by simp; omega,rfl⟩ JV.nil (Nat.le_refl _) ?_
 ·rw [XO]
  simp only [Nat.zero_le,if_true,Nat.sub_zero]
  cases hx:args[s]? with
  | none=>exact Rep.any
  | some x =>
   obtain ⟨v,hv1,hv2⟩:=hget s x hx
   have hs':s<vs.length:=(List.getElem?_eq_some_iff.1 hv1).1
   have:((vs.toArray++Array.replicate (fn.ntmps - vs.toArray.size) undef).getD s undef)=v:=by
    rw [Array.getD_eq_getD_getElem?,Array.getElem?_append_left (by simpa using hs')]
    simp [hv1]
   rw [this]; exact hv2
 ·intro x e' H' β' F' w' a' D' k1 k2 k3 km k4
  have fin:res vr e' H' (fun x=>R x H')→LeavesInM Fence.wide 0 P fn a'.tmps (fun e w'=>∃ v x β' H' F',e = .returned v∧R x H'∧Sim ⟨β',H',F'⟩ w'∧Ar ⟨β,H,F⟩ w ⟨β',H',F'⟩ w'∧Rep ⟨β',H',F'⟩ w' x v) a'.defers .returning w':=fun h=>by
   rw [k3.defers]
   obtain ⟨wF,e1,e2,e3,e4⟩:=JV.shut (D0:=[]) (u := .returning) (by simp) (P:=P) (FF:=Fence.wide) (n:=0) (fn:=fn) (tmps:=a'.tmps) (R:=fun e w'=>∃ v x β' H' F',e = .returned v∧R x H'∧Sim ⟨β',H',F'⟩ w'∧Ar ⟨β,H,F⟩ w ⟨β',H',F'⟩ w'∧Rep ⟨β',H',F'⟩ w' x v) km k2
   obtain ⟨y,v,r1,r2,r3⟩:=AdA (fn:=fn) (a:=a') e2 ⟨fun s=>Rep.mono e3 (k3.env.1 s),e2.glob⟩ hr h
   exact e1 ⟨v,r1,v,y,β',H',F',rfl,r3,e2,e4 _ _ (Nat.le_refl _) k4,r2⟩
  cases x with
  | nor=>exact fin k1
  | ret=>exact fin k1
  | exit i=>exact k1.elim
  | pan u=>exact k1.elim
def Ac6 (vr:List VR) (R:TV→List Ob→Prop) (RP:Value→List Ob→Prop):VEx→Env→List Ob→Prop
 | .nor,e,H=>res vr e H fun x=>R x H
 | .ret,e,H=>res vr e H fun x=>R x H
 | .exit _,_,_=>False
 | .pan u,_,H=>RP u H
def Agx (id n0:Nat) (R:TV→List Ob→Prop):VEx→Env→List Ob→Prop:=fun x _ H=>match H[id]? with
 | some (.lp .busy none fn N e ps ca cb)=>(match x with
  | .nor=>∃ g,(n0≤g∧id<g∧(H.length≤g∨Rx g ((H.set id (.lp .ready none fn N e ps ca cb)).take g)=true))∧R (.val (.bool true)) ((H.set id (.lp .ready none fn N e ps ca cb)).take g)
  | .ret=>R (.val (.bool false)) (H.set id (.lp .done (some .ret) fn N e ps ca cb))
  | .exit i=>R (.val (.bool false)) (H.set id (.lp .done (some (.exit i)) fn N e ps ca cb))
  | .pan _=>False)
 | _=>False
def YH:List Nat→List TV→Env→Env
 | p::ps,x::xs,e=>YH ps xs ((p,x)::e)
 | _,_,e=>e
theorem ZN {c:Ctx} {w:World} {N:Nat}:∀ {ps:List Nat} {xs:List TV} {vs:List Value} {e:Env} {t:Array Value},AY c w xs vs→ps.all (· < N)=true→t.size=N→(∀ s,Rep c w (get e s) (t.getD s undef)) →
  ((ps.zip vs).foldl (fun t (p,v)=>t.setIfInBounds p v) t).size=N∧∀ s,Rep c w (get (YH ps xs e) s) (((ps.zip vs).foldl (fun t (p,v)=>t.setIfInBounds p v) t).getD s undef)
 | [],xs,vs,e,t,_,_,ht,h=>by rw [List.zip_nil_left,List.foldl_nil]; simp only [YH]; exact ⟨ht,h⟩
 | p::ps,[],vs,e,t,hv,_,ht,h=>by rw [AY.nil] at hv; subst hv; rw [List.zip_nil_right,List.foldl_nil]; simp only [YH]; exact ⟨ht,h⟩
 | p::ps,x::xs,vs,e,t,hv,hp,ht,h=>by
  obtain ⟨u,us,rfl,h1,h2⟩:=AY.cons.1 hv
  rw [List.all_cons,Bool.and_eq_true,decide_eq_true_eq] at hp
  rw [YH,List.zip_cons_cons,List.foldl_cons]
  refine ZN h2 hp.2 (by simp [ht]) fun s => ?_
  rw [Bz]
  by_cases hs:p=s
  ·subst hs
   have:(t.setIfInBounds p u).getD p undef=u:=by simp [Array.getD,ht,hp.1]
   rw [if_pos rfl,this]; exact .inl h1
  ·have:(t.setIfInBounds p u).getD s undef=t.getD s undef:=by simp [Array.getElem?_setIfInBounds_ne hs]
   rw [if_neg hs,this]; exact h s
theorem Ab6 {id fn N:Nat} {e:Env} {ps:List Nat} {ca cb:Code} {aS bd:Ad} {args:List TV} {H:List Ob} {R:TV→List Ob→Prop} (ho:H[id]?=some (.lp .ready none fn N e ps ca cb)) (hc:Zm P N ps ca cb aS bd) (hl:args.length=ps.length) (ha:SN aS=true) (hb:SN bd=true)
  (h:vwp P aS (fun x e1 H1=>x = .nor∧H1[id]?=some (.lp .ready none fn N e ps ca cb)∧vwp P bd (Agx id H.length R) e1 (H1.set id (.lp .busy none fn N e ps ca cb))) (YH ps args e) H):OH P id 0 args H R:=by
 intro β F w vs b o hs hv hbo n
 obtain ⟨b',r,r1,r2,r3,r4,r5,r6,r7,r8,r9,r10,-,-⟩:=hs.loopTurn (st' := .busy) (pe':=none) ho
 rw [hbo] at r1
 obtain ⟨rfl,rfl⟩:b=b'∧o=0:=by simpa using r1
 have hlv:vs.length=args.length:=(AY.get hv).1.symm
 have hy:=run_yield (P:=P) (args:=vs.toArray) r2 (by rw [r7]; simp [hlv,hl])
 refine ⟨_,_,_,_,hy,?_⟩
 rw [r8,r9,r7]
 refine roundIn_of_wpIn trivial ?_
 have hz:(ps.toArray.zip vs.toArray).foldl (fun tmps (t,a)=>tmps.setIfInBounds t a) r.tmps=(ps.zip vs).foldl (fun t (p,v)=>t.setIfInBounds p v) r.tmps:=by simp
 rw [hz]
 obtain ⟨z1,z2⟩:=ZN hv hc.p r6 r10
 refine Rh (ro:=some b) (nn:=n) (B:=0) (D:=[]) (D0:=[]) aS (.inr ha) hc.a h hs ⟨⟨z2,hs.glob⟩,z1,rfl⟩ JV.nil (Nat.zero_le _) ?_
 rintro x e1 H1 β1 F1 w1 a1 D1 ⟨rfl,h1,h2⟩ s1 f1 m1 l1
 obtain ⟨b2,q,q1,q2,q3,q4,q5,q6,q7,q8,q9,q10,q11,q12⟩:=s1.loopTurn (st' := .busy) (pe':=none) h1
 have hlt:id<H.length:=(List.getElem?_eq_some_iff.1 ho).1
 have hβ1:β1 id 0=some (b,0):=((l1.has id 0 ⟨_,ho,Nat.le_refl _⟩).2).trans hbo
 rw [hβ1] at q1
 obtain ⟨rfl,_⟩:b=b2∧True:=by simpa using q1
 have hbr:=run_beginRound (P:=P) q2 q3
 have e0:({ q with state := .busy,pending:=none }:Loop)={ q with state := .busy }:=by rw [←q4]
 rw [e0] at q11 q12
 refine ⟨_,hbr,?_⟩
 refine Rh (ro:=some b) (nn:=n) (B:=0) (D:=D1) bd (.inr hb) hc.b h2 q11 ⟨⟨fun s=>Rep.mono (q12.mono s1) (f1.env.1 s),q11.glob⟩,f1.size,f1.defers⟩ (m1.later q12) (Nat.zero_le _) ?_
 intro x e2 H2 β2 F2 w2 a2 D2 k1 k2 k3 km k4
 have hlat:=(l1.trans q12).trans k4
 have hβ2:β2 id 0=some (b,0):=((hlat.has id 0 ⟨_,ho,Nat.le_refl _⟩).2).trans hbo
 unfold Agx at k1
 split at k1
 ·rename_i fn' N' e' ps' c1 c2 hob
  have fin:∀ (pe:Option Code),∃ r:Loop,w2.heap[b]?=some (.loop r)∧Sim ⟨β2,H2.set id (.lp (if pe.isNone then .ready else .done) pe fn' N' e' ps' c1 c2),F2⟩ (w2.putObj b (.loop { r with state:=if pe.isNone then .ready else .done,pending:=pe })) ∧
    Ar ⟨β2,H2,F2⟩ w2 ⟨β2,H2.set id (.lp (if pe.isNone then .ready else .done) pe fn' N' e' ps' c1 c2),F2⟩ (w2.putObj b (.loop { r with state:=if pe.isNone then .ready else .done,pending:=pe })):=by
   intro pe
   obtain ⟨b3,r,t1,t2,_,_,_,_,_,_,_,_,t3,t4⟩:=k2.loopTurn (st':=if pe.isNone then .ready else .done) (pe':=pe) hob
   rw [hβ2] at t1
   obtain ⟨rfl,_⟩:b=b3∧True:=by simpa using t1
   exact ⟨r,t2,t3,t4⟩
  cases x with
  | nor =>
   obtain ⟨g,⟨g1,g2,g3⟩,hR⟩:=k1
   obtain ⟨r,t2,t3,t4⟩:=fin none
   refine ⟨_,_,run_endRound none t2,?_⟩
   rcases g3 with g3 | g3
   ·rw [List.take_of_length_le (by simpa using g3)] at hR
    exact ⟨_,_,_,_,_,rfl,hR,t3,hlat.trans t4,Rep.of_val⟩
   ·refine ⟨_,.val (.bool true),β2,_,F2,rfl,hR,?_,?_,Rep.of_val⟩
    ·exact Sim.cut (c:=⟨β2,_,F2⟩) t3 g3
    ·exact Ar.cut (c:=⟨β2,_,F2⟩) (hlat.trans t4) g1
  | ret =>
   obtain ⟨r,t2,t3,t4⟩:=fin (some .ret)
   exact ⟨_,_,run_endRound (some .ret) t2,_,_,_,_,_,rfl,k1,t3,hlat.trans t4,Rep.of_val⟩
  | exit i =>
   obtain ⟨r,t2,t3,t4⟩:=fin (some (.exit i))
   exact ⟨_,_,run_endRound (some (.exit i)) t2,_,_,_,_,_,rfl,k1,t3,hlat.trans t4,Rep.of_val⟩
  | pan u=>exact k1.elim
 ·exact k1.elim
structure MS (F:Nat→Prop) (w:World) (F':Nat→Prop) (w':World):Prop where
 os:w'.os=w.os
 tape:w'.tape=w.tape
 output:w'.output=w.output
 size:w.heap.size≤w'.heap.size
 same:∀ b,b<w.heap.size→w'.heap[b]?=w.heap[b]?
 keepF:∀ b,F b→F' b
 oldF:∀ b,b<w.heap.size→F' b→F b
 ltF:∀ b,F' b→b<w'.heap.size
def NF (P:Program) (f:FuncId) (args:List TV) (R:TV→Prop):Prop :=
 ∀ (β:Nat→Nat→Option (Nat×Nat)) (F:Nat→Prop) (w:World) (vs:List Value),((∀ b,F b→b<w.heap.size)∧MB F w)→AY ⟨β,[],F⟩ w args vs →
  Calls P f vs.toArray w fun e w'=>∃ v x F',e = .returned v∧R x∧Rep ⟨β,[],F'⟩ w' x v∧MS F w F' w'
theorem NF.mono {f:FuncId} {args:List TV} {R R':TV→Prop} (h:NF P f args R) (hr:∀ x,R x→R' x):NF P f args R' :=
 fun β F w vs hF hv=>(h β F w vs hF hv).mono fun _ _ ⟨v,x,F',h1,h2,h3⟩=>⟨v,x,F',h1,hr _ h2,h3⟩
theorem Au.toPure {f:FuncId} {args:List TV} {R:TV→Prop} (h:Au P f args [] fun x H'=>match frz H' x with | some y=>R y | none=>False):NF P f args R:=by
 intro β F w vs hF hv
 have hs:Sim ⟨β,[],F⟩ w:=⟨fun id o ho=>by simp at ho,fun i j x y b o o' hx=>by simp at hx,fun b hb=>by obtain ⟨i,o,off,h1,_⟩:=hb; simp at h1,hF.1,hF.2⟩
 refine (h β F w vs hs hv).mono ?_
 rintro _ w' ⟨v,x,β',H',F',rfl,hR,hs',hl,hx⟩
 split at hR
 ·rename_i y hy
  have hno:∀ b,¬ Ctx.own ⟨β,[],F⟩ b:=fun b hb=>by obtain ⟨i,o,off,h1,_⟩:=hb; simp at h1
  have hr:=Aii hs' hy hx
  refine ⟨v,y,fun b=>F' b∨Ctx.own ⟨β',H',F'⟩ b,rfl,hR,Rep.mono (Hm.toBare [] β) hr,⟨hl.os,hl.tape,hl.output,hl.size,fun b hb=>hl.same b hb (hno b),fun b hb => .inl (hl.keepF b hb),fun b hb hF' => ?_,fun b hF'=>hF'.elim (hs'.lt b) hs'.own_lt⟩⟩
  rcases hF' with hF' | hF'
  ·exact (hl.oldF b hb hF').resolve_right (hno b)
  ·exact absurd (hl.oldOwn b hb hF') (hno b)
 ·exact hR.elim
theorem MS.later {β:Nat→Nat→Option (Nat×Nat)} {H:List Ob} {F F':Nat→Prop} {w w':World} (h:MS F w F' w'):Ar ⟨β,H,F⟩ w ⟨β,H,F'⟩ w' :=
 ⟨h.os,h.tape,h.output,h.size,fun id v ⟨o,h1,h2⟩=>⟨⟨o,h1,h2⟩,rfl⟩,fun b hb=>Bh (h.same b hb),fun b hb _=>h.same b hb,h.keepF,fun b hb hF => .inl (h.oldF b hb hF),fun b hb ⟨i,o,off,h1,h2,h3⟩=>⟨i,o,off,h1,h2,h3⟩⟩
theorem MS.sim {β:Nat→Nat→Option (Nat×Nat)} {H:List Ob} {F F':Nat→Prop} {w w':World} (hs:Sim ⟨β,H,F⟩ w) (h:MS F w F' w'):Sim ⟨β,H,F'⟩ w':=by
 have hm:Hm ⟨β,H,F⟩ w ⟨β,H,F'⟩ w':=⟨fun b hb=>⟨h.keepF b hb,h.same b (hs.lt b hb)⟩,fun id v ⟨o,h1,h2⟩=>⟨⟨o,h1,h2⟩,rfl⟩,fun b hb=>Bh (h.same b hb)⟩
 refine ⟨fun id o ho=>Xk.mono hm ⟨o,ho,Nat.le_refl _⟩ (fun hl b off hb=>h.same b (hs.own_lt ⟨id,o,off,ho,hl,hb⟩)) (hs.ob id o ho),hs.inj,fun b hb hF => ?_,h.ltF,hs.glob.keep hm.stay⟩
 obtain ⟨i,o,off,h1,h2,h3⟩:=hb
 have ho:Ctx.own ⟨β,H,F⟩ b:=⟨i,o,off,h1,h2,h3⟩
 exact hs.apart b ho (h.oldF b (hs.own_lt ho) hF)
theorem NF.calls {f:FuncId} {args:List TV} {R:TV→Prop} {H:List Ob} {K:TV→List Ob→Prop} (h:NF P f args R) (hp:BZ args=true) (hk:∀ x,R x→K x H):Au P f args H K:=by
 intro β F w vs hs hv
 refine (h β F w vs ⟨hs.lt,hs.glob⟩ (AY.pure hp hv)).mono ?_
 rintro _ w' ⟨v,x,F',rfl,hR,hx,hst⟩
 exact ⟨v,x,β,H,F',rfl,hk x hR,hst.sim hs,hst.later,Rep.mono (Hm.toBare H β) hx⟩
theorem NF.lends {f:FuncId} {args args':List TV} {R:TV→Prop} {H:List Ob} {K:TV→List Ob→Prop} (h:NF P f args' R) (hp:AjH H args=some args') (hk:∀ x,R x→Yu x=true∧K x H):Au P f args H K:=by
 intro β F w vs hs hv
 refine (h β (fun b=>F b∨Ctx.own ⟨β,H,F⟩ b) w vs ⟨fun b hb=>hb.elim (hs.lt b) hs.own_lt,hs.glob.keep fun b hb=>⟨.inl hb,rfl⟩⟩ (Zo hs hp hv)).mono ?_
 rintro _ w' ⟨v,x,F',rfl,hR,hx,hst⟩
 obtain ⟨hsc,hK⟩:=hk x hR
 have hst':MS F w F w':=⟨hst.os,hst.tape,hst.output,hst.size,hst.same,fun _ h=>h,fun _ _ h=>h,fun b hb=>Nat.lt_of_lt_of_le (hs.lt b hb) hst.size⟩
 exact ⟨v,x,β,H,F,rfl,hK,hst'.sim hs,hst'.later,Ag5 hsc hx⟩
theorem Hm.ofF {β β':Nat→Nat→Option (Nat×Nat)} {H:List Ob} {F F':Nat→Prop} {w:World} (h:∀ b,F b→F' b):Hm ⟨β,[],F⟩ w ⟨β',H,F'⟩ w :=
 ⟨fun b hb=>⟨h b hb,rfl⟩,fun id v h=>by obtain ⟨o,h,_⟩:=h; simp at h,fun _ _=>rfl⟩
mutual
def frs (H:List Ob):TV→Option TV
 | .val v=>some (.val v)
 | .any=>some .any
 | .os k id ver p off n cp=>match H[id]? with
  | some (.obj v x)=>if v=ver then (match DV p k off n x with
   | some cs=>if Oy cs then some (.sl k cs) else none
   | none=>none) else none
  | _=>none
 | .agg cs=>(Yv H cs).map .agg
 | .arr n k cs=>if Oy cs then some (.arr n k cs) else none
 | .tup cs=>(Yv H cs).map .tup
 | .ifc t x=>(frs H x).map (.ifc t)
 | _=>none
def Yv (H:List Ob):List TV→Option (List TV)
 | []=>some []
 | x::xs=>match frs H x,Yv H xs with
  | some x,some xs=>some (x::xs)
  | _,_=>none
end
def Ctx.mine (c:Ctx):Ctx:=⟨c.β,[],c.own⟩
theorem WH {p:List (Nat×Nat)} {k off:Nat} {x:TV} {cs:List TV} (h:DV p k off 0 x=some cs):cs=[]:=by
 unfold DV at h
 split at h
 ·split at h
  ·cases h; simp
  ·cases h
 ·cases h
mutual
theorem Wn {c:Ctx} {w:World} (hs:Sim c w):∀ {x x':TV} {us:List Value},frs c.H x=some x'→Ag c w x us→Ag c.mine w x' us
 | .val y,x',us,hf,hr=>by simp only [frs,Option.some.injEq] at hf; subst hf; rw [Ag] at hr ⊢; exact hr
 | .any,x',us,hf,hr=>by simp only [frs,Option.some.injEq] at hf; subst hf; rw [Ag] at hr ⊢; exact hr
 | .mp _ _,x',us,hf,hr=>by simp [frs] at hf
 | .yl _ _,x',us,hf,hr=>by simp [frs] at hf
 | .sl k cs,x',us,hf,hr=>by simp [frs] at hf
 | .fp x,x',us,hf,hr=>by simp [frs] at hf
 | .op id ver p,x',us,hf,hr=>by simp [frs] at hf
 | .fn f a b,x',us,hf,hr=>by simp [frs] at hf
 | .os k id ver p off n cp,x',us,hf,hr=>by
  rw [Ag] at hr
  obtain ⟨hr1,hr2⟩:=hr
  rw [frs] at hf
  split at hf
  ·rename_i ver' x hid
   split at hf
   ·rename_i e; subst e
    split at hf
    ·rename_i cs hcs
     split at hf
     ·rename_i hsc
      cases hf
      rcases hr2 with ⟨rfl,a0,hr2,_⟩ | ⟨b0,o0,cap,t0,m0,hr2,hr3,hr4,hr5,hr6,hr7⟩
      ·have:=WH hcs
       subst this
       rw [Ag]
       exact ⟨by simp,.inl ⟨rfl,a0,0,hr2,by omega⟩⟩
      rcases hs.ob id _ hid with ⟨h0,_⟩ | ⟨b,off',pre,vs,post,t,fr,h0,h1,h2,h3,h4⟩
      ·rw [h0] at hr2; cases hr2
      rw [h0] at hr2
      obtain ⟨rfl,rfl⟩:b=b0∧off'=o0:=by simpa using hr2
      obtain ⟨a,m,q,rfl,k1,k2,k3,k4⟩:=J4 h4 hcs
      rw [Ag]
      refine ⟨k3,.inr ⟨b,off'+C9 p+off*k,cap,m,by rw [k4]; exact hr3,by omega,hr5,⟨id,_,off',hid,rfl,h0⟩,JM hsc k2,?_⟩⟩
      have e:off'+C9 p+off*k=pre.length+a.length:=by rw [h3,k1]; omega
      rw [e]; exact Ir h1
     ·cases hf
    ·cases hf
   ·cases hf
  ·cases hf
 | .agg cs,x',us,hf,hr=>by
  simp only [frs,Option.map_eq_some_iff] at hf
  obtain ⟨ds,hds,rfl⟩:=hf
  rw [Ag] at hr ⊢
  exact XR hs hds hr
 | .arr n k cs,x',us,hf,hr=>by
  rw [frs] at hf
  split at hf
  ·rename_i hsc; cases hf; rw [Ag] at hr ⊢; exact ⟨hr.1,hr.2.1,JM hsc hr.2.2⟩
  ·cases hf
 | .tup cs,x',us,hf,hr=>by rw [Ag] at hr; exact hr.elim
 | .ifc t x,x',us,hf,hr=>by
  simp only [frs,Option.map_eq_some_iff] at hf
  obtain ⟨y,hy,rfl⟩:=hf
  rw [Ag] at hr ⊢
  obtain ⟨u,h1,vs,h2,h3⟩:=hr
  exact ⟨u,h1,vs,Wn hs hy h2,by rw [h3]; exact Zb hy vs⟩
theorem XR {c:Ctx} {w:World} (hs:Sim c w):∀ {xs xs':List TV} {us:List Value},Yv c.H xs=some xs'→Ah c w xs us→Ah c.mine w xs' us
 | [],xs',us,hf,hr=>by simp only [Yv,Option.some.injEq] at hf; subst hf; rw [Ah] at hr ⊢; exact hr
 | x::xs,xs',us,hf,hr=>by
  rw [Yv] at hf
  split at hf
  ·rename_i y ys hy hys
   cases hf
   rw [Ah] at hr ⊢
   obtain ⟨u,us,h1,h2,h3⟩:=hr
   exact ⟨u,us,h1,Wn hs hy h2,XR hs hys h3⟩
  ·cases hf
theorem Zb {H:List Ob}:∀ {x x':TV} (hf:frs H x=some x') (us:List Value),mkV x us=mkV x' us
 | .val y,x',hf,us=>by simp only [frs,Option.some.injEq] at hf; subst hf; rfl
 | .any,x',hf,us=>by simp only [frs,Option.some.injEq] at hf; subst hf; rfl
 | .mp _ _,x',hf,us=>by simp [frs] at hf
 | .yl _ _,x',hf,us=>by simp [frs] at hf
 | .sl k cs,x',hf,us=>by simp [frs] at hf
 | .fp x,x',hf,us=>by simp [frs] at hf
 | .op id ver p,x',hf,us=>by simp [frs] at hf
 | .fn f a b,x',hf,us=>by simp [frs] at hf
 | .os k id ver p off n cp,x',hf,us=>by
  rw [frs] at hf
  split at hf
  ·split at hf
   ·split at hf
    ·split at hf
     ·cases hf; rfl
     ·cases hf
    ·cases hf
   ·cases hf
  ·cases hf
 | .agg cs,x',hf,us=>by
  simp only [frs,Option.map_eq_some_iff] at hf
  obtain ⟨ds,hds,rfl⟩:=hf; rfl
 | .arr n k cs,x',hf,us=>by
  rw [frs] at hf
  split at hf
  ·cases hf; rfl
  ·cases hf
 | .tup cs,x',hf,us=>by
  simp only [frs,Option.map_eq_some_iff] at hf
  obtain ⟨ds,hds,rfl⟩:=hf; rfl
 | .ifc t x,x',hf,us=>by
  simp only [frs,Option.map_eq_some_iff] at hf
  obtain ⟨y,hy,rfl⟩:=hf; rfl
end
theorem Aaf {c:Ctx} {w:World} (hs:Sim c w):∀ {xs xs':List TV} {vs:List Value},Yv c.H xs=some xs'→AY c w xs vs→AY c.mine w xs' vs
 | [],xs',vs,hf,hr=>by simp only [Yv,Option.some.injEq] at hf; subst hf; rw [AY] at hr ⊢; exact hr
 | x::xs,xs',vs,hf,hr=>by
  rw [Yv] at hf
  split at hf
  ·rename_i y ys hy hys
   cases hf
   rw [AY] at hr ⊢
   obtain ⟨u,us,h1,h2,h3⟩:=hr
   refine ⟨u,us,h1,?_,Aaf hs hys h3⟩
   rcases h2 with rfl | rfl | ⟨aS,h2,h4⟩
   ·simp only [frs,Option.some.injEq] at hy; subst hy; exact .inl rfl
   ·simp only [frs,Option.some.injEq] at hy; subst hy; exact .inr (.inl rfl)
   ·exact .inr (.inr ⟨aS,Wn hs hy h2,by rw [h4]; exact Zb hy aS⟩)
  ·cases hf
theorem AfM {c:Ctx} {w:World} (hs:Sim c w) {x x':TV} {v:Value} (hf:frs c.H x=some x') (hr:Rep c w x v):Rep c.mine w x' v:=by
 rcases hr with (h | h | ⟨us,h,h'⟩) | ⟨xs,vs,rfl,h2,h3⟩
 ·subst h; simp only [frs,Option.some.injEq] at hf; subst hf; exact Rep.any
 ·subst h; simp only [frs,Option.some.injEq] at hf; subst hf; exact Rep.of_val
 ·exact .inl (.inr (.inr ⟨us,Wn hs hf h,by rw [h']; exact Zb hf us⟩))
 ·simp only [frs,Option.map_eq_some_iff] at hf
  obtain ⟨ds,hds,rfl⟩:=hf
  exact .inr ⟨ds,vs,rfl,h2,Aaf hs hds h3⟩
def LK (P:Program) (f:FuncId) (args:List TV) (R:TV→Prop):Prop :=
 ∀ (β:Nat→Nat→Option (Nat×Nat)) (F:Nat→Prop) (w:World) (vs:List Value),((∀ b,F b→b<w.heap.size)∧MB F w)→AY ⟨β,[],F⟩ w args vs →
  Calls P f vs.toArray w fun e w'=>∃ v x F',e = .returned v∧R x∧Rep ⟨β,[],fun b=>F' b∧w.heap.size≤b⟩ w' x v∧MS F w F' w'
theorem LK.mono {f:FuncId} {args:List TV} {R R':TV→Prop} (h:LK P f args R) (hr:∀ x,R x→R' x):LK P f args R' :=
 fun β F w vs hF hv=>(h β F w vs hF hv).mono fun _ _ ⟨v,x,F',h1,h2,h3⟩=>⟨v,x,F',h1,hr _ h2,h3⟩
theorem LK.pure {f:FuncId} {args:List TV} {R:TV→Prop} (h:LK P f args R):NF P f args R :=
 fun β F w vs hF hv=>(h β F w vs hF hv).mono fun _ _ ⟨v,x,F',h1,h2,h3,h4⟩=>⟨v,x,F',h1,h2,Rep.mono (Hm.ofF (F:=fun b=>F' b∧w.heap.size≤b) (F':=F') fun b hb=>hb.1) h3,h4⟩
theorem Au.toFresh {f:FuncId} {args:List TV} {R:TV→Prop} (h:Au P f args [] fun x H'=>match frs H' x with | some y=>R y | none=>False):LK P f args R:=by
 intro β F w vs hF hv
 have hs:Sim ⟨β,[],F⟩ w:=⟨fun id o ho=>by simp at ho,fun i j x y b o o' hx=>by simp at hx,fun b hb=>by obtain ⟨i,o,off,h1,_⟩:=hb; simp at h1,hF.1,hF.2⟩
 refine (h β F w vs hs hv).mono ?_
 rintro _ w' ⟨v,x,β',H',F',rfl,hR,hs',hl,hx⟩
 split at hR
 ·rename_i y hy
  have hno:∀ b,¬ Ctx.own ⟨β,[],F⟩ b:=fun b hb=>by obtain ⟨i,o,off,h1,_⟩:=hb; simp at h1
  have hr:=AfM hs' hy hx
  have hnew:∀ b,Ctx.own ⟨β',H',F'⟩ b→w.heap.size≤b:=fun b hb=>by
   rcases Nat.lt_or_ge b w.heap.size with h1 | h1
   ·exact absurd (hl.oldOwn b h1 hb) (hno b)
   ·exact h1
  refine ⟨v,y,fun b=>F b∨Ctx.own ⟨β',H',F'⟩ b,rfl,hR,?_,⟨hl.os,hl.tape,hl.output,hl.size,fun b hb=>hl.same b hb (hno b),fun b hb => .inl hb,fun b hb hF'=>hF'.elim id fun h => ?_,fun b hF'=>hF'.elim (fun h=>Nat.lt_of_lt_of_le (hF.1 b h) hl.size) hs'.own_lt⟩⟩
  ·exact Rep.mono (Hm.ofF (F:=Ctx.own ⟨β',H',F'⟩) (F':=fun b=>(F b∨Ctx.own ⟨β',H',F'⟩ b)∧w.heap.size≤b) fun b hb=>⟨.inr hb,hnew b hb⟩) hr
  ·have:=hnew b h; omega
 ·exact hR.elim
theorem LK.lends {f:FuncId} {args args':List TV} {R:TV→Prop} {H:List Ob} {K:TV→List Ob→Prop} (h:LK P f args' R) (hp:AjH H args=some args') (hk:∀ x,R x→K x H):Au P f args H K:=by
 intro β F w vs hs hv
 refine (h β (fun b=>F b∨Ctx.own ⟨β,H,F⟩ b) w vs ⟨fun b hb=>hb.elim (hs.lt b) hs.own_lt,hs.glob.keep fun b hb=>⟨.inl hb,rfl⟩⟩ (Zo hs hp hv)).mono ?_
 rintro _ w' ⟨v,x,F',rfl,hR,hx,hst⟩
 have hst':MS F w (fun b=>F b∨(F' b∧w.heap.size≤b)) w':=⟨hst.os,hst.tape,hst.output,hst.size,hst.same,fun _ h => .inl h,fun b hb h=>h.elim id fun h=>by omega,fun b hb=>hb.elim (fun h=>Nat.lt_of_lt_of_le (hs.lt b h) hst.size) fun h=>hst.ltF b h.1⟩
 refine ⟨v,x,β,H,_,rfl,hk x hR,hst'.sim hs,hst'.later,Rep.mono (Hm.ofF (F:=fun b=>F' b∧w.heap.size≤b) (F':=fun b=>F b∨(F' b∧w.heap.size≤b)) fun b hb => .inr hb) hx⟩
end
end
section
open Go.RowKit
variable [A7]
set_option autoImplicit false
theorem Aa {α:Sort _} {a b:α} (h:a=b):a=b:=h
abbrev i64 (n:Int):TV := .val (.int .i64 n)
abbrev tb (b:Bool):TV := .val (.bool b)
abbrev ts (l:List UInt8):TV := .val (.string (str l))
abbrev slB (l:List UInt8):TV := .sl 1 (l.map by8)
abbrev slS (l:List (List UInt8)):TV := .sl 1 (l.map ts)
section
variable {P:Program} {e:Env} {H:List Ob}
theorem IJ {x:Opd} {K:TV→Prop}:pop (.mov x) e H K=(K (x.ev e)):=Aa rfl
theorem XF {c:Opd} {a:Opd} {b:Opd} {K:TV→Prop}:pop (.pick c a b) e H K=(match c.ev e with
  | .val (.bool t)=>K (if t then a.ev e else b.ev e)
  | _=>False):=Aa rfl
theorem KY {t:TypeId} {op:BinOp} {x:Opd} {y:Opd} {K:TV→Prop}:pop (.bin t op x y) e H K=(match x.ev e,y.ev e with
  | .val u,.val v=>Ad1 u v=true∧(match Ei t op u v with | some r=>K (.val r) | none=>False)
  | _,_=>False):=Aa rfl
theorem Akr {k:IntKind} {x:Opd} {K:TV→Prop}:pop (.conv k x) e H K=(match x.ev e with
  | .val (.int _ n)=>K (.val (.int k (k.wrap n)))
  | _=>False):=Aa rfl
theorem Apy {x:Opd} {K:TV→Prop}:pop (.b2s x) e H K=(match BA H 1 (x.ev e) with
  | some cs=>(∀ y∈cs,Abj y)∧K (.val (.string (str (cs.map TT))))
  | none=>False):=Aa rfl
theorem Po {ag:Bool} {sz:Nat} {x:Opd} {K:TV→Prop}:pop (.load ag sz x) e H K=(match x.ev e with
  | .fp y=>V7 ag sz y∧K y
  | .op id ver p=>(match H[id]? with
   | some (.obj v x)=>v=ver∧(match J5 p x with | some y=>V7 ag sz y∧K y | none=>False)
   | _=>False)
  | _=>False):=Aa rfl
theorem Nu {i:Nat} {off:Nat} {x:Opd} {K:TV→Prop}:pop (.fieldA i off x) e H K=(match x.ev e with
  | .op id ver p=>K (.op id ver (p++[(i,off)]))
  | .fp (.agg cs)=>Bv (cs.take i)=off∧(match cs[i]? with | some y=>K (.fp y) | none=>False)
  | _=>False):=Aa rfl
theorem Xo {k:Nat} {x:Opd} {i:Opd} {K:TV→Prop}:pop (.idxA k x i) e H K=(match x.ev e,i.ev e with
  | .sl k' cs,.val (.int _ j)=>k'=k∧0≤j∧(match cs[j.toNat]? with | some y=>K (.fp y) | none=>False)
  | .os k' id ver p off n cp,.val (.int _ j)=>k'=k∧0≤j∧j<n∧K (.op id ver (p++[(off+j.toNat,(off+j.toNat)*k)]))
  | _,_=>False):=Aa rfl
theorem AoJ {n:Nat} {k:Nat} {x:Opd} {i:Opd} {K:TV→Prop}:pop (.idxAA n k x i) e H K=(match x.ev e,i.ev e with
  | .fp (.arr n' k' cs),.val (.int _ j)=>k'=k∧n'=n∧0≤j∧(match cs[j.toNat]? with | some y=>K (.fp y) | none=>False)
  | .op id ver p,.val (.int _ j)=>0≤j∧j<n∧K (.op id ver (p++[(j.toNat,j.toNat*k)]))
  | _,_=>False):=Aa rfl
theorem Ql {x:Opd} {K:TV→Prop}:pop (.lenV x) e H K=(match x.ev e with
  | .val (.slice _ n _)=>K (.val (.int .i64 n))
  | .sl _ cs=>K (.val (.int .i64 cs.length))
  | .os _ _ _ _ _ n _=>K (.val (.int .i64 n))
  | _=>False):=Aa rfl
theorem Ahp {k:Nat} {x:Opd} {lo:Option Opd} {hi:Option Opd} {K:TV→Prop}:pop (.slV k x lo hi) e H K=(match x.ev e with
  | .sl k' cs=>k'=k∧bnd e lo hi cs.length cs.length fun l h=>K (.sl k ((cs.drop l).take (h - l)))
  | .os k' id ver p off n cp=>k'=k∧bnd e lo hi n cp fun l h=>K (.os k id ver p (off+l) (h - l) (cp - l))
  | .val (.slice ad 0 0)=>bnd e lo hi 0 0 fun l h=>K (.val (.slice ad 0 0))
  | _=>False):=Aa rfl
theorem Anf {n:Nat} {k:Nat} {x:Opd} {lo:Option Opd} {hi:Option Opd} {K:TV→Prop}:pop (.slA n k x lo hi) e H K=(match x.ev e with
  | .fp (.arr n' k' cs)=>k'=k∧n'=n∧n≤9223372036854775807∧bnd e lo hi n n fun l h=>K (.sl k ((cs.drop l).take (h - l)))
  | .op id ver p=>(match H[id]? with
   | some (.obj v x)=>v=ver∧n≤9223372036854775807∧(match J5 p x with | some (.arr n' k' cs)=>k'=k∧n'=n∧bnd e lo hi n n fun l h=>K (.os k id ver p l (h - l) (n - l)) | _=>False)
   | _=>False)
  | _=>False):=Aa rfl
theorem AhC {t:TypeId} {x:Opd} {K:TV→Prop}:pop (.iface t x) e H K=(lays (x.ev e)=true∧K (.ifc t (x.ev e))):=Aa rfl
theorem Am8 {f:Fn} {first:List Opd} {caps:List Opd} {K:TV→Prop}:pop (.mkf f first caps) e H K=((∀ x∈first++caps,CE (x.ev e)=false)∧K (.fn f (first.map (·.ev e)) (caps.map (·.ev e)))):=Aa rfl
theorem U2 {x:Opd} {K:TV→Prop}:pop (.nilc x) e H K=(match x.ev e with
  | .op id ver p=>K (.op id ver p)
  | .fp y=>K (.fp y)
  | .fn (.func f) a b=>K (.fn (.func f) a b)
  | .ifc t y=>K (.ifc t y)
  | .val (.func (.func f) a b)=>K (.val (.func (.func f) a b))
  | _=>False):=Aa rfl
theorem Alr {kd:Nat} {x:Opd} {y:Opd} {neg:Bool} {K:TV→Prop}:pop (.eqN kd x y neg) e H K=(match Dc kd (x.ev e),Dc kd (y.ev e) with
  | some true,some b=>K (.val (.bool (xor neg b)))
  | some false,some true=>K (.val (.bool (xor neg false)))
  | _,_=>False):=Aa rfl
theorem AcK {z:TV} {K:TV→List Ob→Prop}:sop P (.alloc z) e H K=(K (.op H.length 0 []) (H++[.obj 0 z])):=Aa rfl
theorem Agy {k:Nat} {n:Nat} {z:TV} {ps:List (Nat×Opd)} {K:TV→List Ob→Prop}:sop P (.bslice k n z ps) e H K=((DD e (List.replicate n k) ps∧Bg e ps∧n≤1000)∧K (.os k H.length 0 [] 0 n n) (H++[.obj 0 (.arr n k (EE e (List.replicate n z) ps))])):=Aa rfl
theorem Pn {sz:Nat} {x:Opd} {v:Opd} {K:TV→List Ob→Prop}:sop P (.store sz x v) e H K=((lays (v.ev e)=true∧Aw (v.ev e)=sz)∧(match x.ev e with
  | .op id ver p=>(match H[id]? with
   | some (.obj vr y)=>vr=ver∧(match QO p y (v.ev e) with | some y'=>K .any (H.set id (.obj ver y')) | none=>False)
   | _=>False)
  | _=>False)):=Aa rfl
theorem XY {f:FuncId} {args:List Opd} {K:TV→List Ob→Prop}:sop P (.call f args) e H K=((∀ x∈args,CE (x.ev e)=false)∧Au P f (args.map (·.ev e)) H K):=Aa rfl
theorem AiT {x:Opd} {args:List Opd} {K:TV→List Ob→Prop}:sop P (.callv x args) e H K=((∀ x∈args,CE (x.ev e)=false)∧(match x.ev e with
  | .fn (.func f) first caps=>SK P f=true∧Au P f (first++args.map (·.ev e)++caps) H K
  | .val (.func (.func f) xs ys)=>(xs.isEmpty && ys.isEmpty)=true∧SK P f=true∧Au P f (args.map (·.ev e)) H K
  | .yl id ver=>OH P id ver (args.map (·.ev e)) H K
  | _=>False)):=Aa rfl
theorem IE {l:List VO} {kp:List Nat} {Q:VEx→Env→List Ob→Prop}:vwp P (.ops l kp) Q e H=(TK P l (fun e H=>Q .nor (forget kp e) H) e H):=Aa rfl
theorem Aha {n:Nat} {l:List VO} {kp:List Nat} {Q:VEx→Env→List Ob→Prop}:vwp P (.draw n l kp) Q e H=(vq P (l.take n) (fun e=>TK P (l.drop n) (fun e H=>Q .nor (forget kp e) H) e H) e H):=Aa rfl
theorem OV  {Q:VEx→Env→List Ob→Prop}:vwp P (.skip ) Q e H=(Q .nor e H):=Aa rfl
theorem IC {a:Ad} {b:Ad} {Q:VEx→Env→List Ob→Prop}:vwp P (.seq a b) Q e H=(vwp P a (fun x e H=>match x with | .nor=>vwp P b Q e H | .exit i=>Q (.exit i) e H | .ret=>Q .ret e H | .pan u=>Q (.pan u) e H) e H):=Aa rfl
theorem EF {c:Opd} {a:Ad} {b:Ad} {Q:VEx→Env→List Ob→Prop}:vwp P (.cond c a b) Q e H=(match c.ev e with
  | .val (.bool t)=>if t=true then vwp P a Q e H else vwp P b Q e H
  | _=>False):=Aa rfl
theorem IG {id:Nat} {c:Ad} {Q:VEx→Env→List Ob→Prop}:vwp P (.block id c) Q e H=(vwp P c (fun x e H=>match x with | .nor=>Q .nor e H | .exit i=>if i=id then Q .nor e H else Q (.exit i) e H | .ret=>Q .ret e H | .pan u=>Q (.pan u) e H) e H):=Aa rfl
theorem Yb {lv:List Nat} {c:Ad} {Q:VEx→Env→List Ob→Prop} {H0:List Ob}:vwp P (.loop lv c) Q e H0=(∃ (I:Nat→Env→List Ob→Prop) (n:Nat),I n (forget lv e) H0 ∧
   ∀ n e H,I n e H→vwp P c (fun x e H=>match x with | .nor=>∃ m g,m<n∧(H0.length≤g∧(H.length≤g∨(Qo g (forget lv e)=true∧Rx g (H.take g)=true)))∧I m (forget lv e) (H.take g) | .exit i=>Q (.exit i) e H | .ret=>Q .ret e H | .pan u=>Q (.pan u) e H) e H):=Aa rfl
theorem Xl {id:Nat} {Q:VEx→Env→List Ob→Prop}:vwp P (.exit id) Q e H=(Q (.exit id) e H):=Aa rfl
theorem P5  {Q:VEx→Env→List Ob→Prop}:vwp P (.ret ) Q e H=(Q .ret e H):=Aa rfl
theorem Aik {c:Ad} {Q:VEx→Env→List Ob→Prop}:vwp P (.scope c) Q e H=(vwp P c Q e H):=Aa rfl
theorem Apv {s k:Nat} {c:Ad} {Q:VEx→Env→List Ob→Prop}:vwp P (.own s k c) Q e H=(match get e s with
  | .val (.slice none 0 0)=>vwp P c Q ((s,.os k H.length 0 [] 0 0 0)::e) (H++[.obj 0 (.arr 0 k [])])
  | _=>vwp P c Q e H):=Aa rfl
theorem Amc {s k:Nat} {p:List (Nat×Nat)} {c:Ad} {Q:VEx→Env→List Ob→Prop}:vwp P (.ownB s p k c) Q e H=(match get e s with
  | .op id ver p0=>(match H[id]? with
   | some (.obj v x)=>v=ver∧(match J5 (p0++p) x with
    | some (.val (.slice none 0 0))=>(match QO (p0++p) x (.os k H.length 0 [] 0 0 0) with
     | some x'=>vwp P c Q e (H.set id (.obj ver x')++[.obj 0 (.arr 0 k [])])
     | none=>False)
    | _=>vwp P c Q e H)
   | _=>False)
  | _=>False):=Aa rfl
theorem Akc {s:Nat} {t:TypeId} {p:List (Nat×Nat)} {c:Ad} {Q:VEx→Env→List Ob→Prop}:vwp P (.ownT s p t c) Q e H=(match get e s with
  | .op id ver p0=>(match H[id]? with
   | some (.obj v x)=>v=ver∧(match J5 (p0++p) x with
    | some (.val (.slice none 0 0))=>(match QO (p0++p) x (.os 1 H.length 0 [] 0 0 0) with
     | some x'=>vwp P c Q e (H.set id (.obj ver x')++[.bld 0 t []])
     | none=>False)
    | _=>vwp P c Q e H)
   | _=>False)
  | _=>False):=Aa rfl
theorem Bc {K:Env→List Ob→Prop}:TK P [] K e H=K e H:=Aa rfl
theorem Dl {d:Nat} {o:POp} {r:List VO} {K:Env→List Ob→Prop}:TK P (⟨some d,.p o,none⟩::r) K e H=pop o e H fun x=>TK P r K ((d,x)::e) H:=Aa rfl
theorem VN {d:Nat} {o:SOp} {r:List VO} {K:Env→List Ob→Prop}:TK P (⟨some d,.s o,none⟩::r) K e H=sop P o e H fun x H=>TK P r K ((d,x)::e) H:=Aa rfl
theorem NE {o:SOp} {r:List VO} {K:Env→List Ob→Prop}:TK P (⟨none,.s o,none⟩::r) K e H=sop P o e H fun x H=>TK P r K e H:=Aa rfl
theorem VB {d s:Nat} {o:VOp} {b:Bool} {r:List VO} {K:Env→List Ob→Prop}:TK P (⟨some d,o,some (s,b)⟩::r) K e H=UN e s fun e q=>match q with
 | some t=>if t=b then vop P o e H (fun x H=>TK P r K ((d,x)::e) H) else TK P r K ((d,.val undef)::e) H
 | none=>TK P r K ((d,.val undef)::e) H:=Aa rfl
theorem UB {s:Nat} {Q:Env→Option Bool→Prop}:UN e s Q=(match get e s with
 | .val v=>Q e (isB v)
 | .any=>(∀ t,Q ((s,.val (.bool t))::e) (some t))∧∀ v,isB v=none→Q ((s,.val v)::e) none
 | _=>False):=Aa rfl
theorem Rn {b:Bool}:isB (.bool b)=some b:=Aa rfl
theorem Acu:isB undef=none:=Aa rfl
theorem Adm {o:POp} {K:TV→List Ob→Prop}:vop P (.p o) e H K=pop o e H fun x=>K x H:=Aa rfl
theorem Am1 {o:SOp} {K:TV→List Ob→Prop}:vop P (.s o) e H K=sop P o e H K:=Aa rfl
theorem AcJ {K:Env→Prop}:vq P [] K e H=K e:=Aa rfl
theorem Anl {d:Nat} {o:POp} {r:List VO} {K:Env→Prop}:vq P (⟨some d,.p o,none⟩::r) K e H=pop o e H fun x=>vq P r K ((d,x)::e) H:=Aa rfl
theorem ApD {d:Nat} {f:FuncId} {args:List Opd} {r:List VO} {K:Env→Prop}:vq P (⟨some d,.s (.call f args),none⟩::r) K e H=((∀ x∈args,CE (x.ev e)=false)∧∃ x,Au P f (args.map (·.ev e)) H (fun y H'=>y=x∧H'=H)∧vq P r K ((d,x)::e) H):=Aa rfl
theorem AiS {o:POp} {k:TV→Prop}:Vj P (.p o) e H k=pop o e H k:=Aa rfl
theorem Aiq {f:FuncId} {args:List Opd} {k:TV→Prop}:Vj P (.s (.call f args)) e H k=((∀ x∈args,CE (x.ev e)=false)∧∃ x,Au P f (args.map (·.ev e)) H (fun y H'=>y=x∧H'=H)∧k x):=Aa rfl
variable {t:TypeId} {a b:Int} {k:IntKind}
theorem EP {n:Int} (h1 : -9223372036854775808≤n) (h2:n≤9223372036854775807):IntKind.i64.wrap n=n:=by rw [IntKind.wrap_i64]; omega
theorem Xv (h1 : -9223372036854775808≤a+b) (h2:a+b≤9223372036854775807):Ei t .add (.int .i64 a) (.int .i64 b)=some (.int .i64 (a+b)):=by
 rw [show Ei t .add (.int .i64 a) (.int .i64 b)=some (.int .i64 (IntKind.i64.wrap (a+b))) from rfl,EP h1 h2]
theorem Alm (h1 : -9223372036854775808≤a - b) (h2:a - b≤9223372036854775807):Ei t .sub (.int .i64 a) (.int .i64 b)=some (.int .i64 (a - b)):=by
 rw [show Ei t .sub (.int .i64 a) (.int .i64 b)=some (.int .i64 (IntKind.i64.wrap (a - b))) from rfl,EP h1 h2]
theorem YD (h1 : -9223372036854775808≤a*b) (h2:a*b≤9223372036854775807):Ei t .mul (.int .i64 a) (.int .i64 b)=some (.int .i64 (a*b)):=by
 rw [show Ei t .mul (.int .i64 a) (.int .i64 b)=some (.int .i64 (IntKind.i64.wrap (a*b))) from rfl,EP h1 h2]
theorem XP:Ei t .eql (.int k a) (.int k b)=some (.bool (decide (a=b))):=by
 rw [show Ei t .eql (.int k a) (.int k b)=some (.bool (a == b)) from by simp [Ei,binOp,Op.intCmp]; rfl]; rfl
theorem AbW:Ei t .neq (.int k a) (.int k b)=some (.bool (!decide (a=b))):=by
 rw [show Ei t .neq (.int k a) (.int k b)=some (.bool (a != b)) from by simp [Ei,binOp,Op.intCmp]; rfl]; rfl
theorem Tz:Ei t .lss (.int k a) (.int k b)=some (.bool (decide (a<b))):=by simp [Ei,binOp,Op.intCmp]; rfl
theorem AmT:Ei t .leq (.int k a) (.int k b)=some (.bool (decide (a≤b))):=by simp [Ei,binOp,Op.intCmp]; rfl
theorem Y8:Ei t .gtr (.int k a) (.int k b)=some (.bool (decide (b<a))):=by simp [Ei,binOp,Op.intCmp]; rfl
theorem AnJ:Ei t .geq (.int k a) (.int k b)=some (.bool (decide (b≤a))):=by simp [Ei,binOp,Op.intCmp]; rfl
theorem AdI:Dc 0 (.val (.pointer none))=some true:=Aa rfl
theorem Ab7 {i v:Nat} {p:List (Nat×Nat)}:Dc 0 (.op i v p)=some false:=Aa rfl
theorem Abm {x:TV}:Dc 0 (.fp x)=some false:=Aa rfl
theorem UK:Dc 1 (.val .nilIface)=some true:=Aa rfl
theorem VK {t:TypeId} {x:TV}:Dc 1 (.ifc t x)=some false:=Aa rfl
theorem AdN:Dc 2 (.val (.map none))=some true:=Aa rfl
theorem AbJ {i v:Nat}:Dc 2 (.mp i v)=some false:=Aa rfl
theorem Aco {i v:Nat}:Dc 3 (.yl i v)=some false:=Aa rfl
theorem AdX:Dc 3 (.val .nilFunc)=some true:=Aa rfl
theorem AbV {f:Fn} {a b:List TV}:Dc 3 (.fn f a b)=some false:=Aa rfl
theorem all_cons {α:Type} {p:α→Prop} {a:α} {l:List α}:(∀ x∈a::l,p x)=(p a∧∀ x∈l,p x):=propext List.forall_mem_cons
theorem all_nil {α:Type} {p:α→Prop}:(∀ x∈([]:List α),p x)=True:=propext ⟨fun _=>trivial,fun _ x h=>by cases h⟩
theorem Amz {n:Int} (h0:0≤n) (h1:n<18446744073709551616):(BitVec.ofInt 64 n).toNat=n.toNat:=by
 rw [BitVec.toNat_ofInt]
 have:n % ((2 ^ 64:Nat):Int)=n:=Int.emod_eq_of_lt h0 (by simpa using h1)
 rw [this]
theorem Afi (h1:0≤a) (h2:a≤9223372036854775807) (h3:0≤b) (h4:b≤9223372036854775807):Ei t .and (.int .i64 a) (.int .i64 b)=some (.int .i64 ((a.toNat &&& b.toNat:Nat):Int)):=by
 rw [show Ei t .and (.int .i64 a) (.int .i64 b)=some (.int .i64 (IntKind.i64.wrap ((BitVec.ofInt 64 a &&& BitVec.ofInt 64 b).toNat:Int))) from rfl,BitVec.toNat_and,Amz h1 (by omega),Amz h3 (by omega)]
 have:=Nat.and_le_left (n:=a.toNat) (m:=b.toNat)
 rw [EP (by omega) (by omega)]
theorem An9 (h1:0≤a) (h2:a≤9223372036854775807) (h3:0≤b) (h4:b≤9223372036854775807):Ei t .or (.int .i64 a) (.int .i64 b)=some (.int .i64 ((a.toNat ||| b.toNat:Nat):Int)):=by
 rw [show Ei t .or (.int .i64 a) (.int .i64 b)=some (.int .i64 (IntKind.i64.wrap ((BitVec.ofInt 64 a ||| BitVec.ofInt 64 b).toNat:Int))) from rfl,BitVec.toNat_or,Amz h1 (by omega),Amz h3 (by omega)]
 have:=Nat.or_lt_two_pow (n:=63) (x:=a.toNat) (y:=b.toNat) (by omega) (by omega)
 rw [EP (by omega) (by omega)]
theorem Ail {k2:IntKind} (h1:0≤b) (h2:b≤63) (h3:0≤a*2 ^ b.toNat) (h4:a*2 ^ b.toNat≤9223372036854775807):Ei t .shl (.int .i64 a) (.int k2 b)=some (.int .i64 (a*2 ^ b.toNat)):=by
 have e:binOp .shl t (.int .i64 a) (.int k2 b)=pure (.int .i64 (a*2 ^ b.toNat)):=by
  show Op.shift .shl .i64 a k2 b=_
  unfold Op.shift
  rw [if_neg (by omega)]
  have hm:min b.toNat IntKind.i64.bits=b.toNat:=by
   have:IntKind.i64.bits=64:=rfl
   omega
  simp only [hm]
  rw [EP (by omega) h4]
 unfold Ei; rw [e]; rfl
theorem Ajb {k2:IntKind} (h1:0≤b) (h2:b≤63) (h3:0≤a):Ei t .shr (.int .i64 a) (.int k2 b)=some (.int .i64 (a / 2 ^ b.toNat)):=by
 have e:binOp .shr t (.int .i64 a) (.int k2 b)=pure (.int .i64 (a / 2 ^ b.toNat)):=by
  show Op.shift .shr .i64 a k2 b=_
  unfold Op.shift
  rw [if_neg (by omega)]
  have hm:min b.toNat IntKind.i64.bits=b.toNat:=by
   have:IntKind.i64.bits=64:=rfl
   omega
  simp only [hm]
  rw [Int.fdiv_eq_ediv_of_nonneg _ (by exact Int.le_of_lt (Int.pow_pos (by omega)))]
 unfold Ei; rw [e]; rfl
theorem AlE (h1:0≤a) (h2:b≠0):Ei t .rem (.int k a) (.int k b)=some (.int k (a % b)):=by
 have e:binOp .rem t (.int k a) (.int k b)=pure (.int k (a % b)):=by
  unfold binOp
  simp only [ne_eq,not_true_eq_false,if_false,Op.intDiv,h2,Int.tmod_eq_emod_of_nonneg h1]
 unfold Ei; rw [e]; rfl
theorem Aor (h1:0≤a) (h2:0<b) (h3:a≤9223372036854775807):Ei t .quo (.int .i64 a) (.int .i64 b)=some (.int .i64 (a / b)):=by
 have e:binOp .quo t (.int .i64 a) (.int .i64 b)=pure (.int .i64 (a / b)):=by
  unfold binOp
  simp only [ne_eq,not_true_eq_false,if_false,Op.intDiv,show ¬ b=0 from by omega,Int.tdiv_eq_ediv_of_nonneg h1]
  have h4:a / b≤a:=Int.ediv_le_self _ h1
  have h5:0≤a / b:=Int.ediv_nonneg h1 (by omega)
  rw [EP (by omega) (by omega)]
 unfold Ei; rw [e]; rfl
theorem Ahg {x y:UInt8}:Ei t .xor (.int .u8 (x.toNat:Int)) (.int .u8 (y.toNat:Int))=some (.int .u8 ((x ^^^ y).toNat:Int)):=by
 rw [show Ei t .xor (.int .u8 (x.toNat:Int)) (.int .u8 (y.toNat:Int))=some (.int .u8 (IntKind.u8.wrap ((BitVec.ofInt 8 (x.toNat:Int) ^^^ BitVec.ofInt 8 (y.toNat:Int)).toNat:Int))) from rfl]
 rw [BitVec.ofInt_natCast,BitVec.ofInt_natCast,UInt8.toNat_xor,BitVec.toNat_xor,BitVec.toNat_ofNat,BitVec.toNat_ofNat,Nat.mod_eq_of_lt x.toNat_lt,Nat.mod_eq_of_lt y.toNat_lt]
 have:=Nat.xor_lt_two_pow (n:=8) x.toNat_lt y.toNat_lt
 rw [IntKind.wrap_u8]; congr 2; omega
theorem PI (l:List UInt8):(str l).toList=l:=by simp [str,ByteArray.toList_eq]
theorem ZQ {l m:List UInt8}:(l == m)=decide (l=m):=by
 by_cases h:l=m<;>simp [h]
theorem AoD {l m:List UInt8}:Ei t .eql (.string (str l)) (.string (str m))=some (.bool (decide (l=m))):=by
 rw [show Ei t .eql (.string (str l)) (.string (str m))=some (.bool ((str l).toList == (str m).toList)) from rfl,PI,PI,ZQ]
theorem An5 {l m:List UInt8}:Ei t .neq (.string (str l)) (.string (str m))=some (.bool (!decide (l=m))):=by
 rw [show Ei t .neq (.string (str l)) (.string (str m))=some (.bool (!((str l).toList == (str m).toList))) from rfl,PI,PI,ZQ]
theorem Aot {b:Bool}:unV .not (.bool b)=some (.bool (!b)):=Aa rfl
theorem BC {u:Value}:Ad1 (.int k a) u=true:=by cases u<;>rfl
theorem AeC {s:ByteArray} {u:Value}:Ad1 (.string s) u=true:=by cases u<;>rfl
theorem Gl {v:Value}:Uf (TV.val v)=false:=Aa rfl
theorem Afe  : Uf (TV.any)=false:=Aa rfl
theorem YE {k:Nat} {cs:List TV}:Uf (TV.sl k cs)=false:=Aa rfl
theorem Aim {x:TV}:Uf (TV.fp x)=false:=Aa rfl
theorem Ajd {i:Nat} {v:Nat} {p:List (Nat×Nat)}:Uf (TV.op i v p)=false:=Aa rfl
theorem Ah3 {k:Nat} {i:Nat} {v:Nat} {p:List (Nat×Nat)} {o:Nat} {n:Nat} {cp:Nat}:Uf (TV.os k i v p o n cp)=false:=Aa rfl
theorem AeV {cs:List TV}:Uf (TV.agg cs)=true:=Aa rfl
theorem Ae5 {n:Nat} {k:Nat} {cs:List TV}:Uf (TV.arr n k cs)=true:=Aa rfl
theorem Agi {vs:List TV}:Uf (TV.tup vs)=false:=Aa rfl
theorem AeM {t:TypeId} {x:TV}:Uf (TV.ifc t x)=false:=Aa rfl
theorem AhT {f:Fn} {a:List TV} {b:List TV}:Uf (TV.fn f a b)=false:=Aa rfl
theorem Ajc {i:Nat} {v:Nat}:Uf (TV.mp i v)=false:=Aa rfl
theorem AhJ {i:Nat} {v:Nat}:Uf (TV.yl i v)=false:=Aa rfl
theorem AbR {v:Value}:CE (TV.val v)=false:=Aa rfl
theorem Acd  : CE (TV.any)=false:=Aa rfl
theorem ZJ {k:Nat} {cs:List TV}:CE (TV.sl k cs)=false:=Aa rfl
theorem Afn {x:TV}:CE (TV.fp x)=false:=Aa rfl
theorem WG {i:Nat} {v:Nat} {p:List (Nat×Nat)}:CE (TV.op i v p)=false:=Aa rfl
theorem Zp {k:Nat} {i:Nat} {v:Nat} {p:List (Nat×Nat)} {o:Nat} {n:Nat} {cp:Nat}:CE (TV.os k i v p o n cp)=false:=Aa rfl
theorem Ac5 {cs:List TV}:CE (TV.agg cs)=false:=Aa rfl
theorem AbM {n:Nat} {k:Nat} {cs:List TV}:CE (TV.arr n k cs)=false:=Aa rfl
theorem AcD {vs:List TV}:CE (TV.tup vs)=true:=Aa rfl
theorem Xu {t:TypeId} {x:TV}:CE (TV.ifc t x)=false:=Aa rfl
theorem AgK {f:Fn} {a:List TV} {b:List TV}:CE (TV.fn f a b)=false:=Aa rfl
theorem Aea {i:Nat} {v:Nat}:CE (TV.mp i v)=false:=Aa rfl
theorem Aeg {i:Nat} {v:Nat}:CE (TV.yl i v)=false:=Aa rfl
theorem Agm  : lays (TV.any)=false:=Aa rfl
theorem Aca {k:Nat} {cs:List TV}:lays (TV.sl k cs)=true:=Aa rfl
theorem Ahy {x:TV}:lays (TV.fp x)=true:=Aa rfl
theorem AcI {i:Nat} {v:Nat} {p:List (Nat×Nat)}:lays (TV.op i v p)=true:=Aa rfl
theorem Ahx {k:Nat} {i:Nat} {v:Nat} {p:List (Nat×Nat)} {o:Nat} {n:Nat} {cp:Nat}:lays (TV.os k i v p o n cp)=true:=Aa rfl
theorem AeB {cs:List TV}:lays (TV.agg cs)=true:=Aa rfl
theorem Ad6 {n:Nat} {k:Nat} {cs:List TV}:lays (TV.arr n k cs)=true:=Aa rfl
theorem AeR {vs:List TV}:lays (TV.tup vs)=false:=Aa rfl
theorem AgA {t:TypeId} {x:TV}:lays (TV.ifc t x)=true:=Aa rfl
theorem Aht {f:Fn} {a:List TV} {b:List TV}:lays (TV.fn f a b)=true:=Aa rfl
theorem AiQ {i:Nat} {v:Nat}:lays (TV.mp i v)=true:=Aa rfl
theorem Ai0 {i:Nat} {v:Nat}:lays (TV.yl i v)=true:=Aa rfl
theorem XJ {v:Value}:CX (TV.val v)=true:=Aa rfl
theorem Abv  : CX (TV.any)=true:=Aa rfl
theorem Af1 {k:Nat} {cs:List TV}:CX (TV.sl k cs)=true:=Aa rfl
theorem AeK {x:TV}:CX (TV.fp x)=true:=Aa rfl
theorem Ag1 {i:Nat} {v:Nat} {p:List (Nat×Nat)}:CX (TV.op i v p)=false:=Aa rfl
theorem Aee {k:Nat} {i:Nat} {v:Nat} {p:List (Nat×Nat)} {o:Nat} {n:Nat} {cp:Nat}:CX (TV.os k i v p o n cp)=false:=Aa rfl
theorem AdF {n:Nat} {k:Nat} {cs:List TV}:CX (TV.arr n k cs)=true:=Aa rfl
theorem AeL {i:Nat} {v:Nat}:CX (TV.mp i v)=false:=Aa rfl
theorem Afz {i:Nat} {v:Nat}:CX (TV.yl i v)=false:=Aa rfl
theorem Cm {v:Value}:Aw (TV.val v)=1:=Aa rfl
theorem Ac2  : Aw (TV.any)=1:=Aa rfl
theorem KF {k:Nat} {cs:List TV}:Aw (TV.sl k cs)=1:=Aa rfl
theorem AgR {x:TV}:Aw (TV.fp x)=1:=Aa rfl
theorem Aez {i:Nat} {v:Nat} {p:List (Nat×Nat)}:Aw (TV.op i v p)=1:=Aa rfl
theorem AeJ {k:Nat} {i:Nat} {v:Nat} {p:List (Nat×Nat)} {o:Nat} {n:Nat} {cp:Nat}:Aw (TV.os k i v p o n cp)=1:=Aa rfl
theorem Abk {vs:List TV}:Aw (TV.tup vs)=1:=Aa rfl
theorem AdM {t:TypeId} {x:TV}:Aw (TV.ifc t x)=1:=Aa rfl
theorem AeF {f:Fn} {a:List TV} {b:List TV}:Aw (TV.fn f a b)=1:=Aa rfl
theorem Afg {i:Nat} {v:Nat}:Aw (TV.mp i v)=1:=Aa rfl
theorem Agt {i:Nat} {v:Nat}:Aw (TV.yl i v)=1:=Aa rfl
theorem Acl {cs:List TV}:Aw (.agg cs)=Bv cs:=by rw [Aw]
theorem Ac4 {n k:Nat} {cs:List TV}:Aw (.arr n k cs)=n*k:=by rw [Aw]
theorem FD:Bv []=0:=Aa rfl
theorem EY {x:TV} {xs:List TV}:Bv (x::xs)=Aw x+Bv xs:=by rw [Bv]
theorem AcG {cs:List TV}:CX (.agg cs)=BZ cs:=by rw [CX]
theorem Acm {t:TypeId} {x:TV}:CX (.ifc t x)=CX x:=by rw [CX]
theorem AdP {cs:List TV}:CX (.tup cs)=BZ cs:=by rw [CX]
theorem AbL:BZ []=true:=Aa rfl
theorem Aaq {x:TV} {xs:List TV}:BZ (x::xs)=(CX x && BZ xs):=by rw [BZ]
theorem ZZ {k:IntKind} {n:Int}:lays (.val (.int k n))=true:=Aa rfl
theorem JK {b:Bool}:lays (.val (.bool b))=true:=Aa rfl
theorem YI {s:ByteArray}:lays (.val (.string s))=true:=Aa rfl
theorem Yc {p:Option Addr}:lays (.val (.pointer p))=true:=Aa rfl
theorem Aa6 {p:Option Addr} {n c:Nat}:lays (.val (.slice p n c))=true:=Aa rfl
theorem Agk {r:Option Nat}:lays (.val (.map r))=true:=Aa rfl
theorem Abp {f:Fn} {a b:Array Value}:lays (.val (.func f a b))=true:=Aa rfl
theorem Yn:lays (.val .nilFunc)=true:=Aa rfl
theorem WB:lays (.val .nilIface)=true:=Aa rfl
theorem UA {e:Env} {n:Nat}:(Opd.t n).ev e=get e n:=Aa rfl
theorem ApH {e:Env} {n:Nat}:(Opd.g n).ev e=(match Qe n with | some x => .fp x.tv | none => .val (.pointer (some ⟨n,0,none⟩))):=Aa rfl
theorem Uo {e:Env} {v:Value}:(Opd.c v).ev e = .val v:=Aa rfl
theorem Hr {x:TV}:J5 [] x=some x:=Aa rfl
theorem Nw {i d:Nat} {p:List (Nat×Nat)} {cs:List TV}:J5 ((i,d)::p) (.agg cs)=if Bv (cs.take i)=d then (cs[i]?).bind (J5 p) else none:=by rw [J5]
theorem WC {i d n k:Nat} {p:List (Nat×Nat)} {cs:List TV}:J5 ((i,d)::p) (.arr n k cs)=if d=i*k then (cs[i]?).bind (J5 p) else none:=by rw [J5]
theorem Ht {x y:TV}:QO [] x y=if Aw y=Aw x then some y else none:=by rw [QO]
theorem KI {i d:Nat} {p:List (Nat×Nat)} {cs:List TV} {y:TV}:QO ((i,d)::p) (.agg cs) y=if Bv (cs.take i)=d then (cs[i]?).bind fun c=>(QO p c y).map fun c' => .agg (cs.set i c') else none:=by rw [QO]
theorem Zw {i d n k:Nat} {p:List (Nat×Nat)} {cs:List TV} {y:TV}:QO ((i,d)::p) (.arr n k cs) y=if d=i*k∧CX y=true then (cs[i]?).bind fun c=>(QO p c y).map fun c' => .arr n k (cs.set i c') else none:=by rw [QO]
theorem AB {e:Env}:forget [] e=[]:=Aa rfl
theorem Az {e:Env} {s:Nat} {ks:List Nat}:forget (s::ks) e=(s,get e s)::forget ks e:=Aa rfl
theorem EM {i:Nat}:WU i []=[]:=Aa rfl
theorem DN {i:Nat} {x:TV} {xs:List TV}:WU i (x::xs)=(i,x)::WU (i+1) xs:=Aa rfl
theorem ET {ag:Bool} {sz:Nat} {y:TV}:V7 ag sz y=(Aw y=sz∧Uf y=ag):=Aa rfl
theorem AaD {H:List Ob} {k k2:Nat} {cs:List TV}:BA H k (.sl k2 cs)=if k2=k then some cs else none:=Aa rfl
theorem YG {H:List Ob} {k:Nat} {p:Option Addr} {n c:Nat}:BA H k (.val (.slice p n c))=if n=0∧p.isNone∧c=0 then some [] else none:=Aa rfl
theorem AaM {H:List Ob} {k k2 i v o n cp:Nat} {p:List (Nat×Nat)}:BA H k (.os k2 i v p o n cp)=if k2=k then (match H[i]? with | some (.obj vr x)=>if vr=v then DV p k o n x else none | _=>none) else none:=Aa rfl
theorem UU {k k2 o n N:Nat} {cs:List TV}:DV [] k o n (.arr N k2 cs)=if k2=k∧o+n≤cs.length then some ((cs.drop o).take n) else none:=Aa rfl
theorem Ab9 {e:Env} {zs:List TV}:EE e zs []=zs:=Aa rfl
theorem Aai {e:Env} {zs:List TV} {i:Nat} {x:Opd} {ps:List (Nat×Opd)}:EE e zs ((i,x)::ps)=EE e (zs.set i (x.ev e)) ps:=Aa rfl
theorem YY {e:Env} {ks:List Nat}:DD e ks []=True:=Aa rfl
theorem Xm {e:Env} {ks:List Nat} {i:Nat} {x:Opd} {ps:List (Nat×Opd)}:DD e ks ((i,x)::ps)=((lays (x.ev e)=true∧ks[i]?=some (Aw (x.ev e)))∧DD e ks ps):=Aa rfl
theorem Wq {e:Env}:Bg e []=True:=Aa rfl
theorem Vr {e:Env} {i:Nat} {x:Opd} {ps:List (Nat×Opd)}:Bg e ((i,x)::ps)=(CX (x.ev e)=true∧Bg e ps):=Aa rfl
theorem BP {t:Nat} {e:Env} {H:List Ob} {K:TV→Prop}:res [.tmp t] e H K=K (get e t):=Aa rfl
theorem Agq {a sz:Nat} {ag:Bool} {e:Env} {H:List Ob} {K:TV→Prop}:res [.cell a ag sz] e H K=pop (.load ag sz (.t a)) e H K:=Aa rfl
theorem Ab0 {e:Env} {H:List Ob} {K:TV→Prop}:res [] e H K=((∀ x∈([]:List TV),CE x=false)∧K (.tup [])):=Aa rfl
theorem Am7 {r s:VR} {e:Env} {H:List Ob} {K:TV→Prop}:res [r,s] e H K=Yr [r,s] e H fun xs=>match xs with | [x]=>K x | xs=>(∀ x∈xs,CE x=false)∧K (.tup xs):=Aa rfl
theorem Afx {r s:VR} {l:List VR} {e:Env} {H:List Ob} {K:TV→Prop}:res (r::s::l) e H K=Yr (r::s::l) e H fun xs=>match xs with | [x]=>K x | xs=>(∀ x∈xs,CE x=false)∧K (.tup xs):=Aa rfl
theorem Zy {e:Env} {H:List Ob} {K:List TV→Prop}:Yr [] e H K=K []:=Aa rfl
theorem AgM {t:Nat} {r:List VR} {e:Env} {H:List Ob} {K:List TV→Prop}:Yr (.tmp t::r) e H K=Yr r e H fun xs=>K (get e t::xs):=Aa rfl
theorem XA {a sz:Nat} {ag:Bool} {r:List VR} {e:Env} {H:List Ob} {K:List TV→Prop}:Yr (.cell a ag sz::r) e H K=pop (.load ag sz (.t a)) e H fun x=>Yr r e H fun xs=>K (x::xs):=Aa rfl
theorem AO {vr:List VR} {R:TV→List Ob→Prop} {e:Env} {H:List Ob}:Vs vr R .ret e H=res vr e H fun x=>R x H:=Aa rfl
theorem XC {vr:List VR} {R:TV→List Ob→Prop} {e:Env} {H:List Ob}:Vs vr R .nor e H=res vr e H fun x=>R x H:=Aa rfl
theorem Ko {H:List Ob} {g:TV→Option TV} {v:Value}:FK H g (TV.val v)=some (.val v):=by rw [FK]
theorem Ag0 {H:List Ob} {g:TV→Option TV}  : FK H g (TV.any)=some (.any):=by rw [FK]
theorem AbH {H:List Ob} {g:TV→Option TV} {k:Nat} {cs:List TV}:FK H g (TV.sl k cs)=some (.sl k cs):=by rw [FK]
theorem AiN {H:List Ob} {g:TV→Option TV} {x:TV}:FK H g (TV.fp x)=some (.fp x):=by rw [FK]
theorem AeD {H:List Ob} {g:TV→Option TV} {n:Nat} {k:Nat} {cs:List TV}:FK H g (TV.arr n k cs)=some (.arr n k cs):=by rw [FK]
theorem AdU {H:List Ob} {g:TV→Option TV} {k i v o n cp:Nat} {p:List (Nat×Nat)}:FK H g (.os k i v p o n cp)=(match H[i]? with | some (.obj vr x)=>if vr=v then (DV p k o n x).map (.sl k) else none | _=>none):=by rw [FK]; rfl
theorem Ajp {H:List Ob} {g:TV→Option TV} {i v:Nat} {p:List (Nat×Nat)}:FK H g (.op i v p)=(match H[i]? with | some (.obj vr x)=>if vr=v then (J5 p x).bind fun y=>(g y).map .fp else none | _=>none):=by rw [FK]; rfl
theorem Aej {H:List Ob} {g:TV→Option TV} {cs:List TV}:FK H g (.agg cs)=(Me H g cs).map .agg:=by rw [FK]
theorem Af6 {H:List Ob} {g:TV→Option TV} {cs:List TV}:FK H g (.tup cs)=(Me H g cs).map .tup:=by rw [FK]
theorem AeU {H:List Ob} {g:TV→Option TV} {t:TypeId} {x:TV}:FK H g (.ifc t x)=(FK H g x).map (.ifc t):=by rw [FK]
theorem Yd {H:List Ob} {g:TV→Option TV}:Me H g []=some []:=Aa rfl
theorem VZ {H:List Ob} {g:TV→Option TV} {x:TV} {xs:List TV}:Me H g (x::xs)=(match FK H g x,Me H g xs with | some x,some xs=>some (x::xs) | _,_=>none):=by rw [Me]; rfl
theorem AaX {H:List Ob} {x:TV}:frz H x=FK H (ZX H 2) x:=Aa rfl
theorem Abx {H:List Ob} {x:List TV}:AjH H x=Me H (ZX H 2) x:=Aa rfl
theorem AjW {H:List Ob} {d:Nat} {x:TV}:ZX H (d+1) x=FK H (ZX H d) x:=Aa rfl
theorem AiD {H:List Ob} {v:Value}:frs H (.val v)=some (.val v):=by rw [frs]
theorem AiM {H:List Ob}:frs H .any=some .any:=by rw [frs]
theorem AlD {H:List Ob} {k i v o n cp:Nat} {p:List (Nat×Nat)}:frs H (.os k i v p o n cp)=(match H[i]? with | some (.obj vr x)=>if vr=v then (match DV p k o n x with | some cs=>if Oy cs then some (.sl k cs) else none | none=>none) else none | _=>none):=by rw [frs]; try rfl
theorem AhN {H:List Ob} {cs:List TV}:frs H (.agg cs)=(Yv H cs).map .agg:=by rw [frs]
theorem Ai1 {H:List Ob} {n k:Nat} {cs:List TV}:frs H (.arr n k cs)=if Oy cs then some (.arr n k cs) else none:=by rw [frs]
theorem AhP {H:List Ob} {cs:List TV}:frs H (.tup cs)=(Yv H cs).map .tup:=by rw [frs]
theorem Ahn {H:List Ob} {t:TypeId} {x:TV}:frs H (.ifc t x)=(frs H x).map (.ifc t):=by rw [frs]
theorem Aep {H:List Ob}:Yv H []=some []:=by rw [Yv]
theorem Acw {H:List Ob} {x:TV} {xs:List TV}:Yv H (x::xs)=(match frs H x,Yv H xs with | some x,some xs=>some (x::xs) | _,_=>none):=by rw [Yv]; try rfl
theorem AdE {l:List UInt8}:Oy (l.map by8)=true:=by
 induction l with
 | nil=>rfl
 | cons x l ih=>rw [List.map_cons,Oy,ih]; rfl
theorem Af0 {l:List (List UInt8)}:Oy (l.map ts)=true:=by
 induction l with
 | nil=>rfl
 | cons x l ih=>rw [List.map_cons,Oy,ih]; rfl
theorem AfD {l:List UInt8} {i:Nat} {b:UInt8}:(l.map by8).set i (.val (.int .u8 (b.toNat:Int)))=(l.set i b).map by8:=by rw [List.map_set]
theorem AfB {l:List UInt8}:(l.map by8).map TT=l:=by
 rw [List.map_map]
 have:(TT ∘ by8)=id:=by funext b; simp
 rw [this,List.map_id]
theorem Af5 {l:List UInt8}:(∀ y∈l.map by8,Abj y)=True:=by simp
theorem AaS {k:Nat}:((k:Int)+1)=((k+1:Nat):Int):=Aa rfl
theorem Aei {a b:Nat}:((a:Int)+(b:Int))=((a+b:Nat):Int):=by omega
theorem QT {a b:Nat}:((a:Int)<(b:Int))=(a<b):=by simp
theorem YX {a b:Nat}:((a:Int)≤(b:Int))=(a≤b):=by simp
theorem Zg {a b:Nat}:((a:Int)=(b:Int))=(a=b):=propext ⟨fun h=>by omega,fun h=>by omega⟩
theorem Ah4 {a:Nat}:(0≤(a:Int))=True:=by simp
theorem Aax {g:Nat}:Qo g []=true:=Aa rfl
theorem Ze {g s:Nat} {x:TV} {e:Env}:Qo g ((s,x)::e)=(FX g x && Qo g e):=Aa rfl
theorem AaP {g:Nat} {v:Value}:FX g (.val v)=true:=Aa rfl
theorem Abw {g k:Nat} {cs:List TV}:FX g (.sl k cs)=true:=Aa rfl
theorem Aa2 {g:Nat}:Rx g []=true:=Aa rfl
theorem Dn {d s:Nat} {x:TV}:get ((d,x)::e) s=if d=s then x else get e s:=Aa rfl
end
end
end Go.Proofs.YthlbcfmbldcngaaDoor
