/- What the proof of WireWantsCard stands on (texts merged; names shortened by a program): part 4. -/
import Derived.Test.YtnikbdnebdmmiaaGreatDoorQC
import Derived.RangeFuncIn
import Derived.RangeFuncRecord
import Derived.RangeFuncLeaves
import Derived.Sort.LoopGhostIn
set_option linter.defProp false
set_option linter.unusedSectionVars false
set_option linter.unusedSimpArgs false
set_option linter.unusedVariables false
namespace Go.Proofs.YtnikbdnebdmmiaaGreatDoor
theorem aI_ {a b:Prop} (x:a) (y:b):a∧b:=⟨x,y⟩
section
open Go.RowKit
variable [AyZ]
set_option autoImplicit false
inductive AyC where
 | ops (l:List VO) (keep:List Nat)
 | draw (nA:Nat) (l:List VO) (keep:List Nat)
 | skip
 | opsZ (l:List VO) (zs:List Nat) (r:List VO) (keep:List Nat)
 | pops (l:List VO) (keep:List Nat)
 | pdraw (n:Nat) (l:List VO) (keep:List Nat)
 | sdraw (n:Nat) (l:List VO) (keep:List Nat)
 | seq (a b:AyC)
 | cond (c:Opd) (a b:AyC)
 | block (id:Nat) (c:AyC)
 | loop (live:List Nat) (c:AyC)
 | exit (id:Nat)
 | ret
 | scope (c:AyC)
 | own (s k:Nat) (c:AyC)
 | ownB (s:Nat) (p:List (Nat×Nat)) (k:Nat) (c:AyC)
 | ownT (s:Nat) (p:List (Nat×Nat)) (t:TypeId) (c:AyC)
 | frz (s:Nat) (c:AyC)
 | rfunc (f:Opd) (ps:List Nat) (aS bd:AyC)
 | dead
 deriving Inhabited
def A5v:List Nat→(Env→List Ob→Prop)→Env→List Ob→Prop
 | [],K,e,H=>K e H
 | s::zs,K,e,H=>match get e s with
  | .os k id ver p off n _=>(match H[id]? with
   | some (.obj v x)=>v=ver∧(match AA8 p k off n x with
    | some cs=>A5v zs K ((s,.sl k cs)::e) (H.set id (.gone ver))
    | none=>False)
   | _=>False)
  | _=>False
def er:AyC→AyC
 | .ops l _ => .ops l []
 | .draw n l _ => .draw n l []
 | .opsZ l _ r _ => .ops (l++r) []
 | .pops l _ => .ops l []
 | .pdraw n l _ => .draw n l []
 | .sdraw n l _ => .sdraw n l []
 | .seq a b => .seq (er a) (er b)
 | .cond c a b => .cond c (er a) (er b)
 | .block id c => .block id (er c)
 | .loop _ c => .loop [] (er c)
 | .scope c => .scope (er c)
 | .own _ _ c=>er c
 | .ownB _ _ _ c=>er c
 | .ownT _ _ _ c=>er c
 | .frz _ c=>er c
 | .rfunc f ps aS bd => .rfunc f ps (er aS) (er bd)
 | .skip => .skip
 | .exit id => .exit id
 | .ret => .ret
 | .dead => .dead
def AOd:Code→Bool
 | .seq a b=>AOd a || AOd b
 | .cond _ a b=>AOd a || AOd b
 | .block _ c=>AOd c
 | .loop c=>AOd c
 | .scope c=>AOd c
 | .region _ ops _=>ops.toList.any fun o=>match o.op with | .panic _=>true | .store .. => true | _=>false
 | _=>false
def Bbc:List String:=["(*gitlike/pack.reader).number", "(*gitlike/pack.reader).byte", "(*gitlike/pack.reader).head", "(*gitlike/pack.reader).distance", "(*gitlike/pack.reader).entry"]
def AZp (P:Program) (v:VO):Bool:=match v.op with
 | .s (.call f _)=>(match P.funcs[f]? with | some fn=>fn.body.any AOd || Bbc.contains fn.name | none=>false)
 | .s (.store _ _ _)=>true
 | _=>false
def nOf (n:Nat):Nat:=n % 10000
def ssN (n:Nat) (l:List VO):SsT:=⟨A2Y l,AX2 l,decide (10000≤n)⟩
theorem A4X {n:Nat} (h:n<10000):nOf n=n:=Nat.mod_eq_of_lt h
theorem A3A {n:Nat} (h:n<10000):nOf (10000+n)=n:=by unfold nOf; omega
theorem A35 {n:Nat} {l:List VO} (h:n<10000):ssN n l=⟨A2Y l,AX2 l,false⟩:=by unfold ssN; rw [decide_eq_false (by omega)]
theorem A5m {n:Nat} {l:List VO}:ssN (10000+n) l=⟨A2Y l,AX2 l,true⟩:=by unfold ssN; rw [decide_eq_true (by omega)]
def AVo (chk:Nat→Bool) (n:Nat):Option Nat:=(List.range (n+1)).find? fun j=>chk j && decide (j<10000)
theorem AKC {chk:Nat→Bool} {n j:Nat} (h:AVo chk n=some j):chk j=true∧j<10000:=by
 have:=List.find?_some h
 simpa using this
def Baf (v:VO):Bool:=match v.op with
 | .s (.app _ _ _ _ _)=>true
 | _=>false
def ASb (P:Program) (ops:List Oper) (l:List VO) (n:Nat):Option AyC:=match (List.range (n+1)).find? (AJC ss0 ops l) with
 | some k=>if (l.take k).any (AZp P) then (match AVo (AJC ⟨A2Y l,AX2 l,false⟩ ops l) n with
   | some j=>if (l.take j).any (AZp P) then (match AVo (AzW ⟨A2Y l,AX2 l,false⟩ ops l) n with
     | some j'=>some (.sdraw j' l [])
     | none=>some (.sdraw j l [])) else some (.sdraw j l [])
   | none=>none) else some (.draw k l [])
 | none=>none
theorem ARH {P:Program} {ops:List Oper} {l:List VO} {n:Nat} {c:AyC} (h:ASb P ops l n=some c):∃ k,(c = .draw k l []∧AzW ss0 ops l k=true)∨(c = .sdraw k l []∧AzW (ssN k l) ops l (nOf k)=true):=by
 have low:∀ {j},AzW ⟨A2Y l,AX2 l,false⟩ ops l j=true→j<10000→AzW (ssN j l) ops l (nOf j)=true:=fun h1 h2=>by rw [A35 h2,A4X h2]; exact h1
 unfold ASb at h
 split at h
 ·rename_i k hk
  split at h
  ·split at h
   ·rename_i j hj
    obtain ⟨hj,hj2⟩:=AKC hj
    split at h
    ·split at h
     ·rename_i j' hj'
      obtain ⟨hj',hj2'⟩:=AKC hj'
      cases h; exact ⟨j',.inr ⟨rfl,low hj' hj2'⟩⟩
     ·cases h; exact ⟨j,.inr ⟨rfl,low (AEH hj) hj2⟩⟩
    ·cases h; exact ⟨j,.inr ⟨rfl,low (AEH hj) hj2⟩⟩
   ·cases h
  ·cases h; exact ⟨k,.inl ⟨rfl,AEH (List.find?_some hk)⟩⟩
 ·cases h
def AXt (ops:List Oper) (l:List VO) (n:Nat):Option AyC:=(AVo (AJC ⟨A2Y l,AX2 l,true⟩ ops l) n).map fun j => .sdraw (10000+j) l []
theorem ATl {ops:List Oper} {l:List VO} {n:Nat} {c:AyC} (h:AXt ops l n=some c):∃ k,c = .sdraw k l []∧AzW (ssN k l) ops l (nOf k)=true:=by
 obtain ⟨j,hj,rfl⟩:=Option.map_eq_some_iff.1 h
 obtain ⟨hj,hj2⟩:=AKC hj
 exact ⟨10000+j,rfl,by rw [A5m,A3A hj2]; exact AEH hj⟩
def ARW (bz:Bool) (P:Program) (N:Nat) (ops:Array Oper):Option AyC:=match trL bz P N ops.toList ops.toList with
 | some l=>if P.follows .mixedOrders then (if l.any A7q || l.any (AZp P) then (match trL bz P N (Ay0 ops.toList (A2H ops.toList l)) (Ay0 ops.toList (A2H ops.toList l)) with
   | some l'=>if AG1 (A2H ops.toList l) ops.toList.length then ASb P (Ay0 ops.toList (A2H ops.toList l)) l' ops.size else none
   | none=>none)
  else (match (List.range (ops.size+1)).find? (AJC ss0 ops.toList l) with
   | some n=>if (l.take n).any Baf then (match trL bz P N (Ay0 ops.toList (A2H ops.toList l)) (Ay0 ops.toList (A2H ops.toList l)) with
     | some l'=>if AG1 (A2H ops.toList l) ops.toList.length then (match AXt (Ay0 ops.toList (A2H ops.toList l)) l' ops.size with
       | some c=>some c
       | none=>some (.draw n l [])) else some (.draw n l [])
     | none=>some (.draw n l [])) else some (.draw n l [])
   | none=>none)) else none
 | none=>none
theorem AI6 {bz:Bool} {P:Program} {N:Nat} {ops:Array Oper} {c:AyC} (h:ARW bz P N ops=some c):(∃ n l,c = .draw n l []∧P.follows .mixedOrders=true ∧
  ((trL bz P N ops.toList ops.toList=some l∧AzW ss0 ops.toList l n=true)∨∃ π,AG1 π ops.toList.length=true∧trL bz P N (Ay0 ops.toList π) (Ay0 ops.toList π)=some l∧AzW ss0 (Ay0 ops.toList π) l n=true)) ∨
  ∃ n l,c = .sdraw n l []∧P.follows .mixedOrders=true∧∃ π,AG1 π ops.toList.length=true∧trL bz P N (Ay0 ops.toList π) (Ay0 ops.toList π)=some l∧AzW (ssN n l) (Ay0 ops.toList π) l (nOf n)=true:=by
 unfold ARW at h
 split at h
 ·rename_i l hl
  split at h
  ·rename_i hm
   split at h
   ·split at h
    ·rename_i l' hl'
     split at h
     ·rename_i hp
      obtain ⟨k,⟨rfl,hk⟩ | ⟨rfl,hk⟩⟩:=ARH h
      ·exact .inl ⟨k,l',rfl,hm,.inr ⟨_,hp,hl',hk⟩⟩
      ·exact .inr ⟨k,l',rfl,hm,_,hp,hl',hk⟩
     ·cases h
    ·cases h
   ·split at h
    ·rename_i n hn
     have plain:∀ {c:AyC},some (AyC.draw n l [])=some c→_:=fun {c} (h:some (AyC.draw n l [])=some c)=>(Or.inl ⟨n,l,(Option.some.inj h).symm,hm,.inl ⟨hl,AEH (List.find?_some hn)⟩⟩:(∃ n l,c = .draw n l []∧P.follows .mixedOrders=true ∧
  ((trL bz P N ops.toList ops.toList=some l∧AzW ss0 ops.toList l n=true)∨∃ π,AG1 π ops.toList.length=true∧trL bz P N (Ay0 ops.toList π) (Ay0 ops.toList π)=some l∧AzW ss0 (Ay0 ops.toList π) l n=true)) ∨
  ∃ n l,c = .sdraw n l []∧P.follows .mixedOrders=true∧∃ π,AG1 π ops.toList.length=true∧trL bz P N (Ay0 ops.toList π) (Ay0 ops.toList π)=some l∧AzW (ssN n l) (Ay0 ops.toList π) l (nOf n)=true)
     split at h
     ·split at h
      ·rename_i l' hl'
       split at h
       ·rename_i hp
        split at h
        ·rename_i c' hc'
         cases h
         obtain ⟨k,rfl,hk⟩:=ATl hc'
         exact .inr ⟨k,l',rfl,hm,_,hp,hl',hk⟩
        ·exact plain h
       ·exact plain h
      ·exact plain h
     ·exact plain h
    ·cases h
  ·cases h
 ·cases h
def A3Q:AyC→Bool
 | .draw n l _=>(l.take n).any fun v=>match v.op with | .s (.bslice _ _ _ _)=>true | _=>false
 | .sdraw n l _=>(l.take (nOf n)).any fun v=>match v.op with | .s (.bslice _ _ _ _)=>true | _=>false
 | _=>false
def ATz (P:Program) (N:Nat) (ops:Array Oper):Option AyC:=match ARW false P N ops with
 | some c=>if A3Q c then (match ARW true P N ops with | some c'=>some c' | none=>some c) else some c
 | none=>none
theorem AGE {P:Program} {N:Nat} {ops:Array Oper} {c:AyC} (h:ATz P N ops=some c):∃ bz:Bool,(∃ n l,c = .draw n l []∧P.follows .mixedOrders=true ∧
  ((trL bz P N ops.toList ops.toList=some l∧AzW ss0 ops.toList l n=true)∨∃ π,AG1 π ops.toList.length=true∧trL bz P N (Ay0 ops.toList π) (Ay0 ops.toList π)=some l∧AzW ss0 (Ay0 ops.toList π) l n=true)) ∨
  ∃ n l,c = .sdraw n l []∧P.follows .mixedOrders=true∧∃ π,AG1 π ops.toList.length=true∧trL bz P N (Ay0 ops.toList π) (Ay0 ops.toList π)=some l∧AzW (ssN n l) (Ay0 ops.toList π) l (nOf n)=true:=by
 unfold ATz at h
 split at h
 ·rename_i c1 h1
  split at h
  ·split at h
   ·rename_i c2 h2; cases h; exact ⟨true,AI6 h2⟩
   ·cases h; exact ⟨false,AI6 h1⟩
  ·cases h; exact ⟨false,AI6 h1⟩
 ·cases h
theorem AWT {P:Program} {N:Nat} {ops:Array Oper} {c:AyC} (h:ATz P N ops=some c) (hc:∀ n l,c ≠ .draw n l []) (hc2:∀ n l,c ≠ .sdraw n l []):False:=by
 obtain ⟨bz,⟨n,l,e,_⟩ | ⟨n,l,e,_⟩⟩:=AGE h
 ·exact hc n l e
 ·exact hc2 n l e
def trC (P:Program) (N:Nat):Code→Option AyC
 | .skip=>some .skip
 | .region _ ops false=>some (match trL false P N ops.toList ops.toList with | some l => .ops l [] | none => .dead)
 | .region _ ops true=>some (match ATz P N ops with | some c=>c | none => .dead)
 | .seq a b=>match trC P N a,trC P N b with
  | some a,some b=>some (.seq a b)
  | _,_=>none
 | .cond c a b=>match trC P N a,trC P N b with
  | some a,some b=>some (.cond (trO c) a b)
  | _,_=>none
 | .block id c=>(trC P N c).map (.block id)
 | .loop c=>(trC P N c).map (.loop [])
 | .exit id=>some (.exit id)
 | .scope c=>(trC P N c).map .scope
 | .label _=>some .skip
 | .ret=>some .ret
 | .rangeFunc f ps aS bd=>if ps.toList.all (· < N) then (match trC P N aS,trC P N bd with
  | some aS,some bd=>some (.rfunc (trO f) ps.toList aS bd)
  | _,_=>none) else none
 | _=>some .dead
theorem A0g {P:Program} {N id:Nat} {ops:Array Oper} {c:AyC} (h:trC P N (.region id ops false)=some c):(∃ l,trL false P N ops.toList ops.toList=some l∧c = .ops l [])∨c = .dead:=by
 simp only [trC,Option.some.injEq] at h
 split at h
 ·rename_i l hl; exact .inl ⟨l,hl,h.symm⟩
 ·exact .inr h.symm
theorem A1p {P:Program} {N id:Nat} {ops:Array Oper} {c:AyC} (h:trC P N (.region id ops true)=some c):ATz P N ops=some c∨c = .dead:=by
 simp only [trC,Option.some.injEq] at h
 split at h
 ·rename_i l hl; exact .inl (hl.trans (by rw [h]))
 ·exact .inr h.symm
theorem ABj {P:Program} {N id:Nat} {ops:Array Oper} {c:AyC} (h:trC P N (.region id ops false)=some c) (hc:∀ l,c ≠ .ops l []) (hd:c ≠ .dead):False:=by
 rcases A0g h with ⟨l,_,e⟩ | e
 ·exact hc l e
 ·exact hd e
theorem ABk {P:Program} {N id:Nat} {ops:Array Oper} {c:AyC} (h:trC P N (.region id ops true)=some c) (hc:∀ n l,c ≠ .draw n l []) (hc2:∀ n l,c ≠ .sdraw n l []) (hd:c ≠ .dead):False:=by
 rcases A1p h with e | e
 ·exact AWT e hc hc2
 ·exact hd e
def AOZ:AyC→Bool
 | .seq a b=>AOZ a && AOZ b
 | .cond _ a b=>AOZ a && AOZ b
 | .block _ c=>AOZ c
 | .loop _ c=>AOZ c
 | .scope c=>AOZ c
 | .own _ _ c=>AOZ c
 | .ownB _ _ _ c=>AOZ c
 | .ownT _ _ _ c=>AOZ c
 | .frz _ c=>AOZ c
 | .rfunc _ _ _ _=>false
 | _=>true
inductive VEx where
 | nor
 | exit (id:Nat)
 | ret
 | pan (u:Value)
def VEx.ex:VEx→Exit
 | .nor => .normal
 | .exit id => .exit id
 | .ret => .ret
 | .pan u => .panic [{ v:=u,recovered:=false }]
mutual
def ADb (g:Nat):TV→Bool
 | .op id _ _=>decide (id<g)
 | .os _ id _ _ _ _ _=>decide (id<g)
 | .mp id _=>decide (id<g)
 | .yl id _=>decide (id<g)
 | .agg cs=>AGo g cs
 | .tup cs=>AGo g cs
 | .ifc _ x=>ADb g x
 | .fn _ a b=>AGo g a && AGo g b
 | _=>true
def AGo (g:Nat):List TV→Bool
 | []=>true
 | x::xs=>ADb g x && AGo g xs
end
def ANH (g:Nat):Env→Bool
 | []=>true
 | (_,x)::e=>ADb g x && ANH g e
def ATu (g:Nat):Ob→Bool
 | .obj _ x=>ADb g x
 | .ice _ _ x=>ADb g x
 | .fact id _ _ _=>decide (id<g)
 | .lp _ _ _ _ e _ _ _=>ANH g e
 | .mpo _ es=>AGo g (es.map (·.2))
 | .bld _ _ _=>true
 | .sit _ _=>true
 | .mpd _ zs _=>AGo g (zs.map (·.2.2))
 | .mit m _ _=>decide (m<g)
 | .gone _=>true
def AMk (g:Nat):List Ob→Bool
 | []=>true
 | o::H=>ATu g o && AMk g H
def AVl (Q:VEx→Env→List Ob→Prop) (e:Env) (L:Nat):TV→List Ob→Prop:=fun _ H'=>match H'[L]? with
 | some (.lp .ready none fn N e1 ps ca cb)=>Q .nor e (H'.set L (.lp .exhausted none fn N e1 ps ca cb))
 | some (.lp .done (some .ret) fn N e1 ps ca cb)=>Q .ret e (H'.set L (.lp .exhausted (some .ret) fn N e1 ps ca cb))
 | some (.lp .done (some (.exit i)) fn N e1 ps ca cb)=>Q (.exit i) e (H'.set L (.lp .exhausted (some (.exit i)) fn N e1 ps ca cb))
 | _=>False
structure A2T (P:Program) (N:Nat) (ps:List Nat) (ca cb:Code) (aS bd:AyC):Prop where
 a:trC P N ca=some (er aS)
 b:trC P N cb=some (er bd)
 p:ps.all (· < N)=true
def vwp (P:Program):AyC→(VEx→Env→List Ob→Prop)→Env→List Ob→Prop
 | .ops l kp,Q,e,H=>AOE P l (fun e H=>Q .nor (forget kp e) H) e H
 | .opsZ l zs r kp,Q,e,H=>AOE P l (A5v zs (AOE P r (fun e H=>Q .nor (forget kp e) H))) e H
 | .pops l kp,Q,e,H=>AJY P (fun u H=>Q (.pan u) (AUB l e) H) l (fun e H=>Q .nor (forget kp e) H) e H
 | .pdraw n l kp,Q,e,H=>vq P (l.take n) (fun e=>AJY P (fun u H=>Q (.pan u) [] H) (l.drop n) (fun e H=>Q .nor (forget kp e) H) e H) e H
 | .sdraw n l kp,Q,e,H=>vq P (l.take (nOf n)) (fun e=>AFE (pvopS P (fun u H=>Q (.pan u) [] H) (ssN n l)) (l.drop (nOf n)) (fun e H=>Q .nor (forget kp e) H) e H) e H
 | .draw n l kp,Q,e,H=>vq P (l.take n) (fun e=>AOE P (l.drop n) (fun e H=>Q .nor (forget kp e) H) e H) e H
 | .skip,Q,e,H=>Q .nor e H
 | .seq a b,Q,e,H=>vwp P a (fun x e H=>match x with | .nor=>vwp P b Q e H | .exit i=>Q (.exit i) e H | .ret=>Q .ret e H | .pan u=>Q (.pan u) e H) e H
 | .cond c a b,Q,e,H=>match c.ev e with
  | .val (.bool t)=>if t=true then vwp P a Q e H else vwp P b Q e H
  | _=>False
 | .block id c,Q,e,H=>vwp P c (fun x e H=>match x with | .nor=>Q .nor e H | .exit i=>if i=id then Q .nor e H else Q (.exit i) e H | .ret=>Q .ret e H | .pan u=>Q (.pan u) e H) e H
 | .loop lv c,Q,e,H0=>∃ (I:Nat→Env→List Ob→Prop) (n:Nat),I n (forget lv e) H0 ∧
   ∀ n e H,I n e H→vwp P c (fun x e H=>match x with | .nor=>∃ m g,m<n∧(H0.length≤g∧(H.length≤g∨(ANH g (forget lv e)=true∧AMk g (H.take g)=true)))∧I m (forget lv e) (H.take g) | .exit i=>Q (.exit i) e H | .ret=>Q .ret e H | .pan u=>Q (.pan u) e H) e H
 | .exit id,Q,e,H=>Q (.exit id) e H
 | .ret,Q,e,H=>Q .ret e H
 | .scope c,Q,e,H=>vwp P c Q e H
 | .dead,_,_,_=>False
 | .own s k c,Q,e,H=>match get e s with
  | .val (.slice none 0 0)=>vwp P c Q ((s,.os k H.length 0 [] 0 0 0)::e) (H++[.obj 0 (.arr 0 k [])])
  | _=>vwp P c Q e H
 | .ownB s p k c,Q,e,H=>match get e s with
  | .op id ver p0=>(match H[id]? with
   | some (.obj v x)=>v=ver∧(match ADP (p0++p) x with
    | some (.val (.slice none 0 0))=>(match AFF (p0++p) x (.os k H.length 0 [] 0 0 0) with
     | some x'=>vwp P c Q e (H.set id (.obj ver x')++[.obj 0 (.arr 0 k [])])
     | none=>False)
    | _=>vwp P c Q e H)
   | _=>False)
  | _=>False
 | .ownT s p t c,Q,e,H=>match get e s with
  | .op id ver p0=>(match H[id]? with
   | some (.obj v x)=>v=ver∧(match ADP (p0++p) x with
    | some (.val (.slice none 0 0))=>(match AFF (p0++p) x (.os 1 H.length 0 [] 0 0 0) with
     | some x'=>vwp P c Q e (H.set id (.obj ver x')++[.bld 0 t []])
     | none=>False)
    | _=>vwp P c Q e H)
   | _=>False)
  | _=>False
 | .frz s c,Q,e,H=>match get e s with
  | .os k id ver p off n _=>(match H[id]? with
   | some (.obj v x)=>v=ver∧(match AA8 p k off n x with
    | some cs=>vwp P c Q ((s,.sl k cs)::e) (H.set id (.gone ver))
    | none=>False)
   | _=>False)
  | _=>False
 | .rfunc f ps aS bd,Q,e,H=>AOZ aS=true∧AOZ bd=true∧(match f.ev e with
  | .fn (.func g) first caps=>AOL P g=true∧∀ (N:Nat) (fn:FuncId) (ca cb:Code),A2T P N ps ca cb aS bd→AyI P g (first++[.yl H.length 0]++caps) (H++[.lp .ready none fn N e ps ca cb]) (AVl Q e H.length)
  | .val (.func (.func g) xs ys)=>(xs.isEmpty && ys.isEmpty)=true∧AOL P g=true∧∀ (N:Nat) (fn:FuncId) (ca cb:Code),A2T P N ps ca cb aS bd→AyI P g [.yl H.length 0] (H++[.lp .ready none fn N e ps ca cb]) (AVl Q e H.length)
  | _=>False)
section sound
variable {P:Program}
theorem ALt {c:Ctx} {w:World}:∀ {p:List (Nat×Nat)} {x y z x':TV} {us:List Value},AyG c w x us→ADP p x=some z→(∀ m,AyG c w z m→AyG c w y m)→AFF p x y=some x'→AyG c w x' us:=by
 intro p x y z x' us h hg hm hs
 obtain ⟨a,m,b,rfl,h1,h2⟩:=ACO h hg
 obtain ⟨a',m',b',e,h3,h4,h5,_⟩:=AIj h hs (hm m h2)
 have e1:a=a':=by
  have:=congrArg (List.take a.length) e
  rw [List.append_assoc,List.append_assoc,List.take_left] at this
  rw [this,List.take_left' (by omega)]
 subst e1
 rw [List.append_assoc,List.append_assoc] at e
 have e2:=List.append_cancel_left e
 have e3:m=m':=by
  have:=congrArg (List.take m.length) e2
  rw [List.take_left] at this
  rw [this,List.take_left' (by omega)]
 subst e3
 have e4:=List.append_cancel_left e2
 subst e4
 exact h5
theorem Sim.give {β:Nat→Nat→Option (Nat×Nat)} {H:List Ob} {F:Nat→Prop} {w:World} (hs:Sim ⟨β,H,F⟩ w) {k id ver off n cp:Nat} {p:List (Nat×Nat)} {x:TV} {cs:List TV} (hid:H[id]?=some (.obj ver x)) (hcs:AA8 p k off n x=some cs) {us:List Value} (hr:AyG ⟨β,H,F⟩ w (.os k id ver p off n cp) us) :
  AyG ⟨β,H.set id (.gone ver),fun b=>F b∨∃ off,β id ver=some (b,off)⟩ w (.sl k cs) us:=by
 have hm:ACG (Ctx.bare ⟨β,H,F⟩) w (Ctx.bare ⟨β,H.set id (.gone ver),fun b=>F b∨∃ off,β id ver=some (b,off)⟩) w :=
  ⟨fun b hb=>⟨.inl hb,rfl⟩,fun _ _ k=>(Ctx.bare_has k).elim,fun _ _=>rfl⟩
 rw [AyG] at hr
 obtain ⟨hr1,hr2⟩:=hr
 rcases hr2 with ⟨rfl,a0,hr2,_⟩ | ⟨b0,o0,cap,t0,m0,hr2,hr3,hr4,hr5,hr6,hr7⟩
 ·have:cs=[]:=by
   unfold AA8 at hcs
   split at hcs
   ·split at hcs
    ·cases hcs; simp
    ·cases hcs
   ·cases hcs
  subst this
  rw [AyG]
  exact ⟨by simp,.inl ⟨rfl,a0,0,hr2,by omega⟩⟩
 rcases hs.ob id _ hid with ⟨h0,_⟩ | ⟨b,off',pre,vs,post,t,fr,h0,h1,h2,h3,h4⟩
 ·have h0':β id ver=none:=h0
  have hr2':β id ver=some (b0,o0):=hr2
  rw [h0'] at hr2'; cases hr2'
 have h0':β id ver=some (b,off'):=h0
 have hr2':β id ver=some (b0,o0):=hr2
 rw [h0'] at hr2'
 obtain ⟨rfl,rfl⟩:b=b0∧off'=o0:=by simpa using hr2'
 obtain ⟨a,m,q,rfl,k1,k2,k3,k4⟩:=AEQ h4 hcs
 rw [AyG]
 refine ⟨k3,.inr ⟨b,off'+AzJ p+off*k,cap,m,by rw [k4]; exact hr3,by omega,hr5,.inr ⟨off',h0'⟩,AyH.mono hm k2,?_⟩⟩
 have e:off'+AzJ p+off*k=pre.length+a.length:=by rw [h3,k1]; omega
 rw [e]; exact AC3 h1
theorem AQS {N:Nat} {D:List Deferred}:∀ {zs:List Nat} {K:Env→List Ob→Prop} {e:Env} {H:List Ob} {β:Nat→Nat→Option (Nat×Nat)} {F:Nat→Prop} {w:World} {a:Act},A5v zs K e H→Sim ⟨β,H,F⟩ w→Fr N D ⟨β,H,F⟩ w e a →
  ∃ e' H' F',K e' H'∧Sim ⟨β,H',F'⟩ w∧Fr N D ⟨β,H',F'⟩ w e' a∧AyN ⟨β,H,F⟩ w ⟨β,H',F'⟩ w
 | [],K,e,H,β,F,w,a,h,hs,hf=>⟨e,H,F,h,hs,hf,AyN.refl _ _⟩
 | s::zs,K,e,H,β,F,w,a,h,hs,hf=>by
  rw [A5v] at h
  split at h
  ·rename_i k id ver p off n cp hg
   split at h
   ·rename_i v y hid
    obtain ⟨rfl,h⟩:=h
    split at h
    ·rename_i cs hcs
     obtain ⟨k1,k2⟩:=hs.freeze hid rfl
     have hr:Rep ⟨β,H,F⟩ w (get e s) (a.tmps.getD s undef):=hf.env.1 s
     rw [hg] at hr
     have hr':Rep ⟨β,H.set id (.gone v),fun b=>F b∨∃ off,β id v=some (b,off)⟩ w (.sl k cs) (a.tmps.getD s undef):=by
      rcases hr with (hr | hr | ⟨us,hr,hr2⟩) | ⟨xs,vs,hr,_⟩
      ·cases hr
      ·cases hr
      ·exact .inl (.inr (.inr ⟨us,hs.give hid hcs hr,by rw [hr2]; rfl⟩))
      ·cases hr
     obtain ⟨e',H',F',q1,q2,q3,q4⟩:=AQS h k1 (a:=a) ⟨⟨fun s'=>by
      rw [Azx]
      by_cases hss:s=s'
      ·subst hss; rw [if_pos rfl]; exact hr'
      ·rw [if_neg hss]; exact Rep.mono (k2.mono hs) (hf.env.1 s'),k1.glob⟩,hf.size,hf.defers⟩
     exact ⟨e',H',F',q1,q2,q3,k2.trans q4⟩
    ·exact h.elim
   ·exact h.elim
  ·exact h.elim
theorem AZj {P:Program} {N:Nat} {all:List Oper}:∀ {os:List Oper} {l1 l2:List VO},trL false P N all os=some (l1++l2)→∃ o1 o2,os=o1++o2∧trL false P N all o1=some l1∧trL false P N all o2=some l2
 | os,[],l2,h=>⟨[],os,rfl,rfl,h⟩
 | [],v::l1,l2,h=>by simp [trL] at h
 | o::os,v::l1,l2,h=>by
  rw [trL] at h
  split at h
  ·rename_i v' g r hv hg hr
   split at h
   ·rename_i hd
    simp only [List.cons_append,Option.some.injEq,List.cons.injEq] at h
    obtain ⟨rfl,rfl⟩:=h
    obtain ⟨o1,o2,rfl,h1,h2⟩:=AZj hr
    refine ⟨o::o1,o2,rfl,?_,h2⟩
    rw [trL,hv,hg,h1]
    simp [hd]
   ·cases h
  ·cases h
theorem AUg {N:Nat} {D:List Deferred} {ro:Option Nat} {nn:Nat} {all:Array Oper} {os:List Oper} {l1 l2:List VO} {zs:List Nat} (ht:trL false P N all.toList os=some (l1++l2)) {K:Env→List Ob→Prop} {e:Env} {H:List Ob} {β:Nat→Nat→Option (Nat×Nat)} {F:Nat→Prop} {w:World} {a:Act} {QQ:Exit→Act→World→Prop}
  (h:AOE P l1 (A5v zs (AOE P l2 K)) e H) (hs:Sim ⟨β,H,F⟩ w) (hf:Fr N D ⟨β,H,F⟩ w e a)
  (hk:∀ e' H' β' F' w' a',K e' H'→Sim ⟨β',H',F'⟩ w'→Fr N D ⟨β',H',F'⟩ w' e' a'→AyN ⟨β,H,F⟩ w ⟨β',H',F'⟩ w'→QQ .normal a' w'):wpListIn (fz ro) nn P all QQ os a w:=by
 obtain ⟨o1,o2,rfl,h1,h2⟩:=AZj ht
 refine AOX (AFM.vop (KP:=fun _ _=>False)) h1 h hs hf (fun e' H' β' F' w' a' k1 k2 k3 k4 => ?_) (fun _ _ _ _ _ _ h=>h.elim)
 obtain ⟨e2,H2,F2,q1,q2,q3,q4⟩:=AQS k1 k2 k3
 exact AQ6 h2 q1 q2 q3 fun e3 H3 β3 F3 w3 a3 m1 m2 m3 m4=>hk e3 H3 β3 F3 w3 a3 m1 m2 m3 ((k4.trans q4).trans m4)
theorem Sim.own {β:Nat→Nat→Option (Nat×Nat)} {H:List Ob} {F:Nat→Prop} {w:World} (hs:Sim ⟨β,H,F⟩ w) (k:Nat) :
  Sim ⟨upd β H.length 0 none,H++[.obj 0 (.arr 0 k [])],F⟩ w∧AyN ⟨β,H,F⟩ w ⟨upd β H.length 0 none,H++[.obj 0 (.arr 0 k [])],F⟩ w ∧
   AyG ⟨upd β H.length 0 none,H++[.obj 0 (.arr 0 k [])],F⟩ w (.os k H.length 0 [] 0 0 0) [.slice none 0 0]:=by
 obtain ⟨k1,k2⟩:=hs.newNone (x := .arr 0 k []) (by rw [AyG]; exact ⟨rfl,by simp,by rw [AyH]⟩)
 exact ⟨k1,k2,by rw [AyG]; exact ⟨ABp _ _ _ _ _ (Nat.le_refl _),.inl ⟨rfl,none,rfl,rfl,fun _ h=>by cases h⟩⟩⟩
theorem Sim.ownBld {β:Nat→Nat→Option (Nat×Nat)} {H:List Ob} {F:Nat→Prop} {w:World} (hs:Sim ⟨β,H,F⟩ w) (t:TypeId) :
  Sim ⟨upd β H.length 0 none,H++[.bld 0 t []],F⟩ w∧AyN ⟨β,H,F⟩ w ⟨upd β H.length 0 none,H++[.bld 0 t []],F⟩ w ∧
   AyG ⟨upd β H.length 0 none,H++[.bld 0 t []],F⟩ w (.os 1 H.length 0 [] 0 0 0) [.slice none 0 0]:=by
 obtain ⟨k1,k2⟩:=hs.new (.bld 0 t []) rfl none (w':=w) (fun b off e=>by cases e) rfl rfl rfl (Nat.le_refl _) (fun b hb=>rfl) fun hm => .inl ⟨AyS,rfl⟩
 exact ⟨k1,k2,by rw [AyG]; exact ⟨ABp _ _ _ _ _ (Nat.le_refl _),.inl ⟨rfl,none,rfl,rfl,fun _ h=>by cases h⟩⟩⟩
def Ctx.cut (c:Ctx) (g:Nat):Ctx:=⟨c.β,c.H.take g,c.F⟩
theorem Ctx.cut_has {c:Ctx} {g id ver:Nat} (h:c.has id ver) (hg:id<g):(c.cut g).has id ver:=by
 obtain ⟨o,h1,h2⟩:=h
 exact ⟨o,by show (c.H.take g)[id]?=some o; rw [List.getElem?_take,if_pos hg]; exact h1,h2⟩
theorem Ctx.cut_get {c:Ctx} {g id:Nat} {o:Ob} (h:(c.cut g).H[id]?=some o):id<g∧c.H[id]?=some o:=by
 have h':(c.H.take g)[id]?=some o:=h
 rw [List.getElem?_take] at h'
 split at h'
 ·exact ⟨‹_›,h'⟩
 ·cases h'
mutual
theorem AyG.cut {c:Ctx} {w:World} {g:Nat}:∀ {x:TV} {us:List Value},ADb g x=true→AyG c w x us→AyG (c.cut g) w x us
 | .val y,us,hf,hr=>by rw [AyG] at hr ⊢; exact hr
 | .any,us,hf,hr=>by rw [AyG] at hr ⊢; exact hr
 | .sl k cs,us,hf,hr=>by rw [AyG] at hr ⊢; exact hr
 | .fp x,us,hf,hr=>by rw [AyG] at hr ⊢; exact hr
 | .arr n k cs,us,hf,hr=>by rw [AyG] at hr ⊢; exact hr
 | .op id ver p,us,hf,hr=>by
  rw [ADb,decide_eq_true_eq] at hf; rw [AyG] at hr ⊢; exact ⟨Ctx.cut_has hr.1 hf,hr.2⟩
 | .os k id ver p off n cp,us,hf,hr=>by
  rw [ADb,decide_eq_true_eq] at hf; rw [AyG] at hr ⊢; exact ⟨Ctx.cut_has hr.1 hf,hr.2⟩
 | .mp id ver,us,hf,hr=>by
  rw [ADb,decide_eq_true_eq] at hf; rw [AyG] at hr ⊢; exact ⟨Ctx.cut_has hr.1 hf,hr.2⟩
 | .yl id ver,us,hf,hr=>by
  rw [ADb,decide_eq_true_eq] at hf; rw [AyG] at hr ⊢; exact ⟨Ctx.cut_has hr.1 hf,hr.2⟩
 | .agg cs,us,hf,hr=>by rw [ADb] at hf; rw [AyG] at hr ⊢; exact AyH.cut hf hr
 | .tup cs,us,hf,hr=>by rw [AyG] at hr; exact hr.elim
 | .ifc t x,us,hf,hr=>by
  rw [ADb] at hf; rw [AyG] at hr ⊢
  obtain ⟨u,h1,vs,h2,h3⟩:=hr
  exact ⟨u,h1,vs,AyG.cut hf h2,h3⟩
 | .fn f a b,us,hf,hr=>by
  rw [ADb,Bool.and_eq_true] at hf; rw [AyG] at hr ⊢
  obtain ⟨aS,bs,h1,h2,h3⟩:=hr
  exact ⟨aS,bs,h1,Azd.cut hf.1 h2,Azd.cut hf.2 h3⟩
theorem AyH.cut {c:Ctx} {w:World} {g:Nat}:∀ {xs:List TV} {us:List Value},AGo g xs=true→AyH c w xs us→AyH (c.cut g) w xs us
 | [],us,hf,hr=>by rw [AyH] at hr ⊢; exact hr
 | x::xs,us,hf,hr=>by
  rw [AGo,Bool.and_eq_true] at hf; rw [AyH] at hr ⊢
  obtain ⟨a,b,h1,h2,h3⟩:=hr
  exact ⟨a,b,h1,AyG.cut hf.1 h2,AyH.cut hf.2 h3⟩
theorem Azd.cut {c:Ctx} {w:World} {g:Nat}:∀ {xs:List TV} {us:List Value},AGo g xs=true→Azd c w xs us→Azd (c.cut g) w xs us
 | [],us,hf,hr=>by rw [Azd] at hr ⊢; exact hr
 | x::xs,us,hf,hr=>by
  rw [AGo,Bool.and_eq_true] at hf; rw [Azd] at hr ⊢
  obtain ⟨u,us,h1,h2,h3⟩:=hr
  refine ⟨u,us,h1,?_,Azd.cut hf.2 h3⟩
  rcases h2 with h2 | h2 | ⟨aS,h2,h4⟩
  ·exact .inl h2
  ·exact .inr (.inl h2)
  ·exact .inr (.inr ⟨aS,AyG.cut hf.1 h2,h4⟩)
end
theorem Rep.cut {c:Ctx} {w:World} {g:Nat} {x:TV} {v:Value} (hf:ADb g x=true) (hr:Rep c w x v):Rep (c.cut g) w x v:=by
 rcases hr with (h | h | ⟨us,h,h'⟩) | ⟨xs,vs,rfl,h2,h3⟩
 ·exact .inl (.inl h)
 ·exact .inl (.inr (.inl h))
 ·exact .inl (.inr (.inr ⟨us,AyG.cut hf h,h'⟩))
 ·rw [ADb] at hf; exact .inr ⟨xs,vs,rfl,h2,Azd.cut hf h3⟩
theorem AM0 {g:Nat}:∀ {e:Env},ANH g e=true→∀ s,ADb g (get e s)=true
 | [],_,s=>rfl
 | (k,x)::e,h,s=>by
  rw [ANH,Bool.and_eq_true] at h
  rw [Azx]
  split
  ·exact h.1
  ·exact AM0 h.2 s
theorem AQY {g:Nat}:∀ {H:List Ob},AMk g H=true→∀ (i:Nat) (o:Ob),H[i]?=some o→ATu g o=true
 | [],_,i,o,h=>by simp at h
 | o::H,h,i,o',hi=>by
  rw [AMk,Bool.and_eq_true] at h
  cases i with
  | zero=>simp at hi; subst hi; exact h.1
  | succ i=>exact AQY h.2 i o' (by simpa using hi)
theorem AyY.cut {c:Ctx} {w:World} {g:Nat} {kk:MK}:∀ {es:List (List UInt8×TV)} {ms:List MapEntry},AGo g (es.map (·.2))=true→AyY c w kk es ms→AyY (c.cut g) w kk es ms
 | [],ms,_,h=>h
 | (k,x)::es,ms,hb,h=>by
  rw [List.map_cons,AGo,Bool.and_eq_true] at hb
  obtain ⟨m,r,rfl,h1,h2,h3⟩:=h
  exact ⟨m,r,rfl,h1,⟨AyG.cut hb.1 h2.1,h2.2⟩,AyY.cut hb.2 h3⟩
theorem Sim.cut {c:Ctx} {w:World} {g:Nat} (hs:Sim c w) (hg:AMk g (c.H.take g)=true):Sim (c.cut g) w:=by
 have hown:∀ b,(c.cut g).own b→c.own b:=by
  rintro b ⟨i,o,off,h1,h2,h3⟩
  exact ⟨i,o,off,(Ctx.cut_get h1).2,h2,h3⟩
 refine ⟨fun id o ho => ?_,fun i j x y b o o' hx hy hlx hly e e'=>hs.inj i j x y b o o' (Ctx.cut_get hx).2 (Ctx.cut_get hy).2 hlx hly e e',fun b hb=>hs.apart b (hown b hb),hs.lt,hs.glob⟩
 have h1:=hs.ob id o (Ctx.cut_get ho).2
 have hb:=AQY hg id o ho
 cases o with
 | gone v=>trivial
 | ice v m x =>
  obtain ⟨b,off,pre,vs,post,t,fr,h0,h1,h2,h3,h4⟩:=h1
  exact ⟨b,off,pre,vs,post,t,fr,h0,h1,h2,h3,AyG.cut hb h4⟩
 | bld v t l=>exact h1
 | fact i v t m =>
  obtain ⟨h0,h2⟩:=h1
  exact ⟨Ctx.cut_has h0 (by simpa [ATu] using hb),h2⟩
 | lp st pend fn N en ps ca cb =>
  obtain ⟨b,tmps,D,h0,h1,h2,h3⟩:=h1
  exact ⟨b,tmps,D,h0,h1,h2,fun s=>Rep.cut (AM0 hb s) (h3 s)⟩
 | mpo kk es =>
  obtain ⟨b,ms,cl,h0,h1,h2,h3⟩:=h1
  exact ⟨b,ms,cl,h0,h1,AyY.cut hb h2,h3⟩
 | sit s pos=>exact h1
 | mpd kk zs cl =>
  obtain ⟨b,ms,h0,h1,h2,h3⟩:=h1
  exact ⟨b,ms,h0,h1,AyY.cut (by rw [List.map_map]; exact hb) h2,h3⟩
 | mit m sn cl =>
  obtain ⟨r,b,h0,⟨g0,g1⟩,h1⟩:=h1
  exact ⟨r,b,h0,⟨Ctx.cut_has g0 (by simpa [ATu] using hb),g1⟩,h1⟩
 | obj v x =>
  rcases h1 with ⟨h0,h4⟩ | ⟨b,off,pre,vs,post,t,fr,h0,h1,h2,h3,h4⟩
  ·exact .inl ⟨h0,AyG.cut hb h4⟩
  ·exact .inr ⟨b,off,pre,vs,post,t,fr,h0,h1,h2,h3,AyG.cut hb h4⟩
theorem AyN.cut {c0 c:Ctx} {w0 w:World} {g:Nat} (hl:AyN c0 w0 c w) (hg:c0.H.length≤g):AyN c0 w0 (c.cut g) w :=
 ⟨hl.os,hl.tape,hl.output,hl.size,fun id ver h=>by
  obtain ⟨h1,h2⟩:=hl.has id ver h
  exact ⟨Ctx.cut_has h1 (Nat.lt_of_lt_of_le (Ctx.has_lt h) hg),h2⟩,hl.shape,hl.same,hl.keepF,hl.oldF,fun b hb ⟨i,o,off,h1,h2,h3⟩=>hl.oldOwn b hb ⟨i,o,off,(Ctx.cut_get h1).2,h2,h3⟩⟩
def AGC (D0:List Deferred) (B:Nat) (c:Ctx) (w:World) (D:List Deferred):Prop:=∃ ds:List Nat,D=ds.map (fun r=>{ target := .collected r,args := #[] })++D0∧ds.Nodup∧∀ r∈ds,B≤r∧r<w.heap.size∧¬ c.own r∧¬ c.F r∧w.heap[r]?=some (.deferred (some []))
theorem AGC.nil {D0:List Deferred} {B:Nat} {c:Ctx} {w:World}:AGC D0 B c w D0:=⟨[],rfl,List.nodup_nil,fun r h=>by cases h⟩
theorem AGC.later {D0:List Deferred} {B:Nat} {c c':Ctx} {w w':World} {D:List Deferred} (h:AGC D0 B c w D) (hl:AyN c w c' w'):AGC D0 B c' w' D:=by
 obtain ⟨ds,h1,h2,h3⟩:=h
 refine ⟨ds,h1,h2,fun r hr => ?_⟩
 obtain ⟨k1,k2,k3,k4,k5⟩:=h3 r hr
 exact ⟨k1,Nat.lt_of_lt_of_le k2 hl.size,fun h=>k3 (hl.oldOwn r k2 h),fun h=>(hl.oldF r k2 h).elim k4 k3,(hl.same r k2 k3).trans k5⟩
theorem AGC.cut {D0:List Deferred} {B g:Nat} {c:Ctx} {w:World} {D:List Deferred} (h:AGC D0 B c w D):AGC D0 B (c.cut g) w D:=by
 obtain ⟨ds,h1,h2,h3⟩:=h
 refine ⟨ds,h1,h2,fun r hr => ?_⟩
 obtain ⟨k1,k2,k3,k4,k5⟩:=h3 r hr
 exact ⟨k1,k2,fun ⟨i,o,off,h1,h2,h3⟩=>k3 ⟨i,o,off,(Ctx.cut_get h1).2,h2,h3⟩,k4,k5⟩
theorem AIM (w:World) (r:Nat) (o:Obj):(w.putObj r o).os=w.os∧(w.putObj r o).tape=w.tape∧(w.putObj r o).output=w.output∧(w.putObj r o).heap.size=w.heap.size:=⟨rfl,rfl,rfl,by simp [World.putObj]⟩
theorem AQ2 {w:World} {b:Nat} {r:Loop} (h:w.heap[b]?=some (.loop r)):w.shape? b=none:=by simp [World.shape?,h]
theorem Sim.loopTurn {β:Nat→Nat→Option (Nat×Nat)} {H:List Ob} {F:Nat→Prop} {w:World} (hs:Sim ⟨β,H,F⟩ w) {id N:Nat} {fn:FuncId} {e:Env} {ps:List Nat} {ca cb:Code} {st st':LoopState} {pe pe':Option Code}
  (ho:H[id]?=some (.lp st pe fn N e ps ca cb)):∃ (b:Nat) (r:Loop),β id 0=some (b,0)∧w.heap[b]?=some (.loop r)∧r.state=st∧r.pending=pe∧r.fn=fn∧r.tmps.size=N∧r.params=ps.toArray∧r.assign=ca∧r.body=cb∧(∀ s,Rep ⟨β,H,F⟩ w (get e s) (r.tmps.getD s undef)) ∧
   Sim ⟨β,H.set id (.lp st' pe' fn N e ps ca cb),F⟩ (w.putObj b (.loop { r with state:=st',pending:=pe' })) ∧
   AyN ⟨β,H,F⟩ w ⟨β,H.set id (.lp st' pe' fn N e ps ca cb),F⟩ (w.putObj b (.loop { r with state:=st',pending:=pe' })):=by
 obtain ⟨b,tmps,D,h1,h2,h3,h4⟩:=hs.ob id _ ho
 have hlt:b<w.heap.size:=(Array.getElem?_eq_some_iff.1 h2).1
 have hid:id<H.length:=(List.getElem?_eq_some_iff.1 ho).1
 have hput:=World.putObj_heap_same (w:=w) (o := .loop { state:=st',pending:=pe',fn:=fn,tmps:=tmps,params:=ps.toArray,assign:=ca,body:=cb,defers:=D }) hlt
 obtain ⟨k1,k2⟩:=hs.turn (β':=β) (w':=w.putObj b (.loop { state:=st',pending:=pe',fn:=fn,tmps:=tmps,params:=ps.toArray,assign:=ca,body:=cb,defers:=D })) ho (o' := .lp st' pe' fn N e ps ca cb) rfl rfl (Nat.le_refl _) (fun _ _ _=>rfl) (fun b' off hb => .inl ⟨off,hb⟩) rfl rfl rfl
  (by rw [(AIM _ _ _).2.2.2]; exact Nat.le_refl _) (fun b' hb'=>by
   by_cases hbb:b'=b
   ·subst hbb; rw [AQ2 h2,AQ2 hput]
   ·exact Azr (World.putObj_heap_other hbb)) (fun b' hb' hne=>World.putObj_heap_other (fun e=>hne 0 (by subst e; exact h1)))
  (fun hm=>⟨b,tmps,D,h1,hput,h3,fun s=>Rep.mono hm (h4 s)⟩)
 exact ⟨b,{ state:=st,pending:=pe,fn:=fn,tmps:=tmps,params:=ps.toArray,assign:=ca,body:=cb,defers:=D },h1,h2,rfl,rfl,rfl,h3,rfl,rfl,rfl,h4,k1,k2⟩
theorem APz {N nn:Nat} {f0:Operand} {ps0:Array Tmp} {ca cb:Code} {Q:VEx→Env→List Ob→Prop} {e:Env} {H:List Ob} {β:Nat→Nat→Option (Nat×Nat)} {F:Nat→Prop} {w:World} {a:Act} {QQ:Exit→Act→World→Prop} {B:Nat} {D D0:List Deferred}
  (hs:Sim ⟨β,H,F⟩ w) (hf:Fr N D ⟨β,H,F⟩ w e a) (hm:AGC D0 B ⟨β,H,F⟩ w D) (hB:B≤w.heap.size) {g:FuncId} {us vs:List Value} {first caps:List TV} (hv:a.eval f0 = .func (.func g) us.toArray vs.toArray) (hgo:AOL P g=true) (hfi:Azd ⟨β,H,F⟩ w first us) (hc:Azd ⟨β,H,F⟩ w caps vs)
  (h:∀ fn,AyI P g (first++[.yl H.length 0]++caps) (H++[.lp .ready none fn N e ps0.toList ca cb]) (AVl Q e H.length))
  (hk:∀ x e' H' β' F' w' a' D',Q x e' H'→Sim ⟨β',H',F'⟩ w'→Fr N D' ⟨β',H',F'⟩ w' e' a'→AGC D0 B ⟨β',H',F'⟩ w' D'→AyN ⟨β,H,F⟩ w ⟨β',H',F'⟩ w'→QQ x.ex a' w'):(Code.rangeFunc f0 ps0 ca cb).wpIn (fz none) nn P QQ a w:=by
 refine wpIn_rangeFunc ?_
 intro fn hfn
 obtain ⟨rec,hrec⟩:∃ rec:Loop,rec={ state := .ready,pending:=none,fn:=fn,tmps:=a.tmps,params:=ps0,assign:=ca,body:=cb,defers:=w.heap.size }:=⟨_,rfl⟩
 obtain ⟨W1,hW1⟩:∃ W1,(w.alloc (.deferred (some []))).alloc (.loop rec)=W1:=⟨_,rfl⟩
 have hL1:W1.heap[w.heap.size+1]?=some (.loop rec):=by
  rw [←hW1]; have:=World.alloc_heap_new (w.alloc (.deferred (some []))) (.loop rec); rwa [World.size_alloc] at this
 have hK1:W1.heap[w.heap.size]?=some (.deferred (some [])):=by
  rw [←hW1]; exact (Below.heap_alloc _ _ _ (by simp)).trans (World.alloc_heap_new w _)
 have hsz:W1.heap.size=w.heap.size+2:=by rw [←hW1]; simp
 have hold:∀ b,b<w.heap.size→W1.heap[b]?=w.heap[b]?:=fun b hb=>by
  rw [←hW1]; exact (Below.heap_alloc _ _ _ (by simp; omega)).trans (Below.heap_alloc _ _ _ hb)
 obtain ⟨k1,k2⟩:=hs.new (w':=W1) (.lp .ready none fn N e ps0.toList ca cb) rfl (some (w.heap.size+1,0)) (fun b off h=>by simp at h; omega) (by rw [←hW1]; rfl) (by rw [←hW1]; rfl) (by rw [←hW1]; rfl) (by omega) hold
  (fun hmo=>⟨w.heap.size+1,a.tmps,w.heap.size,AyS,by rw [hL1,hrec],hf.size,fun s=>Rep.mono hmo (hf.env.1 s)⟩)
 have hmo:=k2.mono hs
 have hown1:∀ b,Ctx.own ⟨upd β H.length 0 (some (w.heap.size+1,0)),H++[.lp .ready none fn N e ps0.toList ca cb],F⟩ b→b≠w.heap.size:=by
  rintro b ⟨i,o,off,h1,h2,h3⟩ rfl
  by_cases hi:i<H.length
  ·rw [List.getElem?_append_left hi] at h1
   have h3':β i o.ver=some (w.heap.size,off):=by
    have h3:upd β H.length 0 (some (w.heap.size+1,0)) i o.ver=some (w.heap.size,off):=h3
    rw [AL5 (fun h=>by omega)] at h3; exact h3
   have:=hs.own_lt ⟨i,o,off,h1,h2,h3'⟩
   omega
  ·have hil:i=H.length:=by
    have:=(List.getElem?_eq_some_iff.1 h1).1
    simp at this; omega
   subst hil
   simp at h1
   subst h1
   have h3:upd β H.length 0 (some (w.heap.size+1,0)) H.length 0=some (w.heap.size,off):=h3
   rw [AyS] at h3
   simp at h3
 refine ⟨w.heap.size+1,[{ target := .collected w.heap.size,args := #[] }],W1,{ target := .fn (.func g) vs.toArray,args:=us.toArray ++ #[.func (.yield (w.heap.size+1)) #[] #[]] },W1,g,us.toArray ++ #[.func (.yield (w.heap.size+1)) #[] #[]]++vs.toArray,W1,?_,?_,?_,?_,?_,?_⟩
 ·rw [←hW1,hrec]; exact run_enterLoop_outer _ _ _ _ _
 ·simp only [resolve,hv]
  simp [go_sem]
 ·intro f' hf'; trivial
 ·simp only [invoke,ACE hgo]
 ·intro h; simp [fz,Fence.wide] at h
 ·refine (callsIn_wide (n:=nn - 1)).2 ?_
  have hargs:Azd ⟨upd β H.length 0 (some (w.heap.size+1,0)),H++[.lp .ready none fn N e ps0.toList ca cb],F⟩ W1 (first++[.yl H.length 0]++caps) (us++[.func (.yield (w.heap.size+1)) #[] #[]]++vs):=by
   refine Azd.append (Azd.append (Azd.mono hmo hfi) (Azd.cons.2 ⟨_,[],rfl,.inr (.inr ⟨[.func (.yield (w.heap.size+1)) #[] #[]],?_,rfl⟩),by rw [Azd]⟩)) (Azd.mono hmo hc)
   rw [AyG]
   exact ⟨ABp _ _ _ _ _ (Nat.le_refl _),_,_,AyS,rfl⟩
  have hcall:=h fn _ _ W1 _ k1 hargs
  rw [show (us++[Value.func (.yield (w.heap.size+1)) #[] #[]]++vs).toArray=us.toArray ++ #[.func (.yield (w.heap.size+1)) #[] #[]]++vs.toArray from by simp] at hcall
  refine hcall.mono ?_
  rintro _ w3 ⟨v,x,β',H',F',rfl,hR,hs',hl',hx⟩
  have hmk:AGC D0 B ⟨β',H',F'⟩ w3 ({ target := .collected w.heap.size,args := #[] }::D):=by
   have h1:AGC D0 B ⟨upd β H.length 0 (some (w.heap.size+1,0)),H++[.lp .ready none fn N e ps0.toList ca cb],F⟩ W1 ({ target := .collected w.heap.size,args := #[] }::D):=by
    obtain ⟨ds,d1,d2,d3⟩:=hm.later k2
    refine ⟨w.heap.size::ds,by rw [d1]; rfl,List.nodup_cons.2 ⟨fun hin => ?_,d2⟩,fun r hr => ?_⟩
    ·obtain ⟨ds',e1,e2,e3⟩:=hm
     have:ds'=ds:=by
      have:ds'.map (fun r=>({ target := .collected r,args := #[] }:Deferred))=ds.map (fun r=>{ target := .collected r,args := #[] }):=List.append_cancel_right (e1.symm.trans d1)
      exact (List.map_inj_right (fun a b h=>by simpa using h)).1 this
     rw [←this] at hin
     have:=(e3 _ hin).2.1
     omega
    ·rcases List.mem_cons.1 hr with rfl | hr
     ·exact ⟨hB,by omega,fun ho=>hown1 _ ho rfl,fun hF=>absurd (hs.lt _ hF) (by omega),hK1⟩
     ·exact d3 r hr
   exact h1.later hl'
  have fin:∀ (st:LoopState) (pe:Option Code) (fn':FuncId) (N':Nat) (e1:Env) (ps1:List Nat) (c1 c2:Code),st ≠ .busy→H'[H.length]?=some (.lp st pe fn' N' e1 ps1 c1 c2) →
    ∃ w4,(Instr.endLoop (w.heap.size+1)).run P w3 = .ok pe w4∧Sim ⟨β',H'.set H.length (.lp .exhausted pe fn' N' e1 ps1 c1 c2),F'⟩ w4∧AyN ⟨β',H',F'⟩ w3 ⟨β',H'.set H.length (.lp .exhausted pe fn' N' e1 ps1 c1 c2),F'⟩ w4:=by
   intro st pe fn' N' e1 ps1 c1 c2 hst hob
   obtain ⟨b,r,r1,r2,r3,r4,_,_,_,_,_,_,r5,r6⟩:=hs'.loopTurn (st' := .exhausted) (pe':=pe) hob
   have hβ:β' H.length 0=some (w.heap.size+1,0):=((hl'.has H.length 0 (ABp _ _ _ _ _ (Nat.le_refl _))).2).trans AyS
   rw [hβ] at r1
   obtain ⟨rfl,_⟩:w.heap.size+1=b∧True:=by simpa using r1
   subst r4
   exact ⟨_,run_endLoop (P:=P) r2 (by rw [r3]; exact hst),r5,r6⟩
  have hfr:∀ {c:Ctx} {w4:World},AyN ⟨β,H,F⟩ w c w4→ADv c.F w4→Fr N ({ target := .collected w.heap.size,args := #[] }::D) c w4 e { a with defers:={ target := .collected w.heap.size,args := #[] }::a.defers }:=fun {c w4} hl hgl =>
   ⟨⟨fun s=>Rep.mono (hl.mono hs) (hf.env.1 s),hgl⟩,hf.size,by rw [hf.defers]⟩
  unfold AVl at hR
  simp only [rangePost]
  split at hR
  ·rename_i hob
   obtain ⟨w4,e1,e2,e3⟩:=fin .ready none _ _ _ _ _ _ (by simp) hob
   exact ⟨none,w4,e1,hk .nor _ _ _ _ _ _ _ hR e2 (hfr ((k2.trans hl').trans e3) e2.glob) (hmk.later e3) ((k2.trans hl').trans e3)⟩
  ·rename_i hob
   obtain ⟨w4,e1,e2,e3⟩:=fin .done (some .ret) _ _ _ _ _ _ (by simp) hob
   exact ⟨some .ret,w4,e1,wpIn_ret (hk .ret _ _ _ _ _ _ _ hR e2 (hfr ((k2.trans hl').trans e3) e2.glob) (hmk.later e3) ((k2.trans hl').trans e3))⟩
  ·rename_i i _ _ _ _ _ _ hob
   obtain ⟨w4,e1,e2,e3⟩:=fin .done (some (.exit _)) _ _ _ _ _ _ (by simp) hob
   exact ⟨some (.exit _),w4,e1,wpIn_exit (hk (.exit _) _ _ _ _ _ _ _ hR e2 (hfr ((k2.trans hl').trans e3) e2.glob) (hmk.later e3) ((k2.trans hl').trans e3))⟩
  ·exact hR.elim
theorem ABv {b:Frame} {a:Act} {k:List Item} {cs:List Frame} {w:World} {c:Code}:step P (lone (b.atR a (.code (.scope c)::k)) cs w) = .next (lone (b.atR a (.code c :: .inScope c::k)) cs w) :=
 step_lone_go (by simp [stepG,stepG.exec,Frame.atR])
theorem AQf {b:Frame} {a:Act} {k:List Item} {cs:List Frame} {w:World} {c:Code}:step P (lone (b.atR a (.inScope c::k)) cs w) = .next (lone (b.atR a k) cs w) :=
 step_lone_go (by simp [stepG,stepG.exec,Frame.atR])
theorem AUv {F:Fence} {n:Nat} {Q:Exit→Act→World→Prop} {a:Act} {w:World} {c:Code} (h:c.wpIn F n P (Exit.noGoto Q) a w):(Code.scope c).wpIn F n P Q a w:=by
 intro b k cs hro hb hr
 have h0:(lone (b.atR a (.code (.scope c)::k)) cs w).fenced P F:=fenced_calm hb hr rfl
 obtain ⟨e,a₁,w₁,hq,harr⟩:=h b (.inScope c::k) cs hro hb hr
 cases e with
 | normal=>exact ⟨.normal,a₁,w₁,hq,.head h0 ABv (StepsIn.trans harr (.one (fenced_calm hb hr rfl) AQf))⟩
 | exit id' =>
  have hx:exitTo id' (.inScope c::k)=exitTo id' k:=by simp [exitTo]
  exact ⟨.exit id',a₁,w₁,hq,fun k' hk => .head h0 ABv (harr.1 k' (by rw [hx]; exact hk)),fun hr' hk=>let ⟨k₁,h1,h2⟩:=harr.2 hr' (by rw [hx]; exact hk); ⟨k₁,h1,.head h0 ABv h2⟩⟩
 | goto l=>exact hq.elim
 | ret=>exact ⟨_,a₁,w₁,hq,.of_steps (.one h0 ABv) harr⟩
 | panic ch=>exact ⟨_,a₁,w₁,hq,.of_steps (.one h0 ABv) harr⟩
 | outgrown=>exact ⟨_,a₁,w₁,hq,.of_steps (.one h0 ABv) harr⟩
theorem AX5 {N:Nat} {ro:Option Nat} {nn:Nat}:∀ (vc:AyC) {code:Code},(ro=none∨AOZ vc=true)→trC P N code=some (er vc)→∀ {Q:VEx→Env→List Ob→Prop} {e:Env} {H:List Ob} {β:Nat→Nat→Option (Nat×Nat)} {F:Nat→Prop} {w:World} {a:Act} {QQ:Exit→Act→World→Prop} {B:Nat} {D D0:List Deferred},vwp P vc Q e H→Sim ⟨β,H,F⟩ w→Fr N D ⟨β,H,F⟩ w e a→AGC D0 B ⟨β,H,F⟩ w D→B≤w.heap.size →
  (∀ x e' H' β' F' w' a' D',Q x e' H'→Sim ⟨β',H',F'⟩ w'→Fr N D' ⟨β',H',F'⟩ w' e' a'→AGC D0 B ⟨β',H',F'⟩ w' D'→AyN ⟨β,H,F⟩ w ⟨β',H',F'⟩ w'→QQ x.ex a' w')→code.wpIn (fz ro) nn P QQ a w:=by
 intro vc
 have inv:∀ {code:Code} {v:AyC},trC P N code=some v→True:=fun _=>trivial
 induction vc with
 | ops l kp =>
  intro code hrf ht Q e H β F w a QQ B D D0 h hs hf hm hB hk
  rw [er] at ht
  cases code with
  | region id ops d =>
   cases d with
   | true=>exact (ABk ht (by simp) (by simp) (by simp)).elim
   | false =>
    obtain ⟨l',hl,e9⟩:=(A0g ht).resolve_right (by simp)
    simp only [AyC.ops.injEq,and_true] at e9
    subst e9
    rw [vwp] at h
    exact wpIn_region_list (AQ6 hl h hs hf fun e' H' β' F' w' a' k1 k2 k3 k4=>hk .nor _ _ _ _ _ _ _ k1 k2 (k3.forget kp) (hm.later k4) k4)
  | seq x y=>simp only [trC] at ht; split at ht<;>simp at ht
  | cond c x y=>simp only [trC] at ht; split at ht<;>simp at ht
  | rangeFunc f ps x y=>simp only [trC] at ht; split at ht<;>(try split at ht)<;>simp at ht
  | _=>simp [trC] at ht
 | opsZ l zs r kp =>
  intro code hrf ht Q e H β F w a QQ B D D0 h hs hf hm hB hk
  rw [er] at ht
  cases code with
  | region id ops d =>
   cases d with
   | true=>exact (ABk ht (by simp) (by simp) (by simp)).elim
   | false =>
    obtain ⟨l',hl,e9⟩:=(A0g ht).resolve_right (by simp)
    simp only [AyC.ops.injEq,and_true] at e9
    subst e9
    rw [vwp] at h
    exact wpIn_region_list (AUg hl h hs hf fun e' H' β' F' w' a' k1 k2 k3 k4=>hk .nor _ _ _ _ _ _ _ k1 k2 (k3.forget kp) (hm.later k4) k4)
  | seq x y=>simp only [trC] at ht; split at ht<;>simp at ht
  | cond c x y=>simp only [trC] at ht; split at ht<;>simp at ht
  | rangeFunc f ps x y=>simp only [trC] at ht; split at ht<;>(try split at ht)<;>simp at ht
  | _=>simp [trC] at ht
 | pops l kp =>
  intro code hrf ht Q e H β F w a QQ B D D0 h hs hf hm hB hk
  rw [er] at ht
  cases code with
  | region id ops d =>
   cases d with
   | true=>exact (ABk ht (by simp) (by simp) (by simp)).elim
   | false =>
    obtain ⟨l',hl,e9⟩:=(A0g ht).resolve_right (by simp)
    simp only [AyC.ops.injEq,and_true] at e9
    subst e9
    rw [vwp] at h
    exact wpIn_region_list (ATV hl h hs hf (fun e' H' β' F' w' a' k1 k2 k3 k4=>hk .nor _ _ _ _ _ _ _ k1 k2 (k3.forget kp) (hm.later k4) k4) fun u H' β' F' w' a' k1 k2 k3 k4=>hk (.pan u) _ _ _ _ _ _ _ k1 k2 k3 (hm.later k4) k4)
  | seq x y=>simp only [trC] at ht; split at ht<;>simp at ht
  | cond c x y=>simp only [trC] at ht; split at ht<;>simp at ht
  | rangeFunc f ps x y=>simp only [trC] at ht; split at ht<;>(try split at ht)<;>simp at ht
  | _=>simp [trC] at ht
 | draw n l kp =>
  intro code hrf ht Q e H β F w a QQ B D D0 h hs hf hm hB hk
  rw [er] at ht
  cases code with
  | region id ops d =>
   cases d with
   | false=>exact (ABj ht (by simp) (by simp)).elim
   | true =>
    obtain ⟨bz,hsp⟩:=AGE ((A1p ht).resolve_right (by simp))
    obtain ⟨n',l',e9,hmo,hh⟩:=hsp.resolve_right (by simp)
    simp only [AyC.draw.injEq,and_true] at e9
    obtain ⟨rfl,rfl⟩:=e9
    rw [vwp] at h
    rcases hh with ⟨hl,hck⟩ | ⟨π,hp,hl,hck⟩
    ·exact AQJ WOk.vop hmo hl hck h hs hf ⟨fun e' H' β' F' w' a' k1 k2 k3 k4=>hk .nor _ _ _ _ _ _ _ k1 k2 (k3.forget kp) (hm.later k4) k4,fun _ _ _ _ _ _ (h:False)=>h.elim⟩
    ·exact AK7 WOk.vop hmo hp hl hck h hs hf ⟨fun e' H' β' F' w' a' k1 k2 k3 k4=>hk .nor _ _ _ _ _ _ _ k1 k2 (k3.forget kp) (hm.later k4) k4,fun _ _ _ _ _ _ (h:False)=>h.elim⟩
  | seq x y=>simp only [trC] at ht; split at ht<;>simp at ht
  | cond c x y=>simp only [trC] at ht; split at ht<;>simp at ht
  | rangeFunc f ps x y=>simp only [trC] at ht; split at ht<;>(try split at ht)<;>simp at ht
  | _=>simp [trC] at ht
 | pdraw n l kp =>
  intro code hrf ht Q e H β F w a QQ B D D0 h hs hf hm hB hk
  rw [er] at ht
  cases code with
  | region id ops d =>
   cases d with
   | false=>exact (ABj ht (by simp) (by simp)).elim
   | true =>
    obtain ⟨bz,hsp⟩:=AGE ((A1p ht).resolve_right (by simp))
    obtain ⟨n',l',e9,hmo,hh⟩:=hsp.resolve_right (by simp)
    simp only [AyC.draw.injEq,and_true] at e9
    obtain ⟨rfl,rfl⟩:=e9
    rw [vwp] at h
    rcases hh with ⟨hl,hck⟩ | ⟨π,hp,hl,hck⟩
    ·exact AQJ WOk.pvop hmo hl hck h hs hf ⟨fun e' H' β' F' w' a' k1 k2 k3 k4=>hk .nor _ _ _ _ _ _ _ k1 k2 (k3.forget kp) (hm.later k4) k4,fun u H' β' F' w' a' k1 k2 k3 k4=>hk (.pan u) _ _ _ _ _ _ _ k1 k2 k3 (hm.later k4) k4⟩
    ·exact AK7 WOk.pvop hmo hp hl hck h hs hf ⟨fun e' H' β' F' w' a' k1 k2 k3 k4=>hk .nor _ _ _ _ _ _ _ k1 k2 (k3.forget kp) (hm.later k4) k4,fun u H' β' F' w' a' k1 k2 k3 k4=>hk (.pan u) _ _ _ _ _ _ _ k1 k2 k3 (hm.later k4) k4⟩
  | seq x y=>simp only [trC] at ht; split at ht<;>simp at ht
  | cond c x y=>simp only [trC] at ht; split at ht<;>simp at ht
  | rangeFunc f ps x y=>simp only [trC] at ht; split at ht<;>(try split at ht)<;>simp at ht
  | _=>simp [trC] at ht
 | sdraw n l kp =>
  intro code hrf ht Q e H β F w a QQ B D D0 h hs hf hm hB hk
  rw [er] at ht
  cases code with
  | region id ops d =>
   cases d with
   | false=>exact (ABj ht (by simp) (by simp)).elim
   | true =>
    obtain ⟨bz,hsp⟩:=AGE ((A1p ht).resolve_right (by simp))
    obtain ⟨n',l',e9,hmo,π,hp,hl,hck⟩:=hsp.resolve_left (by simp)
    simp only [AyC.sdraw.injEq,and_true] at e9
    obtain ⟨rfl,rfl⟩:=e9
    rw [vwp] at h
    exact AK7 WOk.pvopS hmo hp hl hck h hs hf ⟨fun e' H' β' F' w' a' k1 k2 k3 k4=>hk .nor _ _ _ _ _ _ _ k1 k2 (k3.forget kp) (hm.later k4) k4,fun u H' β' F' w' a' k1 k2 k3 k4=>hk (.pan u) _ _ _ _ _ _ _ k1 k2 k3 (hm.later k4) k4⟩
  | seq x y=>simp only [trC] at ht; split at ht<;>simp at ht
  | cond c x y=>simp only [trC] at ht; split at ht<;>simp at ht
  | rangeFunc f ps x y=>simp only [trC] at ht; split at ht<;>(try split at ht)<;>simp at ht
  | _=>simp [trC] at ht
 | skip =>
  intro code hrf ht Q e H β F w a QQ B D D0 h hs hf hm hB hk
  rw [er] at ht
  cases code with
  | skip=>exact wpIn_skip (hk .nor _ _ _ _ _ _ _ h hs hf hm (AyN.refl _ _))
  | label l=>exact wpIn_label (hk .nor _ _ _ _ _ _ _ h hs hf hm (AyN.refl _ _))
  | region id ops d =>
   cases d
   ·exact (ABj ht (by simp) (by simp)).elim
   ·exact (ABk ht (by simp) (by simp) (by simp)).elim
  | seq x y=>simp only [trC] at ht; split at ht<;>simp at ht
  | cond c x y=>simp only [trC] at ht; split at ht<;>simp at ht
  | rangeFunc f ps x y=>simp only [trC] at ht; split at ht<;>(try split at ht)<;>simp at ht
  | _=>simp [trC] at ht
 | seq x y ihx ihy =>
  intro code hrf ht Q e H β F w a QQ B D D0 h hs hf hm hB hk
  rw [er] at ht
  cases code with
  | region id ops d =>
   cases d
   ·exact (ABj ht (by simp) (by simp)).elim
   ·exact (ABk ht (by simp) (by simp) (by simp)).elim
  | seq cx cy =>
   simp only [trC] at ht
   split at ht
   ·rename_i vx vy hx hy
    simp only [Option.some.injEq,AyC.seq.injEq] at ht
    obtain ⟨rfl,rfl⟩:=ht
    rw [vwp] at h
    have hrx:ro=none∨AOZ x=true:=hrf.imp id fun h=>by simp only [AOZ,Bool.and_eq_true] at h; exact h.1
    have hry:ro=none∨AOZ y=true:=hrf.imp id fun h=>by simp only [AOZ,Bool.and_eq_true] at h; exact h.2
    refine wpIn_seq (ihx hrx hx h hs hf hm hB ?_)
    intro x e' H' β' F' w' a' D' k1 k2 k3 km k4
    cases x with
    | nor=>exact ihy hry hy k1 k2 k3 km (Nat.le_trans hB k4.size) fun x e2 H2 β2 F2 w2 a2 D2 m1 m2 m3 mm m4=>hk _ _ _ _ _ _ _ _ m1 m2 m3 mm (k4.trans m4)
    | exit i=>exact hk (.exit i) _ _ _ _ _ _ _ k1 k2 k3 km k4
    | ret=>exact hk .ret _ _ _ _ _ _ _ k1 k2 k3 km k4
    | pan u=>exact hk (.pan u) _ _ _ _ _ _ _ k1 k2 k3 km k4
   ·simp at ht
  | cond c x y=>simp only [trC] at ht; split at ht<;>simp at ht
  | rangeFunc f ps x y=>simp only [trC] at ht; split at ht<;>(try split at ht)<;>simp at ht
  | _=>simp [trC] at ht
 | cond c x y ihx ihy =>
  intro code hrf ht Q e H β F w a QQ B D D0 h hs hf hm hB hk
  rw [er] at ht
  cases code with
  | region id ops d =>
   cases d
   ·exact (ABj ht (by simp) (by simp)).elim
   ·exact (ABk ht (by simp) (by simp) (by simp)).elim
  | seq x y=>simp only [trC] at ht; split at ht<;>simp at ht
  | cond cc cx cy =>
   simp only [trC] at ht
   split at ht
   ·rename_i vx vy hx hy
    simp only [Option.some.injEq,AyC.cond.injEq] at ht
    obtain ⟨rfl,rfl,rfl⟩:=ht
    rw [vwp] at h
    split at h
    ·rename_i t hc
     have hrx:ro=none∨AOZ x=true:=hrf.imp id fun h=>by simp only [AOZ,Bool.and_eq_true] at h; exact h.1
     have hry:ro=none∨AOZ y=true:=hrf.imp id fun h=>by simp only [AOZ,Bool.and_eq_true] at h; exact h.2
     refine wpIn_cond_split (hf.env.val hc) (fun htt => ?_) (fun htf => ?_)
     ·rw [if_pos htt] at h; exact ihx hrx hx h hs hf hm hB hk
     ·rw [if_neg (by rw [htf]; simp)] at h; exact ihy hry hy h hs hf hm hB hk
    ·exact h.elim
   ·simp at ht
  | rangeFunc f ps x y=>simp only [trC] at ht; split at ht<;>(try split at ht)<;>simp at ht
  | _=>simp [trC] at ht
 | block id x ih =>
  intro code hrf ht Q e H β F w a QQ B D D0 h hs hf hm hB hk
  rw [er] at ht
  cases code with
  | region id ops d =>
   cases d
   ·exact (ABj ht (by simp) (by simp)).elim
   ·exact (ABk ht (by simp) (by simp) (by simp)).elim
  | seq x y=>simp only [trC] at ht; split at ht<;>simp at ht
  | cond c x y=>simp only [trC] at ht; split at ht<;>simp at ht
  | rangeFunc f ps x y=>simp only [trC] at ht; split at ht<;>(try split at ht)<;>simp at ht
  | block id' c =>
   simp only [trC,Option.map_eq_some_iff,AyC.block.injEq] at ht
   obtain ⟨vx,hx,rfl,rfl⟩:=ht
   rw [vwp] at h
   refine wpIn_block (ih hrf hx h hs hf hm hB ?_)
   intro x e' H' β' F' w' a' D' k1 k2 k3 km k4
   cases x with
   | nor=>exact hk .nor _ _ _ _ _ _ _ k1 k2 k3 km k4
   | exit i =>
    show Exit.inBlock _ QQ (.exit i) a' w'
    simp only [Exit.inBlock]
    simp only at k1
    split at k1
    ·rename_i hi; rw [if_pos hi]; exact hk .nor _ _ _ _ _ _ _ k1 k2 k3 km k4
    ·rename_i hi; rw [if_neg hi]; exact hk (.exit i) _ _ _ _ _ _ _ k1 k2 k3 km k4
   | ret=>exact hk .ret _ _ _ _ _ _ _ k1 k2 k3 km k4
   | pan u=>exact hk (.pan u) _ _ _ _ _ _ _ k1 k2 k3 km k4
  | _=>simp [trC] at ht
 | loop lv x ih =>
  intro code hrf ht Q e H β F w a QQ B D D0 h hs hf hm hB hk
  rw [er] at ht
  cases code with
  | region id ops d =>
   cases d
   ·exact (ABj ht (by simp) (by simp)).elim
   ·exact (ABk ht (by simp) (by simp) (by simp)).elim
  | seq x y=>simp only [trC] at ht; split at ht<;>simp at ht
  | cond c x y=>simp only [trC] at ht; split at ht<;>simp at ht
  | rangeFunc f ps x y=>simp only [trC] at ht; split at ht<;>(try split at ht)<;>simp at ht
  | loop c =>
   simp only [trC,Option.map_eq_some_iff,AyC.loop.injEq] at ht
   obtain ⟨vx,hx,_,rfl⟩:=ht
   rw [vwp] at h
   obtain ⟨I,n,h0,hstep⟩:=h
   refine wpIn_loop_ghost (fun n a' w'=>∃ e' H' β' F' D',I n e' H'∧Sim ⟨β',H',F'⟩ w'∧Fr N D' ⟨β',H',F'⟩ w' e' a'∧AGC D0 B ⟨β',H',F'⟩ w' D'∧AyN ⟨β,H,F⟩ w ⟨β',H',F'⟩ w') n ⟨_,_,_,_,_,h0,hs,hf.forget lv,hm,AyN.refl _ _⟩ ?_
   rintro n a' w' ⟨e',H',β',F',D',k1,k2,k3,km,k4⟩
   refine ih hrf hx (hstep n e' H' k1) k2 k3 km (Nat.le_trans hB k4.size) ?_
   intro x e2 H2 β2 F2 w2 a2 D2 m1 m2 m3 mm m4
   cases x with
   | nor =>
    obtain ⟨m,g,hmn,⟨hg,hb⟩,hI⟩:=m1
    have hf3:=m3.forget lv
    rcases hb with hle | ⟨hbe,hbh⟩
    ·rw [List.take_of_length_le hle] at hI
     exact ⟨m,hmn,_,_,_,_,_,hI,m2,hf3,mm,k4.trans m4⟩
    exact ⟨m,hmn,_,_,_,_,_,hI,m2.cut hbh,⟨⟨fun s=>Rep.cut (AM0 hbe s) (hf3.env.1 s),hf3.env.2⟩,hf3.size,hf3.defers⟩,mm.cut,(k4.trans m4).cut hg⟩
   | exit i=>exact hk (.exit i) _ _ _ _ _ _ _ m1 m2 m3 mm (k4.trans m4)
   | ret=>exact hk .ret _ _ _ _ _ _ _ m1 m2 m3 mm (k4.trans m4)
   | pan u=>exact hk (.pan u) _ _ _ _ _ _ _ m1 m2 m3 mm (k4.trans m4)
  | _=>simp [trC] at ht
 | exit id =>
  intro code hrf ht Q e H β F w a QQ B D D0 h hs hf hm hB hk
  rw [er] at ht
  cases code with
  | region id ops d =>
   cases d
   ·exact (ABj ht (by simp) (by simp)).elim
   ·exact (ABk ht (by simp) (by simp) (by simp)).elim
  | seq x y=>simp only [trC] at ht; split at ht<;>simp at ht
  | cond c x y=>simp only [trC] at ht; split at ht<;>simp at ht
  | rangeFunc f ps x y=>simp only [trC] at ht; split at ht<;>(try split at ht)<;>simp at ht
  | exit id' =>
   simp only [trC,Option.some.injEq,AyC.exit.injEq] at ht; subst ht
   exact wpIn_exit (hk (.exit _) _ _ _ _ _ _ _ h hs hf hm (AyN.refl _ _))
  | _=>simp [trC] at ht
 | ret =>
  intro code hrf ht Q e H β F w a QQ B D D0 h hs hf hm hB hk
  rw [er] at ht
  cases code with
  | region id ops d =>
   cases d
   ·exact (ABj ht (by simp) (by simp)).elim
   ·exact (ABk ht (by simp) (by simp) (by simp)).elim
  | seq x y=>simp only [trC] at ht; split at ht<;>simp at ht
  | cond c x y=>simp only [trC] at ht; split at ht<;>simp at ht
  | rangeFunc f ps x y=>simp only [trC] at ht; split at ht<;>(try split at ht)<;>simp at ht
  | ret=>exact wpIn_ret (hk .ret _ _ _ _ _ _ _ h hs hf hm (AyN.refl _ _))
  | _=>simp [trC] at ht
 | dead =>
  intro code hrf ht Q e H β F w a QQ B D D0 h
  rw [vwp] at h; exact h.elim
 | scope x ih =>
  intro code hrf ht Q e H β F w a QQ B D D0 h hs hf hm hB hk
  rw [er] at ht
  cases code with
  | region id ops d =>
   cases d
   ·exact (ABj ht (by simp) (by simp)).elim
   ·exact (ABk ht (by simp) (by simp) (by simp)).elim
  | seq x y=>simp only [trC] at ht; split at ht<;>simp at ht
  | cond c x y=>simp only [trC] at ht; split at ht<;>simp at ht
  | rangeFunc f ps x y=>simp only [trC] at ht; split at ht<;>(try split at ht)<;>simp at ht
  | scope c =>
   simp only [trC,Option.map_eq_some_iff,AyC.scope.injEq] at ht
   obtain ⟨vx,hx,rfl⟩:=ht
   rw [vwp] at h
   refine AUv (ih hrf hx h hs hf hm hB ?_)
   intro x e' H' β' F' w' a' D' k1 k2 k3 km k4
   cases x with
   | nor=>exact hk .nor _ _ _ _ _ _ _ k1 k2 k3 km k4
   | exit i=>exact hk (.exit i) _ _ _ _ _ _ _ k1 k2 k3 km k4
   | ret=>exact hk .ret _ _ _ _ _ _ _ k1 k2 k3 km k4
   | pan u=>exact hk (.pan u) _ _ _ _ _ _ _ k1 k2 k3 km k4
  | _=>simp [trC] at ht
 | own s k x ih =>
  intro code hrf ht Q e H β F w a QQ B D D0 h hs hf hm hB hk
  rw [er] at ht
  rw [vwp] at h
  split at h
  ·rename_i hg
   obtain ⟨k1,k2,k3⟩:=hs.own k
   have hv:a.tmps.getD s undef = .slice none 0 0:=by
    have:=hf.env.1 s; rw [hg,Rep.val] at this; exact this
   refine ih hrf ht h k1 ⟨⟨fun s' => ?_,k1.glob⟩,hf.size,hf.defers⟩ (hm.later k2) hB fun x' e' H' β' F' w' a' D' m1 m2 m3 mm m4=>hk x' e' H' β' F' w' a' D' m1 m2 m3 mm (k2.trans m4)
   rw [Azx]
   by_cases hss:s=s'
   ·subst hss; rw [if_pos rfl,hv]; exact Rep.of1 k3 (by simp) (by simp)
   ·rw [if_neg hss]; exact Rep.mono (k2.mono hs) (hf.env.1 s')
  ·exact ih hrf ht h hs hf hm hB hk
 | ownB s p k x ih =>
  intro code hrf ht Q e H β F w a QQ B D D0 h hs hf hm hB hk
  rw [er] at ht
  rw [vwp] at h
  split at h
  ·rename_i id ver p0 hg
   split at h
   ·rename_i v y hid
    obtain ⟨rfl,h⟩:=h
    split at h
    ·rename_i hgp
     split at h
     ·rename_i x' hsp
      obtain ⟨k1,k2,k3⟩:=hs.own k
      have hlt:id<H.length:=(List.getElem?_eq_some_iff.1 hid).1
      have hid':(H++[Ob.obj 0 (.arr 0 k [])])[id]?=some (.obj v y):=by rw [List.getElem?_append_left hlt]; exact hid
      obtain ⟨q1,q2⟩:=k1.turn (o' := .obj v x') (w':=w) (β':=upd β H.length 0 none) hid' rfl rfl (Nat.le_refl _) (fun _ _ _=>rfl) (fun b off e => .inl ⟨off,e⟩) rfl rfl rfl (Nat.le_refl _) (fun _ _=>rfl) (fun _ _ _=>rfl) (fun hm=>by
       rcases k1.ob id _ hid' with ⟨r0,r1⟩ | ⟨b,off,pre,vs,post,t,fr,r0,r1,r2,r3,r4⟩
       ·refine .inl ⟨r0,?_⟩
        exact AyG.mono hm (ALt r1 hgp (fun m hm'=>by rw [AyG] at hm'; rw [hm'.1]; exact k3) hsp)
       ·refine .inr ⟨b,off,pre,vs,post,t,fr,r0,r1,r2,r3,?_⟩
        exact AyG.mono hm (ALt r4 hgp (fun m hm'=>by rw [AyG] at hm'; rw [hm'.1]; exact k3) hsp))
      rw [List.set_append_left _ _ hlt] at q1 q2
      exact ih hrf ht h q1 ⟨⟨fun s'=>Rep.mono (q2.mono k1) (Rep.mono (k2.mono hs) (hf.env.1 s')),q1.glob⟩,hf.size,hf.defers⟩ (hm.later (k2.trans q2)) hB fun x' e' H' β' F' w' a' D' m1 m2 m3 mm m4=>hk x' e' H' β' F' w' a' D' m1 m2 m3 mm ((k2.trans q2).trans m4)
     ·exact h.elim
    ·exact ih hrf ht h hs hf hm hB hk
   ·exact h.elim
  ·exact h.elim
 | frz s x ih =>
  intro code hrf ht Q e H β F w a QQ B D D0 h hs hf hm hB hk
  rw [er] at ht
  rw [vwp] at h
  split at h
  ·rename_i k id ver p off n cp hg
   split at h
   ·rename_i v y hid
    obtain ⟨rfl,h⟩:=h
    split at h
    ·rename_i cs hcs
     obtain ⟨k1,k2⟩:=hs.freeze hid rfl
     have hr:Rep ⟨β,H,F⟩ w (get e s) (a.tmps.getD s undef):=hf.env.1 s
     rw [hg] at hr
     have hr':Rep ⟨β,H.set id (.gone v),fun b=>F b∨∃ off,β id v=some (b,off)⟩ w (.sl k cs) (a.tmps.getD s undef):=by
      rcases hr with (hr | hr | ⟨us,hr,hr2⟩) | ⟨xs,vs,hr,_⟩
      ·cases hr
      ·cases hr
      ·exact .inl (.inr (.inr ⟨us,hs.give hid hcs hr,by rw [hr2]; rfl⟩))
      ·cases hr
     refine ih hrf ht h k1 ⟨⟨fun s' => ?_,k1.glob⟩,hf.size,hf.defers⟩ (hm.later k2) hB fun x' e' H' β' F' w' a' D' m1 m2 m3 mm m4=>hk x' e' H' β' F' w' a' D' m1 m2 m3 mm (k2.trans m4)
     rw [Azx]
     by_cases hss:s=s'
     ·subst hss; rw [if_pos rfl]; exact hr'
     ·rw [if_neg hss]; exact Rep.mono (k2.mono hs) (hf.env.1 s')
    ·exact h.elim
   ·exact h.elim
  ·exact h.elim
 | ownT s p t x ih =>
  intro code hrf ht Q e H β F w a QQ B D D0 h hs hf hm hB hk
  rw [er] at ht
  rw [vwp] at h
  split at h
  ·rename_i id ver p0 hg
   split at h
   ·rename_i v y hid
    obtain ⟨rfl,h⟩:=h
    split at h
    ·rename_i hgp
     split at h
     ·rename_i x' hsp
      obtain ⟨k1,k2,k3⟩:=hs.ownBld t
      have hlt:id<H.length:=(List.getElem?_eq_some_iff.1 hid).1
      have hid':(H++[Ob.bld 0 t []])[id]?=some (.obj v y):=by rw [List.getElem?_append_left hlt]; exact hid
      obtain ⟨q1,q2⟩:=k1.turn (o' := .obj v x') (w':=w) (β':=upd β H.length 0 none) hid' rfl rfl (Nat.le_refl _) (fun _ _ _=>rfl) (fun b off e => .inl ⟨off,e⟩) rfl rfl rfl (Nat.le_refl _) (fun _ _=>rfl) (fun _ _ _=>rfl) (fun hm=>by
       rcases k1.ob id _ hid' with ⟨r0,r1⟩ | ⟨b,off,pre,vs,post,t,fr,r0,r1,r2,r3,r4⟩
       ·refine .inl ⟨r0,?_⟩
        exact AyG.mono hm (ALt r1 hgp (fun m hm'=>by rw [AyG] at hm'; rw [hm'.1]; exact k3) hsp)
       ·refine .inr ⟨b,off,pre,vs,post,t,fr,r0,r1,r2,r3,?_⟩
        exact AyG.mono hm (ALt r4 hgp (fun m hm'=>by rw [AyG] at hm'; rw [hm'.1]; exact k3) hsp))
      rw [List.set_append_left _ _ hlt] at q1 q2
      exact ih hrf ht h q1 ⟨⟨fun s'=>Rep.mono (q2.mono k1) (Rep.mono (k2.mono hs) (hf.env.1 s')),q1.glob⟩,hf.size,hf.defers⟩ (hm.later (k2.trans q2)) hB fun x' e' H' β' F' w' a' D' m1 m2 m3 mm m4=>hk x' e' H' β' F' w' a' D' m1 m2 m3 mm ((k2.trans q2).trans m4)
     ·exact h.elim
    ·exact ih hrf ht h hs hf hm hB hk
   ·exact h.elim
  ·exact h.elim
 | rfunc g0 ps aS bd iha ihb =>
  intro code hrf ht Q e H β F w a QQ B D D0 h hs hf hm hB hk
  obtain rfl:ro=none:=hrf.resolve_right (by simp [AOZ])
  rw [er] at ht
  cases code with
  | region id ops d =>
   cases d
   ·exact (ABj ht (by simp) (by simp)).elim
   ·exact (ABk ht (by simp) (by simp) (by simp)).elim
  | seq x y=>simp only [trC] at ht; split at ht<;>simp at ht
  | cond c x y=>simp only [trC] at ht; split at ht<;>simp at ht
  | rangeFunc f0 ps0 ca cb =>
   simp only [trC] at ht
   split at ht
   ·rename_i hps
    split at ht
    ·rename_i va vb hca hcb
     simp only [Option.some.injEq,AyC.rfunc.injEq] at ht
     obtain ⟨rfl,rfl,rfl,rfl⟩:=ht
     rw [vwp] at h
     obtain ⟨-,-,h⟩:=h
     split at h
     ·rename_i g first caps hg
      obtain ⟨hgo,h⟩:=h
      have hr:Rep ⟨β,H,F⟩ w (.fn (.func g) first caps) (a.eval f0):=hf.env.rep (x:=f0) hg
      have h1:=hr.inv1 (by simp) (by simp) (by simp) (by simp) (by simp)
      rw [AyG] at h1
      obtain ⟨us,vs,hv1,hfi,hc⟩:=h1
      have hv':a.eval f0 = .func (.func g) us.toArray vs.toArray:=by simpa using hv1
      refine APz hs hf hm hB hv' hgo hfi hc (fun fn=>h N fn ca cb ⟨hca,hcb,hps⟩) hk
     ·rename_i g xs ys hg
      obtain ⟨hxy,hgo,h⟩:=h
      rw [Bool.and_eq_true,Array.isEmpty_iff,Array.isEmpty_iff] at hxy
      obtain ⟨rfl,rfl⟩:=hxy
      have hv':a.eval f0 = .func (.func g) #[] #[]:=hf.env.val hg
      refine APz (us:=[]) (vs:=[]) (first:=[]) (caps:=[]) hs hf hm hB hv' hgo (by rw [Azd]) (by rw [Azd]) (fun fn=>by simpa using h N fn ca cb ⟨hca,hcb,hps⟩) hk
     ·exact h.elim
    ·cases ht
   ·cases ht
  | _=>simp [trC] at ht
end sound
end
section
open Go.RowKit
variable [AyZ]
set_option autoImplicit false
inductive VR where
 | tmp (t:Nat)
 | cell (a:Nat) (ag:Bool) (sz:Nat)
 deriving Inhabited
def trR (P:Program):List ResultVar→Option (List VR)
 | []=>some []
 | .tmp t::r=>(trR P r).map (.tmp t :: ·)
 | .cell a t::r=>match AOU P t,AHY P t,trR P r with
  | some ag,some sz,some r=>some (.cell a ag sz::r)
  | _,_,_=>none
def ATR:List VR→Env→List Ob→(List TV→Prop)→Prop
 | [],e,H,K=>K []
 | .tmp t::r,e,H,K=>ATR r e H fun xs=>K (get e t::xs)
 | .cell a ag sz::r,e,H,K=>pop (.load ag sz (.t a)) e H fun x=>ATR r e H fun xs=>K (x::xs)
def res (r:List VR) (e:Env) (H:List Ob) (K:TV→Prop):Prop:=ATR r e H fun xs=>match xs with
 | [x]=>K x
 | xs=>(∀ x∈xs,AzB x=false)∧K (.tup xs)
section
variable {P:Program}
def rv (a:Act) (r:ResultVar):Sem Value:=match r with
 | .tmp t=>pure (a.tmps.getD t undef)
 | .cell x t=>do loadVar t (←asAddr (a.tmps.getD x undef))
theorem ARO {c:Ctx} {w:World} {e:Env} {a:Act} (hs:Sim c w) (he:AyX c w e a):∀ {rs:List ResultVar} {vr:List VR} {K:List TV→Prop},trR P rs=some vr→ATR vr e c.H K →
  ∃ (xs:List TV) (vs:List Value),(rs.mapM (rv a)).run P w = .ok vs w∧xs.length=vs.length∧(∀ (i:Nat) x v,xs[i]?=some x→vs[i]?=some v→Rep c w x v)∧K xs
 | [],vr,K,ht,h=>by
  simp only [trR,Option.some.injEq] at ht; subst ht
  exact ⟨[],[],rfl,rfl,by simp,h⟩
 | .tmp t::rs,vr,K,ht,h=>by
  simp only [trR,Option.map_eq_some_iff] at ht
  obtain ⟨r,hr,rfl⟩:=ht
  rw [ATR] at h
  obtain ⟨xs,vs,h1,h2,h3,h4⟩:=ARO hs he hr h
  refine ⟨get e t::xs,a.tmps.getD t undef::vs,by rw [List.mapM_cons]; simp only [rv,Sem.run_bind,Sem.run_pure,Result.andThen_ok,h1],by simp [h2],?_,h4⟩
  intro i x v hx hv
  cases i with
  | zero=>simp at hx hv; subst hx; subst hv; simpa using he.1 t
  | succ i=>exact h3 i x v (by simpa using hx) (by simpa using hv)
 | .cell b t::rs,vr,K,ht,h=>by
  simp only [trR] at ht
  split at ht
  ·rename_i ag sz r h1 h2 hr
   cases ht
   rw [ATR] at h
   have hy:=A2R (P:=P) (a:=a) (ty:=0) hs he h1 h2 (x := .tmp b) h
   obtain ⟨x,v,hrun,hx,hK⟩:=hy ⟨none,.load t (.tmp b),0, "", #[],none⟩ rfl rfl
   have hload:(do loadVar t (←asAddr (a.tmps.getD b undef)):Sem Value).run P w = .ok v w:=by
    simp only [execOp,Instr.loadAt,Sem.run_bind,Act.eval] at hrun
    simp only [Sem.run_bind]
    cases hp:a.tmps.getD b undef with
    | pointer p =>
     rw [hp] at hrun
     cases p with
     | none=>simp [Instr.sureAddr,stuck] at hrun
     | some ad =>
      simp only [Instr.sureAddr,Sem.run_pure,Result.andThen_ok,asAddr] at hrun ⊢
      cases hl:(loadVar t ad).run P w with
      | ok u w2=>rw [hl] at hrun; simp only [Result.andThen_ok,Sem.run_pure] at hrun; cases hrun; rfl
      | halt hh w2=>rw [hl] at hrun; simp at hrun
    | _=>rw [hp] at hrun; simp [Instr.sureAddr,stuck] at hrun
   obtain ⟨xs,vs,h3,h4,h5,h6⟩:=ARO hs he hr hK
   refine ⟨x::xs,v::vs,by rw [List.mapM_cons,Sem.run_bind]; show Result.andThen ((rv a (.cell b t)).run P w) _=_; rw [show (rv a (.cell b t)).run P w = .ok v w from hload]; simp only [Result.andThen_ok,Sem.run_bind,h3,Sem.run_pure],by simp [h4],?_,h6⟩
   intro i y u hy hu
   cases i with
   | zero=>simp at hy hu; subst hy; subst hu; exact hx
   | succ i=>exact h5 i y u (by simpa using hy) (by simpa using hu)
  ·cases ht
theorem A3I {c:Ctx} {w:World} {e:Env} {a:Act} (hs:Sim c w) (he:AyX c w e a) {fn:Func} {vr:List VR} {K:TV→Prop} (ht:trR P fn.results.toList=some vr) (h:res vr e c.H K) :
  ∃ x v,(results fn a.tmps).run P w = .ok v w∧Rep c w x v∧K x:=by
 obtain ⟨xs,vs,h1,h2,h3,h4⟩:=ARO hs he ht h
 have hrun:(fn.results.mapM (rv a)).run P w = .ok vs.toArray w:=by
  rw [Array.mapM_eq_mapM_toList]
  simp only [Sem.run_map,h1,Result.andThen_ok]
 have hres:(results fn a.tmps).run P w = .ok (if h:vs.toArray.size=1 then vs.toArray[0] else .tuple vs.toArray) w:=by
  have:results fn a.tmps=(do let vs ← fn.results.mapM (rv a); pure (if h:vs.size=1 then vs[0] else .tuple vs)):=rfl
  rw [this,Sem.run_bind,hrun]; rfl
 rcases xs with _ | ⟨x,_ | ⟨y,xs⟩⟩
 ·have hv:vs=[]:=List.length_eq_zero_iff.1 (by simpa using h2.symm)
  subst hv
  exact ⟨_,_,hres,.inr ⟨[],[],rfl,rfl,by rw [Azd]⟩,h4.2⟩
 ·obtain ⟨v,rfl⟩:=List.length_eq_one_iff.1 (by simpa using h2.symm)
  exact ⟨_,_,hres,h3 0 x v rfl rfl,h4⟩
 ·rcases vs with _ | ⟨u,_ | ⟨v,vs⟩⟩
  ·simp at h2
  ·simp at h2
  ·refine ⟨_,_,hres,.inr ⟨_,u::v::vs,rfl,by simp,?_⟩,h4.2⟩
   have key:∀ (xs:List TV) (vs:List Value),xs.length=vs.length→(∀ x∈xs,AzB x=false)→(∀ (i:Nat) x v,xs[i]?=some x→vs[i]?=some v→Rep c w x v)→Azd c w xs vs:=by
    intro xs
    induction xs with
    | nil=>intro vs h _ _; rw [Azd]; exact List.length_eq_zero_iff.1 h.symm
    | cons x xs ih =>
     intro vs hl ht hr
     cases vs with
     | nil=>simp at hl
     | cons v vs =>
      refine Azd.cons.2 ⟨v,vs,rfl,?_,ih vs (by simpa using hl) (fun y hy=>ht y (by simp [hy])) fun i y u hy hu=>hr (i+1) y u (by simpa using hy) (by simpa using hu)⟩
      rcases hr 0 x v rfl rfl with h | ⟨ys,us,rfl,_⟩
      ·exact h
      ·have:=ht (.tup ys) (by simp); simp [AzB] at this
   exact key _ _ h2 h4.1 h3
def AR9:Nat→List TV→Env
 | _,[]=>[]
 | i,x::xs=>(i,x)::AR9 (i+1) xs
theorem ASB:∀ (xs:List TV) (i s:Nat),get (AR9 i xs) s=if i≤s then (xs[s - i]?).getD .any else .any
 | [],i,s=>by simp [AR9,get]
 | x::xs,i,s=>by
  rw [AR9,Azx,ASB xs (i+1) s]
  by_cases h:i=s
  ·subst h; simp
  ·rw [if_neg h]
   by_cases h2:i≤s
   ·rw [if_pos (by omega),if_pos h2,show s - i=(s - (i+1))+1 from by omega,List.getElem?_cons_succ]
   ·rw [if_neg (by omega),if_neg h2]
theorem Azd.get {c:Ctx} {w:World}:∀ {xs:List TV} {vs:List Value},Azd c w xs vs→xs.length=vs.length∧∀ (i:Nat) x,xs[i]?=some x→∃ v,vs[i]?=some v∧Rep c w x v
 | [],vs,h=>by rw [Azd] at h; subst h; simp
 | x::xs,vs,h=>by
  obtain ⟨u,us,rfl,h1,h2⟩:=Azd.cons.1 h
  obtain ⟨h3,h4⟩:=Azd.get h2
  refine ⟨by simp [h3],fun i y hy => ?_⟩
  cases i with
  | zero=>simp at hy; subst hy; exact ⟨u,rfl,.inl h1⟩
  | succ i=>simpa using h4 i y (by simpa using hy)
def AWf (vr:List VR) (R:TV→List Ob→Prop):VEx→Env→List Ob→Prop
 | .nor,e,H=>res vr e H fun x=>R x H
 | .ret,e,H=>res vr e H fun x=>R x H
 | .exit _,_,_=>False
 | .pan _,_,_=>False
theorem Sim.nobody {c:Ctx} {w:World} (hs:Sim c w) {r:Nat} {o o':Obj} (hr:w.heap[r]?=some o) (h1:¬ c.own r) (h2:¬ c.F r) (hsh:(w.putObj r o').shape? r=w.shape? r):Sim c (w.putObj r o')∧ACG c w c (w.putObj r o'):=by
 have hoth:∀ b,b≠r→(w.putObj r o').heap[b]?=w.heap[b]?:=fun b hb=>World.putObj_heap_other hb
 have hm:ACG c w c (w.putObj r o'):=⟨fun b hb=>⟨hb,hoth b fun e=>h2 (e▸hb)⟩,fun _ _ h=>⟨h,rfl⟩,fun b _=>by
  by_cases hb:b=r
  ·subst hb; exact hsh
  ·exact Azr (hoth b hb)⟩
 refine ⟨⟨fun id ob ho=>ATP.mono hm (Ctx.has_of ho) (fun hl b off hb=>hoth b fun e=>h1 (e▸Ctx.own_of ho hl hb)) (hs.ob id ob ho),hs.inj,hs.apart,fun b hb => ?_,hs.glob.keep hm.stay⟩,hm⟩
 rw [(AIM w r o').2.2.2]; exact hs.lt b hb
theorem AyN.nobody {c0 c:Ctx} {w0 w:World} (h:AyN c0 w0 c w) {r:Nat} {o':Obj} (hr:w0.heap.size≤r):AyN c0 w0 c (w.putObj r o') :=
 ⟨h.os,h.tape,h.output,by rw [(AIM w r o').2.2.2]; exact h.size,h.has,fun b hb=>(Azr (World.putObj_heap_other (by omega))).trans (h.shape b hb),fun b hb ho=>(World.putObj_heap_other (by omega)).trans (h.same b hb ho),h.keepF,h.oldF,h.oldOwn⟩
theorem AGC.shut {D0:List Deferred} {u:FrameMode} (hu:u ≠ .run) {FF:Fence} {n:Nat} {fn:Func} {tmps:Array Value} {R:Ending→World→Prop} {B:Nat} {c:Ctx}:∀ {D:List Deferred} {w:World},AGC D0 B c w D→Sim c w →
  ∃ wF,(LeavesInM FF n P fn tmps R D0 u wF→LeavesInM FF n P fn tmps R D u w)∧Sim c wF∧ACG c w c wF∧∀ (c0:Ctx) (w0:World),w0.heap.size≤B→AyN c0 w0 c w→AyN c0 w0 c wF:=by
 rintro D w ⟨ds,rfl,hnd,hds⟩ hs
 induction ds generalizing w with
 | nil=>exact ⟨w,fun h=>h,hs,ACG.heap rfl,fun c0 w0 _ h=>h⟩
 | cons r ds ih =>
  obtain ⟨k1,k2,k3,k4,k5⟩:=hds r (by simp)
  rw [List.nodup_cons] at hnd
  have hput:=World.putObj_heap_same (w:=w) (o := .deferred none) k2
  obtain ⟨s1,s2⟩:=hs.nobody (o' := .deferred none) k5 k3 k4 (by simp [World.shape?,hput,k5])
  obtain ⟨wF,e1,e2,e3,e4⟩:=ih (w:=w.putObj r (.deferred none)) hnd.2 (fun q hq=>by
   obtain ⟨q1,q2,q3,q4,q5⟩:=hds q (by simp [hq])
   have hne:q≠r:=fun e=>hnd.1 (e▸hq)
   exact ⟨q1,by rw [(AIM w r _).2.2.2]; exact q2,q3,q4,(World.putObj_heap_other hne).trans q5⟩) s1
  refine ⟨wF,fun h=>⟨hu,.inl ⟨r,_,rfl,run_takeDeferred k5,e1 h⟩⟩,e2,⟨fun b hb=>⟨hb,((e3.stay b hb).2).trans (s2.stay b hb).2⟩,fun _ _ h=>⟨h,rfl⟩,fun b hb=>(e3.shape b (by rw [(AIM w r _).2.2.2]; exact hb)).trans (s2.shape b hb)⟩,fun c0 w0 hB hl=>e4 c0 w0 hB (hl.nobody (by omega))⟩
theorem AWO {f:FuncId} {fn:Func} {vc:AyC} {vr:List VR} {args:List TV} {H:List Ob} {R:TV→List Ob→Prop} (hf:P.funcs[f]?=some fn) (ht:fn.body.bind (trC P fn.ntmps)=some (er vc)) (hr:trR P fn.results.toList=some vr)
  (hn:args.length≤fn.ntmps) (h:vwp P vc (AWf vr R) (AR9 0 args) H):AyI P f args H R:=by
 obtain ⟨code,hb,ht⟩:=Option.bind_eq_some_iff.1 ht
 intro β F w vs hs hv
 obtain ⟨hl,hget⟩:=Azd.get hv
 refine (callsIn_wide (n:=0)).1 (callsIn_of_wp_marks hf hb trivial ?_)
 refine AX5 (ro:=none) (nn:=0) (B:=w.heap.size) (D:=[]) (D0:=[]) vc (.inl rfl) ht h hs ⟨⟨fun s => ?_,hs.glob⟩,by simp; omega,rfl⟩ AGC.nil (Nat.le_refl _) ?_
 ·rw [ASB]
  simp only [Nat.zero_le,if_true,Nat.sub_zero]
  cases hx:args[s]? with
  | none=>exact Rep.any
  | some x =>
   obtain ⟨v,hv1,hv2⟩:=hget s x hx
   have hs':s<vs.length:=(List.getElem?_eq_some_iff.1 hv1).1
   have:((vs.toArray++Array.replicate (fn.ntmps - vs.toArray.size) undef).getD s undef)=v:=by
    rw [Array.getD_eq_getD_getElem?,Array.getElem?_append_left (by simpa using hs')]
    simp [hv1]
   rw [this]; exact hv2
 ·intro x e' H' β' F' w' a' D' k1 k2 k3 km k4
  have fin:res vr e' H' (fun x=>R x H')→LeavesInM Fence.wide 0 P fn a'.tmps (fun e w'=>∃ v x β' H' F',e = .returned v∧R x H'∧Sim ⟨β',H',F'⟩ w'∧AyN ⟨β,H,F⟩ w ⟨β',H',F'⟩ w'∧Rep ⟨β',H',F'⟩ w' x v) a'.defers .returning w':=fun h=>by
   rw [k3.defers]
   obtain ⟨wF,e1,e2,e3,e4⟩:=AGC.shut (D0:=[]) (u := .returning) (by simp) (P:=P) (FF:=Fence.wide) (n:=0) (fn:=fn) (tmps:=a'.tmps) (R:=fun e w'=>∃ v x β' H' F',e = .returned v∧R x H'∧Sim ⟨β',H',F'⟩ w'∧AyN ⟨β,H,F⟩ w ⟨β',H',F'⟩ w'∧Rep ⟨β',H',F'⟩ w' x v) km k2
   obtain ⟨y,v,r1,r2,r3⟩:=A3I (fn:=fn) (a:=a') e2 ⟨fun s=>Rep.mono e3 (k3.env.1 s),e2.glob⟩ hr h
   exact e1 ⟨v,r1,v,y,β',H',F',rfl,r3,e2,e4 _ _ (Nat.le_refl _) k4,r2⟩
  cases x with
  | nor=>exact fin k1
  | ret=>exact fin k1
  | exit i=>exact k1.elim
  | pan u=>exact k1.elim
def AZi (vr:List VR) (R:TV→List Ob→Prop) (RP:Value→List Ob→Prop):VEx→Env→List Ob→Prop
 | .nor,e,H=>res vr e H fun x=>R x H
 | .ret,e,H=>res vr e H fun x=>R x H
 | .exit _,_,_=>False
 | .pan u,_,H=>RP u H
structure AHR (F:Nat→Prop) (w:World) (F':Nat→Prop) (w':World):Prop where
 os:w'.os=w.os
 tape:w'.tape=w.tape
 output:w'.output=w.output
 size:w.heap.size≤w'.heap.size
 same:∀ b,b<w.heap.size→w'.heap[b]?=w.heap[b]?
 keepF:∀ b,F b→F' b
 oldF:∀ b,b<w.heap.size→F' b→F b
 ltF:∀ b,F' b→b<w'.heap.size
def Azk (P:Program) (f:FuncId) (args:List TV) (R:TV→Prop):Prop :=
 ∀ (β:Nat→Nat→Option (Nat×Nat)) (F:Nat→Prop) (w:World) (vs:List Value),((∀ b,F b→b<w.heap.size)∧ADv F w)→Azd ⟨β,[],F⟩ w args vs →
  Calls P f vs.toArray w fun e w'=>∃ v x F',e = .returned v∧R x∧Rep ⟨β,[],F'⟩ w' x v∧AHR F w F' w'
theorem Azk.mono {f:FuncId} {args:List TV} {R R':TV→Prop} (h:Azk P f args R) (hr:∀ x,R x→R' x):Azk P f args R' :=
 fun β F w vs hF hv=>(h β F w vs hF hv).mono fun _ _ ⟨v,x,F',h1,h2,h3⟩=>⟨v,x,F',h1,hr _ h2,h3⟩
theorem AyI.toPure {f:FuncId} {args:List TV} {R:TV→Prop} (h:AyI P f args [] fun x H'=>match frz H' x with | some y=>R y | none=>False):Azk P f args R:=by
 intro β F w vs hF hv
 have hs:Sim ⟨β,[],F⟩ w:=⟨fun id o ho=>by simp at ho,fun i j x y b o o' hx=>by simp at hx,fun b hb=>by obtain ⟨i,o,off,h1,_⟩:=hb; simp at h1,hF.1,hF.2⟩
 refine (h β F w vs hs hv).mono ?_
 rintro _ w' ⟨v,x,β',H',F',rfl,hR,hs',hl,hx⟩
 split at hR
 ·rename_i y hy
  have hno:∀ b,¬ Ctx.own ⟨β,[],F⟩ b:=fun b hb=>by obtain ⟨i,o,off,h1,_⟩:=hb; simp at h1
  have hr:=A4j hs' hy hx
  refine ⟨v,y,fun b=>F' b∨Ctx.own ⟨β',H',F'⟩ b,rfl,hR,Rep.mono (ACG.toBare [] β) hr,⟨hl.os,hl.tape,hl.output,hl.size,fun b hb=>hl.same b hb (hno b),fun b hb => .inl (hl.keepF b hb),fun b hb hF' => ?_,fun b hF'=>hF'.elim (hs'.lt b) hs'.own_lt⟩⟩
  rcases hF' with hF' | hF'
  ·exact (hl.oldF b hb hF').resolve_right (hno b)
  ·exact absurd (hl.oldOwn b hb hF') (hno b)
 ·exact hR.elim
theorem AHR.later {β:Nat→Nat→Option (Nat×Nat)} {H:List Ob} {F F':Nat→Prop} {w w':World} (h:AHR F w F' w'):AyN ⟨β,H,F⟩ w ⟨β,H,F'⟩ w' :=
 ⟨h.os,h.tape,h.output,h.size,fun id v ⟨o,h1,h2⟩=>⟨⟨o,h1,h2⟩,rfl⟩,fun b hb=>Azr (h.same b hb),fun b hb _=>h.same b hb,h.keepF,fun b hb hF => .inl (h.oldF b hb hF),fun b hb ⟨i,o,off,h1,h2,h3⟩=>⟨i,o,off,h1,h2,h3⟩⟩
theorem AHR.sim {β:Nat→Nat→Option (Nat×Nat)} {H:List Ob} {F F':Nat→Prop} {w w':World} (hs:Sim ⟨β,H,F⟩ w) (h:AHR F w F' w'):Sim ⟨β,H,F'⟩ w':=by
 have hm:ACG ⟨β,H,F⟩ w ⟨β,H,F'⟩ w':=⟨fun b hb=>⟨h.keepF b hb,h.same b (hs.lt b hb)⟩,fun id v ⟨o,h1,h2⟩=>⟨⟨o,h1,h2⟩,rfl⟩,fun b hb=>Azr (h.same b hb)⟩
 refine ⟨fun id o ho=>ATP.mono hm ⟨o,ho,Nat.le_refl _⟩ (fun hl b off hb=>h.same b (hs.own_lt ⟨id,o,off,ho,hl,hb⟩)) (hs.ob id o ho),hs.inj,fun b hb hF => ?_,h.ltF,hs.glob.keep hm.stay⟩
 obtain ⟨i,o,off,h1,h2,h3⟩:=hb
 have ho:Ctx.own ⟨β,H,F⟩ b:=⟨i,o,off,h1,h2,h3⟩
 exact hs.apart b ho (h.oldF b (hs.own_lt ho) hF)
theorem Azk.calls {f:FuncId} {args:List TV} {R:TV→Prop} {H:List Ob} {K:TV→List Ob→Prop} (h:Azk P f args R) (hp:AzQ args=true) (hk:∀ x,R x→K x H):AyI P f args H K:=by
 intro β F w vs hs hv
 refine (h β F w vs ⟨hs.lt,hs.glob⟩ (Azd.pure hp hv)).mono ?_
 rintro _ w' ⟨v,x,F',rfl,hR,hx,hst⟩
 exact ⟨v,x,β,H,F',rfl,hk x hR,hst.sim hs,hst.later,Rep.mono (ACG.toBare H β) hx⟩
theorem Azk.lends {f:FuncId} {args args':List TV} {R:TV→Prop} {H:List Ob} {K:TV→List Ob→Prop} (h:Azk P f args' R) (hp:A8y H args=some args') (hk:∀ x,R x→AS2 x=true∧K x H):AyI P f args H K:=by
 intro β F w vs hs hv
 refine (h β (fun b=>F b∨Ctx.own ⟨β,H,F⟩ b) w vs ⟨fun b hb=>hb.elim (hs.lt b) hs.own_lt,hs.glob.keep fun b hb=>⟨.inl hb,rfl⟩⟩ (AVt hs hp hv)).mono ?_
 rintro _ w' ⟨v,x,F',rfl,hR,hx,hst⟩
 obtain ⟨hsc,hK⟩:=hk x hR
 have hst':AHR F w F w':=⟨hst.os,hst.tape,hst.output,hst.size,hst.same,fun _ h=>h,fun _ _ h=>h,fun b hb=>Nat.lt_of_lt_of_le (hs.lt b hb) hst.size⟩
 exact ⟨v,x,β,H,F,rfl,hK,hst'.sim hs,hst'.later,A0c hsc hx⟩
theorem ACG.ofF {β β':Nat→Nat→Option (Nat×Nat)} {H:List Ob} {F F':Nat→Prop} {w:World} (h:∀ b,F b→F' b):ACG ⟨β,[],F⟩ w ⟨β',H,F'⟩ w :=
 ⟨fun b hb=>⟨h b hb,rfl⟩,fun id v h=>by obtain ⟨o,h,_⟩:=h; simp at h,fun _ _=>rfl⟩
mutual
def frs (H:List Ob):TV→Option TV
 | .val v=>some (.val v)
 | .any=>some .any
 | .os k id ver p off n cp=>match H[id]? with
  | some (.obj v x)=>if v=ver then (match AA8 p k off n x with
   | some cs=>if ADW cs then some (.sl k cs) else none
   | none=>none) else none
  | _=>none
 | .agg cs=>(ATQ H cs).map .agg
 | .arr n k cs=>if ADW cs then some (.arr n k cs) else none
 | .tup cs=>(ATQ H cs).map .tup
 | .ifc t x=>(frs H x).map (.ifc t)
 | _=>none
def ATQ (H:List Ob):List TV→Option (List TV)
 | []=>some []
 | x::xs=>match frs H x,ATQ H xs with
  | some x,some xs=>some (x::xs)
  | _,_=>none
end
def Ctx.mine (c:Ctx):Ctx:=⟨c.β,[],c.own⟩
theorem ARw {p:List (Nat×Nat)} {k off:Nat} {x:TV} {cs:List TV} (h:AA8 p k off 0 x=some cs):cs=[]:=by
 unfold AA8 at h
 split at h
 ·split at h
  ·cases h; simp
  ·cases h
 ·cases h
mutual
theorem AR4 {c:Ctx} {w:World} (hs:Sim c w):∀ {x x':TV} {us:List Value},frs c.H x=some x'→AyG c w x us→AyG c.mine w x' us
 | .val y,x',us,hf,hr=>by simp only [frs,Option.some.injEq] at hf; subst hf; rw [AyG] at hr ⊢; exact hr
 | .any,x',us,hf,hr=>by simp only [frs,Option.some.injEq] at hf; subst hf; rw [AyG] at hr ⊢; exact hr
 | .mp _ _,x',us,hf,hr=>by simp [frs] at hf
 | .yl _ _,x',us,hf,hr=>by simp [frs] at hf
 | .sl k cs,x',us,hf,hr=>by simp [frs] at hf
 | .fp x,x',us,hf,hr=>by simp [frs] at hf
 | .op id ver p,x',us,hf,hr=>by simp [frs] at hf
 | .fn f a b,x',us,hf,hr=>by simp [frs] at hf
 | .os k id ver p off n cp,x',us,hf,hr=>by
  rw [AyG] at hr
  obtain ⟨hr1,hr2⟩:=hr
  rw [frs] at hf
  split at hf
  ·rename_i ver' x hid
   split at hf
   ·rename_i e; subst e
    split at hf
    ·rename_i cs hcs
     split at hf
     ·rename_i hsc
      cases hf
      rcases hr2 with ⟨rfl,a0,hr2,_⟩ | ⟨b0,o0,cap,t0,m0,hr2,hr3,hr4,hr5,hr6,hr7⟩
      ·have:=ARw hcs
       subst this
       rw [AyG]
       exact ⟨by simp,.inl ⟨rfl,a0,0,hr2,by omega⟩⟩
      rcases hs.ob id _ hid with ⟨h0,_⟩ | ⟨b,off',pre,vs,post,t,fr,h0,h1,h2,h3,h4⟩
      ·rw [h0] at hr2; cases hr2
      rw [h0] at hr2
      obtain ⟨rfl,rfl⟩:b=b0∧off'=o0:=by simpa using hr2
      obtain ⟨a,m,q,rfl,k1,k2,k3,k4⟩:=AEQ h4 hcs
      rw [AyG]
      refine ⟨k3,.inr ⟨b,off'+AzJ p+off*k,cap,m,by rw [k4]; exact hr3,by omega,hr5,⟨id,_,off',hid,rfl,h0⟩,AEi hsc k2,?_⟩⟩
      have e:off'+AzJ p+off*k=pre.length+a.length:=by rw [h3,k1]; omega
      rw [e]; exact AC3 h1
     ·cases hf
    ·cases hf
   ·cases hf
  ·cases hf
 | .agg cs,x',us,hf,hr=>by
  simp only [frs,Option.map_eq_some_iff] at hf
  obtain ⟨ds,hds,rfl⟩:=hf
  rw [AyG] at hr ⊢
  exact ASS hs hds hr
 | .arr n k cs,x',us,hf,hr=>by
  rw [frs] at hf
  split at hf
  ·rename_i hsc; cases hf; rw [AyG] at hr ⊢; exact ⟨hr.1,hr.2.1,AEi hsc hr.2.2⟩
  ·cases hf
 | .tup cs,x',us,hf,hr=>by rw [AyG] at hr; exact hr.elim
 | .ifc t x,x',us,hf,hr=>by
  simp only [frs,Option.map_eq_some_iff] at hf
  obtain ⟨y,hy,rfl⟩:=hf
  rw [AyG] at hr ⊢
  obtain ⟨u,h1,vs,h2,h3⟩:=hr
  exact ⟨u,h1,vs,AR4 hs hy h2,by rw [h3]; exact AUk hy vs⟩
theorem ASS {c:Ctx} {w:World} (hs:Sim c w):∀ {xs xs':List TV} {us:List Value},ATQ c.H xs=some xs'→AyH c w xs us→AyH c.mine w xs' us
 | [],xs',us,hf,hr=>by simp only [ATQ,Option.some.injEq] at hf; subst hf; rw [AyH] at hr ⊢; exact hr
 | x::xs,xs',us,hf,hr=>by
  rw [ATQ] at hf
  split at hf
  ·rename_i y ys hy hys
   cases hf
   rw [AyH] at hr ⊢
   obtain ⟨u,us,h1,h2,h3⟩:=hr
   exact ⟨u,us,h1,AR4 hs hy h2,ASS hs hys h3⟩
  ·cases hf
theorem AUk {H:List Ob}:∀ {x x':TV} (hf:frs H x=some x') (us:List Value),mkV x us=mkV x' us
 | .val y,x',hf,us=>by simp only [frs,Option.some.injEq] at hf; subst hf; rfl
 | .any,x',hf,us=>by simp only [frs,Option.some.injEq] at hf; subst hf; rfl
 | .mp _ _,x',hf,us=>by simp [frs] at hf
 | .yl _ _,x',hf,us=>by simp [frs] at hf
 | .sl k cs,x',hf,us=>by simp [frs] at hf
 | .fp x,x',hf,us=>by simp [frs] at hf
 | .op id ver p,x',hf,us=>by simp [frs] at hf
 | .fn f a b,x',hf,us=>by simp [frs] at hf
 | .os k id ver p off n cp,x',hf,us=>by
  rw [frs] at hf
  split at hf
  ·split at hf
   ·split at hf
    ·split at hf
     ·cases hf; rfl
     ·cases hf
    ·cases hf
   ·cases hf
  ·cases hf
 | .agg cs,x',hf,us=>by
  simp only [frs,Option.map_eq_some_iff] at hf
  obtain ⟨ds,hds,rfl⟩:=hf; rfl
 | .arr n k cs,x',hf,us=>by
  rw [frs] at hf
  split at hf
  ·cases hf; rfl
  ·cases hf
 | .tup cs,x',hf,us=>by
  simp only [frs,Option.map_eq_some_iff] at hf
  obtain ⟨ds,hds,rfl⟩:=hf; rfl
 | .ifc t x,x',hf,us=>by
  simp only [frs,Option.map_eq_some_iff] at hf
  obtain ⟨y,hy,rfl⟩:=hf; rfl
end
theorem AUW {c:Ctx} {w:World} (hs:Sim c w):∀ {xs xs':List TV} {vs:List Value},ATQ c.H xs=some xs'→Azd c w xs vs→Azd c.mine w xs' vs
 | [],xs',vs,hf,hr=>by simp only [ATQ,Option.some.injEq] at hf; subst hf; rw [Azd] at hr ⊢; exact hr
 | x::xs,xs',vs,hf,hr=>by
  rw [ATQ] at hf
  split at hf
  ·rename_i y ys hy hys
   cases hf
   rw [Azd] at hr ⊢
   obtain ⟨u,us,h1,h2,h3⟩:=hr
   refine ⟨u,us,h1,?_,AUW hs hys h3⟩
   rcases h2 with rfl | rfl | ⟨aS,h2,h4⟩
   ·simp only [frs,Option.some.injEq] at hy; subst hy; exact .inl rfl
   ·simp only [frs,Option.some.injEq] at hy; subst hy; exact .inr (.inl rfl)
   ·exact .inr (.inr ⟨aS,AR4 hs hy h2,by rw [h4]; exact AUk hy aS⟩)
  ·cases hf
theorem A1c {c:Ctx} {w:World} (hs:Sim c w) {x x':TV} {v:Value} (hf:frs c.H x=some x') (hr:Rep c w x v):Rep c.mine w x' v:=by
 rcases hr with (h | h | ⟨us,h,h'⟩) | ⟨xs,vs,rfl,h2,h3⟩
 ·subst h; simp only [frs,Option.some.injEq] at hf; subst hf; exact Rep.any
 ·subst h; simp only [frs,Option.some.injEq] at hf; subst hf; exact Rep.of_val
 ·exact .inl (.inr (.inr ⟨us,AR4 hs hf h,by rw [h']; exact AUk hf us⟩))
 ·simp only [frs,Option.map_eq_some_iff] at hf
  obtain ⟨ds,hds,rfl⟩:=hf
  exact .inr ⟨ds,vs,rfl,h2,AUW hs hds h3⟩
def AEp (P:Program) (f:FuncId) (args:List TV) (R:TV→Prop):Prop :=
 ∀ (β:Nat→Nat→Option (Nat×Nat)) (F:Nat→Prop) (w:World) (vs:List Value),((∀ b,F b→b<w.heap.size)∧ADv F w)→Azd ⟨β,[],F⟩ w args vs →
  Calls P f vs.toArray w fun e w'=>∃ v x F',e = .returned v∧R x∧Rep ⟨β,[],fun b=>F' b∧w.heap.size≤b⟩ w' x v∧AHR F w F' w'
theorem AEp.mono {f:FuncId} {args:List TV} {R R':TV→Prop} (h:AEp P f args R) (hr:∀ x,R x→R' x):AEp P f args R' :=
 fun β F w vs hF hv=>(h β F w vs hF hv).mono fun _ _ ⟨v,x,F',h1,h2,h3⟩=>⟨v,x,F',h1,hr _ h2,h3⟩
theorem AEp.pure {f:FuncId} {args:List TV} {R:TV→Prop} (h:AEp P f args R):Azk P f args R :=
 fun β F w vs hF hv=>(h β F w vs hF hv).mono fun _ _ ⟨v,x,F',h1,h2,h3,h4⟩=>⟨v,x,F',h1,h2,Rep.mono (ACG.ofF (F:=fun b=>F' b∧w.heap.size≤b) (F':=F') fun b hb=>hb.1) h3,h4⟩
theorem AyI.toFresh {f:FuncId} {args:List TV} {R:TV→Prop} (h:AyI P f args [] fun x H'=>match frs H' x with | some y=>R y | none=>False):AEp P f args R:=by
 intro β F w vs hF hv
 have hs:Sim ⟨β,[],F⟩ w:=⟨fun id o ho=>by simp at ho,fun i j x y b o o' hx=>by simp at hx,fun b hb=>by obtain ⟨i,o,off,h1,_⟩:=hb; simp at h1,hF.1,hF.2⟩
 refine (h β F w vs hs hv).mono ?_
 rintro _ w' ⟨v,x,β',H',F',rfl,hR,hs',hl,hx⟩
 split at hR
 ·rename_i y hy
  have hno:∀ b,¬ Ctx.own ⟨β,[],F⟩ b:=fun b hb=>by obtain ⟨i,o,off,h1,_⟩:=hb; simp at h1
  have hr:=A1c hs' hy hx
  have hnew:∀ b,Ctx.own ⟨β',H',F'⟩ b→w.heap.size≤b:=fun b hb=>by
   rcases Nat.lt_or_ge b w.heap.size with h1 | h1
   ·exact absurd (hl.oldOwn b h1 hb) (hno b)
   ·exact h1
  refine ⟨v,y,fun b=>F b∨Ctx.own ⟨β',H',F'⟩ b,rfl,hR,?_,⟨hl.os,hl.tape,hl.output,hl.size,fun b hb=>hl.same b hb (hno b),fun b hb => .inl hb,fun b hb hF'=>hF'.elim id fun h => ?_,fun b hF'=>hF'.elim (fun h=>Nat.lt_of_lt_of_le (hF.1 b h) hl.size) hs'.own_lt⟩⟩
  ·exact Rep.mono (ACG.ofF (F:=Ctx.own ⟨β',H',F'⟩) (F':=fun b=>(F b∨Ctx.own ⟨β',H',F'⟩ b)∧w.heap.size≤b) fun b hb=>⟨.inr hb,hnew b hb⟩) hr
  ·have:=hnew b h; omega
 ·exact hR.elim
theorem AEp.lends {f:FuncId} {args args':List TV} {R:TV→Prop} {H:List Ob} {K:TV→List Ob→Prop} (h:AEp P f args' R) (hp:A8y H args=some args') (hk:∀ x,R x→K x H):AyI P f args H K:=by
 intro β F w vs hs hv
 refine (h β (fun b=>F b∨Ctx.own ⟨β,H,F⟩ b) w vs ⟨fun b hb=>hb.elim (hs.lt b) hs.own_lt,hs.glob.keep fun b hb=>⟨.inl hb,rfl⟩⟩ (AVt hs hp hv)).mono ?_
 rintro _ w' ⟨v,x,F',rfl,hR,hx,hst⟩
 have hst':AHR F w (fun b=>F b∨(F' b∧w.heap.size≤b)) w':=⟨hst.os,hst.tape,hst.output,hst.size,hst.same,fun _ h => .inl h,fun b hb h=>h.elim id fun h=>by omega,fun b hb=>hb.elim (fun h=>Nat.lt_of_lt_of_le (hs.lt b h) hst.size) fun h=>hst.ltF b h.1⟩
 refine ⟨v,x,β,H,_,rfl,hk x hR,hst'.sim hs,hst'.later,Rep.mono (ACG.ofF (F:=fun b=>F' b∧w.heap.size≤b) (F':=fun b=>F b∨(F' b∧w.heap.size≤b)) fun b hb => .inr hb) hx⟩
end
end
section
open Go.RowKit
variable [AyZ]
set_option autoImplicit false
theorem FI {α:Sort _} {a b:α} (h:a=b):a=b:=h
abbrev i64 (n:Int):TV := .val (.int .i64 n)
abbrev tb (b:Bool):TV := .val (.bool b)
abbrev ts (l:List UInt8):TV := .val (.string (str l))
abbrev slB (l:List UInt8):TV := .sl 1 (l.map by8)
abbrev slS (l:List (List UInt8)):TV := .sl 1 (l.map ts)
section
variable {P:Program} {e:Env} {H:List Ob}
theorem Bbp {c:Opd} {a:Opd} {b:Opd} {K:TV→Prop}:pop (.pick c a b) e H K=(match c.ev e with
  | .val (.bool t)=>K (if t then a.ev e else b.ev e)
  | _=>False):=FI rfl
theorem Bb8 {x:Opd} {K:TV→Prop}:pop (.b2s x) e H K=(match Azs H 1 (x.ev e) with
  | some cs=>(∀ y∈cs,AUU y)∧K (.val (.string (str (cs.map AK8))))
  | none=>False):=FI rfl
theorem Bbn {ag:Bool} {sz:Nat} {x:Opd} {K:TV→Prop}:pop (.load ag sz x) e H K=(match x.ev e with
  | .fp y=>AQB ag sz y∧K y
  | .op id ver p=>(match H[id]? with
   | some (.obj v x)=>v=ver∧(match ADP p x with | some y=>AQB ag sz y∧K y | none=>False)
   | _=>False)
  | _=>False):=FI rfl
theorem A83 {n:Nat} {k:Nat} {x:Opd} {i:Opd} {K:TV→Prop}:pop (.idxAA n k x i) e H K=(match x.ev e,i.ev e with
  | .fp (.arr n' k' cs),.val (.int _ j)=>k'=k∧n'=n∧0≤j∧(match cs[j.toNat]? with | some y=>K (.fp y) | none=>False)
  | .op id ver p,.val (.int _ j)=>0≤j∧j<n∧K (.op id ver (p++[(j.toNat,j.toNat*k)]))
  | _,_=>False):=FI rfl
theorem Bbj {x:Opd} {K:TV→Prop}:pop (.lenV x) e H K=(match x.ev e with
  | .val (.slice _ n _)=>K (.val (.int .i64 n))
  | .sl _ cs=>K (.val (.int .i64 cs.length))
  | .os _ _ _ _ _ n _=>K (.val (.int .i64 n))
  | _=>False):=FI rfl
theorem BaJ {k:Nat} {x:Opd} {lo:Option Opd} {hi:Option Opd} {K:TV→Prop}:pop (.slV k x lo hi) e H K=(match x.ev e with
  | .sl k' cs=>k'=k∧bnd e lo hi cs.length cs.length fun l h=>K (.sl k ((cs.drop l).take (h - l)))
  | .os k' id ver p off n cp=>k'=k∧bnd e lo hi n cp fun l h=>K (.os k id ver p (off+l) (h - l) (cp - l))
  | .val (.slice ad 0 0)=>bnd e lo hi 0 0 fun l h=>K (.val (.slice ad 0 0))
  | _=>False):=FI rfl
theorem Ba9 {n:Nat} {k:Nat} {x:Opd} {lo:Option Opd} {hi:Option Opd} {K:TV→Prop}:pop (.slA n k x lo hi) e H K=(match x.ev e with
  | .fp (.arr n' k' cs)=>k'=k∧n'=n∧n≤9223372036854775807∧bnd e lo hi n n fun l h=>K (.sl k ((cs.drop l).take (h - l)))
  | .op id ver p=>(match H[id]? with
   | some (.obj v x)=>v=ver∧n≤9223372036854775807∧(match ADP p x with | some (.arr n' k' cs)=>k'=k∧n'=n∧bnd e lo hi n n fun l h=>K (.os k id ver p l (h - l) (n - l)) | _=>False)
   | _=>False)
  | _=>False):=FI rfl
theorem Bap {f:Fn} {first:List Opd} {caps:List Opd} {K:TV→Prop}:pop (.mkf f first caps) e H K=((∀ x∈first++caps,AzB (x.ev e)=false)∧K (.fn f (first.map (·.ev e)) (caps.map (·.ev e)))):=FI rfl
theorem BbP {x:Opd} {K:TV→Prop}:pop (.nilc x) e H K=(match x.ev e with
  | .op id ver p=>K (.op id ver p)
  | .fp y=>K (.fp y)
  | .fn (.func f) a b=>K (.fn (.func f) a b)
  | .ifc t y=>K (.ifc t y)
  | .val (.func (.func f) a b)=>K (.val (.func (.func f) a b))
  | _=>False):=FI rfl
theorem A12 {k:Nat} {n:Nat} {z:TV} {ps:List (Nat×Opd)} {K:TV→List Ob→Prop}:sop P (.bslice k n z ps) e H K=((AAI e (List.replicate n k) ps∧Azj e ps∧n≤1000)∧K (.os k H.length 0 [] 0 n n) (H++[.obj 0 (.arr n k (ABf e (List.replicate n z) ps))])):=FI rfl
theorem A9F {sz:Nat} {x:Opd} {v:Opd} {K:TV→List Ob→Prop}:sop P (.store sz x v) e H K=((lays (v.ev e)=true∧AyK (v.ev e)=sz)∧(match x.ev e with
  | .op id ver p=>(match H[id]? with
   | some (.obj vr y)=>vr=ver∧(match AFF p y (v.ev e) with | some y'=>K .any (H.set id (.obj ver y')) | none=>False)
   | _=>False)
  | _=>False)):=FI rfl
theorem A5F {f:FuncId} {args:List Opd} {K:TV→List Ob→Prop}:sop P (.call f args) e H K=((∀ x∈args,AzB (x.ev e)=false)∧AyI P f (args.map (·.ev e)) H K):=FI rfl
theorem A3V {x:Opd} {args:List Opd} {K:TV→List Ob→Prop}:sop P (.callv x args) e H K=((∀ x∈args,AzB (x.ev e)=false)∧(match x.ev e with
  | .fn (.func f) first caps=>AOL P f=true∧AyI P f (first++args.map (·.ev e)++caps) H K
  | .val (.func (.func f) xs ys)=>(xs.isEmpty && ys.isEmpty)=true∧AOL P f=true∧AyI P f (args.map (·.ev e)) H K
  | .yl id ver=>APw P id ver (args.map (·.ev e)) H K
  | _=>False)):=FI rfl
theorem A8g  {Q:VEx→Env→List Ob→Prop}:vwp P (.skip ) Q e H=(Q .nor e H):=FI rfl
theorem BbX {a:AyC} {b:AyC} {Q:VEx→Env→List Ob→Prop}:vwp P (.seq a b) Q e H=(vwp P a (fun x e H=>match x with | .nor=>vwp P b Q e H | .exit i=>Q (.exit i) e H | .ret=>Q .ret e H | .pan u=>Q (.pan u) e H) e H):=FI rfl
theorem A7i {lv:List Nat} {c:AyC} {Q:VEx→Env→List Ob→Prop} {H0:List Ob}:vwp P (.loop lv c) Q e H0=(∃ (I:Nat→Env→List Ob→Prop) (n:Nat),I n (forget lv e) H0 ∧
   ∀ n e H,I n e H→vwp P c (fun x e H=>match x with | .nor=>∃ m g,m<n∧(H0.length≤g∧(H.length≤g∨(ANH g (forget lv e)=true∧AMk g (H.take g)=true)))∧I m (forget lv e) (H.take g) | .exit i=>Q (.exit i) e H | .ret=>Q .ret e H | .pan u=>Q (.pan u) e H) e H):=FI rfl
theorem A7s {id:Nat} {Q:VEx→Env→List Ob→Prop}:vwp P (.exit id) Q e H=(Q (.exit id) e H):=FI rfl
theorem A9x  {Q:VEx→Env→List Ob→Prop}:vwp P (.ret ) Q e H=(Q .ret e H):=FI rfl
theorem A4q {c:AyC} {Q:VEx→Env→List Ob→Prop}:vwp P (.scope c) Q e H=(vwp P c Q e H):=FI rfl
theorem Bb3 {s k:Nat} {c:AyC} {Q:VEx→Env→List Ob→Prop}:vwp P (.own s k c) Q e H=(match get e s with
  | .val (.slice none 0 0)=>vwp P c Q ((s,.os k H.length 0 [] 0 0 0)::e) (H++[.obj 0 (.arr 0 k [])])
  | _=>vwp P c Q e H):=FI rfl
theorem A5D {s k:Nat} {p:List (Nat×Nat)} {c:AyC} {Q:VEx→Env→List Ob→Prop}:vwp P (.ownB s p k c) Q e H=(match get e s with
  | .op id ver p0=>(match H[id]? with
   | some (.obj v x)=>v=ver∧(match ADP (p0++p) x with
    | some (.val (.slice none 0 0))=>(match AFF (p0++p) x (.os k H.length 0 [] 0 0 0) with
     | some x'=>vwp P c Q e (H.set id (.obj ver x')++[.obj 0 (.arr 0 k [])])
     | none=>False)
    | _=>vwp P c Q e H)
   | _=>False)
  | _=>False):=FI rfl
theorem A6K {s:Nat} {t:TypeId} {p:List (Nat×Nat)} {c:AyC} {Q:VEx→Env→List Ob→Prop}:vwp P (.ownT s p t c) Q e H=(match get e s with
  | .op id ver p0=>(match H[id]? with
   | some (.obj v x)=>v=ver∧(match ADP (p0++p) x with
    | some (.val (.slice none 0 0))=>(match AFF (p0++p) x (.os 1 H.length 0 [] 0 0 0) with
     | some x'=>vwp P c Q e (H.set id (.obj ver x')++[.bld 0 t []])
     | none=>False)
    | _=>vwp P c Q e H)
   | _=>False)
  | _=>False):=FI rfl
theorem A2b {K:Env→List Ob→Prop}:AOE P [] K e H=K e H:=FI rfl
theorem A6Z {d:Nat} {o:POp} {r:List VO} {K:Env→List Ob→Prop}:AOE P (⟨some d,.p o,none⟩::r) K e H=pop o e H fun x=>AOE P r K ((d,x)::e) H:=FI rfl
theorem A5E {d:Nat} {o:SOp} {r:List VO} {K:Env→List Ob→Prop}:AOE P (⟨some d,.s o,none⟩::r) K e H=sop P o e H fun x H=>AOE P r K ((d,x)::e) H:=FI rfl
theorem A3D {o:SOp} {r:List VO} {K:Env→List Ob→Prop}:AOE P (⟨none,.s o,none⟩::r) K e H=sop P o e H fun x H=>AOE P r K e H:=FI rfl
theorem A6o {d s:Nat} {o:VOp} {b:Bool} {r:List VO} {K:Env→List Ob→Prop}:AOE P (⟨some d,o,some (s,b)⟩::r) K e H=AQd e s fun e q=>match q with
 | some t=>if t=b then vop P o e H (fun x H=>AOE P r K ((d,x)::e) H) else AOE P r K ((d,.val undef)::e) H
 | none=>AOE P r K ((d,.val undef)::e) H:=FI rfl
theorem A87 {o:POp} {K:TV→List Ob→Prop}:vop P (.p o) e H K=pop o e H fun x=>K x H:=FI rfl
theorem Bag {o:SOp} {K:TV→List Ob→Prop}:vop P (.s o) e H K=sop P o e H K:=FI rfl
theorem A5Y {K:Env→Prop}:vq P [] K e H=K e:=FI rfl
theorem Bck {d:Nat} {o:POp} {r:List VO} {K:Env→Prop}:vq P (⟨some d,.p o,none⟩::r) K e H=pop o e H fun x=>vq P r K ((d,x)::e) H:=FI rfl
theorem Bcf {d:Nat} {f:FuncId} {args:List Opd} {r:List VO} {K:Env→Prop}:vq P (⟨some d,.s (.call f args),none⟩::r) K e H=((∀ x∈args,AzB (x.ev e)=false)∧∃ x,AyI P f (args.map (·.ev e)) H (fun y H'=>y=x∧H'=H)∧vq P r K ((d,x)::e) H):=FI rfl
theorem A4k {o:POp} {k:TV→Prop}:APY P (.p o) e H k=pop o e H k:=FI rfl
theorem A3N {f:FuncId} {args:List Opd} {k:TV→Prop}:APY P (.s (.call f args)) e H k=((∀ x∈args,AzB (x.ev e)=false)∧∃ x,AyI P f (args.map (·.ev e)) H (fun y H'=>y=x∧H'=H)∧k x):=FI rfl
variable {t:TypeId} {a b:Int} {k:IntKind}
theorem ABN {n:Int} (h1 : -9223372036854775808≤n) (h2:n≤9223372036854775807):IntKind.i64.wrap n=n:=by rw [IntKind.wrap_i64]; omega
theorem BaO (h1 : -9223372036854775808≤a+b) (h2:a+b≤9223372036854775807):AAD t .add (.int .i64 a) (.int .i64 b)=some (.int .i64 (a+b)):=by
 rw [show AAD t .add (.int .i64 a) (.int .i64 b)=some (.int .i64 (IntKind.i64.wrap (a+b))) from rfl,ABN h1 h2]
theorem A9n (h1 : -9223372036854775808≤a - b) (h2:a - b≤9223372036854775807):AAD t .sub (.int .i64 a) (.int .i64 b)=some (.int .i64 (a - b)):=by
 rw [show AAD t .sub (.int .i64 a) (.int .i64 b)=some (.int .i64 (IntKind.i64.wrap (a - b))) from rfl,ABN h1 h2]
theorem Bas (h1 : -9223372036854775808≤a*b) (h2:a*b≤9223372036854775807):AAD t .mul (.int .i64 a) (.int .i64 b)=some (.int .i64 (a*b)):=by
 rw [show AAD t .mul (.int .i64 a) (.int .i64 b)=some (.int .i64 (IntKind.i64.wrap (a*b))) from rfl,ABN h1 h2]
theorem Bba:AAD t .eql (.int k a) (.int k b)=some (.bool (decide (a=b))):=by
 rw [show AAD t .eql (.int k a) (.int k b)=some (.bool (a == b)) from by simp [AAD,binOp,Op.intCmp]; rfl]; rfl
theorem Ba4:AAD t .neq (.int k a) (.int k b)=some (.bool (!decide (a=b))):=by
 rw [show AAD t .neq (.int k a) (.int k b)=some (.bool (a != b)) from by simp [AAD,binOp,Op.intCmp]; rfl]; rfl
theorem A9X:AAD t .lss (.int k a) (.int k b)=some (.bool (decide (a<b))):=by simp [AAD,binOp,Op.intCmp]; rfl
theorem A9c:AAD t .leq (.int k a) (.int k b)=some (.bool (decide (a≤b))):=by simp [AAD,binOp,Op.intCmp]; rfl
theorem Ba1:AAD t .gtr (.int k a) (.int k b)=some (.bool (decide (b<a))):=by simp [AAD,binOp,Op.intCmp]; rfl
theorem A9i:AAD t .geq (.int k a) (.int k b)=some (.bool (decide (b≤a))):=by simp [AAD,binOp,Op.intCmp]; rfl
theorem AWW:AAF 0 (.val (.pointer none))=some true:=FI rfl
theorem AYm {i v:Nat} {p:List (Nat×Nat)}:AAF 0 (.op i v p)=some false:=FI rfl
theorem AXh {x:TV}:AAF 0 (.fp x)=some false:=FI rfl
theorem AXn:AAF 1 (.val .nilIface)=some true:=FI rfl
theorem AVR {t:TypeId} {x:TV}:AAF 1 (.ifc t x)=some false:=FI rfl
theorem AY3:AAF 2 (.val (.map none))=some true:=FI rfl
theorem AY6 {i v:Nat}:AAF 2 (.mp i v)=some false:=FI rfl
theorem AXH {i v:Nat}:AAF 3 (.yl i v)=some false:=FI rfl
theorem AW9:AAF 3 (.val .nilFunc)=some true:=FI rfl
theorem AZn {f:Fn} {a b:List TV}:AAF 3 (.fn f a b)=some false:=FI rfl
theorem A8E {n:Int} (h0:0≤n) (h1:n<18446744073709551616):(BitVec.ofInt 64 n).toNat=n.toNat:=by
 rw [BitVec.toNat_ofInt]
 have:n % ((2 ^ 64:Nat):Int)=n:=Int.emod_eq_of_lt h0 (by simpa using h1)
 rw [this]
theorem Ba6 (h1:0≤a) (h2:a≤9223372036854775807) (h3:0≤b) (h4:b≤9223372036854775807):AAD t .and (.int .i64 a) (.int .i64 b)=some (.int .i64 ((a.toNat &&& b.toNat:Nat):Int)):=by
 rw [show AAD t .and (.int .i64 a) (.int .i64 b)=some (.int .i64 (IntKind.i64.wrap ((BitVec.ofInt 64 a &&& BitVec.ofInt 64 b).toNat:Int))) from rfl,BitVec.toNat_and,A8E h1 (by omega),A8E h3 (by omega)]
 have:=Nat.and_le_left (n:=a.toNat) (m:=b.toNat)
 rw [ABN (by omega) (by omega)]
theorem Bb4 (h1:0≤a) (h2:a≤9223372036854775807) (h3:0≤b) (h4:b≤9223372036854775807):AAD t .or (.int .i64 a) (.int .i64 b)=some (.int .i64 ((a.toNat ||| b.toNat:Nat):Int)):=by
 rw [show AAD t .or (.int .i64 a) (.int .i64 b)=some (.int .i64 (IntKind.i64.wrap ((BitVec.ofInt 64 a ||| BitVec.ofInt 64 b).toNat:Int))) from rfl,BitVec.toNat_or,A8E h1 (by omega),A8E h3 (by omega)]
 have:=Nat.or_lt_two_pow (n:=63) (x:=a.toNat) (y:=b.toNat) (by omega) (by omega)
 rw [ABN (by omega) (by omega)]
theorem Bac {k2:IntKind} (h1:0≤b) (h2:b≤63) (h3:0≤a*2 ^ b.toNat) (h4:a*2 ^ b.toNat≤9223372036854775807):AAD t .shl (.int .i64 a) (.int k2 b)=some (.int .i64 (a*2 ^ b.toNat)):=by
 have e:binOp .shl t (.int .i64 a) (.int k2 b)=pure (.int .i64 (a*2 ^ b.toNat)):=by
  show Op.shift .shl .i64 a k2 b=_
  unfold Op.shift
  rw [if_neg (by omega)]
  have hm:min b.toNat IntKind.i64.bits=b.toNat:=by
   have:IntKind.i64.bits=64:=rfl
   omega
  simp only [hm]
  rw [ABN (by omega) h4]
 unfold AAD; rw [e]; rfl
theorem A9o {k2:IntKind} (h1:0≤b) (h2:b≤63) (h3:0≤a):AAD t .shr (.int .i64 a) (.int k2 b)=some (.int .i64 (a / 2 ^ b.toNat)):=by
 have e:binOp .shr t (.int .i64 a) (.int k2 b)=pure (.int .i64 (a / 2 ^ b.toNat)):=by
  show Op.shift .shr .i64 a k2 b=_
  unfold Op.shift
  rw [if_neg (by omega)]
  have hm:min b.toNat IntKind.i64.bits=b.toNat:=by
   have:IntKind.i64.bits=64:=rfl
   omega
  simp only [hm]
  rw [Int.fdiv_eq_ediv_of_nonneg _ (by exact Int.le_of_lt (Int.pow_pos (by omega)))]
 unfold AAD; rw [e]; rfl
theorem A9J (h1:0≤a) (h2:b≠0):AAD t .rem (.int k a) (.int k b)=some (.int k (a % b)):=by
 have e:binOp .rem t (.int k a) (.int k b)=pure (.int k (a % b)):=by
  unfold binOp
  simp only [ne_eq,not_true_eq_false,if_false,Op.intDiv,h2,Int.tmod_eq_emod_of_nonneg h1]
 unfold AAD; rw [e]; rfl
theorem A9s (h1:0≤a) (h2:0<b) (h3:a≤9223372036854775807):AAD t .quo (.int .i64 a) (.int .i64 b)=some (.int .i64 (a / b)):=by
 have e:binOp .quo t (.int .i64 a) (.int .i64 b)=pure (.int .i64 (a / b)):=by
  unfold binOp
  simp only [ne_eq,not_true_eq_false,if_false,Op.intDiv,show ¬ b=0 from by omega,Int.tdiv_eq_ediv_of_nonneg h1]
  have h4:a / b≤a:=Int.ediv_le_self _ h1
  have h5:0≤a / b:=Int.ediv_nonneg h1 (by omega)
  rw [ABN (by omega) (by omega)]
 unfold AAD; rw [e]; rfl
theorem A2J {x y:UInt8}:AAD t .xor (.int .u8 (x.toNat:Int)) (.int .u8 (y.toNat:Int))=some (.int .u8 ((x ^^^ y).toNat:Int)):=by
 rw [show AAD t .xor (.int .u8 (x.toNat:Int)) (.int .u8 (y.toNat:Int))=some (.int .u8 (IntKind.u8.wrap ((BitVec.ofInt 8 (x.toNat:Int) ^^^ BitVec.ofInt 8 (y.toNat:Int)).toNat:Int))) from rfl]
 rw [BitVec.ofInt_natCast,BitVec.ofInt_natCast,UInt8.toNat_xor,BitVec.toNat_xor,BitVec.toNat_ofNat,BitVec.toNat_ofNat,Nat.mod_eq_of_lt x.toNat_lt,Nat.mod_eq_of_lt y.toNat_lt]
 have:=Nat.xor_lt_two_pow (n:=8) x.toNat_lt y.toNat_lt
 rw [IntKind.wrap_u8]; congr 2; omega
theorem AJG (l:List UInt8):(str l).toList=l:=by simp [str,ByteArray.toList_eq]
theorem AVG {l m:List UInt8}:(l == m)=decide (l=m):=by
 by_cases h:l=m<;>simp [h]
theorem A9W {l m:List UInt8}:AAD t .eql (.string (str l)) (.string (str m))=some (.bool (decide (l=m))):=by
 rw [show AAD t .eql (.string (str l)) (.string (str m))=some (.bool ((str l).toList == (str m).toList)) from rfl,AJG,AJG,AVG]
theorem Bax {l m:List UInt8}:AAD t .neq (.string (str l)) (.string (str m))=some (.bool (!decide (l=m))):=by
 rw [show AAD t .neq (.string (str l)) (.string (str m))=some (.bool (!((str l).toList == (str m).toList))) from rfl,AJG,AJG,AVG]
theorem BaC {b:Bool}:unV .not (.bool b)=some (.bool (!b)):=FI rfl
theorem A1h {u:Value}:AZ4 (.int k a) u=true:=by cases u<;>rfl
theorem A0U {s:ByteArray} {u:Value}:AZ4 (.string s) u=true:=by cases u<;>rfl
theorem A1n {v:Value}:AKX (TV.val v)=false:=FI rfl
theorem AZQ  : AKX (TV.any)=false:=FI rfl
theorem A4O {k:Nat} {cs:List TV}:AKX (TV.sl k cs)=false:=FI rfl
theorem A5h {x:TV}:AKX (TV.fp x)=false:=FI rfl
theorem A4W {i:Nat} {v:Nat} {p:List (Nat×Nat)}:AKX (TV.op i v p)=false:=FI rfl
theorem A4Y {k:Nat} {i:Nat} {v:Nat} {p:List (Nat×Nat)} {o:Nat} {n:Nat} {cp:Nat}:AKX (TV.os k i v p o n cp)=false:=FI rfl
theorem A0M {cs:List TV}:AKX (TV.agg cs)=true:=FI rfl
theorem A04 {n:Nat} {k:Nat} {cs:List TV}:AKX (TV.arr n k cs)=true:=FI rfl
theorem A1v {vs:List TV}:AKX (TV.tup vs)=false:=FI rfl
theorem A0C {t:TypeId} {x:TV}:AKX (TV.ifc t x)=false:=FI rfl
theorem A3h {f:Fn} {a:List TV} {b:List TV}:AKX (TV.fn f a b)=false:=FI rfl
theorem A25 {i:Nat} {v:Nat}:AKX (TV.mp i v)=false:=FI rfl
theorem A4d {i:Nat} {v:Nat}:AKX (TV.yl i v)=false:=FI rfl
theorem AYg {v:Value}:AzB (TV.val v)=false:=FI rfl
theorem AZa  : AzB (TV.any)=false:=FI rfl
theorem AZJ {k:Nat} {cs:List TV}:AzB (TV.sl k cs)=false:=FI rfl
theorem AZW {x:TV}:AzB (TV.fp x)=false:=FI rfl
theorem A05 {i:Nat} {v:Nat} {p:List (Nat×Nat)}:AzB (TV.op i v p)=false:=FI rfl
theorem AZw {k:Nat} {i:Nat} {v:Nat} {p:List (Nat×Nat)} {o:Nat} {n:Nat} {cp:Nat}:AzB (TV.os k i v p o n cp)=false:=FI rfl
theorem AZk {cs:List TV}:AzB (TV.agg cs)=false:=FI rfl
theorem AXu {n:Nat} {k:Nat} {cs:List TV}:AzB (TV.arr n k cs)=false:=FI rfl
theorem AYt {vs:List TV}:AzB (TV.tup vs)=true:=FI rfl
theorem AYN {t:TypeId} {x:TV}:AzB (TV.ifc t x)=false:=FI rfl
theorem A0O {f:Fn} {a:List TV} {b:List TV}:AzB (TV.fn f a b)=false:=FI rfl
theorem A2d {i:Nat} {v:Nat}:AzB (TV.mp i v)=false:=FI rfl
theorem A1U {i:Nat} {v:Nat}:AzB (TV.yl i v)=false:=FI rfl
theorem A1E  : lays (TV.any)=false:=FI rfl
theorem A4G {k:Nat} {cs:List TV}:lays (TV.sl k cs)=true:=FI rfl
theorem A36 {x:TV}:lays (TV.fp x)=true:=FI rfl
theorem A44 {i:Nat} {v:Nat} {p:List (Nat×Nat)}:lays (TV.op i v p)=true:=FI rfl
theorem A5j {k:Nat} {i:Nat} {v:Nat} {p:List (Nat×Nat)} {o:Nat} {n:Nat} {cp:Nat}:lays (TV.os k i v p o n cp)=true:=FI rfl
theorem A01 {cs:List TV}:lays (TV.agg cs)=true:=FI rfl
theorem A2k {n:Nat} {k:Nat} {cs:List TV}:lays (TV.arr n k cs)=true:=FI rfl
theorem A1G {vs:List TV}:lays (TV.tup vs)=false:=FI rfl
theorem A0E {t:TypeId} {x:TV}:lays (TV.ifc t x)=true:=FI rfl
theorem A3f {f:Fn} {a:List TV} {b:List TV}:lays (TV.fn f a b)=true:=FI rfl
theorem A4F {i:Nat} {v:Nat}:lays (TV.mp i v)=true:=FI rfl
theorem A5a {i:Nat} {v:Nat}:lays (TV.yl i v)=true:=FI rfl
theorem AWN {v:Value}:AAL (TV.val v)=true:=FI rfl
theorem AYd  : AAL (TV.any)=true:=FI rfl
theorem A0Z {k:Nat} {cs:List TV}:AAL (TV.sl k cs)=true:=FI rfl
theorem A0N {x:TV}:AAL (TV.fp x)=true:=FI rfl
theorem A2c {i:Nat} {v:Nat} {p:List (Nat×Nat)}:AAL (TV.op i v p)=false:=FI rfl
theorem A13 {k:Nat} {i:Nat} {v:Nat} {p:List (Nat×Nat)} {o:Nat} {n:Nat} {cp:Nat}:AAL (TV.os k i v p o n cp)=false:=FI rfl
theorem AYy {n:Nat} {k:Nat} {cs:List TV}:AAL (TV.arr n k cs)=true:=FI rfl
theorem A1I {i:Nat} {v:Nat}:AAL (TV.mp i v)=false:=FI rfl
theorem AZB {i:Nat} {v:Nat}:AAL (TV.yl i v)=false:=FI rfl
theorem AYM {v:Value}:AyK (TV.val v)=1:=FI rfl
theorem AXL  : AyK (TV.any)=1:=FI rfl
theorem A1W {k:Nat} {cs:List TV}:AyK (TV.sl k cs)=1:=FI rfl
theorem A0z {x:TV}:AyK (TV.fp x)=1:=FI rfl
theorem A1D {i:Nat} {v:Nat} {p:List (Nat×Nat)}:AyK (TV.op i v p)=1:=FI rfl
theorem A15 {k:Nat} {i:Nat} {v:Nat} {p:List (Nat×Nat)} {o:Nat} {n:Nat} {cp:Nat}:AyK (TV.os k i v p o n cp)=1:=FI rfl
theorem AZd {vs:List TV}:AyK (TV.tup vs)=1:=FI rfl
theorem AWV {t:TypeId} {x:TV}:AyK (TV.ifc t x)=1:=FI rfl
theorem AZM {f:Fn} {a:List TV} {b:List TV}:AyK (TV.fn f a b)=1:=FI rfl
theorem AZS {i:Nat} {v:Nat}:AyK (TV.mp i v)=1:=FI rfl
theorem A0x {i:Nat} {v:Nat}:AyK (TV.yl i v)=1:=FI rfl
theorem AYX {cs:List TV}:AyK (.agg cs)=Azg cs:=by rw [AyK]
theorem AZq {n k:Nat} {cs:List TV}:AyK (.arr n k cs)=n*k:=by rw [AyK]
theorem AV7:Azg []=0:=FI rfl
theorem AUn {x:TV} {xs:List TV}:Azg (x::xs)=AyK x+Azg xs:=by rw [Azg]
theorem AYx {cs:List TV}:AAL (.agg cs)=AzQ cs:=by rw [AAL]
theorem AZl {t:TypeId} {x:TV}:AAL (.ifc t x)=AAL x:=by rw [AAL]
theorem AXp {cs:List TV}:AAL (.tup cs)=AzQ cs:=by rw [AAL]
theorem AXG:AzQ []=true:=FI rfl
theorem AWl {x:TV} {xs:List TV}:AzQ (x::xs)=(AAL x && AzQ xs):=by rw [AzQ]
theorem A0f {k:IntKind} {n:Int}:lays (.val (.int k n))=true:=FI rfl
theorem AXW {b:Bool}:lays (.val (.bool b))=true:=FI rfl
theorem AT8 {s:ByteArray}:lays (.val (.string s))=true:=FI rfl
theorem ATC {p:Option Addr}:lays (.val (.pointer p))=true:=FI rfl
theorem AV5 {p:Option Addr} {n c:Nat}:lays (.val (.slice p n c))=true:=FI rfl
theorem A0K {r:Option Nat}:lays (.val (.map r))=true:=FI rfl
theorem AYj {f:Fn} {a b:Array Value}:lays (.val (.func f a b))=true:=FI rfl
theorem ATb:lays (.val .nilFunc)=true:=FI rfl
theorem ASh:lays (.val .nilIface)=true:=FI rfl
theorem Bca {e:Env} {n:Nat}:(Opd.t n).ev e=get e n:=FI rfl
theorem Bcj {e:Env} {n:Nat}:(Opd.g n).ev e=(match ACY n with | some x => .fp x.tv | none => .val (.pointer (some ⟨n,0,none⟩))):=FI rfl
theorem Bb1 {e:Env} {v:Value}:(Opd.c v).ev e = .val v:=FI rfl
theorem ARa {x:TV}:ADP [] x=some x:=FI rfl
theorem AOS {i d:Nat} {p:List (Nat×Nat)} {cs:List TV}:ADP ((i,d)::p) (.agg cs)=if Azg (cs.take i)=d then (cs[i]?).bind (ADP p) else none:=by rw [ADP]
theorem A1z {i d n k:Nat} {p:List (Nat×Nat)} {cs:List TV}:ADP ((i,d)::p) (.arr n k cs)=if d=i*k then (cs[i]?).bind (ADP p) else none:=by rw [ADP]
theorem AJN {x y:TV}:AFF [] x y=if AyK y=AyK x then some y else none:=by rw [AFF]
theorem ALY {i d:Nat} {p:List (Nat×Nat)} {cs:List TV} {y:TV}:AFF ((i,d)::p) (.agg cs) y=if Azg (cs.take i)=d then (cs[i]?).bind fun c=>(AFF p c y).map fun c' => .agg (cs.set i c') else none:=by rw [AFF]
theorem AU5 {i d n k:Nat} {p:List (Nat×Nat)} {cs:List TV} {y:TV}:AFF ((i,d)::p) (.arr n k cs) y=if d=i*k∧AAL y=true then (cs[i]?).bind fun c=>(AFF p c y).map fun c' => .arr n k (cs.set i c') else none:=by rw [AFF]
theorem AV8 {e:Env}:forget [] e=[]:=FI rfl
theorem AUr {e:Env} {s:Nat} {ks:List Nat}:forget (s::ks) e=(s,get e s)::forget ks e:=FI rfl
theorem AX6 {i:Nat}:AR9 i []=[]:=FI rfl
theorem AWs {i:Nat} {x:TV} {xs:List TV}:AR9 i (x::xs)=(i,x)::AR9 (i+1) xs:=FI rfl
theorem A0I {ag:Bool} {sz:Nat} {y:TV}:AQB ag sz y=(AyK y=sz∧AKX y=ag):=FI rfl
theorem AWq {H:List Ob} {k k2:Nat} {cs:List TV}:Azs H k (.sl k2 cs)=if k2=k then some cs else none:=FI rfl
theorem AUF {H:List Ob} {k:Nat} {p:Option Addr} {n c:Nat}:Azs H k (.val (.slice p n c))=if n=0∧p.isNone∧c=0 then some [] else none:=FI rfl
theorem AWt {H:List Ob} {k k2 i v o n cp:Nat} {p:List (Nat×Nat)}:Azs H k (.os k2 i v p o n cp)=if k2=k then (match H[i]? with | some (.obj vr x)=>if vr=v then AA8 p k o n x else none | _=>none) else none:=FI rfl
theorem AUL {k k2 o n N:Nat} {cs:List TV}:AA8 [] k o n (.arr N k2 cs)=if k2=k∧o+n≤cs.length then some ((cs.drop o).take n) else none:=FI rfl
theorem AXf {e:Env} {zs:List TV}:ABf e zs []=zs:=FI rfl
theorem AVN {e:Env} {zs:List TV} {i:Nat} {x:Opd} {ps:List (Nat×Opd)}:ABf e zs ((i,x)::ps)=ABf e (zs.set i (x.ev e)) ps:=FI rfl
theorem ATT {e:Env} {ks:List Nat}:AAI e ks []=True:=FI rfl
theorem ATi {e:Env} {ks:List Nat} {i:Nat} {x:Opd} {ps:List (Nat×Opd)}:AAI e ks ((i,x)::ps)=((lays (x.ev e)=true∧ks[i]?=some (AyK (x.ev e)))∧AAI e ks ps):=FI rfl
theorem ARK {e:Env}:Azj e []=True:=FI rfl
theorem AP4 {e:Env} {i:Nat} {x:Opd} {ps:List (Nat×Opd)}:Azj e ((i,x)::ps)=(AAL (x.ev e)=true∧Azj e ps):=FI rfl
theorem A4R {t:Nat} {e:Env} {H:List Ob} {K:TV→Prop}:res [.tmp t] e H K=K (get e t):=FI rfl
theorem A1k {a sz:Nat} {ag:Bool} {e:Env} {H:List Ob} {K:TV→Prop}:res [.cell a ag sz] e H K=pop (.load ag sz (.t a)) e H K:=FI rfl
theorem AXe {e:Env} {H:List Ob} {K:TV→Prop}:res [] e H K=((∀ x∈([]:List TV),AzB x=false)∧K (.tup [])):=FI rfl
theorem Bay {r s:VR} {e:Env} {H:List Ob} {K:TV→Prop}:res [r,s] e H K=ATR [r,s] e H fun xs=>match xs with | [x]=>K x | xs=>(∀ x∈xs,AzB x=false)∧K (.tup xs):=FI rfl
theorem A18 {r s:VR} {l:List VR} {e:Env} {H:List Ob} {K:TV→Prop}:res (r::s::l) e H K=ATR (r::s::l) e H fun xs=>match xs with | [x]=>K x | xs=>(∀ x∈xs,AzB x=false)∧K (.tup xs):=FI rfl
theorem AVu {e:Env} {H:List Ob} {K:List TV→Prop}:ATR [] e H K=K []:=FI rfl
theorem A0F {t:Nat} {r:List VR} {e:Env} {H:List Ob} {K:List TV→Prop}:ATR (.tmp t::r) e H K=ATR r e H fun xs=>K (get e t::xs):=FI rfl
theorem ASO {a sz:Nat} {ag:Bool} {r:List VR} {e:Env} {H:List Ob} {K:List TV→Prop}:ATR (.cell a ag sz::r) e H K=pop (.load ag sz (.t a)) e H fun x=>ATR r e H fun xs=>K (x::xs):=FI rfl
theorem AS7 {vr:List VR} {R:TV→List Ob→Prop} {e:Env} {H:List Ob}:AWf vr R .ret e H=res vr e H fun x=>R x H:=FI rfl
theorem ASP {vr:List VR} {R:TV→List Ob→Prop} {e:Env} {H:List Ob}:AWf vr R .nor e H=res vr e H fun x=>R x H:=FI rfl
theorem A0p {H:List Ob} {g:TV→Option TV} {v:Value}:ABM H g (TV.val v)=some (.val v):=by rw [ABM]
theorem A0a {H:List Ob} {g:TV→Option TV}  : ABM H g (TV.any)=some (.any):=by rw [ABM]
theorem A4E {H:List Ob} {g:TV→Option TV} {k:Nat} {cs:List TV}:ABM H g (TV.sl k cs)=some (.sl k cs):=by rw [ABM]
theorem A4m {H:List Ob} {g:TV→Option TV} {x:TV}:ABM H g (TV.fp x)=some (.fp x):=by rw [ABM]
theorem A0d {H:List Ob} {g:TV→Option TV} {n:Nat} {k:Nat} {cs:List TV}:ABM H g (TV.arr n k cs)=some (.arr n k cs):=by rw [ABM]
theorem A4P {H:List Ob} {g:TV→Option TV} {k i v o n cp:Nat} {p:List (Nat×Nat)}:ABM H g (.os k i v p o n cp)=(match H[i]? with | some (.obj vr x)=>if vr=v then (AA8 p k o n x).map (.sl k) else none | _=>none):=by rw [ABM]; rfl
theorem A5k {H:List Ob} {g:TV→Option TV} {i v:Nat} {p:List (Nat×Nat)}:ABM H g (.op i v p)=(match H[i]? with | some (.obj vr x)=>if vr=v then (ADP p x).bind fun y=>(g y).map .fp else none | _=>none):=by rw [ABM]; rfl
theorem A2i {H:List Ob} {g:TV→Option TV} {cs:List TV}:ABM H g (.agg cs)=(AGK H g cs).map .agg:=by rw [ABM]
theorem AZ6 {H:List Ob} {g:TV→Option TV} {cs:List TV}:ABM H g (.tup cs)=(AGK H g cs).map .tup:=by rw [ABM]
theorem A2a {H:List Ob} {g:TV→Option TV} {t:TypeId} {x:TV}:ABM H g (.ifc t x)=(ABM H g x).map (.ifc t):=by rw [ABM]
theorem AXP {H:List Ob} {g:TV→Option TV}:AGK H g []=some []:=FI rfl
theorem AWc {H:List Ob} {g:TV→Option TV} {x:TV} {xs:List TV}:AGK H g (x::xs)=(match ABM H g x,AGK H g xs with | some x,some xs=>some (x::xs) | _,_=>none):=by rw [AGK]; rfl
theorem A9y {H:List Ob} {x:TV}:frz H x=ABM H (AWL H 2) x:=FI rfl
theorem A66 {H:List Ob} {x:List TV}:A8y H x=AGK H (AWL H 2) x:=FI rfl
theorem A6E {H:List Ob} {d:Nat} {x:TV}:AWL H (d+1) x=ABM H (AWL H d) x:=FI rfl
theorem A4Z {H:List Ob} {v:Value}:frs H (.val v)=some (.val v):=by rw [frs]
theorem A3P {H:List Ob}:frs H .any=some .any:=by rw [frs]
theorem A6j {H:List Ob} {k i v o n cp:Nat} {p:List (Nat×Nat)}:frs H (.os k i v p o n cp)=(match H[i]? with | some (.obj vr x)=>if vr=v then (match AA8 p k o n x with | some cs=>if ADW cs then some (.sl k cs) else none | none=>none) else none | _=>none):=by rw [frs]; try rfl
theorem A3W {H:List Ob} {cs:List TV}:frs H (.agg cs)=(ATQ H cs).map .agg:=by rw [frs]
theorem A4I {H:List Ob} {n k:Nat} {cs:List TV}:frs H (.arr n k cs)=if ADW cs then some (.arr n k cs) else none:=by rw [frs]
theorem A3g {H:List Ob} {cs:List TV}:frs H (.tup cs)=(ATQ H cs).map .tup:=by rw [frs]
theorem A3x {H:List Ob} {t:TypeId} {x:TV}:frs H (.ifc t x)=(frs H x).map (.ifc t):=by rw [frs]
theorem A0J {H:List Ob}:ATQ H []=some []:=by rw [ATQ]
theorem AX3 {H:List Ob} {x:TV} {xs:List TV}:ATQ H (x::xs)=(match frs H x,ATQ H xs with | some x,some xs=>some (x::xs) | _,_=>none):=by rw [ATQ]; try rfl
theorem AXB {l:List UInt8}:ADW (l.map by8)=true:=by
 induction l with
 | nil=>rfl
 | cons x l ih=>rw [List.map_cons,ADW,ih]; rfl
theorem A11 {l:List (List UInt8)}:ADW (l.map ts)=true:=by
 induction l with
 | nil=>rfl
 | cons x l ih=>rw [List.map_cons,ADW,ih]; rfl
theorem A1P {l:List UInt8} {i:Nat} {b:UInt8}:(l.map by8).set i (.val (.int .u8 (b.toNat:Int)))=(l.set i b).map by8:=by rw [List.map_set]
theorem A0L {l:List UInt8}:(l.map by8).map AK8=l:=by
 rw [List.map_map]
 have:(AK8 ∘ by8)=id:=by funext b; simp
 rw [this,List.map_id]
theorem A09 {l:List UInt8}:(∀ y∈l.map by8,AUU y)=True:=by simp
theorem A0r {a b:Nat}:((a:Int)+(b:Int))=((a+b:Nat):Int):=by omega
theorem A3p {a b:Nat}:((a:Int)<(b:Int))=(a<b):=by simp
theorem A4h {a b:Nat}:((a:Int)≤(b:Int))=(a≤b):=by simp
theorem A3r {a b:Nat}:((a:Int)=(b:Int))=(a=b):=propext ⟨fun h=>by omega,fun h=>by omega⟩
theorem A3T {a:Nat}:(0≤(a:Int))=True:=by simp
theorem A52 {d s:Nat} {x:TV}:get ((d,x)::e) s=if d=s then x else get e s:=FI rfl
end
end
section
open Go.RowKit
variable [AyZ]
set_option autoImplicit false
universe u
class Tg {α:Sort u} (a:α):Type where
instance tg {α:Sort u} (a:α):Tg a:={}
def vif (t:Bool) (A B:Prop) [Tg A] [Tg B]:Prop:=if t=true then A else B
def Aze {α:Type} (o:Option α) (K:α→Prop) [Tg K]:Prop:=match o with | some y=>K y | none=>False
def AAc (A K:Prop) [Tg K]:Prop:=A∧K
def Azc {α:Type} (x:α) (K:α→Prop) [Tg K]:Prop:=K x
def vex (K:TV→Prop) [Tg K]:Prop:=∃ x,K x
def VC (P:Program) (f:FuncId) (xs:List TV) (H:List Ob) (K:TV→List Ob→Prop) [Tg K]:Prop:=AyI P f xs H K
def VY (P:Program) (id ver:Nat) (xs:List TV) (H:List Ob) (K:TV→List Ob→Prop) [Tg K]:Prop:=APw P id ver xs H K
theorem APi {P:Program} {f:FuncId} {xs:List TV} {H:List Ob} {K:TV→List Ob→Prop} (h:AyI P f xs H K):VC P f xs H K:=h
section
variable {A A' B K:Prop} {α:Type}
@[congr] theorem A6r {t t':Bool} (h:t=t'):vif t A B=vif t' A B:=by rw [h]
@[congr] theorem A5x {o o':Option α} {K:α→Prop} (h:o=o'):Aze o K=Aze o' K:=by rw [h]
@[congr] theorem A5o (h:A=A'):AAc A K=AAc A' K:=by rw [h]
@[congr] theorem A5p {x x':α} {K:α→Prop} (h:x=x'):Azc x K=Azc x' K:=by rw [h]
@[congr] theorem A5T {P:Program} {c:AyC} {Q:VEx→Env→List Ob→Prop} {e e':Env} {H H':List Ob} (he:e=e') (hH:H=H'):vwp P c Q e H=vwp P c Q e' H':=by rw [he,hH]
@[congr] theorem A8T {P:Program} {f:FuncId} {xs xs':List TV} {H H':List Ob} {K:TV→List Ob→Prop} (he:xs=xs') (hH:H=H'):VC P f xs H K=VC P f xs' H' K:=by rw [he,hH]
@[congr] theorem A8I {P:Program} {id ver:Nat} {xs xs':List TV} {H H':List Ob} {K:TV→List Ob→Prop} (he:xs=xs') (hH:H=H'):VY P id ver xs H K=VY P id ver xs' H' K:=by rw [he,hH]
theorem AZL:vif true A B=A:=by simp [vif]
theorem AWZ:vif false A B=B:=by simp [vif]
theorem A6B {p:Prop} [Decidable p] (h:p):vif (decide p) A B=A:=by simp [vif,h]
theorem A60 {p:Prop} [Decidable p] (h:¬ p):vif (decide p) A B=B:=by simp [vif,h]
theorem A3M {t:Bool}:vif (!t) A B=vif t B A:=by cases t<;>simp [vif]
theorem A4v {s t:Bool}:vif (s && t) A B=vif s (vif t A B) B:=by cases s<;>simp [vif]
theorem A5X {s t:Bool}:vif (s || t) A B=vif s A (vif t A B):=by cases s<;>simp [vif]
theorem AZg {y:α} {K:α→Prop}:Aze (some y) K=K y:=rfl
theorem A2t {β:Type} {f:α→β} {o:Option α} {K:β→Prop}:Aze (o.map f) K=Aze o fun y=>K (f y):=by cases o<;>rfl
theorem A4e {cs:List α} {i:Nat} {K:α→Prop} (h:i<cs.length):Aze cs[i]? K=K cs[i]:=by rw [List.getElem?_eq_getElem h]; rfl
theorem AXc (h:A):AAc A K=K:=by simp [AAc,h]
theorem A8s:AAc True K=K:=by simp [AAc]
theorem A2o:AAc (A∧B) K=AAc A (AAc B K):=by simp [AAc,and_assoc]
theorem A3e {x:α} {K:α→Prop}:Azc x K=K x:=rfl
end
def ABS:Option Ob→Nat→Option TV
 | some (.obj v x),ver=>if v=ver then some x else none
 | _,_=>none
theorem A1N {v:Nat} {x:TV}:ABS (some (.obj v x)) v=some x:=by simp [ABS]
section
variable {H l:List Ob} {o:Ob} {n k:Nat}
theorem A54 (h:H.length=n):(H++l)[n]?=l[0]?:=by rw [List.getElem?_append_right (by omega),h,Nat.sub_self]
theorem A4C (h:H.length=n):(H++l)[n+k]?=l[k]?:=by rw [List.getElem?_append_right (by omega)]; congr 1; omega
theorem A7M (h:n<H.length):(H++l)[n]?=H[n]?:=List.getElem?_append_left h
theorem A50 (h:n<H.length):(H.set n o)[n]?=some o:=by simp [h]
theorem AYu {m:Nat} (h:m≠n):(H.set m o)[n]?=H[n]?:=by rw [List.getElem?_set_ne h]
theorem A37 (h:H.length=n):(H++l).set n o=H++l.set 0 o:=by rw [List.set_append_right _ _ (by omega),h,Nat.sub_self]
theorem A2l (h:H.length=n):(H++l).set (n+k) o=H++l.set k o:=by rw [List.set_append_right _ _ (by omega)]; congr 2; omega
theorem A3c (h:n<H.length):(H++l).set n o=H.set n o++l:=List.set_append_left _ _ h
end
section
variable {P:Program} {e:Env} {H:List Ob}
def AYo (c a b:TV) (K:TV→Prop) [Tg K]:Prop:=match c with | .val (.bool t)=>K (if t then a else b) | _=>False
def A8A (t:TypeId) (op:BinOp) (x y:TV) (K:TV→Prop) [Tg K]:Prop:=match x,y with
  | .val u,.val v=>AZ4 u v=true∧(match AAD t op u v with | some r=>K (.val r) | none=>False)
  | _,_=>False
def Pun (op:UnOp) (x:TV) (K:TV→Prop) [Tg K]:Prop:=match x with
  | .val u=>(match unV op u with | some r=>K (.val r) | none=>False)
  | _=>False
def A1a (k:IntKind) (x:TV) (K:TV→Prop) [Tg K]:Prop:=match x with
  | .val (.int _ n)=>K (.val (.int k (k.wrap n)))
  | _=>False
def A8D (x:TV) (K:TV→Prop) [Tg K]:Prop:=match x with
  | .val (.string s)=>K (.val (.string s))
  | _=>False
def A8R (x:Option (List TV)) (K:TV→Prop) [Tg K]:Prop:=match x with
  | some cs=>(∀ y∈cs,AUU y)∧K (.val (.string (str (cs.map AK8))))
  | none=>False
def AUI (H:List Ob) (ag:Bool) (sz:Nat) (x:TV) (K:TV→Prop) [Tg K]:Prop:=match x with
  | .fp y=>AQB ag sz y∧K y
  | .op id ver p=>(match H[id]? with
   | some (.obj v x)=>v=ver∧(match ADP p x with | some y=>AQB ag sz y∧K y | none=>False)
   | _=>False)
  | _=>False
def ANl (i off:Nat) (x:TV) (K:TV→Prop) [Tg K]:Prop:=match x with
  | .op id ver p=>K (.op id ver (p++[(i,off)]))
  | .fp (.agg cs)=>Azg (cs.take i)=off∧(match cs[i]? with | some y=>K (.fp y) | none=>False)
  | _=>False
def ATJ (ag:Bool) (sz i off:Nat) (x:TV) (K:TV→Prop) [Tg K]:Prop:=match x with
  | .agg cs=>Azg (cs.take i)=off∧(match cs[i]? with | some y=>AQB ag sz y∧K y | none=>False)
  | _=>False
def AVL (k:Nat) (x i:TV) (K:TV→Prop) [Tg K]:Prop:=match x,i with
  | .sl k' cs,.val (.int _ j)=>k'=k∧0≤j∧(match cs[j.toNat]? with | some y=>K (.fp y) | none=>False)
  | .os k' id ver p off n cp,.val (.int _ j)=>k'=k∧0≤j∧j<n∧K (.op id ver (p++[(off+j.toNat,(off+j.toNat)*k)]))
  | _,_=>False
def AQM (n k:Nat) (x i:TV) (K:TV→Prop) [Tg K]:Prop:=match x,i with
  | .fp (.arr n' k' cs),.val (.int _ j)=>k'=k∧n'=n∧0≤j∧(match cs[j.toNat]? with | some y=>K (.fp y) | none=>False)
  | .op id ver p,.val (.int _ j)=>0≤j∧j<n∧K (.op id ver (p++[(j.toNat,j.toNat*k)]))
  | _,_=>False
def A70 (ag:Bool) (n k:Nat) (x i:TV) (K:TV→Prop) [Tg K]:Prop:=match x,i with
  | .arr n' k' cs,.val (.int _ j)=>k'=k∧n'=n∧0≤j∧(match cs[j.toNat]? with | some y=>AQB ag k y∧K y | none=>False)
  | _,_=>False
def AXR (x i:TV) (K:TV→Prop) [Tg K]:Prop:=match x,i with
  | .val (.string s),.val (.int _ j)=>0≤j∧(match (bl s)[j.toNat]? with | some b=>K (by8 b) | none=>False)
  | _,_=>False
def A6x (i:Nat) (x:TV) (K:TV→Prop) [Tg K]:Prop:=match x with
  | .tup xs=>(match xs[i]? with | some y=>K y | none=>False)
  | _=>False
def A00 (x:TV) (K:TV→Prop) [Tg K]:Prop:=match x with
  | .val (.string s)=>K (.val (.int .i64 (bl s).length))
  | _=>False
def AVM (x:TV) (K:TV→Prop) [Tg K]:Prop:=match x with
  | .val (.slice _ n _)=>K (.val (.int .i64 n))
  | .sl _ cs=>K (.val (.int .i64 cs.length))
  | .os _ _ _ _ _ n _=>K (.val (.int .i64 n))
  | _=>False
def ARu (lo hi:Option TV) (len lim:Nat) (K:Nat→Nat→Prop) [Tg K]:Prop :=
 match (match lo with | none=>some 0 | some x=>(match x with | .val (.int _ i)=>some i | _=>none)),(match hi with | none=>some (len:Int) | some x=>(match x with | .val (.int _ i)=>some i | _=>none)) with
 | some l,some h=>(0≤l∧l≤h∧h≤lim)∧K l.toNat h.toNat
 | _,_=>False
def evO (e:Env):Option Opd→Option TV
 | none=>none
 | some x=>some (x.ev e)
theorem A06:evO e none=none:=FI rfl
theorem A1C {x:Opd}:evO e (some x)=some (x.ev e):=FI rfl
theorem AXJ {lo hi:Option Opd} {len lim:Nat} {K:Nat→Nat→Prop}:bnd e lo hi len lim K=ARu (evO e lo) (evO e hi) len lim K:=by
 cases lo<;>cases hi<;>rfl
def A8N (x:TV) (lo hi:Option TV) (K:TV→Prop) [Tg K]:Prop:=match x with
  | .val (.string s)=>ARu lo hi (bl s).length (bl s).length fun l h=>K (.val (.string (str (((bl s).drop l).take (h - l)))))
  | _=>False
def A5s (k:Nat) (x:TV) (lo hi:Option TV) (K:TV→Prop) [Tg K]:Prop:=match x with
  | .sl k' cs=>k'=k∧ARu lo hi cs.length cs.length fun l h=>K (.sl k ((cs.drop l).take (h - l)))
  | .os k' id ver p off n cp=>k'=k∧ARu lo hi n cp fun l h=>K (.os k id ver p (off+l) (h - l) (cp - l))
  | .val (.slice ad 0 0)=>ARu lo hi 0 0 fun l h=>K (.val (.slice ad 0 0))
  | _=>False
def A5q (H:List Ob) (n k:Nat) (x:TV) (lo hi:Option TV) (K:TV→Prop) [Tg K]:Prop:=match x with
  | .fp (.arr n' k' cs)=>k'=k∧n'=n∧n≤9223372036854775807∧ARu lo hi n n fun l h=>K (.sl k ((cs.drop l).take (h - l)))
  | .op id ver p=>(match H[id]? with
   | some (.obj v x)=>v=ver∧n≤9223372036854775807∧(match ADP p x with | some (.arr n' k' cs)=>k'=k∧n'=n∧ARu lo hi n n fun l h=>K (.os k id ver p l (h - l) (n - l)) | _=>False)
   | _=>False)
  | _=>False
def AVw (t:TypeId) (x:TV) (K:TV→Prop) [Tg K]:Prop:=lays x=true∧K (.ifc t x)
def A6a (f:Fn) (first caps:List TV) (K:TV→Prop) [Tg K]:Prop:=(∀ x∈first++caps,AzB x=false)∧K (.fn f first caps)
def AS9 (x:TV) (K:TV→Prop) [Tg K]:Prop:=match x with
  | .op id ver p=>K (.op id ver p)
  | .fp y=>K (.fp y)
  | .fn (.func f) a b=>K (.fn (.func f) a b)
  | .ifc t y=>K (.ifc t y)
  | .val (.func (.func f) a b)=>K (.val (.func (.func f) a b))
  | _=>False
def A8M (x y:TV) (K:TV→Prop) [Tg K]:Prop:=match x,y with
  | .val (.int k a),.val (.int _ b)=>K (.val (.int k (if b<a then b else a)))
  | _,_=>False
def A8K (x y:TV) (K:TV→Prop) [Tg K]:Prop:=match x,y with
  | .val (.int k a),.val (.int _ b)=>K (.val (.int k (if b > a then b else a)))
  | _,_=>False
def APP (g:GOp) (H:List Ob) (xs:List TV) (K:TV→Prop) [Tg K]:Prop:=match gev g H xs with
  | some y=>K y
  | none=>False
def A68 (neg:Bool) (x y:TV) (K:TV→Prop) [Tg K]:Prop:=match x,y with
  | .val (.bool a),.val (.bool b)=>K (.val (.bool (xor neg (a == b))))
  | _,_=>False
def A8k (neg:Bool) (x y:Option Bool) (K:TV→Prop) [Tg K]:Prop:=match x,y with
  | some true,some b=>K (.val (.bool (xor neg b)))
  | some false,some true=>K (.val (.bool (xor neg false)))
  | _,_=>False
def ASU (H:List Ob) (sz:Nat) (x v:TV) (K:TV→List Ob→Prop) [Tg K]:Prop:=(lays v=true∧AyK v=sz)∧(match x with
  | .op id ver p=>(match H[id]? with
   | some (.obj vr y)=>vr=ver∧(match AFF p y v with | some y'=>K .any (H.set id (.obj ver y')) | none=>False)
   | _=>False)
  | _=>False)
def A8Y (H:List Ob) (k bytes:Nat) (z l c:TV) (K:TV→List Ob→Prop) [Tg K]:Prop:=match l,c with
  | .val (.int _ l),.val (.int _ c)=>(0≤l∧l≤c∧(bytes:Int)*c≤281474976710656∧c≤9223372036854775807)∧K (.os k H.length 0 [] 0 l.toNat c.toNat) (H++[.obj 0 (.arr c.toNat k (List.replicate c.toNat z))])
  | _,_=>False
def A31 (k bytes:Nat) (et:TypeId) (x:TV) (y:Option (List TV)) (H:List Ob) (K:TV→List Ob→Prop) [Tg K]:Prop:=match y with
  | some ys=>ATB k bytes et x ys H K
  | none=>False
def AUh (k:Nat) (x:TV) (y:Option (List TV)) (H:List Ob) (K:TV→List Ob→Prop) [Tg K]:Prop:=match y with
  | some ys=>AKg k x ys H K
  | none=>False
def A1t (et:TypeId) (x y:TV) (H:List Ob) (K:TV→List Ob→Prop) [Tg K]:Prop:=match y with
  | .val (.string s)=>ATB 1 1 et x ((bl s).map by8) H K
  | _=>False
def AVx (x y:TV) (H:List Ob) (K:TV→List Ob→Prop) [Tg K]:Prop:=match y with
  | .val (.string s)=>AKg 1 x ((bl s).map by8) H K
  | _=>False
def A0b (P:Program) (f:FuncId) (x:Option (Nat×Nat×List UInt8)) (H:List Ob) (K:TV→List Ob→Prop) [Tg K]:Prop:=A8G P f∧(match x with
  | some (j,v,l)=>l.length≤9223372036854775807∧K (.val (.string (str l))) (H.set j (.gone v))
  | none=>False)
def A8O (H:List Ob) (x:TV) (K:TV→List Ob→Prop) [Tg K]:Prop:=match x with
  | .val (.string s)=>(bl s).length≤9223372036854775807∧K (.os 1 H.length 0 [] 0 (bl s).length (bl s).length) (H++[.obj 0 (.arr (bl s).length 1 ((bl s).map by8))])
  | _=>False
def A1q (k bytes:Nat) (z x n:TV) (H:List Ob) (K:TV→List Ob→Prop) [Tg K]:Prop:=match x,n with
  | .val (.slice none 0 0),.val (.int .i64 j)=>(0≤j∧(bytes:Int)*j≤140737488355328∧j≤9223372036854775807)∧K (.os k H.length 0 [] 0 j.toNat j.toNat) (H++[.obj 0 (.arr j.toNat k (List.replicate j.toNat z))])
  | _,_=>False
def AWr (H:List Ob) (K:TV→List Ob→Prop) [Tg K]:Prop:=K (.val (.bool true)) H∧K (.val (.bool false)) H
def A2w (neg:Bool) (x:TV) (H:List Ob) (K:TV→List Ob→Prop) [Tg K]:Prop:=match x with
  | .val (.slice a _ _)=>K (.val (.bool (xor neg a.isNone))) H
  | .sl _ cs=>(cs=[]→K (.val (.bool true)) H∧K (.val (.bool false)) H)∧(cs≠[]→K (.val (.bool neg)) H)
  | .os _ _ _ _ _ n _=>(n=0→K (.val (.bool true)) H∧K (.val (.bool false)) H)∧(n≠0→K (.val (.bool neg)) H)
  | _=>False
def AQI (P:Program) (x:TV) (args:List TV) (H:List Ob) (K:TV→List Ob→Prop) [Tg K]:Prop:=match x with
  | .fn (.func f) first caps=>AOL P f=true∧AyI P f (first++args++caps) H K
  | .val (.func (.func f) xs ys)=>(xs.isEmpty && ys.isEmpty)=true∧AOL P f=true∧AyI P f args H K
  | .yl id ver=>APw P id ver args H K
  | _=>False
def A6k (P:Program) (nm:String) (x:TV) (args:List TV) (H:List Ob) (K:TV→List Ob→Prop) [Tg K]:Prop:=A8L P nm H x fun f r=>AyI P f (r::args) H K
def A5u (P:Program) (q:Option (FuncId×Option (Bool×Nat))) (r:TV) (args:List TV) (H:List Ob) (K:TV→List Ob→Prop) [Tg K]:Prop:=match q with
 | some (f,none)=>AOL P f=true∧AyI P f (r::args) H K
 | some (f,some (ag,sz))=>AOL P f=true∧ldT H ag sz r fun y=>AyI P f (y::args) H K
 | none=>False
def Gd (q:Option Bool) (b:Bool) (A B:Prop) [Tg A] [Tg B]:Prop:=match q with
 | some t=>if t=b then A else B
 | none=>B
def evs (e:Env) (xs:List Opd):List TV:=xs.map (·.ev e)
theorem A3y:evs e []=[]:=FI rfl
theorem A0o {x:Opd} {xs:List Opd}:evs e (x::xs)=x.ev e::evs e xs:=FI rfl
def AJV (xs:List TV):Prop:=∀ x∈xs,AzB x=false
theorem AXD:AJV []=True:=by simp [AJV]
theorem AWC {x:TV} {xs:List TV}:AJV (x::xs)=(AzB x=false∧AJV xs):=by simp [AJV]
theorem AGP {args:List Opd}:(∀ x∈args,AzB (x.ev e)=false)=AJV (evs e args):=by simp [AJV,evs]
section
variable {c c' a a' b b' x x' y y':TV} {K:TV→Prop} {KK:TV→List Ob→Prop} {lo lo' hi hi':Option TV} {ox ox':Option (List TV)} {q q' q2 q2':Option Bool} {xs xs':List TV} {A B:Prop} {H':List Ob}
@[congr] theorem A93 (h1:c=c') (h2:a=a') (h3:b=b'):AYo c a b K=AYo c' a' b' K:=by rw [h1,h2,h3]
@[congr] theorem BbQ {t:TypeId} {op:BinOp} (h1:x=x') (h2:y=y'):A8A t op x y K=A8A t op x' y' K:=by rw [h1,h2]
@[congr] theorem Bb9 {op:UnOp} (h1:x=x'):Pun op x K=Pun op x' K:=by rw [h1]
@[congr] theorem Ban {k:IntKind} (h1:x=x'):A1a k x K=A1a k x' K:=by rw [h1]
@[congr] theorem Bby (h1:x=x'):A8D x K=A8D x' K:=by rw [h1]
@[congr] theorem Bbl (h1:ox=ox'):A8R ox K=A8R ox' K:=by rw [h1]
@[congr] theorem A9e {ag:Bool} {sz:Nat} (h1:x=x') (h2:H=H'):AUI H ag sz x K=AUI H' ag sz x' K:=by rw [h1,h2]
@[congr] theorem A74 {i o:Nat} (h1:x=x'):ANl i o x K=ANl i o x' K:=by rw [h1]
@[congr] theorem A8P {ag:Bool} {sz i o:Nat} (h1:x=x'):ATJ ag sz i o x K=ATJ ag sz i o x' K:=by rw [h1]
@[congr] theorem A96 {k:Nat} (h1:x=x') (h2:y=y'):AVL k x y K=AVL k x' y' K:=by rw [h1,h2]
@[congr] theorem A8Q {n k:Nat} (h1:x=x') (h2:y=y'):AQM n k x y K=AQM n k x' y' K:=by rw [h1,h2]
@[congr] theorem Bbw {ag:Bool} {n k:Nat} (h1:x=x') (h2:y=y'):A70 ag n k x y K=A70 ag n k x' y' K:=by rw [h1,h2]
@[congr] theorem A9g (h1:x=x') (h2:y=y'):AXR x y K=AXR x' y' K:=by rw [h1,h2]
@[congr] theorem BbK {i:Nat} (h1:x=x'):A6x i x K=A6x i x' K:=by rw [h1]
@[congr] theorem A9q (h1:x=x'):A00 x K=A00 x' K:=by rw [h1]
@[congr] theorem BaS (h1:x=x'):AVM x K=AVM x' K:=by rw [h1]
@[congr] theorem BbB {n m:Nat} {K:Nat→Nat→Prop} {n' m':Nat} (h1:lo=lo') (h2:hi=hi') (h3:n=n') (h4:m=m'):ARu lo hi n m K=ARu lo' hi' n' m' K:=by rw [h1,h2,h3,h4]
@[congr] theorem Bbz (h1:x=x') (h2:lo=lo') (h3:hi=hi'):A8N x lo hi K=A8N x' lo' hi' K:=by rw [h1,h2,h3]
@[congr] theorem BbN {k:Nat} (h1:x=x') (h2:lo=lo') (h3:hi=hi'):A5s k x lo hi K=A5s k x' lo' hi' K:=by rw [h1,h2,h3]
@[congr] theorem Bbm {n k:Nat} (h0:H=H') (h1:x=x') (h2:lo=lo') (h3:hi=hi'):A5q H n k x lo hi K=A5q H' n k x' lo' hi' K:=by rw [h0,h1,h2,h3]
@[congr] theorem A8S {t:TypeId} (h1:x=x'):AVw t x K=AVw t x' K:=by rw [h1]
@[congr] theorem Bbx {f:Fn} {ys ys':List TV} (h1:xs=xs') (h2:ys=ys'):A6a f xs ys K=A6a f xs' ys' K:=by rw [h1,h2]
@[congr] theorem A9j (h1:x=x'):AS9 x K=AS9 x' K:=by rw [h1]
@[congr] theorem Bbr (h1:x=x') (h2:y=y'):A8M x y K=A8M x' y' K:=by rw [h1,h2]
@[congr] theorem Bbq (h1:x=x') (h2:y=y'):A8K x y K=A8K x' y' K:=by rw [h1,h2]
@[congr] theorem Bbt {g:GOp} {xs xs':List TV} (h1:H=H') (h2:xs=xs'):APP g H xs K=APP g H' xs' K:=by rw [h1,h2]
@[congr] theorem Bbk {n:Bool} (h1:x=x') (h2:y=y'):A68 n x y K=A68 n x' y' K:=by rw [h1,h2]
@[congr] theorem BbJ {n:Bool} (h1:q=q') (h2:q2=q2'):A8k n q q2 K=A8k n q' q2' K:=by rw [h1,h2]
@[congr] theorem A8C {sz:Nat} (h0:H=H') (h1:x=x') (h2:y=y'):ASU H sz x y KK=ASU H' sz x' y' KK:=by rw [h0,h1,h2]
@[congr] theorem Bbo {k n:Nat} {z:TV} (h0:H=H') (h1:x=x') (h2:y=y'):A8Y H k n z x y KK=A8Y H' k n z x' y' KK:=by rw [h0,h1,h2]
@[congr] theorem BbG {k n:Nat} {et:TypeId} (h0:H=H') (h1:x=x') (h2:ox=ox'):A31 k n et x ox H KK=A31 k n et x' ox' H' KK:=by rw [h0,h1,h2]
@[congr] theorem A81 {k:Nat} (h0:H=H') (h1:x=x') (h2:ox=ox'):AUh k x ox H KK=AUh k x' ox' H' KK:=by rw [h0,h1,h2]
@[congr] theorem A9U {et:TypeId} (h0:H=H') (h1:x=x') (h2:y=y'):A1t et x y H KK=A1t et x' y' H' KK:=by rw [h0,h1,h2]
@[congr] theorem A8J (h0:H=H') (h1:x=x') (h2:y=y'):AVx x y H KK=AVx x' y' H' KK:=by rw [h0,h1,h2]
@[congr] theorem BaQ {P:Program} {f:FuncId} {r r':Option (Nat×Nat×List UInt8)} (h0:H=H') (h1:r=r'):A0b P f r H KK=A0b P f r' H' KK:=by rw [h0,h1]
@[congr] theorem BaA {k n:Nat} {z:TV} (h0:H=H') (h1:x=x') (h2:y=y'):A1q k n z x y H KK=A1q k n z x' y' H' KK:=by rw [h0,h1,h2]
@[congr] theorem BbD {n:Bool} (h0:H=H') (h1:x=x'):A2w n x H KK=A2w n x' H' KK:=by rw [h0,h1]
@[congr] theorem BaH (h0:H=H'):AWr H KK=AWr H' KK:=by rw [h0]
@[congr] theorem BbC (h0:H=H') (h1:x=x'):A8O H x KK=A8O H' x' KK:=by rw [h0,h1]
@[congr] theorem A8z (h0:H=H') (h1:x=x') (h2:xs=xs'):AQI P x xs H KK=AQI P x' xs' H' KK:=by rw [h0,h1,h2]
@[congr] theorem BbR {P:Program} {nm:String} (h0:H=H') (h1:x=x') (h2:xs=xs'):A6k P nm x xs H KK=A6k P nm x' xs' H' KK:=by rw [h0,h1,h2]
@[congr] theorem BbL {P:Program} {g g':Option (FuncId×Option (Bool×Nat))} (h:g=g') (h0:H=H') (h1:x=x') (h2:xs=xs'):A5u P g x xs H KK=A5u P g' x' xs' H' KK:=by rw [h,h0,h1,h2]
@[congr] theorem Bcn {b:Bool} (h1:q=q'):Gd q b A B=Gd q' b A B:=by rw [h1]
end
section
variable {K:TV→Prop} {KK:TV→List Ob→Prop} {x y i a b c:Opd} {lo hi:Option Opd}
theorem A9R:pop (.mov x) e H K=Azc (x.ev e) K:=FI rfl
theorem A6q:pop (.pick c a b) e H K=AYo (c.ev e) (a.ev e) (b.ev e) K:=FI rfl
theorem BaB {t:TypeId} {op:BinOp}:pop (.bin t op x y) e H K=A8A t op (x.ev e) (y.ev e) K:=FI rfl
theorem Bcb {op:UnOp}:pop (.un op x) e H K=Pun op (x.ev e) K:=FI rfl
theorem A8i {k:IntKind}:pop (.conv k x) e H K=A1a k (x.ev e) K:=FI rfl
theorem A9V:pop (.s2s x) e H K=A8D (x.ev e) K:=FI rfl
theorem A82:pop (.b2s x) e H K=A8R (Azs H 1 (x.ev e)) K:=FI rfl
theorem A6T {ag:Bool} {sz:Nat}:pop (.load ag sz x) e H K=AUI H ag sz (x.ev e) K:=FI rfl
theorem AZR {n o:Nat}:pop (.fieldA n o x) e H K=ANl n o (x.ev e) K:=FI rfl
theorem A23 {ag:Bool} {sz n o:Nat}:pop (.field ag sz n o x) e H K=ATJ ag sz n o (x.ev e) K:=FI rfl
theorem A6L {k:Nat}:pop (.idxA k x i) e H K=AVL k (x.ev e) (i.ev e) K:=FI rfl
theorem A3S {n k:Nat}:pop (.idxAA n k x i) e H K=AQM n k (x.ev e) (i.ev e) K:=FI rfl
theorem Baw {ag:Bool} {n k:Nat}:pop (.idx ag n k x i) e H K=A70 ag n k (x.ev e) (i.ev e) K:=FI rfl
theorem A6p:pop (.idxS x i) e H K=AXR (x.ev e) (i.ev e) K:=FI rfl
theorem A9m {n:Nat}:pop (.ext n x) e H K=A6x n (x.ev e) K:=FI rfl
theorem A6C:pop (.lenS x) e H K=A00 (x.ev e) K:=FI rfl
theorem A5R:pop (.lenV x) e H K=AVM (x.ev e) K:=FI rfl
theorem Ba0:pop (.slS x lo hi) e H K=A8N (x.ev e) (evO e lo) (evO e hi) K:=by
 show (match x.ev e with | .val (.string s)=>bnd e lo hi (bl s).length (bl s).length fun l h=>K (.val (.string (str (((bl s).drop l).take (h - l))))) | _=>False)=_
 simp only [AXJ]; rfl
theorem A9P {k:Nat}:pop (.slV k x lo hi) e H K=A5s k (x.ev e) (evO e lo) (evO e hi) K:=by
 rw [BaJ]; simp only [AXJ]; rfl
theorem A85 {n k:Nat}:pop (.slA n k x lo hi) e H K=A5q H n k (x.ev e) (evO e lo) (evO e hi) K:=by
 rw [Ba9]; simp only [AXJ]; rfl
theorem A5i {t:TypeId}:pop (.iface t x) e H K=AVw t (x.ev e) K:=FI rfl
theorem Bab {f:Fn} {xs ys:List Opd}:pop (.mkf f xs ys) e H K=A6a f (evs e xs) (evs e ys) K:=by
 rw [Bap]; unfold A6a evs; rw [←List.map_append]
 refine congrArg (· ∧ _) (propext ⟨fun h y hy => ?_,fun h y hy=>h _ (List.mem_map.2 ⟨y,hy,rfl⟩)⟩)
 obtain ⟨z,hz,rfl⟩:=List.mem_map.1 hy; exact h z hz
theorem A8r:pop (.nilc x) e H K=AS9 (x.ev e) K:=FI rfl
theorem Ba5:pop (.min x y) e H K=A8M (x.ev e) (y.ev e) K:=FI rfl
theorem A9v:pop (.max x y) e H K=A8K (x.ev e) (y.ev e) K:=FI rfl
theorem A80 {g:GOp} {xs:List Opd}:pop (.gen g xs) e H K=APP g H (evs e xs) K:=FI rfl
theorem Bak {n:Bool}:pop (.eqB x y n) e H K=A68 n (x.ev e) (y.ev e) K:=FI rfl
theorem A92 {kd:Nat} {n:Bool}:pop (.eqN kd x y n) e H K=A8k n (AAF kd (x.ev e)) (AAF kd (y.ev e)) K:=FI rfl
theorem A4V {zs:List TV} {szs:List Nat} {ps:List (Nat×Opd)}:pop (.build zs szs ps) e H K=AAc (AAI e szs ps) (Azc (TV.agg (ABf e zs ps)) K):=FI rfl
theorem AZH {n k:Nat} {zs:List TV} {ps:List (Nat×Opd)}:pop (.buildA n k zs ps) e H K=AAc (AAI e (List.replicate n k) ps) (AAc (Azj e ps) (Azc (TV.arr n k (ABf e zs ps)) K)):=FI rfl
theorem A9A {k n:Nat} {z:TV} {ps:List (Nat×Opd)}:pop (.bsl k n z ps) e H K=AAc (AAI e (List.replicate n k) ps) (AAc (Azj e ps∧n≤1000) (Azc (TV.sl k (ABf e (List.replicate n z) ps)) K)):=by
 show ((_∧_∧_)∧_)=_
 simp only [AAc,Azc,and_assoc]
theorem A4S {z:TV}:sop P (.alloc z) e H KK=Azc (H.length) fun n=>Azc (H++[.obj 0 z]) fun H'=>KK (.op n 0 []) H':=FI rfl
theorem AZU {z:TV} {t:TypeId}:sop P (.allocT z t) e H KK=Azc (H.length) fun n=>Azc (AyK z) fun m=>Azc (H++[.obj 0 z,.fact n 0 t m]) fun H'=>KK (.op n 0 []) H':=FI rfl
theorem A7F {t:TypeId}:sop P (.boxT x t) e H KK=Azc (x.ev e) fun v=>AAc (lays v=true) (Azc (H.length) fun n=>Azc (AyK v) fun m=>Azc (H++[.obj 0 v,.fact n 0 t m]) fun H'=>KK (.op n 0 []) H'):=FI rfl
theorem A6W {f:FuncId}:sop P (.bstr f x) e H KK=A0b P f (AWn H (x.ev e)) H KK:=FI rfl
def A0k (x:TV) (H:List Ob) (K:TV→List Ob→Prop) [Tg K]:Prop:=match x with
 | .val (.string s)=>K (.op H.length 0 []) (H++[.sit (bl s) 0])
 | _=>False
@[congr] theorem A9T {x x':TV} {H':List Ob} (h1:x=x') (h2:H=H'):A0k x H KK=A0k x' H' KK:=by rw [h1,h2]
theorem A5S:sop P (.rngS x) e H KK=A0k (x.ev e) H KK:=FI rfl
theorem AZP {s:ByteArray}:A0k (.val (.string s)) H KK=Azc H.length fun n=>Azc (H++[.sit (bl s) 0]) fun H'=>KK (.op n 0 []) H':=FI rfl
def AWS:Option Ob→Option (List UInt8×Nat)
 | some (.sit s pos)=>some (s,pos)
 | _=>none
theorem A2p {s:List UInt8} {pos:Nat}:AWS (some (.sit s pos))=some (s,pos):=FI rfl
def AYJ (x:TV) (H:List Ob) (K:TV→List Ob→Prop) [Tg K]:Prop:=match x with
 | .op id 0 []=>(match H[id]? with
  | some (.sit s pos)=>if pos<s.length then K (.tup [.val (.bool true),.val (.int .i64 (pos:Int)),.val (.int .i32 ((Utf8.decode (str s) pos).1:Int))]) (H.set id (.sit s (pos+(Utf8.decode (str s) pos).2))) else K (.tup [.val (.bool false)]) H
  | _=>False)
 | _=>False
@[congr] theorem BaG {x x':TV} {H':List Ob} (h1:x=x') (h2:H=H'):AYJ x H KK=AYJ x' H' KK:=by rw [h1,h2]
theorem A72:sop P (.nxtS x) e H KK=AYJ (x.ev e) H KK:=FI rfl
theorem A1r {id:Nat}:AYJ (.op id 0 []) H KK=Aze (AWS H[id]?) fun p=>vif (decide (p.2<p.1.length))
  (Azc (H.set id (.sit p.1 (p.2+(Utf8.decode (str p.1) p.2).2))) fun H'=>KK (.tup [.val (.bool true),.val (.int .i64 (p.2:Int)),.val (.int .i32 ((Utf8.decode (str p.1) p.2).1:Int))]) H') (KK (.tup [.val (.bool false)]) H):=by
 unfold AYJ
 cases h:H[id]? with
 | none=>simp [AWS,Aze,h]
 | some o =>
  cases o with
  | sit s pos=>simp only [h,AWS,Aze,Azc]; by_cases hp:pos<s.length<;>simp [vif,hp]
  | _=>simp [AWS,Aze,h]
theorem BaT:sop P (.box x) e H KK=Azc (x.ev e) fun v=>AAc (lays v=true) (Azc (H.length) fun n=>Azc (H++[.obj 0 v]) fun H'=>KK (.op n 0 []) H'):=FI rfl
theorem A0W {k n:Nat} {z:TV} {ps:List (Nat×Opd)}:sop P (.bslice k n z ps) e H KK=AAc (AAI e (List.replicate n k) ps) (AAc (Azj e ps∧n≤1000) (Azc H.length fun m=>Azc (H++[.obj 0 (.arr n k (ABf e (List.replicate n z) ps))]) fun H'=>KK (.os k m 0 [] 0 n n) H')):=by
 rw [A12]; simp only [AAc,Azc,and_assoc]
def AOk (kk:MK):Option Ob→Option (List (List UInt8×TV))
 | some (.mpo kk' es)=>if kk'=kk then some es else none
 | _=>none
def APs (kk:MK):Option Ob→Option (List (List UInt8×TV))
 | some (.mpo kk' es)=>if kk'=kk then some es else none
 | some (.mpd kk' zs _)=>if kk'=kk then some (zs.map (·.2)) else none
 | _=>none
theorem AZv {kk:MK} {es:List (List UInt8×TV)}:APs kk (some (.mpo kk es))=some es:=by simp [APs]
theorem A33 {kk:MK} {zs:List (Nat×List UInt8×TV)} {cl:Nat}:APs kk (some (.mpd kk zs cl))=some (zs.map (·.2)):=by simp [APs]
def AUd:Option Ob→Option (List (List UInt8×TV))
 | some (.mpo _ es)=>some es
 | some (.mpd _ zs _)=>some (zs.map (·.2))
 | _=>none
theorem A1M {kk:MK} {es:List (List UInt8×TV)}:AUd (some (.mpo kk es))=some es:=by simp [AUd]
theorem A5d {kk:MK} {zs:List (Nat×List UInt8×TV)} {cl:Nat}:AUd (some (.mpd kk zs cl))=some (zs.map (·.2)):=by simp [AUd]
theorem A3z {kk:MK} {es:List (List UInt8×TV)}:stO (some (.mpo kk es))=some (kk,AN3 0 es,es.length):=FI rfl
theorem A3i {kk:MK} {zs:List (Nat×List UInt8×TV)} {cl:Nat}:stO (some (.mpd kk zs cl))=some (kk,zs,cl):=FI rfl
def AYF (x:TV) (H:List Ob) (K:TV→List Ob→Prop) [Tg K]:Prop:=match x with
 | .mp id 0=>(match stO H[id]? with
  | some (_,_,cl)=>K (.op H.length 0 []) (H++[.mit id [] cl])
  | none=>False)
 | _=>False
@[congr] theorem Ba2 {x x':TV} {H':List Ob} (h1:x=x') (h2:H=H'):AYF x H KK=AYF x' H' KK:=by rw [h1,h2]
theorem A6e:sop P (.rngM x) e H KK=AYF (x.ev e) H KK:=FI rfl
theorem A0y {id:Nat}:AYF (.mp id 0) H KK=Aze (stO H[id]?) fun p=>Azc H.length fun n=>Azc (H++[.mit id [] p.2.2]) fun H'=>KK (.op n 0 []) H':=by
 unfold AYF
 cases h:stO H[id]? with
 | none=>simp [Aze,h]
 | some o=>obtain ⟨a,b,c⟩:=o; simp [Aze,Azc,h]
def AR1:Option Ob→Option (Nat×List Nat×Nat)
 | some (.mit m sn cl)=>some (m,sn,cl)
 | _=>none
theorem A1K {m cl:Nat} {sn:List Nat}:AR1 (some (.mit m sn cl))=some (m,sn,cl):=FI rfl
def AXv (x:TV) (H:List Ob) (K:TV→List Ob→Prop) [Tg K]:Prop:=match x with
 | .op id 0 []=>(match H[id]? with
  | some (.mit m sn cl)=>(match stO H[m]? with
   | some (kk,zs,cl')=>(cl'=cl∧∀ z∈zs,z.1<cl)∧(∀ z∈zs,z.1∉sn→K (.tup [.val (.bool true),kTV kk z.2.1,z.2.2]) (H.set id (.mit m (sn++[z.1]) cl)))∧((∀ z∈zs,z.1∈sn)→K (.tup [.val (.bool false)]) H)
   | none=>False)
  | _=>False)
 | _=>False
@[congr] theorem BaL {x x':TV} {H':List Ob} (h1:x=x') (h2:H=H'):AXv x H KK=AXv x' H' KK:=by rw [h1,h2]
theorem A5Q:sop P (.nxtM x) e H KK=AXv (x.ev e) H KK:=FI rfl
def A8x (id m:Nat) (sn:List Nat) (cl:Nat) (kk:MK) (zs:List (Nat×List UInt8×TV)) (cl':Nat) (H:List Ob) (K:TV→List Ob→Prop) [Tg K]:Prop :=
 (cl'=cl∧∀ z∈zs,z.1<cl)∧(∀ z∈zs,z.1∉sn→K (.tup [.val (.bool true),kTV kk z.2.1,z.2.2]) (H.set id (.mit m (sn++[z.1]) cl)))∧((∀ z∈zs,z.1∈sn)→K (.tup [.val (.bool false)]) H)
@[congr] theorem BbO {id m:Nat} {sn sn':List Nat} {cl c2:Nat} {kk:MK} {zs zs':List (Nat×List UInt8×TV)} {cl' c2':Nat} {H':List Ob} (h1:sn=sn') (h2:cl=c2) (h3:zs=zs') (h4:cl'=c2') (h5:H=H'):A8x id m sn cl kk zs cl' H KK=A8x id m sn' c2 kk zs' c2' H' KK:=by rw [h1,h2,h3,h4,h5]
theorem A0Y {id:Nat}:AXv (.op id 0 []) H KK=Aze (AR1 H[id]?) fun p=>Aze (stO H[p.1]?) fun q=>A8x id p.1 p.2.1 p.2.2 q.1 q.2.1 q.2.2 H KK:=by
 unfold AXv
 cases h:H[id]? with
 | none=>simp [AR1,Aze,h]
 | some o =>
  cases o with
  | mit m sn cl =>
   simp only [h,AR1,Aze]
   cases h2:stO H[m]? with
   | none=>simp
   | some q=>obtain ⟨a,b,c⟩:=q; simp only [A8x]
  | _=>simp [AR1,Aze,h]
def A5I (p:Nat×List Nat×Nat) (q:MK×List (Nat×List UInt8×TV)×Nat):Option TV:=match p.2.1.getLast? with
 | some s=>if q.2.2=p.2.2 then (match q.2.1.find? (·.1 == s) with
  | some z=>some (.tup [kTV q.1 z.2.1,z.2.2])
  | none=>none) else none
 | none=>none
def A5z (kk:MK) (o:Option Ob):Option (List (Nat×List UInt8×TV)×Nat):=match stO o with
 | some (kk',zs,cl)=>if kk'=kk then some (zs,cl) else none
 | none=>none
theorem AZG {kk:MK} {es:List (List UInt8×TV)}:A5z kk (some (.mpo kk es))=some (AN3 0 es,es.length):=by simp [A5z,stO]
theorem AZ5 {kk:MK} {zs:List (Nat×List UInt8×TV)} {cl:Nat}:A5z kk (some (.mpd kk zs cl))=some (zs,cl):=by simp [A5z,stO]
def AXE (kk:MK) (m k:TV) (H:List Ob) (K:TV→List Ob→Prop) [Tg K]:Prop:=match m,Azp kk k with
 | .mp id 0,some kb=>(match stO H[id]? with
  | some (kk',zs,cl)=>kk'=kk∧K .any (H.set id (.mpd kk (zs.eraseIdx (AMt kb (zs.map (·.2)))) cl))
  | none=>False)
 | _,_=>False
@[congr] theorem A9h {kk:MK} {H':List Ob} {m m' k k':TV} (h1:m=m') (h2:k=k') (h4:H=H'):AXE kk m k H KK=AXE kk m' k' H' KK:=by rw [h1,h2,h4]
theorem A8a {kk:MK} {m k:Opd}:sop P (.delM kk m k) e H KK=AXE kk (m.ev e) (k.ev e) H KK:=FI rfl
theorem AZC {kk:MK} {id:Nat} {kx:TV}:AXE kk (.mp id 0) kx H KK=Aze (A5z kk H[id]?) fun p=>Aze (Azp kk kx) fun kb=>Azc (p.1.eraseIdx (AMt kb (p.1.map (·.2)))) fun zs=>Azc (H.set id (.mpd kk zs p.2)) fun H'=>KK .any H':=by
 unfold AXE A5z
 cases h:stO H[id]? with
 | none=>cases Azp kk kx<;>simp [h,Aze]
 | some q =>
  obtain ⟨kk',zs,cl⟩:=q
  by_cases hk:kk'=kk
  ·subst hk; cases Azp kk' kx<;>simp [h,Aze,Azc]
  ·cases Azp kk kx<;>simp [h,Aze,hk]
def A8V (H:List Ob) (x:TV) (K:TV→List Ob→Prop) [Tg K]:Prop:=match x with
 | .os k id ver [] off n cp=>n≠0∧obV H[id]?=some ver∧K (.os k id ver [] off n cp) H
 | _=>False
@[congr] theorem BbE {H':List Ob} {x x':TV} (h0:H=H') (h1:x=x'):A8V H x KK=A8V H' x' KK:=by rw [h0,h1]
theorem Bbd {x:Opd}:sop P (.cvS x) e H KK=A8V H (x.ev e) KK:=FI rfl
theorem A4t {k id ver off n cp:Nat}:A8V H (.os k id ver [] off n cp) KK=AAc (n≠0) (AAc (obV H[id]?=some ver) (KK (.os k id ver [] off n cp) H)):=FI rfl
theorem A65 {v:Nat} {y:TV}:obV (some (.obj v y))=some v:=FI rfl
def AYP (k:Nat) (z x:TV) (H:List Ob) (K:TV→List Ob→Prop) [Tg K]:Prop:=match x with
 | .os k' id ver p off n cp=>AKg k (.os k' id ver p off n cp) (List.replicate n z) H fun _ H'=>K .any H'
 | .val (.slice none 0 0)=>K .any H
 | _=>False
@[congr] theorem Ba3 {k:Nat} {z x x':TV} {H':List Ob} (h1:x=x') (h2:H=H'):AYP k z x H KK=AYP k z x' H' KK:=by rw [h1,h2]
theorem A8u {k:Nat} {z:TV}:sop P (.clrS k z x) e H KK=AYP k z (x.ev e) H KK:=FI rfl
theorem AXo {k:Nat} {z:TV}:AYP k z (.val (.slice none 0 0)) H KK=KK .any H:=FI rfl
theorem A0m {k id ver off n cp:Nat} {p:List (Nat×Nat)} {z:TV}:AYP k z (.os k id ver p off n cp) H KK=Azc (List.replicate n z) fun ys=>AUh k (.os k id ver p off n cp) (some ys) H fun _ H'=>KK .any H':=FI rfl
theorem AZX {kk:MK} {es:List (List UInt8×TV)}:AOk kk (some (.mpo kk es))=some es:=by simp [AOk]
theorem A7v {l:List UInt8}:Azp .str (.val (.string (str l)))=some l:=by simp [Azp,bl,str]
theorem A8h {n:Nat} {l:List UInt8}:Azp (.arr n) (.arr n 1 (l.map by8))=some l:=by
 unfold Azp; simp only [ALn,ALF,and_self,if_true]
theorem A4U {z:TV} {r:Option TV}:AOy z false r=r.getD z:=by simp [AOy]
theorem A4M {z:TV} {r:Option TV}:AOy z true r = .tup [r.getD z,.val (.bool r.isSome)]:=by simp [AOy]
def A5r (x:TV) (A:Prop) [Tg A]:Prop:=match x with
 | .val (.int _ _)=>A
 | _=>False
@[congr] theorem BbA {x x':TV} {A:Prop} (h:x=x'):A5r x A=A5r x' A:=by rw [h]
theorem A3u {q:IntKind} {n:Int} {A:Prop}:A5r (.val (.int q n)) A=A:=by simp [A5r]
theorem A7p {kk:MK}:sop P (.mkm kk none) e H KK=Azc H.length fun n=>Azc (H++[.mpo kk []]) fun H'=>KK (.mp n 0) H':=by simp [sop,Azc]
theorem A7o {kk:MK}:sop P (.mkm kk (some x)) e H KK=A5r (x.ev e) (Azc H.length fun n=>Azc (H++[.mpo kk []]) fun H'=>KK (.mp n 0) H'):=by
 simp only [sop,Azc,A5r]
 cases x.ev e with
 | val v=>cases v<;>simp
 | _=>simp
def AZc (kk:MK) (m k v:TV) (H:List Ob) (K:TV→List Ob→Prop) [Tg K]:Prop:=match m,Azp kk k with
 | .mp id 0,some kb=>(match H[id]? with
  | some (.mpo kk' es)=>(kk'=kk∧lays v=true)∧K .any (H.set id (.mpo kk (AGs kb v es)))
  | _=>False)
 | _,_=>False
@[congr] theorem BaF {kk:MK} {H':List Ob} {m m' k k' v v':TV} (h1:m=m') (h2:k=k') (h3:v=v') (h4:H=H'):AZc kk m k v H KK=AZc kk m' k' v' H' KK:=by rw [h1,h2,h3,h4]
theorem A8f {kk:MK} {m k:Opd}:sop P (.mupd kk m k x) e H KK=AZc kk (m.ev e) (k.ev e) (x.ev e) H KK:=FI rfl
def AYH (kk:MK) (z m k:TV) (H:List Ob) (K:TV→List Ob→Prop) [Tg K]:Prop:=match m,Azp kk k with
 | .mp id 0,some kb=>(match H[id]? with
  | some (.mpo kk' es)=>kk'=kk∧K (.tup [(AD3 kb es).getD z,.val (.int .i64 (AMt kb es))]) (H.set id (.mpo kk (AGs kb ((AD3 kb es).getD z) es)))
  | _=>False)
 | _,_=>False
@[congr] theorem A9N {kk:MK} {H':List Ob} {z m m' k k':TV} (h1:m=m') (h2:k=k') (h4:H=H'):AYH kk z m k H KK=AYH kk z m' k' H' KK:=by rw [h1,h2,h4]
theorem A62 {kk:MK} {z:TV} {m k:Opd}:sop P (.ment kk z m k) e H KK=AYH kk z (m.ev e) (k.ev e) H KK:=FI rfl
def AYG (m st v:TV) (H:List Ob) (K:TV→List Ob→Prop) [Tg K]:Prop:=match m,st with
 | .mp id 0,.val (.int _ j)=>(match H[id]? with
  | some (.mpo kk es)=>(0≤j∧lays v=true)∧(match es[j.toNat]? with
   | some (k,_)=>K .any (H.set id (.mpo kk (es.set j.toNat (k,v))))
   | none=>False)
  | _=>False)
 | _,_=>False
@[congr] theorem Bbb {H':List Ob} {m m' st st' v v':TV} (h1:m=m') (h2:st=st') (h3:v=v') (h4:H=H'):AYG m st v H KK=AYG m' st' v' H' KK:=by rw [h1,h2,h3,h4]
theorem A5A {m st:Opd}:sop P (.mest m st x) e H KK=AYG (m.ev e) (st.ev e) (x.ev e) H KK:=FI rfl
theorem A4N {sz:Nat}:sop P (.store sz x y) e H KK=ASU H sz (x.ev e) (y.ev e) KK:=FI rfl
theorem A9G {k n:Nat} {z:TV}:sop P (.mks k n z x y) e H KK=A8Y H k n z (x.ev e) (y.ev e) KK:=FI rfl
theorem A9Z {k n:Nat} {et:TypeId}:sop P (.app k n et x y) e H KK=A31 k n et (x.ev e) (Azs H k (y.ev e)) H KK:=FI rfl
theorem A77 {et:TypeId}:sop P (.appS et x y) e H KK=A1t et (x.ev e) (y.ev e) H KK:=FI rfl
theorem A7t {k:Nat}:sop P (.copy k x y) e H KK=AUh k (x.ev e) (Azs H k (y.ev e)) H KK:=FI rfl
theorem A4o:sop P (.copyS x y) e H KK=AVx (x.ev e) (y.ev e) H KK:=FI rfl
theorem A7S {k n:Nat} {z:TV}:sop P (.appZ k n z x y) e H KK=A1q k n z (x.ev e) (y.ev e) H KK:=FI rfl
theorem A9w {n:Bool}:sop P (.eqS x n) e H KK=A2w n (x.ev e) H KK:=FI rfl
theorem A9O:sop P (.s2b x) e H KK=A8O H (x.ev e) KK:=FI rfl
theorem A7D {f:FuncId} {args:List Opd}:sop P (.call f args) e H KK=Azc (evs e args) fun xs=>AAc (AJV xs) (VC P f xs H KK):=by
 rw [A5F,AGP]; rfl
theorem BaX {nm:String} {args:List Opd}:sop P (.inv x nm args) e H KK=Azc (evs e args) fun xs=>AAc (AJV xs) (A6k P nm (x.ev e) xs H KK):=by
 show ((∀ y∈args,AzB (y.ev e)=false)∧_)=_
 rw [AGP]; rfl
theorem A4i {args:List Opd}:sop P (.callv x args) e H KK=Azc (evs e args) fun xs=>AAc (AJV xs) (AQI P (x.ev e) xs H KK):=by
 rw [A3V,AGP]; rfl
end
section
variable {K:TV→Prop} {KK:TV→List Ob→Prop} {x y:TV} {cs ys:List TV} {n n' k k':Nat} {id ver off cp:Nat} {p:List (Nat×Nat)} {j:Int} {q:IntKind} {lo hi:Option TV}
theorem A0V {t:Bool}:AYo (.val (.bool t)) x y K=vif t (K x) (K y):=by cases t<;>simp [AYo,vif]
theorem A4z {t:TypeId} {op:BinOp} {u v:Value}:A8A t op (.val u) (.val v) K=AAc (AZ4 u v=true) (Aze (AAD t op u v) fun r=>Azc (TV.val r) K):=by
 show (_∧_)=_; cases AAD t op u v<;>rfl
theorem A5B {op:UnOp} {u:Value}:Pun op (.val u) K=Aze (unV op u) fun r=>Azc (TV.val r) K:=by
 unfold Pun; simp only; cases unV op u<;>rfl
theorem A02 {k:IntKind}:A1a k (.val (.int q j)) K=Azc (TV.val (.int k (k.wrap j))) K:=FI rfl
theorem A4s {s:ByteArray}:A8D (.val (.string s)) K=K (.val (.string s)):=FI rfl
theorem A34:A8R (some cs) K=AAc (∀ y∈cs,AUU y) (Azc (TV.val (.string (str (cs.map AK8)))) K):=FI rfl
theorem A0X {ag:Bool} {sz:Nat}:AUI H ag sz (.fp y) K=AAc (AQB ag sz y) (K y):=FI rfl
theorem A1L {ag:Bool} {sz:Nat}:AUI H ag sz (.op id ver p) K=Aze (ABS H[id]? ver) fun x=>Aze (ADP p x) fun y=>AAc (AQB ag sz y) (K y):=by
 unfold AUI
 simp only
 cases h:H[id]? with
 | none=>simp [ABS,Aze]
 | some o =>
  cases o with
  | gone v=>simp [ABS,Aze]
  | ice v m y=>simp [ABS,Aze]
  | fact i v t m=>simp [ABS,Aze]
  | bld v t l=>simp [ABS,Aze]
  | lp st pe fn N en ps ca cb=>simp [ABS,Aze]
  | mpo kk es=>simp [ABS,Aze]
  | mpd kk zs cl=>simp [ABS,Aze]
  | mit m sn cl=>simp [ABS,Aze]
  | sit s pos=>simp [ABS,Aze]
  | obj v x =>
   by_cases hv:v=ver
   ·subst hv; simp only [ABS,Aze,AAc,if_true,true_and]; cases ADP p x<;>rfl
   ·simp [ABS,Aze,hv]
theorem AWE {i o:Nat}:ANl i o (.op id ver p) K=Azc (p++[(i,o)]) fun p=>K (.op id ver p):=FI rfl
theorem AVY {i o:Nat}:ANl i o (.fp (.agg cs)) K=AAc (Azg (cs.take i)=o) (Aze cs[i]? fun y=>K (.fp y)):=by
 unfold ANl; simp only; cases cs[i]?<;>rfl
theorem AXk {ag:Bool} {sz i o:Nat}:ATJ ag sz i o (.agg cs) K=AAc (Azg (cs.take i)=o) (Aze cs[i]? fun y=>AAc (AQB ag sz y) (K y)):=by
 unfold ATJ; simp only; cases cs[i]?<;>rfl
theorem A1d:AVL k (.sl k cs) (.val (.int q j)) K=AAc (0≤j) (Aze cs[j.toNat]? fun y=>K (.fp y)):=by
 unfold AVL; simp only [true_and]; cases cs[j.toNat]?<;>rfl
theorem A1Z:AVL k (.os k id ver p off n cp) (.val (.int q j)) K=AAc (0≤j∧j<n) (Azc (off+j.toNat) fun m=>Azc (p++[(m,m*k)]) fun p=>K (.op id ver p)):=by
 show (k=k∧_)=_; simp [AAc,Azc,and_assoc]
theorem AW6:AQM n k (.fp (.arr n k cs)) (.val (.int q j)) K=AAc (0≤j) (Aze cs[j.toNat]? fun y=>K (.fp y)):=by
 unfold AQM; simp only [true_and]; cases cs[j.toNat]?<;>rfl
theorem AXO:AQM n k (.op id ver p) (.val (.int q j)) K=AAc (0≤j∧j<n) (Azc j.toNat fun m=>Azc (p++[(m,m*k)]) fun p=>K (.op id ver p)):=by
 show (_∧_)=_; simp [AAc,Azc,and_assoc]
theorem A4p {ag:Bool}:A70 ag n k (.arr n k cs) (.val (.int q j)) K=AAc (0≤j) (Aze cs[j.toNat]? fun y=>AAc (AQB ag k y) (K y)):=by
 unfold A70; simp only [true_and]; cases cs[j.toNat]?<;>rfl
theorem AZF {s:ByteArray}:AXR (.val (.string s)) (.val (.int q j)) K=AAc (0≤j) (Aze (bl s)[j.toNat]? fun b=>K (by8 b)):=by
 unfold AXR; simp only; cases (bl s)[j.toNat]?<;>rfl
theorem A3O {i:Nat}:A6x i (.tup cs) K=Aze cs[i]? K:=by
 unfold A6x; simp only; cases cs[i]?<;>rfl
theorem A1J {s:ByteArray}:A00 (.val (.string s)) K=Azc (TV.val (.int .i64 (bl s).length)) K:=FI rfl
theorem A1u:AVM (.sl k cs) K=Azc (TV.val (.int .i64 cs.length)) K:=FI rfl
theorem A08:AVM (.os k id ver p off n cp) K=K (.val (.int .i64 n)):=FI rfl
theorem AXb {ad:Option Addr} {c:Nat}:AVM (.val (.slice ad n c)) K=K (.val (.int .i64 n)):=FI rfl
section
variable {len lim:Nat} {KN:Nat→Nat→Prop} {l h:Int} {q2:IntKind}
theorem A46:ARu none none len lim KN=AAc (len≤lim) (KN 0 len):=by
 show ((0≤(0:Int)∧(0:Int)≤(len:Int)∧(len:Int)≤lim)∧KN (Int.toNat 0) (Int.toNat len))=_
 simp [AAc]
theorem A49:ARu (some (.val (.int q l))) none len lim KN=AAc (0≤l∧l≤len∧(len:Int)≤lim) (Azc l.toNat fun l=>KN l len):=by
 show ((0≤l∧l≤(len:Int)∧(len:Int)≤lim)∧KN l.toNat (Int.toNat len))=_
 simp [AAc,Azc]
theorem A3s:ARu none (some (.val (.int q h))) len lim KN=AAc (0≤h∧h≤lim) (Azc h.toNat fun h=>KN 0 h):=by
 show ((0≤(0:Int)∧0≤h∧h≤lim)∧KN (Int.toNat 0) h.toNat)=_
 simp [AAc,Azc]
theorem A28:ARu (some (.val (.int q l))) (some (.val (.int q2 h))) len lim KN=AAc (0≤l∧l≤h∧h≤lim) (Azc l.toNat fun l=>Azc h.toNat fun h=>KN l h):=FI rfl
end
theorem A3L {s:ByteArray}:A8N (.val (.string s)) lo hi K=ARu lo hi (bl s).length (bl s).length fun l h=>Azc (((bl s).drop l).take (h - l)) fun r=>K (.val (.string (str r))):=FI rfl
theorem A3E:A5s k (.sl k cs) lo hi K=ARu lo hi cs.length cs.length fun l h=>Azc ((cs.drop l).take (h - l)) fun r=>K (.sl k r):=by
 exact propext ⟨fun h=>h.2,fun h=>⟨rfl,h⟩⟩
theorem A3b:A5s k (.os k id ver p off n cp) lo hi K=ARu lo hi n cp fun l h=>Azc (off+l) fun o=>Azc (h - l) fun m=>Azc (cp - l) fun c=>K (.os k id ver p o m c):=by
 exact propext ⟨fun h=>h.2,fun h=>⟨rfl,h⟩⟩
theorem AZO {ad:Option Addr}:A5s k (.val (.slice ad 0 0)) lo hi K=ARu lo hi 0 0 fun l h=>K (.val (.slice ad 0 0)):=FI rfl
theorem A2Z:A5q H n k (.fp (.arr n k cs)) lo hi K=AAc (n≤9223372036854775807) (ARu lo hi n n fun l h=>Azc ((cs.drop l).take (h - l)) fun r=>K (.sl k r)):=by
 exact propext ⟨fun h=>⟨h.2.2.1,h.2.2.2⟩,fun h=>⟨rfl,rfl,h.1,h.2⟩⟩
def ATh:Option TV→Nat→Nat→Option (List TV)
 | some (.arr n' k' cs),n,k=>if n'=n∧k'=k then some cs else none
 | _,_,_=>none
theorem AZE:ATh (some (.arr n k cs)) n k=some cs:=by simp [ATh]
theorem A3l:A5q H n k (.op id ver p) lo hi K=Aze (ABS H[id]? ver) fun x=>AAc (n≤9223372036854775807) (Aze (ATh (ADP p x) n k) fun _=>ARu lo hi n n fun l h=>Azc (h - l) fun m=>Azc (n - l) fun c=>K (.os k id ver p l m c)):=by
 unfold A5q
 simp only
 cases h:H[id]? with
 | none=>simp [ABS,Aze]
 | some o =>
  cases o with
  | gone v=>simp [ABS,Aze]
  | ice v m y=>simp [ABS,Aze]
  | fact i v t m=>simp [ABS,Aze]
  | bld v t l=>simp [ABS,Aze]
  | lp st pe fn N en ps ca cb=>simp [ABS,Aze]
  | mpo kk es=>simp [ABS,Aze]
  | mpd kk zs cl=>simp [ABS,Aze]
  | mit m sn cl=>simp [ABS,Aze]
  | sit s pos=>simp [ABS,Aze]
  | obj v x =>
   by_cases hv:v=ver
   ·simp only [ABS,Aze,hv,AAc,Azc,if_true,true_and]
    congr 1
    cases hg:ADP p x with
    | none=>simp [ATh]
    | some y =>
     cases y with
     | arr n2 k2 ds =>
      by_cases h1:n2=n
      ·by_cases h2:k2=k
       ·simp [ATh,h1,h2]; exact Iff.rfl
       ·simp [ATh,h1,h2]
      ·simp [ATh,h1]
     | _=>simp [ATh]
   ·simp [ABS,Aze,hv]
theorem AW7 {t:TypeId}:AVw t x K=AAc (lays x=true) (K (.ifc t x)):=FI rfl
theorem A4n {f:Fn}:A6a f cs ys K=AAc (AJV (cs++ys)) (K (.fn f cs ys)):=FI rfl
theorem A1X:AS9 (.op id ver p) K=K (.op id ver p):=FI rfl
theorem A2v:AS9 (.fp y) K=K (.fp y):=FI rfl
theorem AZ0 {f:FuncId} {a b:List TV}:AS9 (.fn (.func f) a b) K=K (.fn (.func f) a b):=FI rfl
theorem AXI {t:TypeId}:AS9 (.ifc t y) K=K (.ifc t y):=FI rfl
theorem AWa {f:FuncId} {a b:Array Value}:AS9 (.val (.func (.func f) a b)) K=K (.val (.func (.func f) a b)):=FI rfl
section
variable {a b:Int} {q2:IntKind}
theorem A5c:A8M (.val (.int q a)) (.val (.int q2 b)) K=vif (decide (b<a)) (K (.val (.int q b))) (K (.val (.int q a))):=by
 show K _=_
 by_cases h:b<a<;>simp [vif,h]
theorem A32:A8K (.val (.int q a)) (.val (.int q2 b)) K=vif (decide (a<b)) (K (.val (.int q b))) (K (.val (.int q a))):=by
 show K _=_
 by_cases h:a<b<;>simp [vif,h]
theorem A0u {q1 q2 q3:IntKind} {l h m:Int}:APP (.sl3 k) H [.sl k cs,.val (.int q1 l),.val (.int q2 h),.val (.int q3 m)] K=AAc (0≤l∧l≤h∧h≤m∧m≤cs.length) (Azc ((cs.drop l.toNat).take (h.toNat - l.toNat)) fun r=>K (.sl k r)):=by
 unfold APP gev AAc Azc
 simp only [true_and]
 by_cases hc:0≤l∧l≤h∧h≤m∧m≤cs.length
 ·rw [if_pos hc]; simp [hc]
 ·rw [if_neg hc]; simp only [hc,false_and]
theorem A1O {sh:List EL} {b:Bool} {xs ys:List TV}:APP (.eqR sh b) H [.agg xs,.agg ys] K=Aze (ARd sh xs ys) fun r=>Azc (TV.val (.bool (xor b r))) K:=by
 have hg:gev (.eqR sh b) H [.agg xs,.agg ys]=(ARd sh xs ys).map fun r => .val (.bool (xor b r)):=by unfold gev; rfl
 unfold APP Aze Azc
 rw [hg]
 cases ARd sh xs ys<;>rfl
theorem AZt:ARd [] [] []=some true:=FI rfl
theorem A6O {l:List EL} {k:IntKind} {a b:Int} {xs ys:List TV}:ARd (.i::l) (.val (.int k a)::xs) (.val (.int k b)::ys)=(ARd l xs ys).map fun r=>(a == b) && r:=by rw [ARd,if_pos rfl]
theorem A7r {l:List EL} {a b:ByteArray} {xs ys:List TV}:ARd (.s::l) (.val (.string a)::xs) (.val (.string b)::ys)=(ARd l xs ys).map fun r=>(a == b) && r:=FI rfl
theorem A61 {l:List EL} {n:Nat} {a b:List UInt8} {xs ys:List TV}:ARd (.b n::l) (.arr n 1 (a.map by8)::xs) (.arr n 1 (b.map by8)::ys)=(ARd l xs ys).map fun r=>(a == b) && r:=by
 rw [ARd]
 simp only [ALn,ALF,and_self,if_true]
theorem AZK {n:Nat} {b:Bool} {xs ys:List UInt8}:APP (.eqA n b) H [.arr n 1 (xs.map by8),.arr n 1 (ys.map by8)] K=Azc (TV.val (.bool (xor b (xs == ys)))) K:=by
 unfold APP gev Azc
 simp only [ALn,ALF,and_self,if_true]
theorem A1Q {q:IntKind} {n:Int}:APP .r2s H [.val (.int q n)] K=Azc (TV.val (.string (Utf8.encode n))) K:=FI rfl
theorem AZ2 {t t':TypeId}:APP (.tas t) H [.ifc t' x] K=AAc (t'=t) (K x):=by
 unfold APP gev AAc
 by_cases h:t'=t<;>simp [h]
theorem AX7 {a:Option Addr} {l n:Nat}:APP .capV H [.val (.slice a l n)] K=Azc (TV.val (.int .i64 (n:Int))) K:=FI rfl
theorem A0Q {n:Nat}:APP (.s2a n k) H [.sl k cs] K=AAc (0<n∧n≤cs.length) (Azc (cs.take n) fun r=>K (.fp (.arr n k r))):=by
 unfold APP gev AAc Azc
 simp only [true_and]
 by_cases hc:0<n∧n≤cs.length
 ·rw [if_pos hc]; simp [hc]
 ·rw [if_neg hc]; simp only [hc,false_and]
theorem A69 {s t:Bool}:A68 false (.val (.bool s)) (.val (.bool t)) K=Azc (TV.val (.bool (s == t))) K:=by
 show K _=_; simp [Azc]
theorem A8b {s t:Bool}:A68 true (.val (.bool s)) (.val (.bool t)) K=Azc (TV.val (.bool (!(s == t)))) K:=by
 show K _=_; simp [Azc]
theorem A7V {m b:Bool}:A8k m (some true) (some b) K=Azc (TV.val (.bool (xor m b))) K:=FI rfl
theorem A8p {m:Bool}:A8k m (some false) (some true) K=Azc (TV.val (.bool (xor m false))) K:=FI rfl
end
theorem A0R {kk:MK} {m:Nat} {kx v:TV}:AZc kk (.mp m 0) kx v H KK=Aze (AOk kk H[m]?) fun es=>Aze (Azp kk kx) fun kb=>AAc (lays v=true) (Azc (AGs kb v es) fun es'=>Azc (H.set m (.mpo kk es')) fun H'=>KK .any H'):=by
 unfold AZc
 cases hh:H[m]? with
 | none=>cases Azp kk kx<;>simp [hh,AOk,Aze]
 | some o =>
  cases o with
  | mpo kk' es =>
   by_cases hk:kk'=kk
   ·subst hk; cases Azp kk' kx<;>simp [hh,AOk,Aze,AAc,Azc]
   ·cases Azp kk kx<;>simp [hh,AOk,Aze,hk]
  | _=>cases Azp kk kx<;>simp [hh,AOk,Aze]
theorem A0P {kk:MK} {m:Nat} {kx z:TV}:AYH kk z (.mp m 0) kx H KK=Aze (AOk kk H[m]?) fun es=>Aze (Azp kk kx) fun kb=>Azc ((AD3 kb es).getD z) fun y=>Azc (AMt kb es) fun p=>Azc (AGs kb y es) fun es'=>Azc (H.set m (.mpo kk es')) fun H'=>KK (.tup [y,.val (.int .i64 (p:Int))]) H':=by
 unfold AYH
 cases hh:H[m]? with
 | none=>cases Azp kk kx<;>simp [hh,AOk,Aze]
 | some o =>
  cases o with
  | mpo kk' es =>
   by_cases hk:kk'=kk
   ·subst hk; cases Azp kk' kx<;>simp [hh,AOk,Aze,Azc]
   ·cases Azp kk kx<;>simp [hh,AOk,Aze,hk]
  | _=>cases Azp kk kx<;>simp [hh,AOk,Aze]
def AQV:Option Ob→Option (MK×List (List UInt8×TV))
 | some (.mpo kk es)=>some (kk,es)
 | _=>none
theorem AXM {kk:MK} {es:List (List UInt8×TV)}:AQV (some (.mpo kk es))=some (kk,es):=by simp [AQV]
theorem A0s {m j:Nat} {q:IntKind} {v:TV}:AYG (.mp m 0) (.val (.int q (j:Int))) v H KK=Aze (AQV H[m]?) fun p=>AAc (lays v=true) (Aze p.2[j]? fun y=>Azc (p.2.set j (y.1,v)) fun es'=>Azc (H.set m (.mpo p.1 es')) fun H'=>KK .any H'):=by
 unfold AYG
 cases hh:H[m]? with
 | none=>simp [hh,AQV,Aze]
 | some o =>
  cases o with
  | mpo kk' es =>
   simp only [hh,AQV,Aze,AAc,Azc,Int.natCast_nonneg,true_and,Int.toNat_natCast]
   cases es[j]?<;>simp
  | _=>simp [hh,AQV,Aze]
theorem AX0 {kk:MK} {z kx:TV} {ok:Bool} {m:Nat}:APP (.look kk z ok) H [.mp m 0,kx] K=Aze (APs kk H[m]?) fun es=>Aze (Azp kk kx) fun kb=>Azc (AOy z ok (AD3 kb es)) K:=by
 unfold APP gev ARP
 cases hh:H[m]? with
 | none=>cases hb:Azp kk kx<;>simp [hh,hb,APs,Aze]
 | some o =>
  cases o with
  | mpo kk' es =>
   by_cases hk:kk'=kk
   ·subst hk; cases hb:Azp kk' kx<;>simp [hh,hb,APs,Aze,Azc]
   ·cases hb:Azp kk kx<;>simp [hh,hb,APs,Aze,hk]
  | mpd kk' zs cl =>
   by_cases hk:kk'=kk
   ·subst hk; cases hb:Azp kk' kx<;>simp [hh,hb,APs,Aze,Azc]
   ·cases hb:Azp kk kx<;>simp [hh,hb,APs,Aze,hk]
  | _=>cases hb:Azp kk kx<;>simp [hh,hb,APs,Aze]
theorem AVK {kk:MK} {z kx:TV} {ok:Bool}:APP (.look kk z ok) H [.val (.map none),kx] K=Aze (Azp kk kx) fun kb=>Azc (AOy z ok none) K:=by
 unfold APP gev ARP
 cases hb:Azp kk kx<;>simp [hb,Aze,Azc]
theorem AYn {m:Nat}:APP .lenM H [.mp m 0] K=Aze (AUd H[m]?) fun p=>Azc p.length fun n=>Azc (TV.val (.int .i64 (n:Int))) K:=by
 unfold APP gev A0G
 cases hh:H[m]? with
 | none=>simp [hh,AUd,Aze]
 | some o=>cases o<;>simp [hh,AUd,Aze,Azc]
theorem AYD {id:Nat}:APP .entM H [.op id 0 []] K=Aze (AR1 H[id]?) fun p=>Aze (stO H[p.1]?) fun q=>Aze (A5I p q) K:=by
 unfold APP gev A8H
 cases hh:H[id]? with
 | none=>simp [hh,AR1,Aze]
 | some o =>
  cases o with
  | mit m sn cl =>
   simp only [hh,AR1,Aze,A5I]
   cases h2:stO H[m]? with
   | none=>simp
   | some q =>
    obtain ⟨kk,zs,cl'⟩:=q
    cases h3:sn.getLast? with
    | none=>simp
    | some s =>
     by_cases hc:cl'=cl
     ·subst hc; cases hf:zs.find? (·.1 == s)<;>simp [hf]
     ·simp [hc]
  | _=>simp [hh,AR1,Aze]
theorem AXT {sz:Nat}:ASU H sz (.op id ver p) y KK=AAc (lays y=true∧AyK y=sz) (Aze (ABS H[id]? ver) fun z=>Aze (AFF p z y) fun z'=>Azc (H.set id (.obj ver z')) fun H'=>KK .any H'):=by
 unfold ASU
 simp only [AAc]
 congr 1
 cases h:H[id]? with
 | none=>simp [ABS,Aze]
 | some o =>
  cases o with
  | gone v=>simp [ABS,Aze]
  | ice v m y=>simp [ABS,Aze]
  | fact i v t m=>simp [ABS,Aze]
  | bld v t l=>simp [ABS,Aze]
  | lp st pe fn N en ps ca cb=>simp [ABS,Aze]
  | mpo kk es=>simp [ABS,Aze]
  | mpd kk zs cl=>simp [ABS,Aze]
  | mit m sn cl=>simp [ABS,Aze]
  | sit s pos=>simp [ABS,Aze]
  | obj v x =>
   by_cases hv:v=ver
   ·subst hv; simp only [ABS,Aze,Azc,if_true,true_and]; cases AFF p x y<;>rfl
   ·simp [ABS,Aze,hv]
theorem A3a {z:TV} {l c:Int} {q2:IntKind} {bytes:Nat}:A8Y H k bytes z (.val (.int q l)) (.val (.int q2 c)) KK=AAc (0≤l∧l≤c∧(bytes:Int)*c≤281474976710656∧c≤9223372036854775807) (Azc l.toNat fun l=>Azc c.toNat fun c=>Azc H.length fun m=>Azc (H++[.obj 0 (.arr c k (List.replicate c z))]) fun H'=>KK (.os k m 0 [] 0 l c) H'):=FI rfl
theorem A1S {bytes:Nat} {et:TypeId}:A31 k bytes et (.val (.slice none 0 0)) (some ys) H KK=AAc (ys.length*bytes≤140737488355328∧ys.length≤9223372036854775807) (Azc ys.length fun n=>Azc H.length fun m=>Azc (H++[.obj 1 (.arr n k ys)]) fun H'=>KK (.os k m 1 [] 0 n n) H'):=FI rfl
def AT0:Option TV→Nat→Option (List TV)
 | some (.arr _ k' cs),k=>if k'=k then some cs else none
 | _,_=>none
theorem A1i:AT0 (some (.arr n k cs)) k=some cs:=by simp [AT0]
theorem A1R {v n2:Nat} {et:TypeId}:A1j (some (.obj v (.arr n2 k cs))) v k et off n ys=some (.obj (v+1) (.arr (n+ys.length) k ((cs.drop off).take n++ys))):=by simp [A1j]
theorem AVv {v:Nat} {et:TypeId} {l m:List UInt8}:A1j (some (.bld v et l)) v 1 et 0 n (m.map by8)=some (.bld (v+1) et (l.take n++m)):=by
 simp only [A1j,ALn,ALF,and_self,if_true]
theorem AZo {v:Nat} {et:TypeId} {l:List UInt8} {b:UInt8}:A1j (some (.bld v et l)) v 1 et 0 n [by8 b]=some (.bld (v+1) et (l.take n++[b])):=AVv (m:=[b])
theorem AZA {v n2:Nat}:A5y (some (.obj v (.arr n2 k cs)))=cs.length:=by simp [A5y]
theorem A1g {v:Nat} {et:TypeId} {l:List UInt8}:A5y (some (.bld v et l))=l.length:=by simp [A5y]
theorem A3U {bytes:Nat} {et:TypeId}:A31 k bytes et (.os k id ver [] off n cp) (some ys) H KK=Aze (A1j H[id]? ver k et off n ys) fun o=>AAc (off+n≤A5y H[id]?∧(n+ys.length)*bytes≤140737488355328∧n+ys.length≤9223372036854775807)
   (Azc (n+ys.length) fun m=>Azc (H.set id o) fun H'=>KK (.os k id (ver+1) [] 0 m m) H'):=by
 unfold A31 ATB
 simp only [true_and]
 cases h:A1j H[id]? ver k et off n ys with
 | none=>simp [Aze]
 | some o=>simp [Aze,AAc,Azc]
theorem A1f {s:ByteArray} {et:TypeId}:A1t et x (.val (.string s)) H KK=Azc ((bl s).map by8) fun ys=>A31 1 1 et x (some ys) H KK:=FI rfl
def A9l:Option TV→Option Nat
 | some (.arr n _ _)=>some n
 | _=>none
theorem A5n:A9l (some (.arr n k cs))=some n:=FI rfl
theorem A1B:AUh k (.os k id ver p off n cp) (some ys) H KK=Aze (ABS H[id]? ver) fun z=>Aze (AT0 (ADP p z) k) fun cs=>Aze (A9l (ADP p z)) fun N=>AAc (off+n≤cs.length) (Aze (AFF p z (.arr N k (cs.take off++(ys.take n++cs.drop (off+min ys.length n))))) fun z' =>
  Azc (H.set id (.obj ver z')) fun H'=>Azc (TV.val (.int .i64 (min ys.length n:Nat))) fun r=>KK r H'):=by
 unfold AUh AKg
 simp only [true_and]
 cases h:H[id]? with
 | none=>simp [ABS,Aze]
 | some o =>
  cases o with
  | gone v=>simp [ABS,Aze]
  | ice v m y=>simp [ABS,Aze]
  | fact i v t m=>simp [ABS,Aze]
  | bld v t l=>simp [ABS,Aze]
  | lp st pe fn N en ps ca cb=>simp [ABS,Aze]
  | mpo kk es=>simp [ABS,Aze]
  | mpd kk zs cl=>simp [ABS,Aze]
  | mit m sn cl=>simp [ABS,Aze]
  | sit s pos=>simp [ABS,Aze]
  | obj v x =>
   by_cases hv:v=ver
   ·simp only [ABS,Aze,hv,if_true,true_and]
    cases hg:ADP p x with
    | none=>simp [AT0]
    | some y =>
     cases y with
     | arr n2 k2 ds =>
      by_cases h1:k2=k
      ·subst h1; simp only [AT0,A9l,AAc,Azc,if_true,true_and]; refine congrArg (_ ∧ ·) ?_; cases AFF p x (.arr n2 k2 (ds.take off++(ys.take n++ds.drop (off+min ys.length n))))<;>rfl
      ·simp [AT0,h1]
     | _=>simp [AT0]
   ·simp [ABS,Aze,hv]
theorem AYL {s:ByteArray}:AVx x (.val (.string s)) H KK=Azc ((bl s).map by8) fun ys=>AUh 1 x (some ys) H KK:=FI rfl
theorem A0A {f:FuncId} {j v:Nat} {l:List UInt8}:A0b P f (some (j,v,l)) H KK=AAc (A8G P f) (AAc (l.length≤9223372036854775807) (Azc (H.set j (.gone v)) fun H'=>KK (.val (.string (str l))) H')):=FI rfl
def A6c (o:Option Ob) (j v n:Nat) (a:TV):Option (Nat×Nat×List UInt8):=match o with
 | some (.bld v3 t l)=>if v3=v∧t=ATG∧n=l.length∧AyK a=1 then some (j,v,l) else none
 | _=>none
def A0n (H:List Ob) (j v n:Nat) (a:TV):Option (Nat×Nat×List UInt8):=A6c H[j]? j v n a
def AVW (H:List Ob) (q:Option TV):Option (Nat×Nat×List UInt8):=match q with
 | some (.agg [a,.os 1 j v2 [] 0 n cp])=>A0n H j v2 n a
 | _=>none
theorem A1F {id ver:Nat} {p:List (Nat×Nat)}:AWn H (.op id ver p)=AVW H ((ABS H[id]? ver).bind (ADP p)):=by
 unfold AWn
 simp only []
 cases h:H[id]? with
 | none=>simp [ABS,AVW]
 | some o =>
  cases o with
  | obj v y =>
   by_cases hv:v=ver
   ·simp only [ABS,hv,if_true,Option.bind_some]
    unfold AVW A0n A6c
    rfl
   ·simp [ABS,AVW,hv]
  | _=>simp [ABS,AVW]
theorem A2g {a:TV} {j v n cp:Nat}:AVW H (some (.agg [a,.os 1 j v [] 0 n cp]))=A0n H j v n a:=FI rfl
theorem A2e {a:TV} {j v n:Nat}:A0n H j v n a=A6c H[j]? j v n a:=FI rfl
theorem A3H {a:TV} {j v n:Nat} {l:List UInt8} (hn:n=l.length) (ha:AyK a=1):A6c (some (.bld v 5 l)) j v n a=some (j,v,l):=by
 simp [A6c,hn,ha,ATG]
theorem A4f {s:ByteArray}:A8O H (.val (.string s)) KK=AAc ((bl s).length≤9223372036854775807) (Azc (bl s).length fun n=>Azc ((bl s).map by8) fun r=>Azc H.length fun m=>Azc (H++[.obj 0 (.arr n 1 r)]) fun H'=>KK (.os 1 m 0 [] 0 n n) H'):=FI rfl
theorem A2r {z:TV} {j:Int} {bytes:Nat}:A1q k bytes z (.val (.slice none 0 0)) (.val (.int .i64 j)) H KK=AAc (0≤j∧(bytes:Int)*j≤140737488355328∧j≤9223372036854775807) (Azc j.toNat fun n=>Azc H.length fun m=>Azc (H++[.obj 0 (.arr n k (List.replicate n z))]) fun H'=>KK (.os k m 0 [] 0 n n) H'):=FI rfl
theorem A17 {n:Bool} {a:Option Addr} {l c:Nat}:A2w n (.val (.slice a l c)) H KK=KK (.val (.bool (xor n a.isNone))) H:=FI rfl
theorem A4u {n:Bool}:A2w n (.sl k cs) H KK=vif (decide (cs.length=0)) (AWr H KK) (KK (.val (.bool n)) H):=by
 unfold A2w vif AWr
 by_cases h:cs=[]
 ·subst h; simp
 ·have h2:¬ cs.length=0:=fun e=>h (List.length_eq_zero_iff.1 e)
  simp [h,h2]
theorem A4K {n:Bool} {m off l cp:Nat} {p:List (Nat×Nat)}:A2w n (.os k m ver p off l cp) H KK=vif (decide (l=0)) (AWr H KK) (KK (.val (.bool n)) H):=by
 unfold A2w vif AWr
 by_cases h:l=0
 ·subst h; simp
 ·simp [h]
theorem AXS {f:FuncId} {a b:List TV}:AQI P (.fn (.func f) a b) cs H KK=AAc (AOL P f=true) (Azc (a++cs++b) fun xs=>VC P f xs H KK):=FI rfl
theorem AWz {f:FuncId}:AQI P (.val (.func (.func f) #[] #[])) cs H KK=AAc (AOL P f=true) (VC P f cs H KK):=by
 exact propext ⟨fun h=>⟨h.2.1,h.2.2⟩,fun h=>⟨rfl,h.1,h.2⟩⟩
theorem AYp:AQI P (.yl id ver) cs H KK=VY P id ver cs H KK:=FI rfl
theorem A3j {nm:String} {t:TypeId}:A6k P nm (.ifc t x) cs H KK=A5u P (A2n P t nm) x cs H KK:=by
 unfold A6k A8L A5u
 show (match A2n P t nm with | some (f,none)=>_ | some (f,some (ag,sz))=>_ | none=>False)=_
 rcases A2n P t nm with _ | ⟨f,_ | ⟨ag,sz⟩⟩<;>rfl
theorem A6D {f:FuncId}:A5u P (some (f,none)) x cs H KK=AAc (AOL P f=true) (Azc (x::cs) fun xs=>VC P f xs H KK):=FI rfl
theorem A7N {f:FuncId} {ag:Bool} {sz:Nat}:A5u P (some (f,some (ag,sz))) x cs H KK=AAc (AOL P f=true) (AUI H ag sz x fun y=>Azc (y::cs) fun xs=>VC P f xs H KK):=FI rfl
theorem A94 {t:Bool} {A B:Prop}:Gd (some t) true A B=vif t A B:=FI rfl
theorem A91 {t:Bool} {A B:Prop}:Gd (some t) false A B=vif t B A:=by cases t<;>simp [Gd,vif]
theorem BbV {b:Bool} {A B:Prop}:Gd none b A B=B:=FI rfl
end
section
variable {Q:VEx→Env→List Ob→Prop} {l:List VO} {kp:List Nat} {a b:AyC}
def A0D (x:TV) (A B:Prop) [Tg A] [Tg B]:Prop:=match x with
  | .val (.bool t)=>if t=true then A else B
  | _=>False
@[congr] theorem Bav {x x':TV} {A B:Prop} (h:x=x'):A0D x A B=A0D x' A B:=by rw [h]
theorem A0e {t:Bool} {A B:Prop}:A0D (.val (.bool t)) A B=vif t A B:=FI rfl
theorem BaR:vwp P (.ops l kp) Q e H=AOE P l (fun e H=>Azc (forget kp e) fun e=>Q .nor e H) e H:=FI rfl
def A1x (zs:List Nat) (e:Env) (H:List Ob) (K:Env→List Ob→Prop) [Tg K]:Prop:=A5v zs K e H
@[congr] theorem A9t {zs:List Nat} {e e':Env} {H H':List Ob} {K:Env→List Ob→Prop} (h1:e=e') (h2:H=H'):A1x zs e H K=A1x zs e' H' K:=by rw [h1,h2]
theorem A9M {K:Env→List Ob→Prop}:A1x [] e H K=K e H:=FI rfl
theorem A5O {l r:List VO} {zs kp:List Nat}:vwp P (.opsZ l zs r kp) Q e H=AOE P l (fun e H=>A1x zs e H fun e H=>AOE P r (fun e H=>Azc (forget kp e) fun e=>Q .nor e H) e H) e H:=FI rfl
theorem A7h {n:Nat}:vwp P (.draw n l kp) Q e H=(vq P (l.take n) (fun e=>AOE P (l.drop n) (fun e H=>Azc (forget kp e) fun e=>Q .nor e H) e H) e H):=FI rfl
def Thn (P:Program) (b:AyC) (Q:VEx→Env→List Ob→Prop):VEx→Env→List Ob→Prop:=fun x e H=>match x with | .nor=>vwp P b Q e H | .exit i=>Q (.exit i) e H | .ret=>Q .ret e H | .pan u=>Q (.pan u) e H
theorem A5f:Thn P b Q .nor e H=vwp P b Q e H:=FI rfl
theorem A1m {i:Nat}:Thn P b Q (.exit i) e H=Q (.exit i) e H:=FI rfl
theorem A3o:Thn P b Q .ret e H=Q .ret e H:=FI rfl
theorem BaZ:vwp P (.seq a b) Q e H=vwp P a (Thn P b Q) e H:=FI rfl
def Blk (id:Nat) (Q:VEx→Env→List Ob→Prop):VEx→Env→List Ob→Prop:=fun x e H=>match x with | .nor=>Q .nor e H | .exit i=>if i=id then Q .nor e H else Q (.exit i) e H | .ret=>Q .ret e H | .pan u=>Q (.pan u) e H
theorem A29 {id:Nat}:Blk id Q .nor e H=Q .nor e H:=FI rfl
theorem A2q {id:Nat}:Blk id Q (.exit id) e H=Q .nor e H:=by simp [Blk]
theorem AT3 {id i:Nat} (h:i≠id):Blk id Q (.exit i) e H=Q (.exit i) e H:=by simp [Blk,h]
theorem A22 {id:Nat}:Blk id Q .ret e H=Q .ret e H:=FI rfl
theorem A5b {id:Nat}:vwp P (.block id a) Q e H=vwp P a (Blk id Q) e H:=FI rfl
theorem A5V {c:Opd}:vwp P (.cond c a b) Q e H=A0D (c.ev e) (vwp P a Q e H) (vwp P b Q e H):=FI rfl
def Rnd (n0:Nat) (lv:List Nat) (Q:VEx→Env→List Ob→Prop) (I:Nat→Env→List Ob→Prop) (n:Nat):VEx→Env→List Ob→Prop:=fun x e H=>match x with
 | .nor=>∃ m g,m<n∧(n0≤g∧(H.length≤g∨(ANH g (forget lv e)=true∧AMk g (H.take g)=true)))∧I m (forget lv e) (H.take g)
 | .exit i=>Q (.exit i) e H | .ret=>Q .ret e H | .pan u=>Q (.pan u) e H
section
variable {n0:Nat} {lv:List Nat} {I:Nat→Env→List Ob→Prop} {n:Nat}
theorem A10 {i:Nat}:Rnd n0 lv Q I n (.exit i) e H=Q (.exit i) e H:=FI rfl
theorem A4g:Rnd n0 lv Q I n .ret e H=Q .ret e H:=FI rfl
theorem AyP (m:Nat) (hm:m<n) (h:n0≤H.length) (hR:I m (forget lv e) H):Rnd n0 lv Q I n .nor e H:=by
 refine ⟨m,H.length,hm,⟨h,.inl (Nat.le_refl _)⟩,?_⟩
 rw [List.take_length]; exact hR
theorem AZe (m g:Nat) (hm:m<n) (h:n0≤g) (he:ANH g (forget lv e)=true) (hH:AMk g (H.take g)=true) (hR:I m (forget lv e) (H.take g)):Rnd n0 lv Q I n .nor e H :=
 ⟨m,g,hm,⟨h,.inr ⟨he,hH⟩⟩,hR⟩
end
theorem AAW {lv:List Nat} {H0:List Ob} (I:Nat→Env→List Ob→Prop) (n:Nat) (h0:I n (forget lv e) H0)
  (hs:∀ n e H,I n e H→vwp P a (Rnd H0.length lv Q I n) e H):vwp P (.loop lv a) Q e H0:=by
 rw [A7i]
 exact ⟨I,n,h0,hs⟩
theorem o_g {d s:Nat} {o:VOp} {b:Bool} {r:List VO} {K:Env→List Ob→Prop}:AOE P (⟨some d,o,some (s,b)⟩::r) K e H=AQd e s fun e q=>Gd q b (vop P o e H (fun x H=>AOE P r K ((d,x)::e) H)) (AOE P r K ((d,.val undef)::e) H):=by
 rw [A6o]; refine congrArg (AQd e s) ?_; funext e q; cases q<;>rfl
def AYw (x:TV) (e:Env) (s:Nat) (Q:Env→Option Bool→Prop) [Tg Q]:Prop:=match x with
 | .val v=>Q e (isB v)
 | .any=>(∀ t,Q ((s,.val (.bool t))::e) (some t))∧∀ v,isB v=none→Q ((s,.val v)::e) none
 | _=>False
@[congr] theorem A9f {x x':TV} {s:Nat} {Q:Env→Option Bool→Prop} (h:x=x'):AYw x e s Q=AYw x' e s Q:=by rw [h]
theorem A6g {s:Nat} {Q:Env→Option Bool→Prop}:AQd e s Q=AYw (get e s) e s Q:=FI rfl
theorem A40 {b:Bool} {s:Nat} {Q:Env→Option Bool→Prop}:AYw (.val (.bool b)) e s Q=Q e (some b):=FI rfl
theorem A3Y {s:Nat} {Q:Env→Option Bool→Prop}:AYw (.val undef) e s Q=Q e none:=FI rfl
theorem u_c {d:Nat} {f:FuncId} {args:List Opd} {r:List VO} {K:Env→Prop}:vq P (⟨some d,.s (.call f args),none⟩::r) K e H=Azc (evs e args) fun xs=>AAc (AJV xs) (vex fun x=>VC P f xs H (fun y H'=>y=x∧H'=H)∧vq P r K ((d,x)::e) H):=by
 rw [Bcf,AGP]; rfl
def Gq (x:TV) (b:Bool) (A B:Prop) [Tg A] [Tg B]:Prop:=match x with
 | .val v=>if isB v=some b then A else B
 | _=>False
@[congr] theorem Bco {x x':TV} {b:Bool} {A B:Prop} (h:x=x'):Gq x b A B=Gq x' b A B:=by rw [h]
theorem Bb0 {t:Bool} {A B:Prop}:Gq (.val (.bool t)) true A B=vif t A B:=by cases t<;>simp [Gq,vif,isB]
theorem Bcd {b:Bool} {A B:Prop}:Gq (.val undef) b A B=B:=by simp [Gq,isB,undef]
theorem Bci {t:Bool} {A B:Prop}:Gq (.val (.bool t)) false A B=vif t B A:=by cases t<;>simp [Gq,vif,isB]
theorem u_g {d s:Nat} {o:VOp} {b:Bool} {r:List VO} {K:Env→Prop}:vq P (⟨some d,o,some (s,b)⟩::r) K e H=Gq (get e s) b (APY P o e H fun x=>vq P r K ((d,x)::e) H) (vq P r K ((d,.val undef)::e) H):=FI rfl
theorem Bb5 {f:FuncId} {args:List Opd} {k:TV→Prop}:APY P (.s (.call f args)) e H k=Azc (evs e args) fun xs=>AAc (AJV xs) (vex fun x=>VC P f xs H (fun y H'=>y=x∧H'=H)∧k x):=by
 rw [A3N,AGP]; rfl
def A79 (P:Program) (x:TV) (s k:Nat) (c:AyC) (Q:VEx→Env→List Ob→Prop) (e:Env) (H:List Ob):Prop:=match x with
  | .val (.slice none 0 0)=>vwp P c Q ((s,.os k H.length 0 [] 0 0 0)::e) (H++[.obj 0 (.arr 0 k [])])
  | _=>vwp P c Q e H
@[congr] theorem Bbu {x x':TV} {s k:Nat} (h:x=x'):A79 P x s k a Q e H=A79 P x' s k a Q e H:=by rw [h]
theorem A9b {s k:Nat}:vwp P (.own s k a) Q e H=A79 P (get e s) s k a Q e H:=FI rfl
theorem A0w {s k:Nat}:A79 P (.val (.slice none 0 0)) s k a Q e H=vwp P a Q ((s,.os k H.length 0 [] 0 0 0)::e) (H++[.obj 0 (.arr 0 k [])]):=FI rfl
theorem A21 {s k k' id ver off n cp:Nat} {p:List (Nat×Nat)}:A79 P (.os k' id ver p off n cp) s k a Q e H=vwp P a Q e H:=FI rfl
end
theorem Ba7 {t:Nat} {K:TV→Prop}:res [.tmp t] e H K=Azc (get e t) K:=FI rfl
theorem A5M {t:Nat} {r:List VR} {K:List TV→Prop}:ATR (.tmp t::r) e H K=Azc (get e t) fun x=>ATR r e H fun xs=>K (x::xs):=FI rfl
def BbF (K:TV→Prop) (xs:List TV):Prop:=match xs with
 | [x]=>K x
 | xs=>(∀ x∈xs,AzB x=false)∧K (.tup xs)
theorem A1e {x y:TV} {l:List TV} {K:TV→Prop}:BbF K (x::y::l)=AAc (AJV (x::y::l)) (Azc (TV.tup (x::y::l)) K):=FI rfl
theorem A6U {r s:VR} {l:List VR} {K:TV→Prop}:res (r::s::l) e H K=ATR (r::s::l) e H (BbF K):=FI rfl
theorem A7z {a sz:Nat} {ag:Bool} {K:TV→Prop}:res [.cell a ag sz] e H K=pop (.load ag sz (.t a)) e H K:=FI rfl
theorem Bau {K:TV→Prop}:res [] e H K=K (.tup []):=by rw [AXe]; simp
end
def VCP (P:Program) (f:FuncId) (xs:List TV) (H:List Ob) (K:TV→List Ob→Prop) (KP:Value→List Ob→Prop) [Tg K] [Tg KP]:Prop:=AK4 P f xs H K KP
@[congr] theorem A7x {P:Program} {f:FuncId} {xs xs':List TV} {H H':List Ob} {K:TV→List Ob→Prop} {KP:Value→List Ob→Prop} (he:xs=xs') (hH:H=H'):VCP P f xs H K KP=VCP P f xs' H' K KP:=by rw [he,hH]
def A5t (x:TV) (K:Value→Prop) [Tg K]:Prop:=match x with
 | .val (.iface t v)=>K (.iface t v)
 | .ifc t (.val v)=>K (.iface t v)
 | _=>False
@[congr] theorem Bbs {x x':TV} {K:Value→Prop} (h:x=x'):A5t x K=A5t x' K:=by rw [h]
theorem A2s {t:TypeId} {v:Value} {K:Value→Prop}:A5t (.ifc t (.val v)) K=K (.iface t v):=FI rfl
theorem A4Q {t:TypeId} {v:Value} {K:Value→Prop}:A5t (.val (.iface t v)) K=K (.iface t v):=FI rfl
section
variable {P:Program} {e:Env} {H:List Ob} {r:List VO} {K:Env→List Ob→Prop} {PP:Value→List Ob→Prop} {Q:VEx→Env→List Ob→Prop}
@[congr] theorem A42 {l:List VO} {e':Env} {H':List Ob} (he:e=e') (hH:H=H'):AJY P PP l K e H=AJY P PP l K e' H':=by rw [he,hH]
@[congr] theorem A20 {o:VOp} {e':Env} {H':List Ob} {KK:TV→List Ob→Prop} (he:e=e') (hH:H=H'):pvop P PP o e H KK=pvop P PP o e' H' KK:=by rw [he,hH]
theorem A56 {l:List VO} {kp:List Nat}:vwp P (.pops l kp) Q e H=AJY P (fun u H=>Q (.pan u) (AUB l e) H) l (fun e H=>Azc (forget kp e) fun e=>Q .nor e H) e H:=FI rfl
theorem A24 {n:Nat} {l:List VO} {kp:List Nat}:vwp P (.pdraw n l kp) Q e H=(vq P (l.take n) (fun e=>AJY P (fun u H=>Q (.pan u) [] H) (l.drop n) (fun e H=>Azc (forget kp e) fun e=>Q .nor e H) e H) e H):=FI rfl
theorem A7T:AJY P PP [] K e H=K e H:=FI rfl
theorem Bcg {d:Nat} {o:VOp}:AJY P PP (⟨some d,o,none⟩::r) K e H=pvop P PP o e H (fun x H=>AJY P PP r K ((d,x)::e) H):=FI rfl
theorem Bao {o:VOp}:AJY P PP (⟨none,o,none⟩::r) K e H=pvop P PP o e H (fun x H=>AJY P PP r K e H):=FI rfl
theorem Bch {d s:Nat} {o:VOp} {b:Bool}:AJY P PP (⟨some d,o,some (s,b)⟩::r) K e H=AQd e s fun e q=>Gd q b (pvop P PP o e H (fun x H=>AJY P PP r K ((d,x)::e) H)) (AJY P PP r K ((d,.val undef)::e) H):=by
 show AFE (pvop P PP) _ K e H=_
 rw [AFE]
 refine congrArg (AQd e s) ?_; funext e q; cases q<;>rfl
theorem A8v {o:POp} {KK:TV→List Ob→Prop}:pvop P PP (.p o) e H KK=pop o e H fun x=>KK x H:=FI rfl
theorem AXV {f:FuncId} {args:List Opd} {KK:TV→List Ob→Prop}:pvop P PP (.s (.call f args)) e H KK=Azc (evs e args) fun xs=>AAc (AJV xs) (VCP P f xs H KK PP):=by
 show ((∀ x∈args,AzB (x.ev e)=false)∧_)=_
 rw [AGP]; rfl
theorem A0S {x:Opd} {KK:TV→List Ob→Prop}:pvop P PP (.s (.pan x)) e H KK=A5t (x.ev e) (fun u=>PP u H):=by
 show (match x.ev e with | .val (.iface t v)=>PP (.iface t v) H | .ifc t (.val v)=>PP (.iface t v) H | _=>False)=_
 unfold A5t
 split<;>simp_all
theorem AWv {z:TV} {KK:TV→List Ob→Prop}:pvop P PP (.s (.alloc z)) e H KK=sop P (.alloc z) e H KK:=FI rfl
theorem AZ8 {x:Opd} {KK:TV→List Ob→Prop}:pvop P PP (.s (.box x)) e H KK=sop P (.box x) e H KK:=FI rfl
theorem AUK {k n:Nat} {z:TV} {ps:List (Nat×Opd)} {KK:TV→List Ob→Prop}:pvop P PP (.s (.bslice k n z ps)) e H KK=sop P (.bslice k n z ps) e H KK:=FI rfl
theorem AWB {sz:Nat} {x v:Opd} {KK:TV→List Ob→Prop}:pvop P PP (.s (.store sz x v)) e H KK=sop P (.store sz x v) e H KK:=FI rfl
theorem A2f {k bytes:Nat} {z:TV} {l c:Opd} {KK:TV→List Ob→Prop}:pvop P PP (.s (.mks k bytes z l c)) e H KK=sop P (.mks k bytes z l c) e H KK:=FI rfl
theorem A2m {k bytes:Nat} {et:TypeId} {x y:Opd} {KK:TV→List Ob→Prop}:pvop P PP (.s (.app k bytes et x y)) e H KK=sop P (.app k bytes et x y) e H KK:=FI rfl
theorem AXm {et:TypeId} {x y:Opd} {KK:TV→List Ob→Prop}:pvop P PP (.s (.appS et x y)) e H KK=sop P (.appS et x y) e H KK:=FI rfl
theorem AY2 {k n:Nat} {z:TV} {x y:Opd} {KK:TV→List Ob→Prop}:pvop P PP (.s (.appZ k n z x y)) e H KK=sop P (.appZ k n z x y) e H KK:=FI rfl
theorem AZx {x:Opd} {n:Bool} {KK:TV→List Ob→Prop}:pvop P PP (.s (.eqS x n)) e H KK=sop P (.eqS x n) e H KK:=FI rfl
theorem AZY {x:Opd} {KK:TV→List Ob→Prop}:pvop P PP (.s (.s2b x)) e H KK=sop P (.s2b x) e H KK:=FI rfl
theorem AWP {k:Nat} {x y:Opd} {KK:TV→List Ob→Prop}:pvop P PP (.s (.copy k x y)) e H KK=sop P (.copy k x y) e H KK:=FI rfl
theorem AVX {x y:Opd} {KK:TV→List Ob→Prop}:pvop P PP (.s (.copyS x y)) e H KK=sop P (.copyS x y) e H KK:=FI rfl
theorem AWj {x:Opd} {args:List Opd} {KK:TV→List Ob→Prop}:pvop P PP (.s (.callv x args)) e H KK=sop P (.callv x args) e H KK:=FI rfl
theorem A0q {x:Opd} {nm:String} {args:List Opd} {KK:TV→List Ob→Prop}:pvop P PP (.s (.inv x nm args)) e H KK=sop P (.inv x nm args) e H KK:=FI rfl
theorem A14 {kk:MK} {h:Option Opd} {KK:TV→List Ob→Prop}:pvop P PP (.s (.mkm kk h)) e H KK=sop P (.mkm kk h) e H KK:=FI rfl
theorem AYk {kk:MK} {m k x:Opd} {KK:TV→List Ob→Prop}:pvop P PP (.s (.mupd kk m k x)) e H KK=sop P (.mupd kk m k x) e H KK:=FI rfl
theorem AWY {kk:MK} {z:TV} {m k:Opd} {KK:TV→List Ob→Prop}:pvop P PP (.s (.ment kk z m k)) e H KK=sop P (.ment kk z m k) e H KK:=FI rfl
theorem AZr {m st x:Opd} {KK:TV→List Ob→Prop}:pvop P PP (.s (.mest m st x)) e H KK=sop P (.mest m st x) e H KK:=FI rfl
theorem AUJ {z:TV} {t:TypeId} {KK:TV→List Ob→Prop}:pvop P PP (.s (.allocT z t)) e H KK=sop P (.allocT z t) e H KK:=FI rfl
theorem AY0 {x:Opd} {t:TypeId} {KK:TV→List Ob→Prop}:pvop P PP (.s (.boxT x t)) e H KK=sop P (.boxT x t) e H KK:=FI rfl
theorem AXa {x:Opd} {KK:TV→List Ob→Prop}:pvop P PP (.s (.rngS x)) e H KK=sop P (.rngS x) e H KK:=FI rfl
theorem AZs {x:Opd} {KK:TV→List Ob→Prop}:pvop P PP (.s (.nxtS x)) e H KK=sop P (.nxtS x) e H KK:=FI rfl
theorem AXi {x:Opd} {KK:TV→List Ob→Prop}:pvop P PP (.s (.rngM x)) e H KK=sop P (.rngM x) e H KK:=FI rfl
theorem AXX {x:Opd} {KK:TV→List Ob→Prop}:pvop P PP (.s (.nxtM x)) e H KK=sop P (.nxtM x) e H KK:=FI rfl
theorem AYq {kk:MK} {m k:Opd} {KK:TV→List Ob→Prop}:pvop P PP (.s (.delM kk m k)) e H KK=sop P (.delM kk m k) e H KK:=FI rfl
theorem A0i {x:Opd} {KK:TV→List Ob→Prop}:pvop P PP (.s (.cvS x)) e H KK=sop P (.cvS x) e H KK:=FI rfl
theorem AXg {k:Nat} {z:TV} {x:Opd} {KK:TV→List Ob→Prop}:pvop P PP (.s (.clrS k z x)) e H KK=sop P (.clrS k z x) e H KK:=FI rfl
theorem AY8 {f:FuncId} {x:Opd} {KK:TV→List Ob→Prop}:pvop P PP (.s (.bstr f x)) e H KK=sop P (.bstr f x) e H KK:=FI rfl
theorem A4D {b:AyC} {u:Value}:Thn P b Q (.pan u) e H=Q (.pan u) e H:=FI rfl
theorem A4c {id:Nat} {u:Value}:Blk id Q (.pan u) e H=Q (.pan u) e H:=FI rfl
theorem A3G {n0:Nat} {lv:List Nat} {I:Nat→Env→List Ob→Prop} {n:Nat} {u:Value}:Rnd n0 lv Q I n (.pan u) e H=Q (.pan u) e H:=FI rfl
theorem AV6 {vr:List VR} {R:TV→List Ob→Prop} {RP:Value→List Ob→Prop}:AZi vr R RP .ret e H=res vr e H fun x=>R x H:=FI rfl
theorem AWp {vr:List VR} {R:TV→List Ob→Prop} {RP:Value→List Ob→Prop}:AZi vr R RP .nor e H=res vr e H fun x=>R x H:=FI rfl
theorem AWb {vr:List VR} {R:TV→List Ob→Prop} {RP:Value→List Ob→Prop} {u:Value}:AZi vr R RP (.pan u) e H=RP u H:=FI rfl
def AS0 (P:Program) (PP:Value→List Ob→Prop) (Ss:SsT) (l:List VO) (K:Env→List Ob→Prop) (e:Env) (H:List Ob):Prop:=AFE (pvopS P PP Ss) l K e H
@[congr] theorem A3w {Ss:SsT} {l:List VO} {e':Env} {H':List Ob} (he:e=e') (hH:H=H'):AS0 P PP Ss l K e H=AS0 P PP Ss l K e' H':=by rw [he,hH]
@[congr] theorem A2D {Ss:SsT} {o:VOp} {e':Env} {H':List Ob} {KK:TV→List Ob→Prop} (he:e=e') (hH:H=H'):pvopS P PP Ss o e H KK=pvopS P PP Ss o e' H' KK:=by rw [he,hH]
theorem A38 {n:Nat} {l:List VO} {kp:List Nat}:vwp P (.sdraw n l kp) Q e H=(vq P (l.take (nOf n)) (fun e=>AS0 P (fun u H=>Q (.pan u) [] H) (ssN n l) (l.drop (nOf n)) (fun e H=>Azc (forget kp e) fun e=>Q .nor e H) e H) e H):=FI rfl
section
variable {Ss:SsT}
theorem A7g:AS0 P PP Ss [] K e H=K e H:=FI rfl
theorem Bcl {d:Nat} {o:VOp}:AS0 P PP Ss (⟨some d,o,none⟩::r) K e H=pvopS P PP Ss o e H (fun x H=>AS0 P PP Ss r K ((d,x)::e) H):=FI rfl
theorem BaW {o:VOp}:AS0 P PP Ss (⟨none,o,none⟩::r) K e H=pvopS P PP Ss o e H (fun x H=>AS0 P PP Ss r K e H):=FI rfl
theorem A8q {o:POp} {KK:TV→List Ob→Prop}:pvopS P PP Ss (.p o) e H KK=pop o e H fun x=>KK x H:=FI rfl
theorem AZm {f:FuncId} {args:List Opd} {KK:TV→List Ob→Prop}:pvopS P PP Ss (.s (.call f args)) e H KK=Azc (evs e args) fun xs=>AAc (AJV xs) (VCP P f xs H (fun x H'=>KK x H'∧AKb Ss.l e H H') PP):=by
 show ((∀ x∈args,AzB (x.ev e)=false)∧_)=_
 rw [AGP]; rfl
theorem AWF {sz:Nat} {x v:Opd} {KK:TV→List Ob→Prop}:pvopS P PP Ss (.s (.store sz x v)) e H KK=sop P (.store sz x v) e H fun x H'=>KK x H'∧AKb Ss.st e H H':=FI rfl
theorem AV2 {z:TV} {KK:TV→List Ob→Prop}:pvopS P PP Ss (.s (.alloc z)) e H KK=sop P (.alloc z) e H KK:=FI rfl
theorem A1w {k bytes:Nat} {z:TV} {l c:Opd} {KK:TV→List Ob→Prop}:pvopS P PP Ss (.s (.mks k bytes z l c)) e H KK=sop P (.mks k bytes z l c) e H KK:=FI rfl
theorem A1Y {k bytes:Nat} {et:TypeId} {x y:Opd} {KK:TV→List Ob→Prop}:pvopS P PP Ss (.s (.app k bytes et x y)) e H KK=vif Ss.ap (sop P (.app k bytes et x y) e H fun x H'=>KK x H'∧AKb Ss.l e H H') (sop P (.app k bytes et x y) e H KK):=by
 show sop P (.app k bytes et x y) e H (fun x H'=>KK x H'∧(Ss.ap=true→AKb Ss.l e H H'))=_
 unfold vif
 split
 ·rename_i h
  congr 1; funext x H'; simp [h]
 ·rename_i h
  congr 1; funext x H'; simp [h]
theorem AYf {et:TypeId} {x y:Opd} {KK:TV→List Ob→Prop}:pvopS P PP Ss (.s (.appS et x y)) e H KK=sop P (.appS et x y) e H KK:=FI rfl
theorem A6N {n:Nat}:nOf n=n % 10000:=FI rfl
theorem A6s {n:Nat} {l:List VO}:(ssN n l).ap=decide (10000≤n):=FI rfl
theorem A1l {x:Opd} {KK:TV→List Ob→Prop}:pvopS P PP Ss (.s (.s2b x)) e H KK=sop P (.s2b x) e H KK:=FI rfl
theorem ATY {k n:Nat} {z:TV} {ps:List (Nat×Opd)} {KK:TV→List Ob→Prop}:pvopS P PP Ss (.s (.bslice k n z ps)) e H KK=sop P (.bslice k n z ps) e H KK:=FI rfl
end
theorem ASi {e:Env} {H H':List Ob}:AKb [] e H H':=AKb.nil
theorem AYc {s:Nat} {Ss:List Nat} {e:Env} {H H':List Ob} {id ver:Nat} {p:List (Nat×Nat)} (h:get e s = .op id ver p) (h1:H'[id]?=H[id]?) (h2:AKb Ss e H H'):AKb (s::Ss) e H H':=fun t ht id' hg=>by
 rcases List.mem_cons.1 ht with rfl | ht
 ·rw [h] at hg; cases hg; exact h1
 ·exact h2 t ht id' hg
theorem AyI.callsP {f:FuncId} {args:List TV} {R:TV→List Ob→Prop} {RP:Value→List Ob→Prop} (h:AyI P f args H R):VCP P f args H R RP:=h.mayP
end
def AyF:=(aI_ (aI_ (aI_ (aI_ (aI_ (aI_ (aI_ (aI_ @A9R @A6q) (aI_ @BaB @Bcb)) (aI_ (aI_ @A8i @A9V) (aI_ @A82 @A6T))) (aI_ (aI_ (aI_ @AZR @A23) (aI_ @A6L @A3S)) (aI_ (aI_ @Baw @A6p) (aI_ @A9m @A6C)))) (aI_ (aI_ (aI_ (aI_ @A5R @Ba0) (aI_ @A9P @A85)) (aI_ (aI_ @A5i @Bab) (aI_ @A8r @Ba5))) (aI_ (aI_ (aI_ @A9v @Bak) (aI_ @A92 @A80)) (aI_ (aI_ @A4V @AZH) (aI_ @A9A @A4S))))) (aI_ (aI_ (aI_ (aI_ (aI_ @AZU @BaT) (aI_ @A7F @A6W)) (aI_ (aI_ @A5S @A72) (aI_ @A6e @A5Q))) (aI_ (aI_ (aI_ @A8a @A8u) (aI_ @Bbd @A0W)) (aI_ (aI_ @A4N @A9G) (aI_ @A9Z @A77)))) (aI_ (aI_ (aI_ (aI_ @A7t @A4o) (aI_ @A9O @A7S)) (aI_ (aI_ @A9w @A7p) (aI_ @A7o @A8f))) (aI_ (aI_ (aI_ @A62 @A5A) (aI_ @A7D @A4i)) (aI_ (aI_ @BaX @BaR) (aI_ @A5O @A9M)))))) (aI_ (aI_ (aI_ (aI_ (aI_ (aI_ @A7h @A8g) (aI_ @BaZ @A5b)) (aI_ (aI_ @A5V @A7s) (aI_ @A9x @A4q))) (aI_ (aI_ (aI_ @A9b @A5D) (aI_ @A6K @A2b)) (aI_ (aI_ @A6Z @A5E) (aI_ @A3D @o_g)))) (aI_ (aI_ (aI_ (aI_ @A6g @A87) (aI_ @Bag @A5Y)) (aI_ (aI_ @Bck @u_c) (aI_ @u_g @A4k))) (aI_ (aI_ (aI_ @Bb5 @AS7) (aI_ @ASP @Ba7)) (aI_ (aI_ @A7z @Bau) (aI_ @A6U @AVu))))) (aI_ (aI_ (aI_ (aI_ (aI_ @A5M @ASO) (aI_ @A1e @A5f)) (aI_ (aI_ @A1m @A3o) (aI_ @A29 @A2q))) (aI_ (aI_ (aI_ @AT3 @A22) (aI_ @A10 @A4g)) (aI_ (aI_ @A56 @A24) (aI_ @A38 @A7g)))) (aI_ (aI_ (aI_ (aI_ @Bcl @BaW) (aI_ @A8q @AZm)) (aI_ (aI_ @AWF @AV2) (aI_ @A1w @A1Y))) (aI_ (aI_ (aI_ @AYf @A1l) (aI_ @ATY @A7T)) (aI_ (aI_ @Bcg @Bao) (aI_ @Bch @A8v))))))) (aI_ (aI_ (aI_ (aI_ (aI_ (aI_ @AXV @A0S) (aI_ @AWv @AZ8)) (aI_ (aI_ @AUK @AWB) (aI_ @A2f @A2m))) (aI_ (aI_ (aI_ @AXm @AZY) (aI_ @AY2 @AZx)) (aI_ (aI_ @AWP @AVX) (aI_ @AWj @A0q)))) (aI_ (aI_ (aI_ (aI_ @A14 @AYk) (aI_ @AWY @AZr)) (aI_ (aI_ @AUJ @AY0) (aI_ @AXa @AZs))) (aI_ (aI_ (aI_ @AXi @AXX) (aI_ @AYq @AXg)) (aI_ (aI_ @A0i @AY8) (aI_ @A4D @A4c))))) (aI_ (aI_ @A3G @AV6) (aI_ @AWp @AWb))))
def AyB:=(aI_ (aI_ (aI_ (aI_ (aI_ (aI_ (aI_ (aI_ @A6N @A6s) (aI_ @A4Q @A2s)) (aI_ (aI_ @AZL @AWZ) (aI_ @A3M @A4v))) (aI_ (aI_ (aI_ @A5X @A6B) (aI_ @A60 @AZg)) (aI_ (aI_ @A2t @A4e) (aI_ @A2o @A8s)))) (aI_ (aI_ (aI_ (aI_ @AXc @A3e) (aI_ @A1N @A54)) (aI_ (aI_ @A4C @A7M) (aI_ @A50 @AYu))) (aI_ (aI_ (aI_ @A37 @A2l) (aI_ @A3c @A0V)) (aI_ (aI_ @A4z @A5B) (aI_ @A02 @A4s))))) (aI_ (aI_ (aI_ (aI_ (aI_ @A34 @A0X) (aI_ @A1L @AWE)) (aI_ (aI_ @AVY @AXk) (aI_ @A1d @A1Z))) (aI_ (aI_ (aI_ @AW6 @AXO) (aI_ @A4p @AZF)) (aI_ (aI_ @A3O @A1J) (aI_ @A1u @A08)))) (aI_ (aI_ (aI_ (aI_ @AXb @A46) (aI_ @A49 @A3s)) (aI_ (aI_ @A28 @A3L) (aI_ @A3E @A3b))) (aI_ (aI_ (aI_ @AZO @A2Z) (aI_ @AZE @A3l)) (aI_ (aI_ @AW7 @A4n) (aI_ @A1X @A2v)))))) (aI_ (aI_ (aI_ (aI_ (aI_ (aI_ @AZ0 @AXI) (aI_ @AWa @A5c)) (aI_ (aI_ @A32 @A69) (aI_ @A8b @A7V))) (aI_ (aI_ (aI_ @A8p @A0u) (aI_ @AZK @A1O)) (aI_ (aI_ @AZt @A6O) (aI_ @A7r @A61)))) (aI_ (aI_ (aI_ (aI_ @AX0 @AVK) (aI_ @AYn @A1Q)) (aI_ (aI_ @A0Q @AX7) (aI_ @AZ2 @A2r))) (aI_ (aI_ (aI_ @A17 @A4u) (aI_ @A4K @AZX)) (aI_ (aI_ @AXM @AZv) (aI_ @A33 @A1M))))) (aI_ (aI_ (aI_ (aI_ (aI_ @A5d @A3z) (aI_ @A3i @A0y)) (aI_ (aI_ @A0Y @A1K) (aI_ @AZC @AZG))) (aI_ (aI_ (aI_ @AZ5 @AXo) (aI_ @A0m @A4t)) (aI_ (aI_ @A65 @AYD) (aI_ @A7v @A8h)))) (aI_ (aI_ (aI_ (aI_ @A4U @A4M) (aI_ @A3u @A0R)) (aI_ (aI_ @A0P @A0s) (aI_ @Option.getD_none.{0} @Option.getD_some.{0}))) (aI_ (aI_ (aI_ @AXT @A3a) (aI_ @A1S @A1i)) (aI_ (aI_ @A1R @AVv) (aI_ @AZo @AZA))))))) (aI_ (aI_ (aI_ (aI_ (aI_ (aI_ @A1g @A3U) (aI_ @A1f @A5n)) (aI_ (aI_ @A1B @AYL) (aI_ @A4f @A0A))) (aI_ (aI_ (aI_ @AZP @A1r) (aI_ @A2p @A1F)) (aI_ (aI_ @A2g @A2e) (aI_ @A3H @AXS)))) (aI_ (aI_ (aI_ (aI_ @A3j @A6D) (aI_ @A7N @AWz)) (aI_ (aI_ @AYp @A94) (aI_ @A91 @BbV))) (aI_ (aI_ (aI_ @A0e @A40) (aI_ @A3Y @Bb0)) (aI_ (aI_ @Bci @Bcd) (aI_ @A0w @A21))))) (aI_ (aI_ (aI_ @A06 @A1C) (aI_ @A3y @A0o)) (aI_ @AXD @AWC))))
def AyE:=(aI_ (aI_ (aI_ (aI_ (aI_ (aI_ (aI_ (aI_ @A1n @AZQ) (aI_ @A4O @A5h)) (aI_ (aI_ @A4W @A4Y) (aI_ @A0M @A04))) (aI_ (aI_ (aI_ @A1v @A0C) (aI_ @A3h @A25)) (aI_ (aI_ @A4d @AYg) (aI_ @AZa @AZJ)))) (aI_ (aI_ (aI_ (aI_ @AZW @A05) (aI_ @AZw @AZk)) (aI_ (aI_ @AXu @AYt) (aI_ @AYN @A0O))) (aI_ (aI_ (aI_ @A2d @A1U) (aI_ @A1E @A4G)) (aI_ (aI_ @A36 @A44) (aI_ @A5j @A01))))) (aI_ (aI_ (aI_ (aI_ (aI_ @A2k @A1G) (aI_ @A0E @A3f)) (aI_ (aI_ @A4F @A5a) (aI_ @AWN @AYd))) (aI_ (aI_ (aI_ @A0Z @A0N) (aI_ @A2c @A13)) (aI_ (aI_ @AYy @A1I) (aI_ @AZB @AYM)))) (aI_ (aI_ (aI_ (aI_ @AXL @A1W) (aI_ @A0z @A1D)) (aI_ (aI_ @A15 @AZd) (aI_ @AWV @AZM))) (aI_ (aI_ (aI_ @AZS @A0x) (aI_ @AYX @AZq)) (aI_ (aI_ @AV7 @AUn) (aI_ @AYx @AZl)))))) (aI_ (aI_ (aI_ (aI_ (aI_ (aI_ @AXp @AXG) (aI_ @AWl @A0f)) (aI_ (aI_ @AXW @AT8) (aI_ @ATC @AV5))) (aI_ (aI_ (aI_ @A0K @AYj) (aI_ @ATb @ASh)) (aI_ (aI_ @Bca @Bb1) (aI_ @Bcj @ARa)))) (aI_ (aI_ (aI_ (aI_ @AOS @A1z) (aI_ @AJN @ALY)) (aI_ (aI_ @AU5 @AV8) (aI_ @AUr @AX6))) (aI_ (aI_ (aI_ @AWs @A0I) (aI_ @AWq @AUF)) (aI_ (aI_ @AWt @AUL) (aI_ @AXf @AVN))))) (aI_ (aI_ (aI_ (aI_ (aI_ @ATT @ATi) (aI_ @ARK @AP4)) (aI_ (aI_ @A4R @A1k) (aI_ @AXe @A18))) (aI_ (aI_ (aI_ @AVu @A0F) (aI_ @ASO @AS7)) (aI_ (aI_ @ASP @A0p) (aI_ @A0a @A4E)))) (aI_ (aI_ (aI_ (aI_ @A4m @A0d) (aI_ @A4P @A5k)) (aI_ (aI_ @A2i @AZ6) (aI_ @A2a @AXP))) (aI_ (aI_ (aI_ @AWc @A4Z) (aI_ @A3P @A6j)) (aI_ (aI_ @A3W @A4I) (aI_ @A3g @A3x))))))) (aI_ (aI_ (aI_ @A0J @AX3) (aI_ @AXB @A11)) (aI_ (aI_ @A9y @A66) @A6E)))
theorem AVI {α β:Type} {f:α→β} {l:List α} {i:Nat}:(l.map f).drop i=(l.drop i).map f:=List.map_drop.symm
theorem AVH {α β:Type} {f:α→β} {l:List α} {i:Nat}:(l.map f).take i=(l.take i).map f:=List.map_take.symm
theorem A6b {b:UInt8}:IntKind.i64.wrap (b.toNat:Int)=b.toNat:=ABN (by omega) (by have:=b.toNat_lt; omega)
theorem A7n {n:Nat}:IntKind.u8.wrap (n:Int)=((UInt8.ofNat n).toNat:Int):=by
 rw [IntKind.wrap_u8,UInt8.toNat_ofNat']; omega
theorem A7W {α:Type} {n i:Nat} {a:α} (h:i<n):(List.replicate n a)[i]?=some a:=by simp [h]
section
variable {a b c:Nat}
theorem AZz:(a:Int)*(b:Int)=((a*b:Nat):Int):=FI rfl
theorem AZT (h:b≤a):(a:Int) - (b:Int)=((a - b:Nat):Int):=by omega
theorem AZ3:(a:Int) / (b:Int)=((a / b:Nat):Int):=FI rfl
theorem A2h:(a:Int) % (b:Int)=((a % b:Nat):Int):=FI rfl
variable {t:TypeId} {k2:IntKind}
theorem A7k (h1:b≤63) (h2:a*2 ^ b≤9223372036854775807):AAD t .shl (.int .i64 (a:Int)) (.int k2 (b:Int))=some (.int .i64 ((a*2 ^ b:Nat):Int)):=by
 have e:(a:Int)*2 ^ ((b:Int).toNat)=((a*2 ^ b:Nat):Int):=by rw [Int.toNat_natCast,Int.natCast_mul,Int.natCast_pow]; rfl
 rw [Bac (by omega) (by omega) (by rw [e]; omega) (by rw [e]; omega),e]
theorem A6u (h1:b≤63):AAD t .shr (.int .i64 (a:Int)) (.int k2 (b:Int))=some (.int .i64 ((a / 2 ^ b:Nat):Int)):=by
 have e:(a:Int) / 2 ^ ((b:Int).toNat)=((a / 2 ^ b:Nat):Int):=by rw [Int.toNat_natCast,Int.natCast_ediv,Int.natCast_pow]; rfl
 rw [A9o (by omega) (by omega) (by omega),e]
variable {k:IntKind}
theorem A7b (h:b≠0):AAD t .rem (.int k (a:Int)) (.int k (b:Int))=some (.int k ((a % b:Nat):Int)):=by rw [A9J (by omega) (by omega),Int.natCast_emod]
theorem A2K (h:b≠0) (h2:a≤9223372036854775807):AAD t .quo (.int .i64 (a:Int)) (.int .i64 (b:Int))=some (.int .i64 ((a / b:Nat):Int)):=by rw [A9s (by omega) (by omega) (by omega),Int.natCast_ediv]
end
theorem AyI.toPureV {P:Program} {f:FuncId} {args:List TV} {R:TV→Prop} (h:AyI P f args [] fun x H'=>Aze (frz H' x) R):Azk P f args R :=
 AyI.toPure (h.mono fun x H' hx=>by
  cases hf:frz H' x with
  | none=>rw [hf] at hx; exact hx
  | some y=>rw [hf] at hx; exact hx)
abbrev mv_ (d s:Nat):VO:=⟨some d,.p (.mov (.t s)),none⟩
abbrev po_ (d:Nat) (p:POp):VO:=⟨some d,.p p,none⟩
abbrev so_ (d:Nat) (q:SOp):VO:=⟨some d,.s q,none⟩
abbrev ci_ (n:Nat):Opd := .c (.int .i64 (n:Int))
theorem AzX {P:Program} {f:FuncId} {fn:Func} {vc:AyC} {vr:List VR} (n:Nat) (hf:P.funcs[f]?=some fn) (ht:fn.body.bind (trC P fn.ntmps)=some (er vc)) (hr:trR P fn.results.toList=some vr) (hn:fn.ntmps=n) :
  ∀ ⦃args:List TV⦄ ⦃H:List Ob⦄ ⦃R:TV→List Ob→Prop⦄,args.length≤n→vwp P vc (AWf vr R) (AR9 0 args) H→AyI P f args H R:=fun _ _ _ h1 h2=>AWO hf ht hr (hn▸h1) h2
theorem Ayz {c c':AyC} (h:c=c'):∀ (P:Program) (Q:VEx→Env→List Ob→Prop) (e:Env) (H:List Ob),vwp P c Q e H=vwp P c' Q e H:=fun _ _ _ _=>by rw [h]
theorem AyA {α:Type}:(∀ {l:List α} {i:Nat} {a:α},(l.set i a).length=l.length)∧(∀ {l m:List α},(l++m).length=l.length+m.length)∧(∀ {a:α} {l:List α},(a::l).length=l.length+1)∧([]:List α).length=0:=⟨List.length_set,List.length_append,List.length_cons,List.length_nil⟩
theorem AyI.toFreshV {P:Program} {f:FuncId} {args:List TV} {R:TV→Prop} (h:AyI P f args [] fun x H'=>Aze (frs H' x) R):AEp P f args R :=
 AyI.toFresh (h.mono fun x H' hx=>by
  cases hf:frs H' x with
  | none=>rw [hf] at hx; exact hx
  | some y=>rw [hf] at hx; exact hx)
theorem A2u {α:Type} {l:List α} {n:Nat} (h:l.length≤n):l.take n=l:=List.take_of_length_le h
theorem BaN {α:Type} {c:Prop} [Decidable c] {a b:α} (h:c):(if c then a else b)=a:=if_pos h
theorem Bbg {α:Type} {c:Prop} [Decidable c] {a b:α} (h:¬ c):(if c then a else b)=b:=if_neg h
theorem AT7 {α:Type} {l:List α} {n:Nat} (h:n≤l.length):(l.take n).length=n:=by simp [h]
theorem ARg {α:Type} {l:List α} {i:Nat}:(l.drop i).take (l.length - i)=l.drop i:=List.take_of_length_le (by simp)
theorem A0T {a b:Nat}:a+b - a=b:=Nat.add_sub_cancel_left a b
theorem A1b {α:Type} {l m:List α}:(l++m).take l.length=l:=List.take_left
theorem A0t {α:Type} {l m:List α}:(l++m).drop l.length=m:=List.drop_left
theorem AZu {a b:Nat}:a+b - b=a:=Nat.add_sub_cancel a b
def AyD:=(aI_ (aI_ (aI_ (aI_ (aI_ (aI_ (aI_ @A1b @A0t) (aI_ @A0T @ARg)) (aI_ (aI_ @AT7 @List.length_drop.{0}) (aI_ @BaN @Bbg))) (aI_ (aI_ (aI_ @A2u @AZu) (aI_ @Nat.zero_le @A52)) (aI_ (aI_ @List.nil_append.{0} @List.length_nil.{0}) (aI_ @List.length_cons.{0} @List.cons_append.{0})))) (aI_ (aI_ (aI_ (aI_ @List.getElem?_cons_zero.{0} @List.getElem?_cons_succ.{0}) (aI_ @List.set_cons_zero.{0} @List.set_cons_succ.{0})) (aI_ (aI_ @List.map_cons.{0,0} @List.map_nil.{0,0}) (aI_ @A1h @A0U))) (aI_ (aI_ (aI_ @true_and @and_true) (aI_ @List.take_zero.{0} @List.take_succ_cons.{0})) (aI_ (aI_ @List.drop_succ_cons.{0} @List.take_nil.{0}) (aI_ @List.drop_nil.{0} @Nat.zero_add))))) (aI_ (aI_ (aI_ (aI_ (aI_ @BaO @Bas) (aI_ @A9n @Bba)) (aI_ (aI_ @Ba4 @A9X) (aI_ @A9c @Ba1))) (aI_ (aI_ (aI_ @A9i @Ba6) (aI_ @Bb4 @A7b)) (aI_ (aI_ @A2K @A2J) (aI_ @AWW @AYm)))) (aI_ (aI_ (aI_ (aI_ @AXh @AXn) (aI_ @AVR @AY3)) (aI_ (aI_ @AY6 @AW9) (aI_ @AZn @AXH))) (aI_ (aI_ (aI_ @Bool.false_xor @Bool.true_xor) (aI_ @A9W @Bax)) (aI_ (aI_ @BaC @decide_true) (aI_ @decide_false @Bool.not_true)))))) (aI_ (aI_ (aI_ (aI_ (aI_ (aI_ @Bool.not_false @not_true_eq_false) (aI_ @not_false_eq_true @Bool.false_eq_true)) (aI_ (aI_ @Bool.true_eq_false @Option.bind_some.{0,0}) (aI_ @Option.map_some.{0,0} @Bool.and_self))) (aI_ (aI_ (aI_ @and_self @Nat.sub_zero) (aI_ @Nat.mul_one @List.length_map.{0,0})) (aI_ (aI_ @Int.toNat_natCast @List.getElem?_map.{0,0}) (aI_ @Int.natCast_nonneg @List.length_append.{0})))) (aI_ (aI_ (aI_ (aI_ @List.drop_zero.{0} @AVI) (aI_ @AVH @A0L)) (aI_ (aI_ @A09 @A0r) (aI_ @A3p @A4h))) (aI_ (aI_ (aI_ @A3r @A3T) (aI_ @List.replicate_zero.{0} @List.take_length.{0})) (aI_ (aI_ @List.length_set.{0} @List.length_replicate.{0}) (aI_ @A6b @ABN))))) (aI_ (aI_ (aI_ (aI_ @A7n @List.set_set.{0}) (aI_ @List.getElem?_nil.{0} @A7W)) (aI_ (aI_ @AZz @AZT) (aI_ @AZ3 @A2h))) (aI_ @A7k @A6u))))
end
end Go.Proofs.YtnikbdnebdmmiaaGreatDoor
