/- What the proof of DeltaRoundCard stands on (texts merged; names shortened by a program): part 4. -/
import Derived.Test.YthlbcfmbldcngaaDoorQC
import Derived.RangeFuncIn
import Derived.RangeFuncRecord
import Derived.RangeFuncLeaves
import Derived.Sort.LoopGhostIn
set_option linter.unusedSectionVars false
set_option linter.unusedSimpArgs false
set_option linter.unusedVariables false
namespace Go.Proofs.YthlbcfmbldcngaaDoor
section
open Go.RowKit
variable [Bt6]
set_option autoImplicit false
inductive Btx where
 | ops (l:List VO) (keep:List Nat)
 | draw (nA:Nat) (l:List VO) (keep:List Nat)
 | skip
 | opsZ (l:List VO) (zs:List Nat) (r:List VO) (keep:List Nat)
 | pops (l:List VO) (keep:List Nat)
 | pdraw (n:Nat) (l:List VO) (keep:List Nat)
 | sdraw (n:Nat) (l:List VO) (keep:List Nat)
 | seq (a b:Btx)
 | cond (c:Opd) (a b:Btx)
 | block (id:Nat) (c:Btx)
 | loop (live:List Nat) (c:Btx)
 | exit (id:Nat)
 | ret
 | scope (c:Btx)
 | own (s k:Nat) (c:Btx)
 | ownB (s:Nat) (p:List (Nat×Nat)) (k:Nat) (c:Btx)
 | ownT (s:Nat) (p:List (Nat×Nat)) (t:TypeId) (c:Btx)
 | frz (s:Nat) (c:Btx)
 | rfunc (f:Opd) (ps:List Nat) (aS bd:Btx)
 | dead
 deriving Inhabited
def BUx:List Nat→(Env→List Ob→Prop)→Env→List Ob→Prop
 | [],K,e,H=>K e H
 | s::zs,K,e,H=>match get e s with
  | .os k id ver p off n _=>(match H[id]? with
   | some (.obj v x)=>v=ver∧(match Bvs p k off n x with
    | some cs=>BUx zs K ((s,.sl k cs)::e) (H.set id (.gone ver))
    | none=>False)
   | _=>False)
  | _=>False
def er:Btx→Btx
 | .ops l _ => .ops l []
 | .draw n l _ => .draw n l []
 | .opsZ l _ r _ => .ops (l++r) []
 | .pops l _ => .ops l []
 | .pdraw n l _ => .draw n l []
 | .sdraw n l _ => .sdraw n l []
 | .seq a b => .seq (er a) (er b)
 | .cond c a b => .cond c (er a) (er b)
 | .block id c => .block id (er c)
 | .loop _ c => .loop [] (er c)
 | .scope c => .scope (er c)
 | .own _ _ c=>er c
 | .ownB _ _ _ c=>er c
 | .ownT _ _ _ c=>er c
 | .frz _ c=>er c
 | .rfunc f ps aS bd => .rfunc f ps (er aS) (er bd)
 | .skip => .skip
 | .exit id => .exit id
 | .ret => .ret
 | .dead => .dead
def BFW:Code→Bool
 | .seq a b=>BFW a || BFW b
 | .cond _ a b=>BFW a || BFW b
 | .block _ c=>BFW c
 | .loop c=>BFW c
 | .scope c=>BFW c
 | .region _ ops _=>ops.toList.any fun o=>match o.op with | .panic _=>true | .store .. => true | _=>false
 | _=>false
def BX0:List String:=["(*gitlike/pack.reader).number", "(*gitlike/pack.reader).byte", "(*gitlike/pack.reader).head", "(*gitlike/pack.reader).distance", "(*gitlike/pack.reader).entry", "gitlike/stage.put", "gitlike/gitlikeref8.number"]
def BNX (P:Program) (v:VO):Bool:=match v.op with
 | .s (.call f _)=>(match P.funcs[f]? with | some fn=>fn.body.any BFW || BX0.contains fn.name | none=>false)
 | .s (.store _ _ _)=>true
 | _=>false
def nOf (n:Nat):Nat:=n % 10000
def ssN (n:Nat) (l:List VO):SsT:=⟨BSU l,BNl l,decide (10000≤n)⟩
theorem BTM {n:Nat} (h:n<10000):nOf n=n:=Nat.mod_eq_of_lt h
theorem BUe {n:Nat} (h:n<10000):nOf (10000+n)=n:=by unfold nOf; omega
theorem BTW {n:Nat} {l:List VO} (h:n<10000):ssN n l=⟨BSU l,BNl l,false⟩:=by unfold ssN; rw [decide_eq_false (by omega)]
theorem BT8 {n:Nat} {l:List VO}:ssN (10000+n) l=⟨BSU l,BNl l,true⟩:=by unfold ssN; rw [decide_eq_true (by omega)]
def BKN (chk:Nat→Bool) (n:Nat):Option Nat:=(List.range (n+1)).find? fun j=>chk j && decide (j<10000)
theorem BDQ {chk:Nat→Bool} {n j:Nat} (h:BKN chk n=some j):chk j=true∧j<10000:=by
 have:=List.find?_some h
 simpa using this
def BYg (v:VO):Bool:=match v.op with
 | .s (.app _ _ _ _ _)=>true
 | _=>false
def BH8 (P:Program) (ops:List Oper) (l:List VO) (n:Nat):Option Btx:=match (List.range (n+1)).find? (BCz ss0 ops l) with
 | some k=>if (l.take k).any (BNX P) then (match BKN (BCz ⟨BSU l,BNl l,false⟩ ops l) n with
   | some j=>if (l.take j).any (BNX P) then (match BKN (BuQ ⟨BSU l,BNl l,false⟩ ops l) n with
     | some j'=>some (.sdraw j' l [])
     | none=>some (.sdraw j l [])) else some (.sdraw j l [])
   | none=>none) else some (.draw k l [])
 | none=>none
theorem BH1 {P:Program} {ops:List Oper} {l:List VO} {n:Nat} {c:Btx} (h:BH8 P ops l n=some c):∃ k,(c = .draw k l []∧BuQ ss0 ops l k=true)∨(c = .sdraw k l []∧BuQ (ssN k l) ops l (nOf k)=true):=by
 have low:∀ {j},BuQ ⟨BSU l,BNl l,false⟩ ops l j=true→j<10000→BuQ (ssN j l) ops l (nOf j)=true:=fun h1 h2=>by rw [BTW h2,BTM h2]; exact h1
 unfold BH8 at h
 split at h
 ·rename_i k hk
  split at h
  ·split at h
   ·rename_i j hj
    obtain ⟨hj,hj2⟩:=BDQ hj
    split at h
    ·split at h
     ·rename_i j' hj'
      obtain ⟨hj',hj2'⟩:=BDQ hj'
      cases h; exact ⟨j',.inr ⟨rfl,low hj' hj2'⟩⟩
     ·cases h; exact ⟨j,.inr ⟨rfl,low (ByK hj) hj2⟩⟩
    ·cases h; exact ⟨j,.inr ⟨rfl,low (ByK hj) hj2⟩⟩
   ·cases h
  ·cases h; exact ⟨k,.inl ⟨rfl,ByK (List.find?_some hk)⟩⟩
 ·cases h
def BNx (ops:List Oper) (l:List VO) (n:Nat):Option Btx:=(BKN (BCz ⟨BSU l,BNl l,true⟩ ops l) n).map fun j => .sdraw (10000+j) l []
theorem BJx {ops:List Oper} {l:List VO} {n:Nat} {c:Btx} (h:BNx ops l n=some c):∃ k,c = .sdraw k l []∧BuQ (ssN k l) ops l (nOf k)=true:=by
 obtain ⟨j,hj,rfl⟩:=Option.map_eq_some_iff.1 h
 obtain ⟨hj,hj2⟩:=BDQ hj
 exact ⟨10000+j,rfl,by rw [BT8,BUe hj2]; exact ByK hj⟩
def BIa (bz:Bool) (P:Program) (N:Nat) (ops:Array Oper):Option Btx:=match trL bz P N ops.toList ops.toList with
 | some l=>if P.follows .mixedOrders then (if l.any BVK || l.any (BNX P) then (match trL bz P N (BtS ops.toList (BR3 ops.toList l)) (BtS ops.toList (BR3 ops.toList l)) with
   | some l'=>if BA9 (BR3 ops.toList l) ops.toList.length then BH8 P (BtS ops.toList (BR3 ops.toList l)) l' ops.size else none
   | none=>none)
  else (match (List.range (ops.size+1)).find? (BCz ss0 ops.toList l) with
   | some n=>if (l.take n).any BYg then (match trL bz P N (BtS ops.toList (BR3 ops.toList l)) (BtS ops.toList (BR3 ops.toList l)) with
     | some l'=>if BA9 (BR3 ops.toList l) ops.toList.length then (match BNx (BtS ops.toList (BR3 ops.toList l)) l' ops.size with
       | some c=>some c
       | none=>some (.draw n l [])) else some (.draw n l [])
     | none=>some (.draw n l [])) else some (.draw n l [])
   | none=>none)) else none
 | none=>none
theorem BCl {bz:Bool} {P:Program} {N:Nat} {ops:Array Oper} {c:Btx} (h:BIa bz P N ops=some c):(∃ n l,c = .draw n l []∧P.follows .mixedOrders=true ∧
  ((trL bz P N ops.toList ops.toList=some l∧BuQ ss0 ops.toList l n=true)∨∃ π,BA9 π ops.toList.length=true∧trL bz P N (BtS ops.toList π) (BtS ops.toList π)=some l∧BuQ ss0 (BtS ops.toList π) l n=true)) ∨
  ∃ n l,c = .sdraw n l []∧P.follows .mixedOrders=true∧∃ π,BA9 π ops.toList.length=true∧trL bz P N (BtS ops.toList π) (BtS ops.toList π)=some l∧BuQ (ssN n l) (BtS ops.toList π) l (nOf n)=true:=by
 unfold BIa at h
 split at h
 ·rename_i l hl
  split at h
  ·rename_i hm
   split at h
   ·split at h
    ·rename_i l' hl'
     split at h
     ·rename_i hp
      obtain ⟨k,⟨rfl,hk⟩ | ⟨rfl,hk⟩⟩:=BH1 h
      ·exact .inl ⟨k,l',rfl,hm,.inr ⟨_,hp,hl',hk⟩⟩
      ·exact .inr ⟨k,l',rfl,hm,_,hp,hl',hk⟩
     ·cases h
    ·cases h
   ·split at h
    ·rename_i n hn
     have plain:∀ {c:Btx},some (Btx.draw n l [])=some c→_:=fun {c} (h:some (Btx.draw n l [])=some c)=>(Or.inl ⟨n,l,(Option.some.inj h).symm,hm,.inl ⟨hl,ByK (List.find?_some hn)⟩⟩:(∃ n l,c = .draw n l []∧P.follows .mixedOrders=true ∧
  ((trL bz P N ops.toList ops.toList=some l∧BuQ ss0 ops.toList l n=true)∨∃ π,BA9 π ops.toList.length=true∧trL bz P N (BtS ops.toList π) (BtS ops.toList π)=some l∧BuQ ss0 (BtS ops.toList π) l n=true)) ∨
  ∃ n l,c = .sdraw n l []∧P.follows .mixedOrders=true∧∃ π,BA9 π ops.toList.length=true∧trL bz P N (BtS ops.toList π) (BtS ops.toList π)=some l∧BuQ (ssN n l) (BtS ops.toList π) l (nOf n)=true)
     split at h
     ·split at h
      ·rename_i l' hl'
       split at h
       ·rename_i hp
        split at h
        ·rename_i c' hc'
         cases h
         obtain ⟨k,rfl,hk⟩:=BJx hc'
         exact .inr ⟨k,l',rfl,hm,_,hp,hl',hk⟩
        ·exact plain h
       ·exact plain h
      ·exact plain h
     ·exact plain h
    ·cases h
  ·cases h
 ·cases h
def BSl:Btx→Bool
 | .draw n l _=>(l.take n).any fun v=>match v.op with | .s (.bslice _ _ _ _)=>true | _=>false
 | .sdraw n l _=>(l.take (nOf n)).any fun v=>match v.op with | .s (.bslice _ _ _ _)=>true | _=>false
 | _=>false
def BIS (P:Program) (N:Nat) (ops:Array Oper):Option Btx:=match BIa false P N ops with
 | some c=>if BSl c then (match BIa true P N ops with | some c'=>some c' | none=>some c) else some c
 | none=>none
theorem BAy {P:Program} {N:Nat} {ops:Array Oper} {c:Btx} (h:BIS P N ops=some c):∃ bz:Bool,(∃ n l,c = .draw n l []∧P.follows .mixedOrders=true ∧
  ((trL bz P N ops.toList ops.toList=some l∧BuQ ss0 ops.toList l n=true)∨∃ π,BA9 π ops.toList.length=true∧trL bz P N (BtS ops.toList π) (BtS ops.toList π)=some l∧BuQ ss0 (BtS ops.toList π) l n=true)) ∨
  ∃ n l,c = .sdraw n l []∧P.follows .mixedOrders=true∧∃ π,BA9 π ops.toList.length=true∧trL bz P N (BtS ops.toList π) (BtS ops.toList π)=some l∧BuQ (ssN n l) (BtS ops.toList π) l (nOf n)=true:=by
 unfold BIS at h
 split at h
 ·rename_i c1 h1
  split at h
  ·split at h
   ·rename_i c2 h2; cases h; exact ⟨true,BCl h2⟩
   ·cases h; exact ⟨false,BCl h1⟩
  ·cases h; exact ⟨false,BCl h1⟩
 ·cases h
theorem BNL {P:Program} {N:Nat} {ops:Array Oper} {c:Btx} (h:BIS P N ops=some c) (hc:∀ n l,c ≠ .draw n l []) (hc2:∀ n l,c ≠ .sdraw n l []):False:=by
 obtain ⟨bz,⟨n,l,e,_⟩ | ⟨n,l,e,_⟩⟩:=BAy h
 ·exact hc n l e
 ·exact hc2 n l e
def trC (P:Program) (N:Nat):Code→Option Btx
 | .skip=>some .skip
 | .region _ ops false=>some (match trL false P N ops.toList ops.toList with | some l => .ops l [] | none => .dead)
 | .region _ ops true=>some (match BIS P N ops with | some c=>c | none => .dead)
 | .seq a b=>match trC P N a,trC P N b with
  | some a,some b=>some (.seq a b)
  | _,_=>none
 | .cond c a b=>match trC P N a,trC P N b with
  | some a,some b=>some (.cond (trO c) a b)
  | _,_=>none
 | .block id c=>(trC P N c).map (.block id)
 | .loop c=>(trC P N c).map (.loop [])
 | .exit id=>some (.exit id)
 | .scope c=>(trC P N c).map .scope
 | .label _=>some .skip
 | .ret=>some .ret
 | .rangeFunc f ps aS bd=>if ps.toList.all (· < N) then (match trC P N aS,trC P N bd with
  | some aS,some bd=>some (.rfunc (trO f) ps.toList aS bd)
  | _,_=>none) else none
 | _=>some .dead
theorem BQL {P:Program} {N id:Nat} {ops:Array Oper} {c:Btx} (h:trC P N (.region id ops false)=some c):(∃ l,trL false P N ops.toList ops.toList=some l∧c = .ops l [])∨c = .dead:=by
 simp only [trC,Option.some.injEq] at h
 split at h
 ·rename_i l hl; exact .inl ⟨l,hl,h.symm⟩
 ·exact .inr h.symm
theorem BRA {P:Program} {N id:Nat} {ops:Array Oper} {c:Btx} (h:trC P N (.region id ops true)=some c):BIS P N ops=some c∨c = .dead:=by
 simp only [trC,Option.some.injEq] at h
 split at h
 ·rename_i l hl; exact .inl (hl.trans (by rw [h]))
 ·exact .inr h.symm
theorem Bwa {P:Program} {N id:Nat} {ops:Array Oper} {c:Btx} (h:trC P N (.region id ops false)=some c) (hc:∀ l,c ≠ .ops l []) (hd:c ≠ .dead):False:=by
 rcases BQL h with ⟨l,_,e⟩ | e
 ·exact hc l e
 ·exact hd e
theorem Bwc {P:Program} {N id:Nat} {ops:Array Oper} {c:Btx} (h:trC P N (.region id ops true)=some c) (hc:∀ n l,c ≠ .draw n l []) (hc2:∀ n l,c ≠ .sdraw n l []) (hd:c ≠ .dead):False:=by
 rcases BRA h with e | e
 ·exact BNL e hc hc2
 ·exact hd e
def BE4:Btx→Bool
 | .seq a b=>BE4 a && BE4 b
 | .cond _ a b=>BE4 a && BE4 b
 | .block _ c=>BE4 c
 | .loop _ c=>BE4 c
 | .scope c=>BE4 c
 | .own _ _ c=>BE4 c
 | .ownB _ _ _ c=>BE4 c
 | .ownT _ _ _ c=>BE4 c
 | .frz _ c=>BE4 c
 | .rfunc _ _ _ _=>false
 | _=>true
inductive VEx where
 | nor
 | exit (id:Nat)
 | ret
 | pan (u:Value)
def VEx.ex:VEx→Exit
 | .nor => .normal
 | .exit id => .exit id
 | .ret => .ret
 | .pan u => .panic [{ v:=u,recovered:=false }]
mutual
def BwQ (g:Nat):TV→Bool
 | .op id _ _=>decide (id<g)
 | .os _ id _ _ _ _ _=>decide (id<g)
 | .mp id _=>decide (id<g)
 | .yl id _=>decide (id<g)
 | .agg cs=>Bz6 g cs
 | .tup cs=>Bz6 g cs
 | .ifc _ x=>BwQ g x
 | .fn _ a b=>Bz6 g a && Bz6 g b
 | _=>true
def Bz6 (g:Nat):List TV→Bool
 | []=>true
 | x::xs=>BwQ g x && Bz6 g xs
end
def BC2 (g:Nat):Env→Bool
 | []=>true
 | (_,x)::e=>BwQ g x && BC2 g e
def BLp (g:Nat):Ob→Bool
 | .obj _ x=>BwQ g x
 | .ice _ _ x=>BwQ g x
 | .fact id _ _ _=>decide (id<g)
 | .lp _ _ _ _ e _ _ _=>BC2 g e
 | .mpo _ es=>Bz6 g (es.map (·.2))
 | .bld _ _ _=>true
 | .sit _ _=>true
 | .mpd _ zs _=>Bz6 g (zs.map (·.2.2))
 | .mit m _ _=>decide (m<g)
 | .gone _=>true
def BEv (g:Nat):List Ob→Bool
 | []=>true
 | o::H=>BLp g o && BEv g H
def BHq (Q:VEx→Env→List Ob→Prop) (e:Env) (L:Nat):TV→List Ob→Prop:=fun _ H'=>match H'[L]? with
 | some (.lp .ready none fn N e1 ps ca cb)=>Q .nor e (H'.set L (.lp .exhausted none fn N e1 ps ca cb))
 | some (.lp .done (some .ret) fn N e1 ps ca cb)=>Q .ret e (H'.set L (.lp .exhausted (some .ret) fn N e1 ps ca cb))
 | some (.lp .done (some (.exit i)) fn N e1 ps ca cb)=>Q (.exit i) e (H'.set L (.lp .exhausted (some (.exit i)) fn N e1 ps ca cb))
 | _=>False
structure BK7 (P:Program) (N:Nat) (ps:List Nat) (ca cb:Code) (aS bd:Btx):Prop where
 a:trC P N ca=some (er aS)
 b:trC P N cb=some (er bd)
 p:ps.all (· < N)=true
def vwp (P:Program):Btx→(VEx→Env→List Ob→Prop)→Env→List Ob→Prop
 | .ops l kp,Q,e,H=>BFA P l (fun e H=>Q .nor (forget kp e) H) e H
 | .opsZ l zs r kp,Q,e,H=>BFA P l (BUx zs (BFA P r (fun e H=>Q .nor (forget kp e) H))) e H
 | .pops l kp,Q,e,H=>BCO P (fun u H=>Q (.pan u) (BKk l e) H) l (fun e H=>Q .nor (forget kp e) H) e H
 | .pdraw n l kp,Q,e,H=>vq P (l.take n) (fun e=>BCO P (fun u H=>Q (.pan u) [] H) (l.drop n) (fun e H=>Q .nor (forget kp e) H) e H) e H
 | .sdraw n l kp,Q,e,H=>vq P (l.take (nOf n)) (fun e=>BzD (pvopS P (fun u H=>Q (.pan u) [] H) (ssN n l)) (l.drop (nOf n)) (fun e H=>Q .nor (forget kp e) H) e H) e H
 | .draw n l kp,Q,e,H=>vq P (l.take n) (fun e=>BFA P (l.drop n) (fun e H=>Q .nor (forget kp e) H) e H) e H
 | .skip,Q,e,H=>Q .nor e H
 | .seq a b,Q,e,H=>vwp P a (fun x e H=>match x with | .nor=>vwp P b Q e H | .exit i=>Q (.exit i) e H | .ret=>Q .ret e H | .pan u=>Q (.pan u) e H) e H
 | .cond c a b,Q,e,H=>match c.ev e with
  | .val (.bool t)=>if t=true then vwp P a Q e H else vwp P b Q e H
  | _=>False
 | .block id c,Q,e,H=>vwp P c (fun x e H=>match x with | .nor=>Q .nor e H | .exit i=>if i=id then Q .nor e H else Q (.exit i) e H | .ret=>Q .ret e H | .pan u=>Q (.pan u) e H) e H
 | .loop lv c,Q,e,H0=>∃ (I:Nat→Env→List Ob→Prop) (n:Nat),I n (forget lv e) H0 ∧
   ∀ n e H,I n e H→vwp P c (fun x e H=>match x with | .nor=>∃ m g,m<n∧(H0.length≤g∧(H.length≤g∨(BC2 g (forget lv e)=true∧BEv g (H.take g)=true)))∧I m (forget lv e) (H.take g) | .exit i=>Q (.exit i) e H | .ret=>Q .ret e H | .pan u=>Q (.pan u) e H) e H
 | .exit id,Q,e,H=>Q (.exit id) e H
 | .ret,Q,e,H=>Q .ret e H
 | .scope c,Q,e,H=>vwp P c Q e H
 | .dead,_,_,_=>False
 | .own s k c,Q,e,H=>match get e s with
  | .val (.slice none 0 0)=>vwp P c Q ((s,.os k H.length 0 [] 0 0 0)::e) (H++[.obj 0 (.arr 0 k [])])
  | _=>vwp P c Q e H
 | .ownB s p k c,Q,e,H=>match get e s with
  | .op id ver p0=>(match H[id]? with
   | some (.obj v x)=>v=ver∧(match Bzf (p0++p) x with
    | some (.val (.slice none 0 0))=>(match BDZ (p0++p) x (.os k H.length 0 [] 0 0 0) with
     | some x'=>vwp P c Q e (H.set id (.obj ver x')++[.obj 0 (.arr 0 k [])])
     | none=>False)
    | _=>vwp P c Q e H)
   | _=>False)
  | _=>False
 | .ownT s p t c,Q,e,H=>match get e s with
  | .op id ver p0=>(match H[id]? with
   | some (.obj v x)=>v=ver∧(match Bzf (p0++p) x with
    | some (.val (.slice none 0 0))=>(match BDZ (p0++p) x (.os 1 H.length 0 [] 0 0 0) with
     | some x'=>vwp P c Q e (H.set id (.obj ver x')++[.bld 0 t []])
     | none=>False)
    | _=>vwp P c Q e H)
   | _=>False)
  | _=>False
 | .frz s c,Q,e,H=>match get e s with
  | .os k id ver p off n _=>(match H[id]? with
   | some (.obj v x)=>v=ver∧(match Bvs p k off n x with
    | some cs=>vwp P c Q ((s,.sl k cs)::e) (H.set id (.gone ver))
    | none=>False)
   | _=>False)
  | _=>False
 | .rfunc f ps aS bd,Q,e,H=>BE4 aS=true∧BE4 bd=true∧(match f.ev e with
  | .fn (.func g) first caps=>BEV P g=true∧∀ (N:Nat) (fn:FuncId) (ca cb:Code),BK7 P N ps ca cb aS bd→BtJ P g (first++[.yl H.length 0]++caps) (H++[.lp .ready none fn N e ps ca cb]) (BHq Q e H.length)
  | .val (.func (.func g) xs ys)=>(xs.isEmpty && ys.isEmpty)=true∧BEV P g=true∧∀ (N:Nat) (fn:FuncId) (ca cb:Code),BK7 P N ps ca cb aS bd→BtJ P g [.yl H.length 0] (H++[.lp .ready none fn N e ps ca cb]) (BHq Q e H.length)
  | _=>False)
section sound
variable {P:Program}
theorem BET {c:Ctx} {w:World}:∀ {p:List (Nat×Nat)} {x y z x':TV} {us:List Value},BtD c w x us→Bzf p x=some z→(∀ m,BtD c w z m→BtD c w y m)→BDZ p x y=some x'→BtD c w x' us:=by
 intro p x y z x' us h hg hm hs
 obtain ⟨a,m,b,rfl,h1,h2⟩:=BxS h hg
 obtain ⟨a',m',b',e,h3,h4,h5,_⟩:=BB5 h hs (hm m h2)
 have e1:a=a':=by
  have:=congrArg (List.take a.length) e
  rw [List.append_assoc,List.append_assoc,List.take_left] at this
  rw [this,List.take_left' (by omega)]
 subst e1
 rw [List.append_assoc,List.append_assoc] at e
 have e2:=List.append_cancel_left e
 have e3:m=m':=by
  have:=congrArg (List.take m.length) e2
  rw [List.take_left] at this
  rw [this,List.take_left' (by omega)]
 subst e3
 have e4:=List.append_cancel_left e2
 subst e4
 exact h5
theorem Sim.give {β:Nat→Nat→Option (Nat×Nat)} {H:List Ob} {F:Nat→Prop} {w:World} (hs:Sim ⟨β,H,F⟩ w) {k id ver off n cp:Nat} {p:List (Nat×Nat)} {x:TV} {cs:List TV} (hid:H[id]?=some (.obj ver x)) (hcs:Bvs p k off n x=some cs) {us:List Value} (hr:BtD ⟨β,H,F⟩ w (.os k id ver p off n cp) us) :
  BtD ⟨β,H.set id (.gone ver),fun b=>F b∨∃ off,β id ver=some (b,off)⟩ w (.sl k cs) us:=by
 have hm:Bxl (Ctx.bare ⟨β,H,F⟩) w (Ctx.bare ⟨β,H.set id (.gone ver),fun b=>F b∨∃ off,β id ver=some (b,off)⟩) w :=
  ⟨fun b hb=>⟨.inl hb,rfl⟩,fun _ _ k=>(Ctx.bare_has k).elim,fun _ _=>rfl⟩
 rw [BtD] at hr
 obtain ⟨hr1,hr2⟩:=hr
 rcases hr2 with ⟨rfl,a0,hr2,_⟩ | ⟨b0,o0,cap,t0,m0,hr2,hr3,hr4,hr5,hr6,hr7⟩
 ·have:cs=[]:=by
   unfold Bvs at hcs
   split at hcs
   ·split at hcs
    ·cases hcs; simp
    ·cases hcs
   ·cases hcs
  subst this
  rw [BtD]
  exact ⟨by simp,.inl ⟨rfl,a0,0,hr2,by omega⟩⟩
 rcases hs.ob id _ hid with ⟨h0,_⟩ | ⟨b,off',pre,vs,post,t,fr,h0,h1,h2,h3,h4⟩
 ·have h0':β id ver=none:=h0
  have hr2':β id ver=some (b0,o0):=hr2
  rw [h0'] at hr2'; cases hr2'
 have h0':β id ver=some (b,off'):=h0
 have hr2':β id ver=some (b0,o0):=hr2
 rw [h0'] at hr2'
 obtain ⟨rfl,rfl⟩:b=b0∧off'=o0:=by simpa using hr2'
 obtain ⟨a,m,q,rfl,k1,k2,k3,k4⟩:=By9 h4 hcs
 rw [BtD]
 refine ⟨k3,.inr ⟨b,off'+Bu0 p+off*k,cap,m,by rw [k4]; exact hr3,by omega,hr5,.inr ⟨off',h0'⟩,BtE.mono hm k2,?_⟩⟩
 have e:off'+Bu0 p+off*k=pre.length+a.length:=by rw [h3,k1]; omega
 rw [e]; exact BxN h1
theorem BHM {N:Nat} {D:List Deferred}:∀ {zs:List Nat} {K:Env→List Ob→Prop} {e:Env} {H:List Ob} {β:Nat→Nat→Option (Nat×Nat)} {F:Nat→Prop} {w:World} {a:Act},BUx zs K e H→Sim ⟨β,H,F⟩ w→Fr N D ⟨β,H,F⟩ w e a →
  ∃ e' H' F',K e' H'∧Sim ⟨β,H',F'⟩ w∧Fr N D ⟨β,H',F'⟩ w e' a∧BtK ⟨β,H,F⟩ w ⟨β,H',F'⟩ w
 | [],K,e,H,β,F,w,a,h,hs,hf=>⟨e,H,F,h,hs,hf,BtK.refl _ _⟩
 | s::zs,K,e,H,β,F,w,a,h,hs,hf=>by
  rw [BUx] at h
  split at h
  ·rename_i k id ver p off n cp hg
   split at h
   ·rename_i v y hid
    obtain ⟨rfl,h⟩:=h
    split at h
    ·rename_i cs hcs
     obtain ⟨k1,k2⟩:=hs.freeze hid rfl
     have hr:Rep ⟨β,H,F⟩ w (get e s) (a.tmps.getD s undef):=hf.env.1 s
     rw [hg] at hr
     have hr':Rep ⟨β,H.set id (.gone v),fun b=>F b∨∃ off,β id v=some (b,off)⟩ w (.sl k cs) (a.tmps.getD s undef):=by
      rcases hr with (hr | hr | ⟨us,hr,hr2⟩) | ⟨xs,vs,hr,_⟩
      ·cases hr
      ·cases hr
      ·exact .inl (.inr (.inr ⟨us,hs.give hid hcs hr,by rw [hr2]; rfl⟩))
      ·cases hr
     obtain ⟨e',H',F',q1,q2,q3,q4⟩:=BHM h k1 (a:=a) ⟨⟨fun s'=>by
      rw [Buj]
      by_cases hss:s=s'
      ·subst hss; rw [if_pos rfl]; exact hr'
      ·rw [if_neg hss]; exact Rep.mono (k2.mono hs) (hf.env.1 s'),k1.glob⟩,hf.size,hf.defers⟩
     exact ⟨e',H',F',q1,q2,q3,k2.trans q4⟩
    ·exact h.elim
   ·exact h.elim
  ·exact h.elim
theorem BN7 {P:Program} {N:Nat} {all:List Oper}:∀ {os:List Oper} {l1 l2:List VO},trL false P N all os=some (l1++l2)→∃ o1 o2,os=o1++o2∧trL false P N all o1=some l1∧trL false P N all o2=some l2
 | os,[],l2,h=>⟨[],os,rfl,rfl,h⟩
 | [],v::l1,l2,h=>by simp [trL] at h
 | o::os,v::l1,l2,h=>by
  rw [trL] at h
  split at h
  ·rename_i v' g r hv hg hr
   split at h
   ·rename_i hd
    simp only [List.cons_append,Option.some.injEq,List.cons.injEq] at h
    obtain ⟨rfl,rfl⟩:=h
    obtain ⟨o1,o2,rfl,h1,h2⟩:=BN7 hr
    refine ⟨o::o1,o2,rfl,?_,h2⟩
    rw [trL,hv,hg,h1]
    simp [hd]
   ·cases h
  ·cases h
theorem BKH {N:Nat} {D:List Deferred} {ro:Option Nat} {nn:Nat} {all:Array Oper} {os:List Oper} {l1 l2:List VO} {zs:List Nat} (ht:trL false P N all.toList os=some (l1++l2)) {K:Env→List Ob→Prop} {e:Env} {H:List Ob} {β:Nat→Nat→Option (Nat×Nat)} {F:Nat→Prop} {w:World} {a:Act} {QQ:Exit→Act→World→Prop}
  (h:BFA P l1 (BUx zs (BFA P l2 K)) e H) (hs:Sim ⟨β,H,F⟩ w) (hf:Fr N D ⟨β,H,F⟩ w e a)
  (hk:∀ e' H' β' F' w' a',K e' H'→Sim ⟨β',H',F'⟩ w'→Fr N D ⟨β',H',F'⟩ w' e' a'→BtK ⟨β,H,F⟩ w ⟨β',H',F'⟩ w'→QQ .normal a' w'):wpListIn (fz ro) nn P all QQ os a w:=by
 obtain ⟨o1,o2,rfl,h1,h2⟩:=BN7 ht
 refine BGv (BAo.vop (KP:=fun _ _=>False)) h1 h hs hf (fun e' H' β' F' w' a' k1 k2 k3 k4 => ?_) (fun _ _ _ _ _ _ h=>h.elim)
 obtain ⟨e2,H2,F2,q1,q2,q3,q4⟩:=BHM k1 k2 k3
 exact BHE h2 q1 q2 q3 fun e3 H3 β3 F3 w3 a3 m1 m2 m3 m4=>hk e3 H3 β3 F3 w3 a3 m1 m2 m3 ((k4.trans q4).trans m4)
theorem Sim.own {β:Nat→Nat→Option (Nat×Nat)} {H:List Ob} {F:Nat→Prop} {w:World} (hs:Sim ⟨β,H,F⟩ w) (k:Nat) :
  Sim ⟨upd β H.length 0 none,H++[.obj 0 (.arr 0 k [])],F⟩ w∧BtK ⟨β,H,F⟩ w ⟨upd β H.length 0 none,H++[.obj 0 (.arr 0 k [])],F⟩ w ∧
   BtD ⟨upd β H.length 0 none,H++[.obj 0 (.arr 0 k [])],F⟩ w (.os k H.length 0 [] 0 0 0) [.slice none 0 0]:=by
 obtain ⟨k1,k2⟩:=hs.newNone (x := .arr 0 k []) (by rw [BtD]; exact ⟨rfl,by simp,by rw [BtE]⟩)
 exact ⟨k1,k2,by rw [BtD]; exact ⟨Bwm _ _ _ _ _ (Nat.le_refl _),.inl ⟨rfl,none,rfl,rfl,fun _ h=>by cases h⟩⟩⟩
theorem Sim.ownBld {β:Nat→Nat→Option (Nat×Nat)} {H:List Ob} {F:Nat→Prop} {w:World} (hs:Sim ⟨β,H,F⟩ w) (t:TypeId) :
  Sim ⟨upd β H.length 0 none,H++[.bld 0 t []],F⟩ w∧BtK ⟨β,H,F⟩ w ⟨upd β H.length 0 none,H++[.bld 0 t []],F⟩ w ∧
   BtD ⟨upd β H.length 0 none,H++[.bld 0 t []],F⟩ w (.os 1 H.length 0 [] 0 0 0) [.slice none 0 0]:=by
 obtain ⟨k1,k2⟩:=hs.new (.bld 0 t []) rfl none (w':=w) (fun b off e=>by cases e) rfl rfl rfl (Nat.le_refl _) (fun b hb=>rfl) fun hm => .inl ⟨BtN,rfl⟩
 exact ⟨k1,k2,by rw [BtD]; exact ⟨Bwm _ _ _ _ _ (Nat.le_refl _),.inl ⟨rfl,none,rfl,rfl,fun _ h=>by cases h⟩⟩⟩
def Ctx.cut (c:Ctx) (g:Nat):Ctx:=⟨c.β,c.H.take g,c.F⟩
theorem Ctx.cut_has {c:Ctx} {g id ver:Nat} (h:c.has id ver) (hg:id<g):(c.cut g).has id ver:=by
 obtain ⟨o,h1,h2⟩:=h
 exact ⟨o,by show (c.H.take g)[id]?=some o; rw [List.getElem?_take,if_pos hg]; exact h1,h2⟩
theorem Ctx.cut_get {c:Ctx} {g id:Nat} {o:Ob} (h:(c.cut g).H[id]?=some o):id<g∧c.H[id]?=some o:=by
 have h':(c.H.take g)[id]?=some o:=h
 rw [List.getElem?_take] at h'
 split at h'
 ·exact ⟨‹_›,h'⟩
 ·cases h'
mutual
theorem BtD.cut {c:Ctx} {w:World} {g:Nat}:∀ {x:TV} {us:List Value},BwQ g x=true→BtD c w x us→BtD (c.cut g) w x us
 | .val y,us,hf,hr=>by rw [BtD] at hr ⊢; exact hr
 | .any,us,hf,hr=>by rw [BtD] at hr ⊢; exact hr
 | .sl k cs,us,hf,hr=>by rw [BtD] at hr ⊢; exact hr
 | .fp x,us,hf,hr=>by rw [BtD] at hr ⊢; exact hr
 | .arr n k cs,us,hf,hr=>by rw [BtD] at hr ⊢; exact hr
 | .op id ver p,us,hf,hr=>by
  rw [BwQ,decide_eq_true_eq] at hf; rw [BtD] at hr ⊢; exact ⟨Ctx.cut_has hr.1 hf,hr.2⟩
 | .os k id ver p off n cp,us,hf,hr=>by
  rw [BwQ,decide_eq_true_eq] at hf; rw [BtD] at hr ⊢; exact ⟨Ctx.cut_has hr.1 hf,hr.2⟩
 | .mp id ver,us,hf,hr=>by
  rw [BwQ,decide_eq_true_eq] at hf; rw [BtD] at hr ⊢; exact ⟨Ctx.cut_has hr.1 hf,hr.2⟩
 | .yl id ver,us,hf,hr=>by
  rw [BwQ,decide_eq_true_eq] at hf; rw [BtD] at hr ⊢; exact ⟨Ctx.cut_has hr.1 hf,hr.2⟩
 | .agg cs,us,hf,hr=>by rw [BwQ] at hf; rw [BtD] at hr ⊢; exact BtE.cut hf hr
 | .tup cs,us,hf,hr=>by rw [BtD] at hr; exact hr.elim
 | .ifc t x,us,hf,hr=>by
  rw [BwQ] at hf; rw [BtD] at hr ⊢
  obtain ⟨u,h1,vs,h2,h3⟩:=hr
  exact ⟨u,h1,vs,BtD.cut hf h2,h3⟩
 | .fn f a b,us,hf,hr=>by
  rw [BwQ,Bool.and_eq_true] at hf; rw [BtD] at hr ⊢
  obtain ⟨aS,bs,h1,h2,h3⟩:=hr
  exact ⟨aS,bs,h1,BtY.cut hf.1 h2,BtY.cut hf.2 h3⟩
theorem BtE.cut {c:Ctx} {w:World} {g:Nat}:∀ {xs:List TV} {us:List Value},Bz6 g xs=true→BtE c w xs us→BtE (c.cut g) w xs us
 | [],us,hf,hr=>by rw [BtE] at hr ⊢; exact hr
 | x::xs,us,hf,hr=>by
  rw [Bz6,Bool.and_eq_true] at hf; rw [BtE] at hr ⊢
  obtain ⟨a,b,h1,h2,h3⟩:=hr
  exact ⟨a,b,h1,BtD.cut hf.1 h2,BtE.cut hf.2 h3⟩
theorem BtY.cut {c:Ctx} {w:World} {g:Nat}:∀ {xs:List TV} {us:List Value},Bz6 g xs=true→BtY c w xs us→BtY (c.cut g) w xs us
 | [],us,hf,hr=>by rw [BtY] at hr ⊢; exact hr
 | x::xs,us,hf,hr=>by
  rw [Bz6,Bool.and_eq_true] at hf; rw [BtY] at hr ⊢
  obtain ⟨u,us,h1,h2,h3⟩:=hr
  refine ⟨u,us,h1,?_,BtY.cut hf.2 h3⟩
  rcases h2 with h2 | h2 | ⟨aS,h2,h4⟩
  ·exact .inl h2
  ·exact .inr (.inl h2)
  ·exact .inr (.inr ⟨aS,BtD.cut hf.1 h2,h4⟩)
end
theorem Rep.cut {c:Ctx} {w:World} {g:Nat} {x:TV} {v:Value} (hf:BwQ g x=true) (hr:Rep c w x v):Rep (c.cut g) w x v:=by
 rcases hr with (h | h | ⟨us,h,h'⟩) | ⟨xs,vs,rfl,h2,h3⟩
 ·exact .inl (.inl h)
 ·exact .inl (.inr (.inl h))
 ·exact .inl (.inr (.inr ⟨us,BtD.cut hf h,h'⟩))
 ·rw [BwQ] at hf; exact .inr ⟨xs,vs,rfl,h2,BtY.cut hf h3⟩
theorem BFq {g:Nat}:∀ {e:Env},BC2 g e=true→∀ s,BwQ g (get e s)=true
 | [],_,s=>rfl
 | (k,x)::e,h,s=>by
  rw [BC2,Bool.and_eq_true] at h
  rw [Buj]
  split
  ·exact h.1
  ·exact BFq h.2 s
theorem BHH {g:Nat}:∀ {H:List Ob},BEv g H=true→∀ (i:Nat) (o:Ob),H[i]?=some o→BLp g o=true
 | [],_,i,o,h=>by simp at h
 | o::H,h,i,o',hi=>by
  rw [BEv,Bool.and_eq_true] at h
  cases i with
  | zero=>simp at hi; subst hi; exact h.1
  | succ i=>exact BHH h.2 i o' (by simpa using hi)
theorem BtQ.cut {c:Ctx} {w:World} {g:Nat} {kk:MK}:∀ {es:List (List UInt8×TV)} {ms:List MapEntry},Bz6 g (es.map (·.2))=true→BtQ c w kk es ms→BtQ (c.cut g) w kk es ms
 | [],ms,_,h=>h
 | (k,x)::es,ms,hb,h=>by
  rw [List.map_cons,Bz6,Bool.and_eq_true] at hb
  obtain ⟨m,r,rfl,h1,h2,h3⟩:=h
  exact ⟨m,r,rfl,h1,⟨BtD.cut hb.1 h2.1,h2.2⟩,BtQ.cut hb.2 h3⟩
theorem Sim.cut {c:Ctx} {w:World} {g:Nat} (hs:Sim c w) (hg:BEv g (c.H.take g)=true):Sim (c.cut g) w:=by
 have hown:∀ b,(c.cut g).own b→c.own b:=by
  rintro b ⟨i,o,off,h1,h2,h3⟩
  exact ⟨i,o,off,(Ctx.cut_get h1).2,h2,h3⟩
 refine ⟨fun id o ho => ?_,fun i j x y b o o' hx hy hlx hly e e'=>hs.inj i j x y b o o' (Ctx.cut_get hx).2 (Ctx.cut_get hy).2 hlx hly e e',fun b hb=>hs.apart b (hown b hb),hs.lt,hs.glob⟩
 have h1:=hs.ob id o (Ctx.cut_get ho).2
 have hb:=BHH hg id o ho
 cases o with
 | gone v=>trivial
 | ice v m x =>
  obtain ⟨b,off,pre,vs,post,t,fr,h0,h1,h2,h3,h4⟩:=h1
  exact ⟨b,off,pre,vs,post,t,fr,h0,h1,h2,h3,BtD.cut hb h4⟩
 | bld v t l=>exact h1
 | fact i v t m =>
  obtain ⟨h0,h2⟩:=h1
  exact ⟨Ctx.cut_has h0 (by simpa [BLp] using hb),h2⟩
 | lp st pend fn N en ps ca cb =>
  obtain ⟨b,tmps,D,h0,h1,h2,h3⟩:=h1
  exact ⟨b,tmps,D,h0,h1,h2,fun s=>Rep.cut (BFq hb s) (h3 s)⟩
 | mpo kk es =>
  obtain ⟨b,ms,cl,h0,h1,h2,h3⟩:=h1
  exact ⟨b,ms,cl,h0,h1,BtQ.cut hb h2,h3⟩
 | sit s pos=>exact h1
 | mpd kk zs cl =>
  obtain ⟨b,ms,h0,h1,h2,h3⟩:=h1
  exact ⟨b,ms,h0,h1,BtQ.cut (by rw [List.map_map]; exact hb) h2,h3⟩
 | mit m sn cl =>
  obtain ⟨r,b,h0,⟨g0,g1⟩,h1⟩:=h1
  exact ⟨r,b,h0,⟨Ctx.cut_has g0 (by simpa [BLp] using hb),g1⟩,h1⟩
 | obj v x =>
  rcases h1 with ⟨h0,h4⟩ | ⟨b,off,pre,vs,post,t,fr,h0,h1,h2,h3,h4⟩
  ·exact .inl ⟨h0,BtD.cut hb h4⟩
  ·exact .inr ⟨b,off,pre,vs,post,t,fr,h0,h1,h2,h3,BtD.cut hb h4⟩
theorem BtK.cut {c0 c:Ctx} {w0 w:World} {g:Nat} (hl:BtK c0 w0 c w) (hg:c0.H.length≤g):BtK c0 w0 (c.cut g) w :=
 ⟨hl.os,hl.tape,hl.output,hl.size,fun id ver h=>by
  obtain ⟨h1,h2⟩:=hl.has id ver h
  exact ⟨Ctx.cut_has h1 (Nat.lt_of_lt_of_le (Ctx.has_lt h) hg),h2⟩,hl.shape,hl.same,hl.keepF,hl.oldF,fun b hb ⟨i,o,off,h1,h2,h3⟩=>hl.oldOwn b hb ⟨i,o,off,(Ctx.cut_get h1).2,h2,h3⟩⟩
def By4 (D0:List Deferred) (B:Nat) (c:Ctx) (w:World) (D:List Deferred):Prop:=∃ ds:List Nat,D=ds.map (fun r=>{ target := .collected r,args := #[] })++D0∧ds.Nodup∧∀ r∈ds,B≤r∧r<w.heap.size∧¬ c.own r∧¬ c.F r∧w.heap[r]?=some (.deferred (some []))
theorem By4.nil {D0:List Deferred} {B:Nat} {c:Ctx} {w:World}:By4 D0 B c w D0:=⟨[],rfl,List.nodup_nil,fun r h=>by cases h⟩
theorem By4.later {D0:List Deferred} {B:Nat} {c c':Ctx} {w w':World} {D:List Deferred} (h:By4 D0 B c w D) (hl:BtK c w c' w'):By4 D0 B c' w' D:=by
 obtain ⟨ds,h1,h2,h3⟩:=h
 refine ⟨ds,h1,h2,fun r hr => ?_⟩
 obtain ⟨k1,k2,k3,k4,k5⟩:=h3 r hr
 exact ⟨k1,Nat.lt_of_lt_of_le k2 hl.size,fun h=>k3 (hl.oldOwn r k2 h),fun h=>(hl.oldF r k2 h).elim k4 k3,(hl.same r k2 k3).trans k5⟩
theorem By4.cut {D0:List Deferred} {B g:Nat} {c:Ctx} {w:World} {D:List Deferred} (h:By4 D0 B c w D):By4 D0 B (c.cut g) w D:=by
 obtain ⟨ds,h1,h2,h3⟩:=h
 refine ⟨ds,h1,h2,fun r hr => ?_⟩
 obtain ⟨k1,k2,k3,k4,k5⟩:=h3 r hr
 exact ⟨k1,k2,fun ⟨i,o,off,h1,h2,h3⟩=>k3 ⟨i,o,off,(Ctx.cut_get h1).2,h2,h3⟩,k4,k5⟩
theorem BBJ (w:World) (r:Nat) (o:Obj):(w.putObj r o).os=w.os∧(w.putObj r o).tape=w.tape∧(w.putObj r o).output=w.output∧(w.putObj r o).heap.size=w.heap.size:=⟨rfl,rfl,rfl,by simp [World.putObj]⟩
theorem BHQ {w:World} {b:Nat} {r:Loop} (h:w.heap[b]?=some (.loop r)):w.shape? b=none:=by simp [World.shape?,h]
theorem Sim.loopTurn {β:Nat→Nat→Option (Nat×Nat)} {H:List Ob} {F:Nat→Prop} {w:World} (hs:Sim ⟨β,H,F⟩ w) {id N:Nat} {fn:FuncId} {e:Env} {ps:List Nat} {ca cb:Code} {st st':LoopState} {pe pe':Option Code}
  (ho:H[id]?=some (.lp st pe fn N e ps ca cb)):∃ (b:Nat) (r:Loop),β id 0=some (b,0)∧w.heap[b]?=some (.loop r)∧r.state=st∧r.pending=pe∧r.fn=fn∧r.tmps.size=N∧r.params=ps.toArray∧r.assign=ca∧r.body=cb∧(∀ s,Rep ⟨β,H,F⟩ w (get e s) (r.tmps.getD s undef)) ∧
   Sim ⟨β,H.set id (.lp st' pe' fn N e ps ca cb),F⟩ (w.putObj b (.loop { r with state:=st',pending:=pe' })) ∧
   BtK ⟨β,H,F⟩ w ⟨β,H.set id (.lp st' pe' fn N e ps ca cb),F⟩ (w.putObj b (.loop { r with state:=st',pending:=pe' })):=by
 obtain ⟨b,tmps,D,h1,h2,h3,h4⟩:=hs.ob id _ ho
 have hlt:b<w.heap.size:=(Array.getElem?_eq_some_iff.1 h2).1
 have hid:id<H.length:=(List.getElem?_eq_some_iff.1 ho).1
 have hput:=World.putObj_heap_same (w:=w) (o := .loop { state:=st',pending:=pe',fn:=fn,tmps:=tmps,params:=ps.toArray,assign:=ca,body:=cb,defers:=D }) hlt
 obtain ⟨k1,k2⟩:=hs.turn (β':=β) (w':=w.putObj b (.loop { state:=st',pending:=pe',fn:=fn,tmps:=tmps,params:=ps.toArray,assign:=ca,body:=cb,defers:=D })) ho (o' := .lp st' pe' fn N e ps ca cb) rfl rfl (Nat.le_refl _) (fun _ _ _=>rfl) (fun b' off hb => .inl ⟨off,hb⟩) rfl rfl rfl
  (by rw [(BBJ _ _ _).2.2.2]; exact Nat.le_refl _) (fun b' hb'=>by
   by_cases hbb:b'=b
   ·subst hbb; rw [BHQ h2,BHQ hput]
   ·exact Bt7 (World.putObj_heap_other hbb)) (fun b' hb' hne=>World.putObj_heap_other (fun e=>hne 0 (by subst e; exact h1)))
  (fun hm=>⟨b,tmps,D,h1,hput,h3,fun s=>Rep.mono hm (h4 s)⟩)
 exact ⟨b,{ state:=st,pending:=pe,fn:=fn,tmps:=tmps,params:=ps.toArray,assign:=ca,body:=cb,defers:=D },h1,h2,rfl,rfl,rfl,h3,rfl,rfl,rfl,h4,k1,k2⟩
theorem BG1 {N nn:Nat} {f0:Operand} {ps0:Array Tmp} {ca cb:Code} {Q:VEx→Env→List Ob→Prop} {e:Env} {H:List Ob} {β:Nat→Nat→Option (Nat×Nat)} {F:Nat→Prop} {w:World} {a:Act} {QQ:Exit→Act→World→Prop} {B:Nat} {D D0:List Deferred}
  (hs:Sim ⟨β,H,F⟩ w) (hf:Fr N D ⟨β,H,F⟩ w e a) (hm:By4 D0 B ⟨β,H,F⟩ w D) (hB:B≤w.heap.size) {g:FuncId} {us vs:List Value} {first caps:List TV} (hv:a.eval f0 = .func (.func g) us.toArray vs.toArray) (hgo:BEV P g=true) (hfi:BtY ⟨β,H,F⟩ w first us) (hc:BtY ⟨β,H,F⟩ w caps vs)
  (h:∀ fn,BtJ P g (first++[.yl H.length 0]++caps) (H++[.lp .ready none fn N e ps0.toList ca cb]) (BHq Q e H.length))
  (hk:∀ x e' H' β' F' w' a' D',Q x e' H'→Sim ⟨β',H',F'⟩ w'→Fr N D' ⟨β',H',F'⟩ w' e' a'→By4 D0 B ⟨β',H',F'⟩ w' D'→BtK ⟨β,H,F⟩ w ⟨β',H',F'⟩ w'→QQ x.ex a' w'):(Code.rangeFunc f0 ps0 ca cb).wpIn (fz none) nn P QQ a w:=by
 refine wpIn_rangeFunc ?_
 intro fn hfn
 obtain ⟨rec,hrec⟩:∃ rec:Loop,rec={ state := .ready,pending:=none,fn:=fn,tmps:=a.tmps,params:=ps0,assign:=ca,body:=cb,defers:=w.heap.size }:=⟨_,rfl⟩
 obtain ⟨W1,hW1⟩:∃ W1,(w.alloc (.deferred (some []))).alloc (.loop rec)=W1:=⟨_,rfl⟩
 have hL1:W1.heap[w.heap.size+1]?=some (.loop rec):=by
  rw [←hW1]; have:=World.alloc_heap_new (w.alloc (.deferred (some []))) (.loop rec); rwa [World.size_alloc] at this
 have hK1:W1.heap[w.heap.size]?=some (.deferred (some [])):=by
  rw [←hW1]; exact (Below.heap_alloc _ _ _ (by simp)).trans (World.alloc_heap_new w _)
 have hsz:W1.heap.size=w.heap.size+2:=by rw [←hW1]; simp
 have hold:∀ b,b<w.heap.size→W1.heap[b]?=w.heap[b]?:=fun b hb=>by
  rw [←hW1]; exact (Below.heap_alloc _ _ _ (by simp; omega)).trans (Below.heap_alloc _ _ _ hb)
 obtain ⟨k1,k2⟩:=hs.new (w':=W1) (.lp .ready none fn N e ps0.toList ca cb) rfl (some (w.heap.size+1,0)) (fun b off h=>by simp at h; omega) (by rw [←hW1]; rfl) (by rw [←hW1]; rfl) (by rw [←hW1]; rfl) (by omega) hold
  (fun hmo=>⟨w.heap.size+1,a.tmps,w.heap.size,BtN,by rw [hL1,hrec],hf.size,fun s=>Rep.mono hmo (hf.env.1 s)⟩)
 have hmo:=k2.mono hs
 have hown1:∀ b,Ctx.own ⟨upd β H.length 0 (some (w.heap.size+1,0)),H++[.lp .ready none fn N e ps0.toList ca cb],F⟩ b→b≠w.heap.size:=by
  rintro b ⟨i,o,off,h1,h2,h3⟩ rfl
  by_cases hi:i<H.length
  ·rw [List.getElem?_append_left hi] at h1
   have h3':β i o.ver=some (w.heap.size,off):=by
    have h3:upd β H.length 0 (some (w.heap.size+1,0)) i o.ver=some (w.heap.size,off):=h3
    rw [BBG (fun h=>by omega)] at h3; exact h3
   have:=hs.own_lt ⟨i,o,off,h1,h2,h3'⟩
   omega
  ·have hil:i=H.length:=by
    have:=(List.getElem?_eq_some_iff.1 h1).1
    simp at this; omega
   subst hil
   simp at h1
   subst h1
   have h3:upd β H.length 0 (some (w.heap.size+1,0)) H.length 0=some (w.heap.size,off):=h3
   rw [BtN] at h3
   simp at h3
 refine ⟨w.heap.size+1,[{ target := .collected w.heap.size,args := #[] }],W1,{ target := .fn (.func g) vs.toArray,args:=us.toArray ++ #[.func (.yield (w.heap.size+1)) #[] #[]] },W1,g,us.toArray ++ #[.func (.yield (w.heap.size+1)) #[] #[]]++vs.toArray,W1,?_,?_,?_,?_,?_,?_⟩
 ·rw [←hW1,hrec]; exact run_enterLoop_outer _ _ _ _ _
 ·simp only [resolve,hv]
  simp [go_sem]
 ·intro f' hf'; trivial
 ·simp only [invoke,Bwd hgo]
 ·intro h; simp [fz,Fence.wide] at h
 ·refine (callsIn_wide (n:=nn - 1)).2 ?_
  have hargs:BtY ⟨upd β H.length 0 (some (w.heap.size+1,0)),H++[.lp .ready none fn N e ps0.toList ca cb],F⟩ W1 (first++[.yl H.length 0]++caps) (us++[.func (.yield (w.heap.size+1)) #[] #[]]++vs):=by
   refine BtY.append (BtY.append (BtY.mono hmo hfi) (BtY.cons.2 ⟨_,[],rfl,.inr (.inr ⟨[.func (.yield (w.heap.size+1)) #[] #[]],?_,rfl⟩),by rw [BtY]⟩)) (BtY.mono hmo hc)
   rw [BtD]
   exact ⟨Bwm _ _ _ _ _ (Nat.le_refl _),_,_,BtN,rfl⟩
  have hcall:=h fn _ _ W1 _ k1 hargs
  rw [show (us++[Value.func (.yield (w.heap.size+1)) #[] #[]]++vs).toArray=us.toArray ++ #[.func (.yield (w.heap.size+1)) #[] #[]]++vs.toArray from by simp] at hcall
  refine hcall.mono ?_
  rintro _ w3 ⟨v,x,β',H',F',rfl,hR,hs',hl',hx⟩
  have hmk:By4 D0 B ⟨β',H',F'⟩ w3 ({ target := .collected w.heap.size,args := #[] }::D):=by
   have h1:By4 D0 B ⟨upd β H.length 0 (some (w.heap.size+1,0)),H++[.lp .ready none fn N e ps0.toList ca cb],F⟩ W1 ({ target := .collected w.heap.size,args := #[] }::D):=by
    obtain ⟨ds,d1,d2,d3⟩:=hm.later k2
    refine ⟨w.heap.size::ds,by rw [d1]; rfl,List.nodup_cons.2 ⟨fun hin => ?_,d2⟩,fun r hr => ?_⟩
    ·obtain ⟨ds',e1,e2,e3⟩:=hm
     have:ds'=ds:=by
      have:ds'.map (fun r=>({ target := .collected r,args := #[] }:Deferred))=ds.map (fun r=>{ target := .collected r,args := #[] }):=List.append_cancel_right (e1.symm.trans d1)
      exact (List.map_inj_right (fun a b h=>by simpa using h)).1 this
     rw [←this] at hin
     have:=(e3 _ hin).2.1
     omega
    ·rcases List.mem_cons.1 hr with rfl | hr
     ·exact ⟨hB,by omega,fun ho=>hown1 _ ho rfl,fun hF=>absurd (hs.lt _ hF) (by omega),hK1⟩
     ·exact d3 r hr
   exact h1.later hl'
  have fin:∀ (st:LoopState) (pe:Option Code) (fn':FuncId) (N':Nat) (e1:Env) (ps1:List Nat) (c1 c2:Code),st ≠ .busy→H'[H.length]?=some (.lp st pe fn' N' e1 ps1 c1 c2) →
    ∃ w4,(Instr.endLoop (w.heap.size+1)).run P w3 = .ok pe w4∧Sim ⟨β',H'.set H.length (.lp .exhausted pe fn' N' e1 ps1 c1 c2),F'⟩ w4∧BtK ⟨β',H',F'⟩ w3 ⟨β',H'.set H.length (.lp .exhausted pe fn' N' e1 ps1 c1 c2),F'⟩ w4:=by
   intro st pe fn' N' e1 ps1 c1 c2 hst hob
   obtain ⟨b,r,r1,r2,r3,r4,_,_,_,_,_,_,r5,r6⟩:=hs'.loopTurn (st' := .exhausted) (pe':=pe) hob
   have hβ:β' H.length 0=some (w.heap.size+1,0):=((hl'.has H.length 0 (Bwm _ _ _ _ _ (Nat.le_refl _))).2).trans BtN
   rw [hβ] at r1
   obtain ⟨rfl,_⟩:w.heap.size+1=b∧True:=by simpa using r1
   subst r4
   exact ⟨_,run_endLoop (P:=P) r2 (by rw [r3]; exact hst),r5,r6⟩
  have hfr:∀ {c:Ctx} {w4:World},BtK ⟨β,H,F⟩ w c w4→Bz2 c.F w4→Fr N ({ target := .collected w.heap.size,args := #[] }::D) c w4 e { a with defers:={ target := .collected w.heap.size,args := #[] }::a.defers }:=fun {c w4} hl hgl =>
   ⟨⟨fun s=>Rep.mono (hl.mono hs) (hf.env.1 s),hgl⟩,hf.size,by rw [hf.defers]⟩
  unfold BHq at hR
  simp only [rangePost]
  split at hR
  ·rename_i hob
   obtain ⟨w4,e1,e2,e3⟩:=fin .ready none _ _ _ _ _ _ (by simp) hob
   exact ⟨none,w4,e1,hk .nor _ _ _ _ _ _ _ hR e2 (hfr ((k2.trans hl').trans e3) e2.glob) (hmk.later e3) ((k2.trans hl').trans e3)⟩
  ·rename_i hob
   obtain ⟨w4,e1,e2,e3⟩:=fin .done (some .ret) _ _ _ _ _ _ (by simp) hob
   exact ⟨some .ret,w4,e1,wpIn_ret (hk .ret _ _ _ _ _ _ _ hR e2 (hfr ((k2.trans hl').trans e3) e2.glob) (hmk.later e3) ((k2.trans hl').trans e3))⟩
  ·rename_i i _ _ _ _ _ _ hob
   obtain ⟨w4,e1,e2,e3⟩:=fin .done (some (.exit _)) _ _ _ _ _ _ (by simp) hob
   exact ⟨some (.exit _),w4,e1,wpIn_exit (hk (.exit _) _ _ _ _ _ _ _ hR e2 (hfr ((k2.trans hl').trans e3) e2.glob) (hmk.later e3) ((k2.trans hl').trans e3))⟩
  ·exact hR.elim
theorem Bwu {b:Frame} {a:Act} {k:List Item} {cs:List Frame} {w:World} {c:Code}:step P (lone (b.atR a (.code (.scope c)::k)) cs w) = .next (lone (b.atR a (.code c :: .inScope c::k)) cs w) :=
 step_lone_go (by simp [stepG,stepG.exec,Frame.atR])
theorem BHm {b:Frame} {a:Act} {k:List Item} {cs:List Frame} {w:World} {c:Code}:step P (lone (b.atR a (.inScope c::k)) cs w) = .next (lone (b.atR a k) cs w) :=
 step_lone_go (by simp [stepG,stepG.exec,Frame.atR])
theorem BKn {F:Fence} {n:Nat} {Q:Exit→Act→World→Prop} {a:Act} {w:World} {c:Code} (h:c.wpIn F n P (Exit.noGoto Q) a w):(Code.scope c).wpIn F n P Q a w:=by
 intro b k cs hro hb hr
 have h0:(lone (b.atR a (.code (.scope c)::k)) cs w).fenced P F:=fenced_calm hb hr rfl
 obtain ⟨e,a₁,w₁,hq,harr⟩:=h b (.inScope c::k) cs hro hb hr
 cases e with
 | normal=>exact ⟨.normal,a₁,w₁,hq,.head h0 Bwu (StepsIn.trans harr (.one (fenced_calm hb hr rfl) BHm))⟩
 | exit id' =>
  have hx:exitTo id' (.inScope c::k)=exitTo id' k:=by simp [exitTo]
  exact ⟨.exit id',a₁,w₁,hq,fun k' hk => .head h0 Bwu (harr.1 k' (by rw [hx]; exact hk)),fun hr' hk=>let ⟨k₁,h1,h2⟩:=harr.2 hr' (by rw [hx]; exact hk); ⟨k₁,h1,.head h0 Bwu h2⟩⟩
 | goto l=>exact hq.elim
 | ret=>exact ⟨_,a₁,w₁,hq,.of_steps (.one h0 Bwu) harr⟩
 | panic ch=>exact ⟨_,a₁,w₁,hq,.of_steps (.one h0 Bwu) harr⟩
 | outgrown=>exact ⟨_,a₁,w₁,hq,.of_steps (.one h0 Bwu) harr⟩
theorem BEJ {N:Nat} {ro:Option Nat} {nn:Nat}:∀ (vc:Btx) {code:Code},(ro=none∨BE4 vc=true)→trC P N code=some (er vc)→∀ {Q:VEx→Env→List Ob→Prop} {e:Env} {H:List Ob} {β:Nat→Nat→Option (Nat×Nat)} {F:Nat→Prop} {w:World} {a:Act} {QQ:Exit→Act→World→Prop} {B:Nat} {D D0:List Deferred},vwp P vc Q e H→Sim ⟨β,H,F⟩ w→Fr N D ⟨β,H,F⟩ w e a→By4 D0 B ⟨β,H,F⟩ w D→B≤w.heap.size →
  (∀ x e' H' β' F' w' a' D',Q x e' H'→Sim ⟨β',H',F'⟩ w'→Fr N D' ⟨β',H',F'⟩ w' e' a'→By4 D0 B ⟨β',H',F'⟩ w' D'→BtK ⟨β,H,F⟩ w ⟨β',H',F'⟩ w'→QQ x.ex a' w')→code.wpIn (fz ro) nn P QQ a w:=by
 intro vc
 have inv:∀ {code:Code} {v:Btx},trC P N code=some v→True:=fun _=>trivial
 induction vc with
 | ops l kp =>
  intro code hrf ht Q e H β F w a QQ B D D0 h hs hf hm hB hk
  rw [er] at ht
  cases code with
  | region id ops d =>
   cases d with
   | true=>exact (Bwc ht (by simp) (by simp) (by simp)).elim
   | false =>
    obtain ⟨l',hl,e9⟩:=(BQL ht).resolve_right (by simp)
    simp only [Btx.ops.injEq,and_true] at e9
    subst e9
    rw [vwp] at h
    exact wpIn_region_list (BHE hl h hs hf fun e' H' β' F' w' a' k1 k2 k3 k4=>hk .nor _ _ _ _ _ _ _ k1 k2 (k3.forget kp) (hm.later k4) k4)
  | seq x y=>simp only [trC] at ht; split at ht<;>simp at ht
  | cond c x y=>simp only [trC] at ht; split at ht<;>simp at ht
  | rangeFunc f ps x y=>simp only [trC] at ht; split at ht<;>(try split at ht)<;>simp at ht
  | _=>simp [trC] at ht
 | opsZ l zs r kp =>
  intro code hrf ht Q e H β F w a QQ B D D0 h hs hf hm hB hk
  rw [er] at ht
  cases code with
  | region id ops d =>
   cases d with
   | true=>exact (Bwc ht (by simp) (by simp) (by simp)).elim
   | false =>
    obtain ⟨l',hl,e9⟩:=(BQL ht).resolve_right (by simp)
    simp only [Btx.ops.injEq,and_true] at e9
    subst e9
    rw [vwp] at h
    exact wpIn_region_list (BKH hl h hs hf fun e' H' β' F' w' a' k1 k2 k3 k4=>hk .nor _ _ _ _ _ _ _ k1 k2 (k3.forget kp) (hm.later k4) k4)
  | seq x y=>simp only [trC] at ht; split at ht<;>simp at ht
  | cond c x y=>simp only [trC] at ht; split at ht<;>simp at ht
  | rangeFunc f ps x y=>simp only [trC] at ht; split at ht<;>(try split at ht)<;>simp at ht
  | _=>simp [trC] at ht
 | pops l kp =>
  intro code hrf ht Q e H β F w a QQ B D D0 h hs hf hm hB hk
  rw [er] at ht
  cases code with
  | region id ops d =>
   cases d with
   | true=>exact (Bwc ht (by simp) (by simp) (by simp)).elim
   | false =>
    obtain ⟨l',hl,e9⟩:=(BQL ht).resolve_right (by simp)
    simp only [Btx.ops.injEq,and_true] at e9
    subst e9
    rw [vwp] at h
    exact wpIn_region_list (BKD hl h hs hf (fun e' H' β' F' w' a' k1 k2 k3 k4=>hk .nor _ _ _ _ _ _ _ k1 k2 (k3.forget kp) (hm.later k4) k4) fun u H' β' F' w' a' k1 k2 k3 k4=>hk (.pan u) _ _ _ _ _ _ _ k1 k2 k3 (hm.later k4) k4)
  | seq x y=>simp only [trC] at ht; split at ht<;>simp at ht
  | cond c x y=>simp only [trC] at ht; split at ht<;>simp at ht
  | rangeFunc f ps x y=>simp only [trC] at ht; split at ht<;>(try split at ht)<;>simp at ht
  | _=>simp [trC] at ht
 | draw n l kp =>
  intro code hrf ht Q e H β F w a QQ B D D0 h hs hf hm hB hk
  rw [er] at ht
  cases code with
  | region id ops d =>
   cases d with
   | false=>exact (Bwa ht (by simp) (by simp)).elim
   | true =>
    obtain ⟨bz,hsp⟩:=BAy ((BRA ht).resolve_right (by simp))
    obtain ⟨n',l',e9,hmo,hh⟩:=hsp.resolve_right (by simp)
    simp only [Btx.draw.injEq,and_true] at e9
    obtain ⟨rfl,rfl⟩:=e9
    rw [vwp] at h
    rcases hh with ⟨hl,hck⟩ | ⟨π,hp,hl,hck⟩
    ·exact BHv WOk.vop hmo hl hck h hs hf ⟨fun e' H' β' F' w' a' k1 k2 k3 k4=>hk .nor _ _ _ _ _ _ _ k1 k2 (k3.forget kp) (hm.later k4) k4,fun _ _ _ _ _ _ (h:False)=>h.elim⟩
    ·exact BDX WOk.vop hmo hp hl hck h hs hf ⟨fun e' H' β' F' w' a' k1 k2 k3 k4=>hk .nor _ _ _ _ _ _ _ k1 k2 (k3.forget kp) (hm.later k4) k4,fun _ _ _ _ _ _ (h:False)=>h.elim⟩
  | seq x y=>simp only [trC] at ht; split at ht<;>simp at ht
  | cond c x y=>simp only [trC] at ht; split at ht<;>simp at ht
  | rangeFunc f ps x y=>simp only [trC] at ht; split at ht<;>(try split at ht)<;>simp at ht
  | _=>simp [trC] at ht
 | pdraw n l kp =>
  intro code hrf ht Q e H β F w a QQ B D D0 h hs hf hm hB hk
  rw [er] at ht
  cases code with
  | region id ops d =>
   cases d with
   | false=>exact (Bwa ht (by simp) (by simp)).elim
   | true =>
    obtain ⟨bz,hsp⟩:=BAy ((BRA ht).resolve_right (by simp))
    obtain ⟨n',l',e9,hmo,hh⟩:=hsp.resolve_right (by simp)
    simp only [Btx.draw.injEq,and_true] at e9
    obtain ⟨rfl,rfl⟩:=e9
    rw [vwp] at h
    rcases hh with ⟨hl,hck⟩ | ⟨π,hp,hl,hck⟩
    ·exact BHv WOk.pvop hmo hl hck h hs hf ⟨fun e' H' β' F' w' a' k1 k2 k3 k4=>hk .nor _ _ _ _ _ _ _ k1 k2 (k3.forget kp) (hm.later k4) k4,fun u H' β' F' w' a' k1 k2 k3 k4=>hk (.pan u) _ _ _ _ _ _ _ k1 k2 k3 (hm.later k4) k4⟩
    ·exact BDX WOk.pvop hmo hp hl hck h hs hf ⟨fun e' H' β' F' w' a' k1 k2 k3 k4=>hk .nor _ _ _ _ _ _ _ k1 k2 (k3.forget kp) (hm.later k4) k4,fun u H' β' F' w' a' k1 k2 k3 k4=>hk (.pan u) _ _ _ _ _ _ _ k1 k2 k3 (hm.later k4) k4⟩
  | seq x y=>simp only [trC] at ht; split at ht<;>simp at ht
  | cond c x y=>simp only [trC] at ht; split at ht<;>simp at ht
  | rangeFunc f ps x y=>simp only [trC] at ht; split at ht<;>(try split at ht)<;>simp at ht
  | _=>simp [trC] at ht
 | sdraw n l kp =>
  intro code hrf ht Q e H β F w a QQ B D D0 h hs hf hm hB hk
  rw [er] at ht
  cases code with
  | region id ops d =>
   cases d with
   | false=>exact (Bwa ht (by simp) (by simp)).elim
   | true =>
    obtain ⟨bz,hsp⟩:=BAy ((BRA ht).resolve_right (by simp))
    obtain ⟨n',l',e9,hmo,π,hp,hl,hck⟩:=hsp.resolve_left (by simp)
    simp only [Btx.sdraw.injEq,and_true] at e9
    obtain ⟨rfl,rfl⟩:=e9
    rw [vwp] at h
    exact BDX WOk.pvopS hmo hp hl hck h hs hf ⟨fun e' H' β' F' w' a' k1 k2 k3 k4=>hk .nor _ _ _ _ _ _ _ k1 k2 (k3.forget kp) (hm.later k4) k4,fun u H' β' F' w' a' k1 k2 k3 k4=>hk (.pan u) _ _ _ _ _ _ _ k1 k2 k3 (hm.later k4) k4⟩
  | seq x y=>simp only [trC] at ht; split at ht<;>simp at ht
  | cond c x y=>simp only [trC] at ht; split at ht<;>simp at ht
  | rangeFunc f ps x y=>simp only [trC] at ht; split at ht<;>(try split at ht)<;>simp at ht
  | _=>simp [trC] at ht
 | skip =>
  intro code hrf ht Q e H β F w a QQ B D D0 h hs hf hm hB hk
  rw [er] at ht
  cases code with
  | skip=>exact wpIn_skip (hk .nor _ _ _ _ _ _ _ h hs hf hm (BtK.refl _ _))
  | label l=>exact wpIn_label (hk .nor _ _ _ _ _ _ _ h hs hf hm (BtK.refl _ _))
  | region id ops d =>
   cases d
   ·exact (Bwa ht (by simp) (by simp)).elim
   ·exact (Bwc ht (by simp) (by simp) (by simp)).elim
  | seq x y=>simp only [trC] at ht; split at ht<;>simp at ht
  | cond c x y=>simp only [trC] at ht; split at ht<;>simp at ht
  | rangeFunc f ps x y=>simp only [trC] at ht; split at ht<;>(try split at ht)<;>simp at ht
  | _=>simp [trC] at ht
 | seq x y ihx ihy =>
  intro code hrf ht Q e H β F w a QQ B D D0 h hs hf hm hB hk
  rw [er] at ht
  cases code with
  | region id ops d =>
   cases d
   ·exact (Bwa ht (by simp) (by simp)).elim
   ·exact (Bwc ht (by simp) (by simp) (by simp)).elim
  | seq cx cy =>
   simp only [trC] at ht
   split at ht
   ·rename_i vx vy hx hy
    simp only [Option.some.injEq,Btx.seq.injEq] at ht
    obtain ⟨rfl,rfl⟩:=ht
    rw [vwp] at h
    have hrx:ro=none∨BE4 x=true:=hrf.imp id fun h=>by simp only [BE4,Bool.and_eq_true] at h; exact h.1
    have hry:ro=none∨BE4 y=true:=hrf.imp id fun h=>by simp only [BE4,Bool.and_eq_true] at h; exact h.2
    refine wpIn_seq (ihx hrx hx h hs hf hm hB ?_)
    intro x e' H' β' F' w' a' D' k1 k2 k3 km k4
    cases x with
    | nor=>exact ihy hry hy k1 k2 k3 km (Nat.le_trans hB k4.size) fun x e2 H2 β2 F2 w2 a2 D2 m1 m2 m3 mm m4=>hk _ _ _ _ _ _ _ _ m1 m2 m3 mm (k4.trans m4)
    | exit i=>exact hk (.exit i) _ _ _ _ _ _ _ k1 k2 k3 km k4
    | ret=>exact hk .ret _ _ _ _ _ _ _ k1 k2 k3 km k4
    | pan u=>exact hk (.pan u) _ _ _ _ _ _ _ k1 k2 k3 km k4
   ·simp at ht
  | cond c x y=>simp only [trC] at ht; split at ht<;>simp at ht
  | rangeFunc f ps x y=>simp only [trC] at ht; split at ht<;>(try split at ht)<;>simp at ht
  | _=>simp [trC] at ht
 | cond c x y ihx ihy =>
  intro code hrf ht Q e H β F w a QQ B D D0 h hs hf hm hB hk
  rw [er] at ht
  cases code with
  | region id ops d =>
   cases d
   ·exact (Bwa ht (by simp) (by simp)).elim
   ·exact (Bwc ht (by simp) (by simp) (by simp)).elim
  | seq x y=>simp only [trC] at ht; split at ht<;>simp at ht
  | cond cc cx cy =>
   simp only [trC] at ht
   split at ht
   ·rename_i vx vy hx hy
    simp only [Option.some.injEq,Btx.cond.injEq] at ht
    obtain ⟨rfl,rfl,rfl⟩:=ht
    rw [vwp] at h
    split at h
    ·rename_i t hc
     have hrx:ro=none∨BE4 x=true:=hrf.imp id fun h=>by simp only [BE4,Bool.and_eq_true] at h; exact h.1
     have hry:ro=none∨BE4 y=true:=hrf.imp id fun h=>by simp only [BE4,Bool.and_eq_true] at h; exact h.2
     refine wpIn_cond_split (hf.env.val hc) (fun htt => ?_) (fun htf => ?_)
     ·rw [if_pos htt] at h; exact ihx hrx hx h hs hf hm hB hk
     ·rw [if_neg (by rw [htf]; simp)] at h; exact ihy hry hy h hs hf hm hB hk
    ·exact h.elim
   ·simp at ht
  | rangeFunc f ps x y=>simp only [trC] at ht; split at ht<;>(try split at ht)<;>simp at ht
  | _=>simp [trC] at ht
 | block id x ih =>
  intro code hrf ht Q e H β F w a QQ B D D0 h hs hf hm hB hk
  rw [er] at ht
  cases code with
  | region id ops d =>
   cases d
   ·exact (Bwa ht (by simp) (by simp)).elim
   ·exact (Bwc ht (by simp) (by simp) (by simp)).elim
  | seq x y=>simp only [trC] at ht; split at ht<;>simp at ht
  | cond c x y=>simp only [trC] at ht; split at ht<;>simp at ht
  | rangeFunc f ps x y=>simp only [trC] at ht; split at ht<;>(try split at ht)<;>simp at ht
  | block id' c =>
   simp only [trC,Option.map_eq_some_iff,Btx.block.injEq] at ht
   obtain ⟨vx,hx,rfl,rfl⟩:=ht
   rw [vwp] at h
   refine wpIn_block (ih hrf hx h hs hf hm hB ?_)
   intro x e' H' β' F' w' a' D' k1 k2 k3 km k4
   cases x with
   | nor=>exact hk .nor _ _ _ _ _ _ _ k1 k2 k3 km k4
   | exit i =>
    show Exit.inBlock _ QQ (.exit i) a' w'
    simp only [Exit.inBlock]
    simp only at k1
    split at k1
    ·rename_i hi; rw [if_pos hi]; exact hk .nor _ _ _ _ _ _ _ k1 k2 k3 km k4
    ·rename_i hi; rw [if_neg hi]; exact hk (.exit i) _ _ _ _ _ _ _ k1 k2 k3 km k4
   | ret=>exact hk .ret _ _ _ _ _ _ _ k1 k2 k3 km k4
   | pan u=>exact hk (.pan u) _ _ _ _ _ _ _ k1 k2 k3 km k4
  | _=>simp [trC] at ht
 | loop lv x ih =>
  intro code hrf ht Q e H β F w a QQ B D D0 h hs hf hm hB hk
  rw [er] at ht
  cases code with
  | region id ops d =>
   cases d
   ·exact (Bwa ht (by simp) (by simp)).elim
   ·exact (Bwc ht (by simp) (by simp) (by simp)).elim
  | seq x y=>simp only [trC] at ht; split at ht<;>simp at ht
  | cond c x y=>simp only [trC] at ht; split at ht<;>simp at ht
  | rangeFunc f ps x y=>simp only [trC] at ht; split at ht<;>(try split at ht)<;>simp at ht
  | loop c =>
   simp only [trC,Option.map_eq_some_iff,Btx.loop.injEq] at ht
   obtain ⟨vx,hx,_,rfl⟩:=ht
   rw [vwp] at h
   obtain ⟨I,n,h0,hstep⟩:=h
   refine wpIn_loop_ghost (fun n a' w'=>∃ e' H' β' F' D',I n e' H'∧Sim ⟨β',H',F'⟩ w'∧Fr N D' ⟨β',H',F'⟩ w' e' a'∧By4 D0 B ⟨β',H',F'⟩ w' D'∧BtK ⟨β,H,F⟩ w ⟨β',H',F'⟩ w') n ⟨_,_,_,_,_,h0,hs,hf.forget lv,hm,BtK.refl _ _⟩ ?_
   rintro n a' w' ⟨e',H',β',F',D',k1,k2,k3,km,k4⟩
   refine ih hrf hx (hstep n e' H' k1) k2 k3 km (Nat.le_trans hB k4.size) ?_
   intro x e2 H2 β2 F2 w2 a2 D2 m1 m2 m3 mm m4
   cases x with
   | nor =>
    obtain ⟨m,g,hmn,⟨hg,hb⟩,hI⟩:=m1
    have hf3:=m3.forget lv
    rcases hb with hle | ⟨hbe,hbh⟩
    ·rw [List.take_of_length_le hle] at hI
     exact ⟨m,hmn,_,_,_,_,_,hI,m2,hf3,mm,k4.trans m4⟩
    exact ⟨m,hmn,_,_,_,_,_,hI,m2.cut hbh,⟨⟨fun s=>Rep.cut (BFq hbe s) (hf3.env.1 s),hf3.env.2⟩,hf3.size,hf3.defers⟩,mm.cut,(k4.trans m4).cut hg⟩
   | exit i=>exact hk (.exit i) _ _ _ _ _ _ _ m1 m2 m3 mm (k4.trans m4)
   | ret=>exact hk .ret _ _ _ _ _ _ _ m1 m2 m3 mm (k4.trans m4)
   | pan u=>exact hk (.pan u) _ _ _ _ _ _ _ m1 m2 m3 mm (k4.trans m4)
  | _=>simp [trC] at ht
 | exit id =>
  intro code hrf ht Q e H β F w a QQ B D D0 h hs hf hm hB hk
  rw [er] at ht
  cases code with
  | region id ops d =>
   cases d
   ·exact (Bwa ht (by simp) (by simp)).elim
   ·exact (Bwc ht (by simp) (by simp) (by simp)).elim
  | seq x y=>simp only [trC] at ht; split at ht<;>simp at ht
  | cond c x y=>simp only [trC] at ht; split at ht<;>simp at ht
  | rangeFunc f ps x y=>simp only [trC] at ht; split at ht<;>(try split at ht)<;>simp at ht
  | exit id' =>
   simp only [trC,Option.some.injEq,Btx.exit.injEq] at ht; subst ht
   exact wpIn_exit (hk (.exit _) _ _ _ _ _ _ _ h hs hf hm (BtK.refl _ _))
  | _=>simp [trC] at ht
 | ret =>
  intro code hrf ht Q e H β F w a QQ B D D0 h hs hf hm hB hk
  rw [er] at ht
  cases code with
  | region id ops d =>
   cases d
   ·exact (Bwa ht (by simp) (by simp)).elim
   ·exact (Bwc ht (by simp) (by simp) (by simp)).elim
  | seq x y=>simp only [trC] at ht; split at ht<;>simp at ht
  | cond c x y=>simp only [trC] at ht; split at ht<;>simp at ht
  | rangeFunc f ps x y=>simp only [trC] at ht; split at ht<;>(try split at ht)<;>simp at ht
  | ret=>exact wpIn_ret (hk .ret _ _ _ _ _ _ _ h hs hf hm (BtK.refl _ _))
  | _=>simp [trC] at ht
 | dead =>
  intro code hrf ht Q e H β F w a QQ B D D0 h
  rw [vwp] at h; exact h.elim
 | scope x ih =>
  intro code hrf ht Q e H β F w a QQ B D D0 h hs hf hm hB hk
  rw [er] at ht
  cases code with
  | region id ops d =>
   cases d
   ·exact (Bwa ht (by simp) (by simp)).elim
   ·exact (Bwc ht (by simp) (by simp) (by simp)).elim
  | seq x y=>simp only [trC] at ht; split at ht<;>simp at ht
  | cond c x y=>simp only [trC] at ht; split at ht<;>simp at ht
  | rangeFunc f ps x y=>simp only [trC] at ht; split at ht<;>(try split at ht)<;>simp at ht
  | scope c =>
   simp only [trC,Option.map_eq_some_iff,Btx.scope.injEq] at ht
   obtain ⟨vx,hx,rfl⟩:=ht
   rw [vwp] at h
   refine BKn (ih hrf hx h hs hf hm hB ?_)
   intro x e' H' β' F' w' a' D' k1 k2 k3 km k4
   cases x with
   | nor=>exact hk .nor _ _ _ _ _ _ _ k1 k2 k3 km k4
   | exit i=>exact hk (.exit i) _ _ _ _ _ _ _ k1 k2 k3 km k4
   | ret=>exact hk .ret _ _ _ _ _ _ _ k1 k2 k3 km k4
   | pan u=>exact hk (.pan u) _ _ _ _ _ _ _ k1 k2 k3 km k4
  | _=>simp [trC] at ht
 | own s k x ih =>
  intro code hrf ht Q e H β F w a QQ B D D0 h hs hf hm hB hk
  rw [er] at ht
  rw [vwp] at h
  split at h
  ·rename_i hg
   obtain ⟨k1,k2,k3⟩:=hs.own k
   have hv:a.tmps.getD s undef = .slice none 0 0:=by
    have:=hf.env.1 s; rw [hg,Rep.val] at this; exact this
   refine ih hrf ht h k1 ⟨⟨fun s' => ?_,k1.glob⟩,hf.size,hf.defers⟩ (hm.later k2) hB fun x' e' H' β' F' w' a' D' m1 m2 m3 mm m4=>hk x' e' H' β' F' w' a' D' m1 m2 m3 mm (k2.trans m4)
   rw [Buj]
   by_cases hss:s=s'
   ·subst hss; rw [if_pos rfl,hv]; exact Rep.of1 k3 (by simp) (by simp)
   ·rw [if_neg hss]; exact Rep.mono (k2.mono hs) (hf.env.1 s')
  ·exact ih hrf ht h hs hf hm hB hk
 | ownB s p k x ih =>
  intro code hrf ht Q e H β F w a QQ B D D0 h hs hf hm hB hk
  rw [er] at ht
  rw [vwp] at h
  split at h
  ·rename_i id ver p0 hg
   split at h
   ·rename_i v y hid
    obtain ⟨rfl,h⟩:=h
    split at h
    ·rename_i hgp
     split at h
     ·rename_i x' hsp
      obtain ⟨k1,k2,k3⟩:=hs.own k
      have hlt:id<H.length:=(List.getElem?_eq_some_iff.1 hid).1
      have hid':(H++[Ob.obj 0 (.arr 0 k [])])[id]?=some (.obj v y):=by rw [List.getElem?_append_left hlt]; exact hid
      obtain ⟨q1,q2⟩:=k1.turn (o' := .obj v x') (w':=w) (β':=upd β H.length 0 none) hid' rfl rfl (Nat.le_refl _) (fun _ _ _=>rfl) (fun b off e => .inl ⟨off,e⟩) rfl rfl rfl (Nat.le_refl _) (fun _ _=>rfl) (fun _ _ _=>rfl) (fun hm=>by
       rcases k1.ob id _ hid' with ⟨r0,r1⟩ | ⟨b,off,pre,vs,post,t,fr,r0,r1,r2,r3,r4⟩
       ·refine .inl ⟨r0,?_⟩
        exact BtD.mono hm (BET r1 hgp (fun m hm'=>by rw [BtD] at hm'; rw [hm'.1]; exact k3) hsp)
       ·refine .inr ⟨b,off,pre,vs,post,t,fr,r0,r1,r2,r3,?_⟩
        exact BtD.mono hm (BET r4 hgp (fun m hm'=>by rw [BtD] at hm'; rw [hm'.1]; exact k3) hsp))
      rw [List.set_append_left _ _ hlt] at q1 q2
      exact ih hrf ht h q1 ⟨⟨fun s'=>Rep.mono (q2.mono k1) (Rep.mono (k2.mono hs) (hf.env.1 s')),q1.glob⟩,hf.size,hf.defers⟩ (hm.later (k2.trans q2)) hB fun x' e' H' β' F' w' a' D' m1 m2 m3 mm m4=>hk x' e' H' β' F' w' a' D' m1 m2 m3 mm ((k2.trans q2).trans m4)
     ·exact h.elim
    ·exact ih hrf ht h hs hf hm hB hk
   ·exact h.elim
  ·exact h.elim
 | frz s x ih =>
  intro code hrf ht Q e H β F w a QQ B D D0 h hs hf hm hB hk
  rw [er] at ht
  rw [vwp] at h
  split at h
  ·rename_i k id ver p off n cp hg
   split at h
   ·rename_i v y hid
    obtain ⟨rfl,h⟩:=h
    split at h
    ·rename_i cs hcs
     obtain ⟨k1,k2⟩:=hs.freeze hid rfl
     have hr:Rep ⟨β,H,F⟩ w (get e s) (a.tmps.getD s undef):=hf.env.1 s
     rw [hg] at hr
     have hr':Rep ⟨β,H.set id (.gone v),fun b=>F b∨∃ off,β id v=some (b,off)⟩ w (.sl k cs) (a.tmps.getD s undef):=by
      rcases hr with (hr | hr | ⟨us,hr,hr2⟩) | ⟨xs,vs,hr,_⟩
      ·cases hr
      ·cases hr
      ·exact .inl (.inr (.inr ⟨us,hs.give hid hcs hr,by rw [hr2]; rfl⟩))
      ·cases hr
     refine ih hrf ht h k1 ⟨⟨fun s' => ?_,k1.glob⟩,hf.size,hf.defers⟩ (hm.later k2) hB fun x' e' H' β' F' w' a' D' m1 m2 m3 mm m4=>hk x' e' H' β' F' w' a' D' m1 m2 m3 mm (k2.trans m4)
     rw [Buj]
     by_cases hss:s=s'
     ·subst hss; rw [if_pos rfl]; exact hr'
     ·rw [if_neg hss]; exact Rep.mono (k2.mono hs) (hf.env.1 s')
    ·exact h.elim
   ·exact h.elim
  ·exact h.elim
 | ownT s p t x ih =>
  intro code hrf ht Q e H β F w a QQ B D D0 h hs hf hm hB hk
  rw [er] at ht
  rw [vwp] at h
  split at h
  ·rename_i id ver p0 hg
   split at h
   ·rename_i v y hid
    obtain ⟨rfl,h⟩:=h
    split at h
    ·rename_i hgp
     split at h
     ·rename_i x' hsp
      obtain ⟨k1,k2,k3⟩:=hs.ownBld t
      have hlt:id<H.length:=(List.getElem?_eq_some_iff.1 hid).1
      have hid':(H++[Ob.bld 0 t []])[id]?=some (.obj v y):=by rw [List.getElem?_append_left hlt]; exact hid
      obtain ⟨q1,q2⟩:=k1.turn (o' := .obj v x') (w':=w) (β':=upd β H.length 0 none) hid' rfl rfl (Nat.le_refl _) (fun _ _ _=>rfl) (fun b off e => .inl ⟨off,e⟩) rfl rfl rfl (Nat.le_refl _) (fun _ _=>rfl) (fun _ _ _=>rfl) (fun hm=>by
       rcases k1.ob id _ hid' with ⟨r0,r1⟩ | ⟨b,off,pre,vs,post,t,fr,r0,r1,r2,r3,r4⟩
       ·refine .inl ⟨r0,?_⟩
        exact BtD.mono hm (BET r1 hgp (fun m hm'=>by rw [BtD] at hm'; rw [hm'.1]; exact k3) hsp)
       ·refine .inr ⟨b,off,pre,vs,post,t,fr,r0,r1,r2,r3,?_⟩
        exact BtD.mono hm (BET r4 hgp (fun m hm'=>by rw [BtD] at hm'; rw [hm'.1]; exact k3) hsp))
      rw [List.set_append_left _ _ hlt] at q1 q2
      exact ih hrf ht h q1 ⟨⟨fun s'=>Rep.mono (q2.mono k1) (Rep.mono (k2.mono hs) (hf.env.1 s')),q1.glob⟩,hf.size,hf.defers⟩ (hm.later (k2.trans q2)) hB fun x' e' H' β' F' w' a' D' m1 m2 m3 mm m4=>hk x' e' H' β' F' w' a' D' m1 m2 m3 mm ((k2.trans q2).trans m4)
     ·exact h.elim
    ·exact ih hrf ht h hs hf hm hB hk
   ·exact h.elim
  ·exact h.elim
 | rfunc g0 ps aS bd iha ihb =>
  intro code hrf ht Q e H β F w a QQ B D D0 h hs hf hm hB hk
  obtain rfl:ro=none:=hrf.resolve_right (by simp [BE4])
  rw [er] at ht
  cases code with
  | region id ops d =>
   cases d
   ·exact (Bwa ht (by simp) (by simp)).elim
   ·exact (Bwc ht (by simp) (by simp) (by simp)).elim
  | seq x y=>simp only [trC] at ht; split at ht<;>simp at ht
  | cond c x y=>simp only [trC] at ht; split at ht<;>simp at ht
  | rangeFunc f0 ps0 ca cb =>
   simp only [trC] at ht
   split at ht
   ·rename_i hps
    split at ht
    ·rename_i va vb hca hcb
     simp only [Option.some.injEq,Btx.rfunc.injEq] at ht
     obtain ⟨rfl,rfl,rfl,rfl⟩:=ht
     rw [vwp] at h
     obtain ⟨-,-,h⟩:=h
     split at h
     ·rename_i g first caps hg
      obtain ⟨hgo,h⟩:=h
      have hr:Rep ⟨β,H,F⟩ w (.fn (.func g) first caps) (a.eval f0):=hf.env.rep (x:=f0) hg
      have h1:=hr.inv1 (by simp) (by simp) (by simp) (by simp) (by simp)
      rw [BtD] at h1
      obtain ⟨us,vs,hv1,hfi,hc⟩:=h1
      have hv':a.eval f0 = .func (.func g) us.toArray vs.toArray:=by simpa using hv1
      refine BG1 hs hf hm hB hv' hgo hfi hc (fun fn=>h N fn ca cb ⟨hca,hcb,hps⟩) hk
     ·rename_i g xs ys hg
      obtain ⟨hxy,hgo,h⟩:=h
      rw [Bool.and_eq_true,Array.isEmpty_iff,Array.isEmpty_iff] at hxy
      obtain ⟨rfl,rfl⟩:=hxy
      have hv':a.eval f0 = .func (.func g) #[] #[]:=hf.env.val hg
      refine BG1 (us:=[]) (vs:=[]) (first:=[]) (caps:=[]) hs hf hm hB hv' hgo (by rw [BtY]) (by rw [BtY]) (fun fn=>by simpa using h N fn ca cb ⟨hca,hcb,hps⟩) hk
     ·exact h.elim
    ·cases ht
   ·cases ht
  | _=>simp [trC] at ht
end sound
end
section
open Go.RowKit
variable [Bt6]
set_option autoImplicit false
inductive VR where
 | tmp (t:Nat)
 | cell (a:Nat) (ag:Bool) (sz:Nat)
 deriving Inhabited
def trR (P:Program):List ResultVar→Option (List VR)
 | []=>some []
 | .tmp t::r=>(trR P r).map (.tmp t :: ·)
 | .cell a t::r=>match BGr P t,BA3 P t,trR P r with
  | some ag,some sz,some r=>some (.cell a ag sz::r)
  | _,_,_=>none
def BJR:List VR→Env→List Ob→(List TV→Prop)→Prop
 | [],e,H,K=>K []
 | .tmp t::r,e,H,K=>BJR r e H fun xs=>K (get e t::xs)
 | .cell a ag sz::r,e,H,K=>pop (.load ag sz (.t a)) e H fun x=>BJR r e H fun xs=>K (x::xs)
def res (r:List VR) (e:Env) (H:List Ob) (K:TV→Prop):Prop:=BJR r e H fun xs=>match xs with
 | [x]=>K x
 | xs=>(∀ x∈xs,BuI x=false)∧K (.tup xs)
section
variable {P:Program}
def rv (a:Act) (r:ResultVar):Sem Value:=match r with
 | .tmp t=>pure (a.tmps.getD t undef)
 | .cell x t=>do loadVar t (←asAddr (a.tmps.getD x undef))
theorem BH7 {c:Ctx} {w:World} {e:Env} {a:Act} (hs:Sim c w) (he:BtP c w e a):∀ {rs:List ResultVar} {vr:List VR} {K:List TV→Prop},trR P rs=some vr→BJR vr e c.H K →
  ∃ (xs:List TV) (vs:List Value),(rs.mapM (rv a)).run P w = .ok vs w∧xs.length=vs.length∧(∀ (i:Nat) x v,xs[i]?=some x→vs[i]?=some v→Rep c w x v)∧K xs
 | [],vr,K,ht,h=>by
  simp only [trR,Option.some.injEq] at ht; subst ht
  exact ⟨[],[],rfl,rfl,by simp,h⟩
 | .tmp t::rs,vr,K,ht,h=>by
  simp only [trR,Option.map_eq_some_iff] at ht
  obtain ⟨r,hr,rfl⟩:=ht
  rw [BJR] at h
  obtain ⟨xs,vs,h1,h2,h3,h4⟩:=BH7 hs he hr h
  refine ⟨get e t::xs,a.tmps.getD t undef::vs,by rw [List.mapM_cons]; simp only [rv,Sem.run_bind,Sem.run_pure,Result.andThen_ok,h1],by simp [h2],?_,h4⟩
  intro i x v hx hv
  cases i with
  | zero=>simp at hx hv; subst hx; subst hv; simpa using he.1 t
  | succ i=>exact h3 i x v (by simpa using hx) (by simpa using hv)
 | .cell b t::rs,vr,K,ht,h=>by
  simp only [trR] at ht
  split at ht
  ·rename_i ag sz r h1 h2 hr
   cases ht
   rw [BJR] at h
   have hy:=BR5 (P:=P) (a:=a) (ty:=0) hs he h1 h2 (x := .tmp b) h
   obtain ⟨x,v,hrun,hx,hK⟩:=hy ⟨none,.load t (.tmp b),0, "", #[],none⟩ rfl rfl
   have hload:(do loadVar t (←asAddr (a.tmps.getD b undef)):Sem Value).run P w = .ok v w:=by
    simp only [execOp,Instr.loadAt,Sem.run_bind,Act.eval] at hrun
    simp only [Sem.run_bind]
    cases hp:a.tmps.getD b undef with
    | pointer p =>
     rw [hp] at hrun
     cases p with
     | none=>simp [Instr.sureAddr,stuck] at hrun
     | some ad =>
      simp only [Instr.sureAddr,Sem.run_pure,Result.andThen_ok,asAddr] at hrun ⊢
      cases hl:(loadVar t ad).run P w with
      | ok u w2=>rw [hl] at hrun; simp only [Result.andThen_ok,Sem.run_pure] at hrun; cases hrun; rfl
      | halt hh w2=>rw [hl] at hrun; simp at hrun
    | _=>rw [hp] at hrun; simp [Instr.sureAddr,stuck] at hrun
   obtain ⟨xs,vs,h3,h4,h5,h6⟩:=BH7 hs he hr hK
   refine ⟨x::xs,v::vs,by rw [List.mapM_cons,Sem.run_bind]; show Result.andThen ((rv a (.cell b t)).run P w) _=_; rw [show (rv a (.cell b t)).run P w = .ok v w from hload]; simp only [Result.andThen_ok,Sem.run_bind,h3,Sem.run_pure],by simp [h4],?_,h6⟩
   intro i y u hy hu
   cases i with
   | zero=>simp at hy hu; subst hy; subst hu; exact hx
   | succ i=>exact h5 i y u (by simpa using hy) (by simpa using hu)
  ·cases ht
theorem BOS {c:Ctx} {w:World} {e:Env} {a:Act} (hs:Sim c w) (he:BtP c w e a) {fn:Func} {vr:List VR} {K:TV→Prop} (ht:trR P fn.results.toList=some vr) (h:res vr e c.H K) :
  ∃ x v,(results fn a.tmps).run P w = .ok v w∧Rep c w x v∧K x:=by
 obtain ⟨xs,vs,h1,h2,h3,h4⟩:=BH7 hs he ht h
 have hrun:(fn.results.mapM (rv a)).run P w = .ok vs.toArray w:=by
  rw [Array.mapM_eq_mapM_toList]
  simp only [Sem.run_map,h1,Result.andThen_ok]
 have hres:(results fn a.tmps).run P w = .ok (if h:vs.toArray.size=1 then vs.toArray[0] else .tuple vs.toArray) w:=by
  have:results fn a.tmps=(do let vs ← fn.results.mapM (rv a); pure (if h:vs.size=1 then vs[0] else .tuple vs)):=rfl
  rw [this,Sem.run_bind,hrun]; rfl
 rcases xs with _ | ⟨x,_ | ⟨y,xs⟩⟩
 ·have hv:vs=[]:=List.length_eq_zero_iff.1 (by simpa using h2.symm)
  subst hv
  exact ⟨_,_,hres,.inr ⟨[],[],rfl,rfl,by rw [BtY]⟩,h4.2⟩
 ·obtain ⟨v,rfl⟩:=List.length_eq_one_iff.1 (by simpa using h2.symm)
  exact ⟨_,_,hres,h3 0 x v rfl rfl,h4⟩
 ·rcases vs with _ | ⟨u,_ | ⟨v,vs⟩⟩
  ·simp at h2
  ·simp at h2
  ·refine ⟨_,_,hres,.inr ⟨_,u::v::vs,rfl,by simp,?_⟩,h4.2⟩
   have key:∀ (xs:List TV) (vs:List Value),xs.length=vs.length→(∀ x∈xs,BuI x=false)→(∀ (i:Nat) x v,xs[i]?=some x→vs[i]?=some v→Rep c w x v)→BtY c w xs vs:=by
    intro xs
    induction xs with
    | nil=>intro vs h _ _; rw [BtY]; exact List.length_eq_zero_iff.1 h.symm
    | cons x xs ih =>
     intro vs hl ht hr
     cases vs with
     | nil=>simp at hl
     | cons v vs =>
      refine BtY.cons.2 ⟨v,vs,rfl,?_,ih vs (by simpa using hl) (fun y hy=>ht y (by simp [hy])) fun i y u hy hu=>hr (i+1) y u (by simpa using hy) (by simpa using hu)⟩
      rcases hr 0 x v rfl rfl with h | ⟨ys,us,rfl,_⟩
      ·exact h
      ·have:=ht (.tup ys) (by simp); simp [BuI] at this
   exact key _ _ h2 h4.1 h3
def BHX:Nat→List TV→Env
 | _,[]=>[]
 | i,x::xs=>(i,x)::BHX (i+1) xs
theorem BIZ:∀ (xs:List TV) (i s:Nat),get (BHX i xs) s=if i≤s then (xs[s - i]?).getD .any else .any
 | [],i,s=>by simp [BHX,get]
 | x::xs,i,s=>by
  rw [BHX,Buj,BIZ xs (i+1) s]
  by_cases h:i=s
  ·subst h; simp
  ·rw [if_neg h]
   by_cases h2:i≤s
   ·rw [if_pos (by omega),if_pos h2,show s - i=(s - (i+1))+1 from by omega,List.getElem?_cons_succ]
   ·rw [if_neg (by omega),if_neg h2]
theorem BtY.get {c:Ctx} {w:World}:∀ {xs:List TV} {vs:List Value},BtY c w xs vs→xs.length=vs.length∧∀ (i:Nat) x,xs[i]?=some x→∃ v,vs[i]?=some v∧Rep c w x v
 | [],vs,h=>by rw [BtY] at h; subst h; simp
 | x::xs,vs,h=>by
  obtain ⟨u,us,rfl,h1,h2⟩:=BtY.cons.1 h
  obtain ⟨h3,h4⟩:=BtY.get h2
  refine ⟨by simp [h3],fun i y hy => ?_⟩
  cases i with
  | zero=>simp at hy; subst hy; exact ⟨u,rfl,.inl h1⟩
  | succ i=>simpa using h4 i y (by simpa using hy)
def BG8 (vr:List VR) (R:TV→List Ob→Prop):VEx→Env→List Ob→Prop
 | .nor,e,H=>res vr e H fun x=>R x H
 | .ret,e,H=>res vr e H fun x=>R x H
 | .exit _,_,_=>False
 | .pan _,_,_=>False
theorem Sim.nobody {c:Ctx} {w:World} (hs:Sim c w) {r:Nat} {o o':Obj} (hr:w.heap[r]?=some o) (h1:¬ c.own r) (h2:¬ c.F r) (hsh:(w.putObj r o').shape? r=w.shape? r):Sim c (w.putObj r o')∧Bxl c w c (w.putObj r o'):=by
 have hoth:∀ b,b≠r→(w.putObj r o').heap[b]?=w.heap[b]?:=fun b hb=>World.putObj_heap_other hb
 have hm:Bxl c w c (w.putObj r o'):=⟨fun b hb=>⟨hb,hoth b fun e=>h2 (e▸hb)⟩,fun _ _ h=>⟨h,rfl⟩,fun b _=>by
  by_cases hb:b=r
  ·subst hb; exact hsh
  ·exact Bt7 (hoth b hb)⟩
 refine ⟨⟨fun id ob ho=>BIL.mono hm (Ctx.has_of ho) (fun hl b off hb=>hoth b fun e=>h1 (e▸Ctx.own_of ho hl hb)) (hs.ob id ob ho),hs.inj,hs.apart,fun b hb => ?_,hs.glob.keep hm.stay⟩,hm⟩
 rw [(BBJ w r o').2.2.2]; exact hs.lt b hb
theorem BtK.nobody {c0 c:Ctx} {w0 w:World} (h:BtK c0 w0 c w) {r:Nat} {o':Obj} (hr:w0.heap.size≤r):BtK c0 w0 c (w.putObj r o') :=
 ⟨h.os,h.tape,h.output,by rw [(BBJ w r o').2.2.2]; exact h.size,h.has,fun b hb=>(Bt7 (World.putObj_heap_other (by omega))).trans (h.shape b hb),fun b hb ho=>(World.putObj_heap_other (by omega)).trans (h.same b hb ho),h.keepF,h.oldF,h.oldOwn⟩
theorem By4.shut {D0:List Deferred} {u:FrameMode} (hu:u ≠ .run) {FF:Fence} {n:Nat} {fn:Func} {tmps:Array Value} {R:Ending→World→Prop} {B:Nat} {c:Ctx}:∀ {D:List Deferred} {w:World},By4 D0 B c w D→Sim c w →
  ∃ wF,(LeavesInM FF n P fn tmps R D0 u wF→LeavesInM FF n P fn tmps R D u w)∧Sim c wF∧Bxl c w c wF∧∀ (c0:Ctx) (w0:World),w0.heap.size≤B→BtK c0 w0 c w→BtK c0 w0 c wF:=by
 rintro D w ⟨ds,rfl,hnd,hds⟩ hs
 induction ds generalizing w with
 | nil=>exact ⟨w,fun h=>h,hs,Bxl.heap rfl,fun c0 w0 _ h=>h⟩
 | cons r ds ih =>
  obtain ⟨k1,k2,k3,k4,k5⟩:=hds r (by simp)
  rw [List.nodup_cons] at hnd
  have hput:=World.putObj_heap_same (w:=w) (o := .deferred none) k2
  obtain ⟨s1,s2⟩:=hs.nobody (o' := .deferred none) k5 k3 k4 (by simp [World.shape?,hput,k5])
  obtain ⟨wF,e1,e2,e3,e4⟩:=ih (w:=w.putObj r (.deferred none)) hnd.2 (fun q hq=>by
   obtain ⟨q1,q2,q3,q4,q5⟩:=hds q (by simp [hq])
   have hne:q≠r:=fun e=>hnd.1 (e▸hq)
   exact ⟨q1,by rw [(BBJ w r _).2.2.2]; exact q2,q3,q4,(World.putObj_heap_other hne).trans q5⟩) s1
  refine ⟨wF,fun h=>⟨hu,.inl ⟨r,_,rfl,run_takeDeferred k5,e1 h⟩⟩,e2,⟨fun b hb=>⟨hb,((e3.stay b hb).2).trans (s2.stay b hb).2⟩,fun _ _ h=>⟨h,rfl⟩,fun b hb=>(e3.shape b (by rw [(BBJ w r _).2.2.2]; exact hb)).trans (s2.shape b hb)⟩,fun c0 w0 hB hl=>e4 c0 w0 hB (hl.nobody (by omega))⟩
theorem Bxy {f:FuncId} {fn:Func} {vc:Btx} {vr:List VR} {args:List TV} {H:List Ob} {R:TV→List Ob→Prop} (hf:P.funcs[f]?=some fn) (ht:fn.body.bind (trC P fn.ntmps)=some (er vc)) (hr:trR P fn.results.toList=some vr)
  (hn:args.length≤fn.ntmps) (h:vwp P vc (BG8 vr R) (BHX 0 args) H):BtJ P f args H R:=by
 obtain ⟨code,hb,ht⟩:=Option.bind_eq_some_iff.1 ht
 intro β F w vs hs hv
 obtain ⟨hl,hget⟩:=BtY.get hv
 refine (callsIn_wide (n:=0)).1 (callsIn_of_wp_marks hf hb trivial ?_)
 refine BEJ (ro:=none) (nn:=0) (B:=w.heap.size) (D:=[]) (D0:=[]) vc (.inl rfl) ht h hs ⟨⟨fun s => ?_,hs.glob⟩,by simp; omega,rfl⟩ By4.nil (Nat.le_refl _) ?_
 ·rw [BIZ]
  simp only [Nat.zero_le,if_true,Nat.sub_zero]
  cases hx:args[s]? with
  | none=>exact Rep.any
  | some x =>
   obtain ⟨v,hv1,hv2⟩:=hget s x hx
   have hs':s<vs.length:=(List.getElem?_eq_some_iff.1 hv1).1
   have:((vs.toArray++Array.replicate (fn.ntmps - vs.toArray.size) undef).getD s undef)=v:=by
    rw [Array.getD_eq_getD_getElem?,Array.getElem?_append_left (by simpa using hs')]
    simp [hv1]
   rw [this]; exact hv2
 ·intro x e' H' β' F' w' a' D' k1 k2 k3 km k4
  have fin:res vr e' H' (fun x=>R x H')→LeavesInM Fence.wide 0 P fn a'.tmps (fun e w'=>∃ v x β' H' F',e = .returned v∧R x H'∧Sim ⟨β',H',F'⟩ w'∧BtK ⟨β,H,F⟩ w ⟨β',H',F'⟩ w'∧Rep ⟨β',H',F'⟩ w' x v) a'.defers .returning w':=fun h=>by
   rw [k3.defers]
   obtain ⟨wF,e1,e2,e3,e4⟩:=By4.shut (D0:=[]) (u := .returning) (by simp) (P:=P) (FF:=Fence.wide) (n:=0) (fn:=fn) (tmps:=a'.tmps) (R:=fun e w'=>∃ v x β' H' F',e = .returned v∧R x H'∧Sim ⟨β',H',F'⟩ w'∧BtK ⟨β,H,F⟩ w ⟨β',H',F'⟩ w'∧Rep ⟨β',H',F'⟩ w' x v) km k2
   obtain ⟨y,v,r1,r2,r3⟩:=BOS (fn:=fn) (a:=a') e2 ⟨fun s=>Rep.mono e3 (k3.env.1 s),e2.glob⟩ hr h
   exact e1 ⟨v,r1,v,y,β',H',F',rfl,r3,e2,e4 _ _ (Nat.le_refl _) k4,r2⟩
  cases x with
  | nor=>exact fin k1
  | ret=>exact fin k1
  | exit i=>exact k1.elim
  | pan u=>exact k1.elim
def BML (vr:List VR) (R:TV→List Ob→Prop) (RP:Value→List Ob→Prop):VEx→Env→List Ob→Prop
 | .nor,e,H=>res vr e H fun x=>R x H
 | .ret,e,H=>res vr e H fun x=>R x H
 | .exit _,_,_=>False
 | .pan u,_,H=>RP u H
def BPY (id n0:Nat) (R:TV→List Ob→Prop):VEx→Env→List Ob→Prop:=fun x _ H=>match H[id]? with
 | some (.lp .busy none fn N e ps ca cb)=>(match x with
  | .nor=>∃ g,(n0≤g∧id<g∧(H.length≤g∨BEv g ((H.set id (.lp .ready none fn N e ps ca cb)).take g)=true))∧R (.val (.bool true)) ((H.set id (.lp .ready none fn N e ps ca cb)).take g)
  | .ret=>R (.val (.bool false)) (H.set id (.lp .done (some .ret) fn N e ps ca cb))
  | .exit i=>R (.val (.bool false)) (H.set id (.lp .done (some (.exit i)) fn N e ps ca cb))
  | .pan _=>False)
 | _=>False
def BJ7:List Nat→List TV→Env→Env
 | p::ps,x::xs,e=>BJ7 ps xs ((p,x)::e)
 | _,_,e=>e
theorem BLi {c:Ctx} {w:World} {N:Nat}:∀ {ps:List Nat} {xs:List TV} {vs:List Value} {e:Env} {t:Array Value},BtY c w xs vs→ps.all (· < N)=true→t.size=N→(∀ s,Rep c w (get e s) (t.getD s undef)) →
  ((ps.zip vs).foldl (fun t (p,v)=>t.setIfInBounds p v) t).size=N∧∀ s,Rep c w (get (BJ7 ps xs e) s) (((ps.zip vs).foldl (fun t (p,v)=>t.setIfInBounds p v) t).getD s undef)
 | [],xs,vs,e,t,_,_,ht,h=>by rw [List.zip_nil_left,List.foldl_nil]; simp only [BJ7]; exact ⟨ht,h⟩
 | p::ps,[],vs,e,t,hv,_,ht,h=>by rw [BtY.nil] at hv; subst hv; rw [List.zip_nil_right,List.foldl_nil]; simp only [BJ7]; exact ⟨ht,h⟩
 | p::ps,x::xs,vs,e,t,hv,hp,ht,h=>by
  obtain ⟨u,us,rfl,h1,h2⟩:=BtY.cons.1 hv
  rw [List.all_cons,Bool.and_eq_true,decide_eq_true_eq] at hp
  rw [BJ7,List.zip_cons_cons,List.foldl_cons]
  refine BLi h2 hp.2 (by simp [ht]) fun s => ?_
  rw [Buj]
  by_cases hs:p=s
  ·subst hs
   have:(t.setIfInBounds p u).getD p undef=u:=by simp [Array.getD,ht,hp.1]
   rw [if_pos rfl,this]; exact .inl h1
  ·have:(t.setIfInBounds p u).getD s undef=t.getD s undef:=by simp [Array.getElem?_setIfInBounds_ne hs]
   rw [if_neg hs,this]; exact h s
theorem BMZ {id fn N:Nat} {e:Env} {ps:List Nat} {ca cb:Code} {aS bd:Btx} {args:List TV} {H:List Ob} {R:TV→List Ob→Prop} (ho:H[id]?=some (.lp .ready none fn N e ps ca cb)) (hc:BK7 P N ps ca cb aS bd) (hl:args.length=ps.length) (ha:BE4 aS=true) (hb:BE4 bd=true)
  (h:vwp P aS (fun x e1 H1=>x = .nor∧H1[id]?=some (.lp .ready none fn N e ps ca cb)∧vwp P bd (BPY id H.length R) e1 (H1.set id (.lp .busy none fn N e ps ca cb))) (BJ7 ps args e) H):BCp P id 0 args H R:=by
 intro β F w vs b o hs hv hbo n
 obtain ⟨b',r,r1,r2,r3,r4,r5,r6,r7,r8,r9,r10,-,-⟩:=hs.loopTurn (st' := .busy) (pe':=none) ho
 rw [hbo] at r1
 obtain ⟨rfl,rfl⟩:b=b'∧o=0:=by simpa using r1
 have hlv:vs.length=args.length:=(BtY.get hv).1.symm
 have hy:=run_yield (P:=P) (args:=vs.toArray) r2 (by rw [r7]; simp [hlv,hl])
 refine ⟨_,_,_,_,hy,?_⟩
 rw [r8,r9,r7]
 refine roundIn_of_wpIn trivial ?_
 have hz:(ps.toArray.zip vs.toArray).foldl (fun tmps (t,a)=>tmps.setIfInBounds t a) r.tmps=(ps.zip vs).foldl (fun t (p,v)=>t.setIfInBounds p v) r.tmps:=by simp
 rw [hz]
 obtain ⟨z1,z2⟩:=BLi hv hc.p r6 r10
 refine BEJ (ro:=some b) (nn:=n) (B:=0) (D:=[]) (D0:=[]) aS (.inr ha) hc.a h hs ⟨⟨z2,hs.glob⟩,z1,rfl⟩ By4.nil (Nat.zero_le _) ?_
 rintro x e1 H1 β1 F1 w1 a1 D1 ⟨rfl,h1,h2⟩ s1 f1 m1 l1
 obtain ⟨b2,q,q1,q2,q3,q4,q5,q6,q7,q8,q9,q10,q11,q12⟩:=s1.loopTurn (st' := .busy) (pe':=none) h1
 have hlt:id<H.length:=(List.getElem?_eq_some_iff.1 ho).1
 have hβ1:β1 id 0=some (b,0):=((l1.has id 0 ⟨_,ho,Nat.le_refl _⟩).2).trans hbo
 rw [hβ1] at q1
 obtain ⟨rfl,_⟩:b=b2∧True:=by simpa using q1
 have hbr:=run_beginRound (P:=P) q2 q3
 have e0:({ q with state := .busy,pending:=none }:Loop)={ q with state := .busy }:=by rw [←q4]
 rw [e0] at q11 q12
 refine ⟨_,hbr,?_⟩
 refine BEJ (ro:=some b) (nn:=n) (B:=0) (D:=D1) bd (.inr hb) hc.b h2 q11 ⟨⟨fun s=>Rep.mono (q12.mono s1) (f1.env.1 s),q11.glob⟩,f1.size,f1.defers⟩ (m1.later q12) (Nat.zero_le _) ?_
 intro x e2 H2 β2 F2 w2 a2 D2 k1 k2 k3 km k4
 have hlat:=(l1.trans q12).trans k4
 have hβ2:β2 id 0=some (b,0):=((hlat.has id 0 ⟨_,ho,Nat.le_refl _⟩).2).trans hbo
 unfold BPY at k1
 split at k1
 ·rename_i fn' N' e' ps' c1 c2 hob
  have fin:∀ (pe:Option Code),∃ r:Loop,w2.heap[b]?=some (.loop r)∧Sim ⟨β2,H2.set id (.lp (if pe.isNone then .ready else .done) pe fn' N' e' ps' c1 c2),F2⟩ (w2.putObj b (.loop { r with state:=if pe.isNone then .ready else .done,pending:=pe })) ∧
    BtK ⟨β2,H2,F2⟩ w2 ⟨β2,H2.set id (.lp (if pe.isNone then .ready else .done) pe fn' N' e' ps' c1 c2),F2⟩ (w2.putObj b (.loop { r with state:=if pe.isNone then .ready else .done,pending:=pe })):=by
   intro pe
   obtain ⟨b3,r,t1,t2,_,_,_,_,_,_,_,_,t3,t4⟩:=k2.loopTurn (st':=if pe.isNone then .ready else .done) (pe':=pe) hob
   rw [hβ2] at t1
   obtain ⟨rfl,_⟩:b=b3∧True:=by simpa using t1
   exact ⟨r,t2,t3,t4⟩
  cases x with
  | nor =>
   obtain ⟨g,⟨g1,g2,g3⟩,hR⟩:=k1
   obtain ⟨r,t2,t3,t4⟩:=fin none
   refine ⟨_,_,run_endRound none t2,?_⟩
   rcases g3 with g3 | g3
   ·rw [List.take_of_length_le (by simpa using g3)] at hR
    exact ⟨_,_,_,_,_,rfl,hR,t3,hlat.trans t4,Rep.of_val⟩
   ·refine ⟨_,.val (.bool true),β2,_,F2,rfl,hR,?_,?_,Rep.of_val⟩
    ·exact Sim.cut (c:=⟨β2,_,F2⟩) t3 g3
    ·exact BtK.cut (c:=⟨β2,_,F2⟩) (hlat.trans t4) g1
  | ret =>
   obtain ⟨r,t2,t3,t4⟩:=fin (some .ret)
   exact ⟨_,_,run_endRound (some .ret) t2,_,_,_,_,_,rfl,k1,t3,hlat.trans t4,Rep.of_val⟩
  | exit i =>
   obtain ⟨r,t2,t3,t4⟩:=fin (some (.exit i))
   exact ⟨_,_,run_endRound (some (.exit i)) t2,_,_,_,_,_,rfl,k1,t3,hlat.trans t4,Rep.of_val⟩
  | pan u=>exact k1.elim
 ·exact k1.elim
structure BES (F:Nat→Prop) (w:World) (F':Nat→Prop) (w':World):Prop where
 os:w'.os=w.os
 tape:w'.tape=w.tape
 output:w'.output=w.output
 size:w.heap.size≤w'.heap.size
 same:∀ b,b<w.heap.size→w'.heap[b]?=w.heap[b]?
 keepF:∀ b,F b→F' b
 oldF:∀ b,b<w.heap.size→F' b→F b
 ltF:∀ b,F' b→b<w'.heap.size
def ByW (P:Program) (f:FuncId) (args:List TV) (R:TV→Prop):Prop :=
 ∀ (β:Nat→Nat→Option (Nat×Nat)) (F:Nat→Prop) (w:World) (vs:List Value),((∀ b,F b→b<w.heap.size)∧Bz2 F w)→BtY ⟨β,[],F⟩ w args vs →
  Calls P f vs.toArray w fun e w'=>∃ v x F',e = .returned v∧R x∧Rep ⟨β,[],F'⟩ w' x v∧BES F w F' w'
theorem ByW.mono {f:FuncId} {args:List TV} {R R':TV→Prop} (h:ByW P f args R) (hr:∀ x,R x→R' x):ByW P f args R' :=
 fun β F w vs hF hv=>(h β F w vs hF hv).mono fun _ _ ⟨v,x,F',h1,h2,h3⟩=>⟨v,x,F',h1,hr _ h2,h3⟩
theorem BtJ.toPure {f:FuncId} {args:List TV} {R:TV→Prop} (h:BtJ P f args [] fun x H'=>match frz H' x with | some y=>R y | none=>False):ByW P f args R:=by
 intro β F w vs hF hv
 have hs:Sim ⟨β,[],F⟩ w:=⟨fun id o ho=>by simp at ho,fun i j x y b o o' hx=>by simp at hx,fun b hb=>by obtain ⟨i,o,off,h1,_⟩:=hb; simp at h1,hF.1,hF.2⟩
 refine (h β F w vs hs hv).mono ?_
 rintro _ w' ⟨v,x,β',H',F',rfl,hR,hs',hl,hx⟩
 split at hR
 ·rename_i y hy
  have hno:∀ b,¬ Ctx.own ⟨β,[],F⟩ b:=fun b hb=>by obtain ⟨i,o,off,h1,_⟩:=hb; simp at h1
  have hr:=BTu hs' hy hx
  refine ⟨v,y,fun b=>F' b∨Ctx.own ⟨β',H',F'⟩ b,rfl,hR,Rep.mono (Bxl.toBare [] β) hr,⟨hl.os,hl.tape,hl.output,hl.size,fun b hb=>hl.same b hb (hno b),fun b hb => .inl (hl.keepF b hb),fun b hb hF' => ?_,fun b hF'=>hF'.elim (hs'.lt b) hs'.own_lt⟩⟩
  rcases hF' with hF' | hF'
  ·exact (hl.oldF b hb hF').resolve_right (hno b)
  ·exact absurd (hl.oldOwn b hb hF') (hno b)
 ·exact hR.elim
theorem BES.later {β:Nat→Nat→Option (Nat×Nat)} {H:List Ob} {F F':Nat→Prop} {w w':World} (h:BES F w F' w'):BtK ⟨β,H,F⟩ w ⟨β,H,F'⟩ w' :=
 ⟨h.os,h.tape,h.output,h.size,fun id v ⟨o,h1,h2⟩=>⟨⟨o,h1,h2⟩,rfl⟩,fun b hb=>Bt7 (h.same b hb),fun b hb _=>h.same b hb,h.keepF,fun b hb hF => .inl (h.oldF b hb hF),fun b hb ⟨i,o,off,h1,h2,h3⟩=>⟨i,o,off,h1,h2,h3⟩⟩
theorem BES.sim {β:Nat→Nat→Option (Nat×Nat)} {H:List Ob} {F F':Nat→Prop} {w w':World} (hs:Sim ⟨β,H,F⟩ w) (h:BES F w F' w'):Sim ⟨β,H,F'⟩ w':=by
 have hm:Bxl ⟨β,H,F⟩ w ⟨β,H,F'⟩ w':=⟨fun b hb=>⟨h.keepF b hb,h.same b (hs.lt b hb)⟩,fun id v ⟨o,h1,h2⟩=>⟨⟨o,h1,h2⟩,rfl⟩,fun b hb=>Bt7 (h.same b hb)⟩
 refine ⟨fun id o ho=>BIL.mono hm ⟨o,ho,Nat.le_refl _⟩ (fun hl b off hb=>h.same b (hs.own_lt ⟨id,o,off,ho,hl,hb⟩)) (hs.ob id o ho),hs.inj,fun b hb hF => ?_,h.ltF,hs.glob.keep hm.stay⟩
 obtain ⟨i,o,off,h1,h2,h3⟩:=hb
 have ho:Ctx.own ⟨β,H,F⟩ b:=⟨i,o,off,h1,h2,h3⟩
 exact hs.apart b ho (h.oldF b (hs.own_lt ho) hF)
theorem ByW.calls {f:FuncId} {args:List TV} {R:TV→Prop} {H:List Ob} {K:TV→List Ob→Prop} (h:ByW P f args R) (hp:BuD args=true) (hk:∀ x,R x→K x H):BtJ P f args H K:=by
 intro β F w vs hs hv
 refine (h β F w vs ⟨hs.lt,hs.glob⟩ (BtY.pure hp hv)).mono ?_
 rintro _ w' ⟨v,x,F',rfl,hR,hx,hst⟩
 exact ⟨v,x,β,H,F',rfl,hk x hR,hst.sim hs,hst.later,Rep.mono (Bxl.toBare H β) hx⟩
theorem ByW.lends {f:FuncId} {args args':List TV} {R:TV→Prop} {H:List Ob} {K:TV→List Ob→Prop} (h:ByW P f args' R) (hp:BUv H args=some args') (hk:∀ x,R x→BJT x=true∧K x H):BtJ P f args H K:=by
 intro β F w vs hs hv
 refine (h β (fun b=>F b∨Ctx.own ⟨β,H,F⟩ b) w vs ⟨fun b hb=>hb.elim (hs.lt b) hs.own_lt,hs.glob.keep fun b hb=>⟨.inl hb,rfl⟩⟩ (BKR hs hp hv)).mono ?_
 rintro _ w' ⟨v,x,F',rfl,hR,hx,hst⟩
 obtain ⟨hsc,hK⟩:=hk x hR
 have hst':BES F w F w':=⟨hst.os,hst.tape,hst.output,hst.size,hst.same,fun _ h=>h,fun _ _ h=>h,fun b hb=>Nat.lt_of_lt_of_le (hs.lt b hb) hst.size⟩
 exact ⟨v,x,β,H,F,rfl,hK,hst'.sim hs,hst'.later,BRf hsc hx⟩
theorem Bxl.ofF {β β':Nat→Nat→Option (Nat×Nat)} {H:List Ob} {F F':Nat→Prop} {w:World} (h:∀ b,F b→F' b):Bxl ⟨β,[],F⟩ w ⟨β',H,F'⟩ w :=
 ⟨fun b hb=>⟨h b hb,rfl⟩,fun id v h=>by obtain ⟨o,h,_⟩:=h; simp at h,fun _ _=>rfl⟩
mutual
def frs (H:List Ob):TV→Option TV
 | .val v=>some (.val v)
 | .any=>some .any
 | .os k id ver p off n cp=>match H[id]? with
  | some (.obj v x)=>if v=ver then (match Bvs p k off n x with
   | some cs=>if BBu cs then some (.sl k cs) else none
   | none=>none) else none
  | _=>none
 | .agg cs=>(BJS H cs).map .agg
 | .arr n k cs=>if BBu cs then some (.arr n k cs) else none
 | .tup cs=>(BJS H cs).map .tup
 | .ifc t x=>(frs H x).map (.ifc t)
 | _=>none
def BJS (H:List Ob):List TV→Option (List TV)
 | []=>some []
 | x::xs=>match frs H x,BJS H xs with
  | some x,some xs=>some (x::xs)
  | _,_=>none
end
def Ctx.mine (c:Ctx):Ctx:=⟨c.β,[],c.own⟩
theorem BIb {p:List (Nat×Nat)} {k off:Nat} {x:TV} {cs:List TV} (h:Bvs p k off 0 x=some cs):cs=[]:=by
 unfold Bvs at h
 split at h
 ·split at h
  ·cases h; simp
  ·cases h
 ·cases h
mutual
theorem BHZ {c:Ctx} {w:World} (hs:Sim c w):∀ {x x':TV} {us:List Value},frs c.H x=some x'→BtD c w x us→BtD c.mine w x' us
 | .val y,x',us,hf,hr=>by simp only [frs,Option.some.injEq] at hf; subst hf; rw [BtD] at hr ⊢; exact hr
 | .any,x',us,hf,hr=>by simp only [frs,Option.some.injEq] at hf; subst hf; rw [BtD] at hr ⊢; exact hr
 | .mp _ _,x',us,hf,hr=>by simp [frs] at hf
 | .yl _ _,x',us,hf,hr=>by simp [frs] at hf
 | .sl k cs,x',us,hf,hr=>by simp [frs] at hf
 | .fp x,x',us,hf,hr=>by simp [frs] at hf
 | .op id ver p,x',us,hf,hr=>by simp [frs] at hf
 | .fn f a b,x',us,hf,hr=>by simp [frs] at hf
 | .os k id ver p off n cp,x',us,hf,hr=>by
  rw [BtD] at hr
  obtain ⟨hr1,hr2⟩:=hr
  rw [frs] at hf
  split at hf
  ·rename_i ver' x hid
   split at hf
   ·rename_i e; subst e
    split at hf
    ·rename_i cs hcs
     split at hf
     ·rename_i hsc
      cases hf
      rcases hr2 with ⟨rfl,a0,hr2,_⟩ | ⟨b0,o0,cap,t0,m0,hr2,hr3,hr4,hr5,hr6,hr7⟩
      ·have:=BIb hcs
       subst this
       rw [BtD]
       exact ⟨by simp,.inl ⟨rfl,a0,0,hr2,by omega⟩⟩
      rcases hs.ob id _ hid with ⟨h0,_⟩ | ⟨b,off',pre,vs,post,t,fr,h0,h1,h2,h3,h4⟩
      ·rw [h0] at hr2; cases hr2
      rw [h0] at hr2
      obtain ⟨rfl,rfl⟩:b=b0∧off'=o0:=by simpa using hr2
      obtain ⟨a,m,q,rfl,k1,k2,k3,k4⟩:=By9 h4 hcs
      rw [BtD]
      refine ⟨k3,.inr ⟨b,off'+Bu0 p+off*k,cap,m,by rw [k4]; exact hr3,by omega,hr5,⟨id,_,off',hid,rfl,h0⟩,ByP hsc k2,?_⟩⟩
      have e:off'+Bu0 p+off*k=pre.length+a.length:=by rw [h3,k1]; omega
      rw [e]; exact BxN h1
     ·cases hf
    ·cases hf
   ·cases hf
  ·cases hf
 | .agg cs,x',us,hf,hr=>by
  simp only [frs,Option.map_eq_some_iff] at hf
  obtain ⟨ds,hds,rfl⟩:=hf
  rw [BtD] at hr ⊢
  exact BJI hs hds hr
 | .arr n k cs,x',us,hf,hr=>by
  rw [frs] at hf
  split at hf
  ·rename_i hsc; cases hf; rw [BtD] at hr ⊢; exact ⟨hr.1,hr.2.1,ByP hsc hr.2.2⟩
  ·cases hf
 | .tup cs,x',us,hf,hr=>by rw [BtD] at hr; exact hr.elim
 | .ifc t x,x',us,hf,hr=>by
  simp only [frs,Option.map_eq_some_iff] at hf
  obtain ⟨y,hy,rfl⟩:=hf
  rw [BtD] at hr ⊢
  obtain ⟨u,h1,vs,h2,h3⟩:=hr
  exact ⟨u,h1,vs,BHZ hs hy h2,by rw [h3]; exact BKE hy vs⟩
theorem BJI {c:Ctx} {w:World} (hs:Sim c w):∀ {xs xs':List TV} {us:List Value},BJS c.H xs=some xs'→BtE c w xs us→BtE c.mine w xs' us
 | [],xs',us,hf,hr=>by simp only [BJS,Option.some.injEq] at hf; subst hf; rw [BtE] at hr ⊢; exact hr
 | x::xs,xs',us,hf,hr=>by
  rw [BJS] at hf
  split at hf
  ·rename_i y ys hy hys
   cases hf
   rw [BtE] at hr ⊢
   obtain ⟨u,us,h1,h2,h3⟩:=hr
   exact ⟨u,us,h1,BHZ hs hy h2,BJI hs hys h3⟩
  ·cases hf
theorem BKE {H:List Ob}:∀ {x x':TV} (hf:frs H x=some x') (us:List Value),mkV x us=mkV x' us
 | .val y,x',hf,us=>by simp only [frs,Option.some.injEq] at hf; subst hf; rfl
 | .any,x',hf,us=>by simp only [frs,Option.some.injEq] at hf; subst hf; rfl
 | .mp _ _,x',hf,us=>by simp [frs] at hf
 | .yl _ _,x',hf,us=>by simp [frs] at hf
 | .sl k cs,x',hf,us=>by simp [frs] at hf
 | .fp x,x',hf,us=>by simp [frs] at hf
 | .op id ver p,x',hf,us=>by simp [frs] at hf
 | .fn f a b,x',hf,us=>by simp [frs] at hf
 | .os k id ver p off n cp,x',hf,us=>by
  rw [frs] at hf
  split at hf
  ·split at hf
   ·split at hf
    ·split at hf
     ·cases hf; rfl
     ·cases hf
    ·cases hf
   ·cases hf
  ·cases hf
 | .agg cs,x',hf,us=>by
  simp only [frs,Option.map_eq_some_iff] at hf
  obtain ⟨ds,hds,rfl⟩:=hf; rfl
 | .arr n k cs,x',hf,us=>by
  rw [frs] at hf
  split at hf
  ·cases hf; rfl
  ·cases hf
 | .tup cs,x',hf,us=>by
  simp only [frs,Option.map_eq_some_iff] at hf
  obtain ⟨ds,hds,rfl⟩:=hf; rfl
 | .ifc t x,x',hf,us=>by
  simp only [frs,Option.map_eq_some_iff] at hf
  obtain ⟨y,hy,rfl⟩:=hf; rfl
end
theorem BK6 {c:Ctx} {w:World} (hs:Sim c w):∀ {xs xs':List TV} {vs:List Value},BJS c.H xs=some xs'→BtY c w xs vs→BtY c.mine w xs' vs
 | [],xs',vs,hf,hr=>by simp only [BJS,Option.some.injEq] at hf; subst hf; rw [BtY] at hr ⊢; exact hr
 | x::xs,xs',vs,hf,hr=>by
  rw [BJS] at hf
  split at hf
  ·rename_i y ys hy hys
   cases hf
   rw [BtY] at hr ⊢
   obtain ⟨u,us,h1,h2,h3⟩:=hr
   refine ⟨u,us,h1,?_,BK6 hs hys h3⟩
   rcases h2 with rfl | rfl | ⟨aS,h2,h4⟩
   ·simp only [frs,Option.some.injEq] at hy; subst hy; exact .inl rfl
   ·simp only [frs,Option.some.injEq] at hy; subst hy; exact .inr (.inl rfl)
   ·exact .inr (.inr ⟨aS,BHZ hs hy h2,by rw [h4]; exact BKE hy aS⟩)
  ·cases hf
theorem BPD {c:Ctx} {w:World} (hs:Sim c w) {x x':TV} {v:Value} (hf:frs c.H x=some x') (hr:Rep c w x v):Rep c.mine w x' v:=by
 rcases hr with (h | h | ⟨us,h,h'⟩) | ⟨xs,vs,rfl,h2,h3⟩
 ·subst h; simp only [frs,Option.some.injEq] at hf; subst hf; exact Rep.any
 ·subst h; simp only [frs,Option.some.injEq] at hf; subst hf; exact Rep.of_val
 ·exact .inl (.inr (.inr ⟨us,BHZ hs hf h,by rw [h']; exact BKE hf us⟩))
 ·simp only [frs,Option.map_eq_some_iff] at hf
  obtain ⟨ds,hds,rfl⟩:=hf
  exact .inr ⟨ds,vs,rfl,h2,BK6 hs hds h3⟩
def Bzj (P:Program) (f:FuncId) (args:List TV) (R:TV→Prop):Prop :=
 ∀ (β:Nat→Nat→Option (Nat×Nat)) (F:Nat→Prop) (w:World) (vs:List Value),((∀ b,F b→b<w.heap.size)∧Bz2 F w)→BtY ⟨β,[],F⟩ w args vs →
  Calls P f vs.toArray w fun e w'=>∃ v x F',e = .returned v∧R x∧Rep ⟨β,[],fun b=>F' b∧w.heap.size≤b⟩ w' x v∧BES F w F' w'
theorem Bzj.mono {f:FuncId} {args:List TV} {R R':TV→Prop} (h:Bzj P f args R) (hr:∀ x,R x→R' x):Bzj P f args R' :=
 fun β F w vs hF hv=>(h β F w vs hF hv).mono fun _ _ ⟨v,x,F',h1,h2,h3⟩=>⟨v,x,F',h1,hr _ h2,h3⟩
theorem Bzj.pure {f:FuncId} {args:List TV} {R:TV→Prop} (h:Bzj P f args R):ByW P f args R :=
 fun β F w vs hF hv=>(h β F w vs hF hv).mono fun _ _ ⟨v,x,F',h1,h2,h3,h4⟩=>⟨v,x,F',h1,h2,Rep.mono (Bxl.ofF (F:=fun b=>F' b∧w.heap.size≤b) (F':=F') fun b hb=>hb.1) h3,h4⟩
theorem BtJ.toFresh {f:FuncId} {args:List TV} {R:TV→Prop} (h:BtJ P f args [] fun x H'=>match frs H' x with | some y=>R y | none=>False):Bzj P f args R:=by
 intro β F w vs hF hv
 have hs:Sim ⟨β,[],F⟩ w:=⟨fun id o ho=>by simp at ho,fun i j x y b o o' hx=>by simp at hx,fun b hb=>by obtain ⟨i,o,off,h1,_⟩:=hb; simp at h1,hF.1,hF.2⟩
 refine (h β F w vs hs hv).mono ?_
 rintro _ w' ⟨v,x,β',H',F',rfl,hR,hs',hl,hx⟩
 split at hR
 ·rename_i y hy
  have hno:∀ b,¬ Ctx.own ⟨β,[],F⟩ b:=fun b hb=>by obtain ⟨i,o,off,h1,_⟩:=hb; simp at h1
  have hr:=BPD hs' hy hx
  have hnew:∀ b,Ctx.own ⟨β',H',F'⟩ b→w.heap.size≤b:=fun b hb=>by
   rcases Nat.lt_or_ge b w.heap.size with h1 | h1
   ·exact absurd (hl.oldOwn b h1 hb) (hno b)
   ·exact h1
  refine ⟨v,y,fun b=>F b∨Ctx.own ⟨β',H',F'⟩ b,rfl,hR,?_,⟨hl.os,hl.tape,hl.output,hl.size,fun b hb=>hl.same b hb (hno b),fun b hb => .inl hb,fun b hb hF'=>hF'.elim id fun h => ?_,fun b hF'=>hF'.elim (fun h=>Nat.lt_of_lt_of_le (hF.1 b h) hl.size) hs'.own_lt⟩⟩
  ·exact Rep.mono (Bxl.ofF (F:=Ctx.own ⟨β',H',F'⟩) (F':=fun b=>(F b∨Ctx.own ⟨β',H',F'⟩ b)∧w.heap.size≤b) fun b hb=>⟨.inr hb,hnew b hb⟩) hr
  ·have:=hnew b h; omega
 ·exact hR.elim
theorem Bzj.lends {f:FuncId} {args args':List TV} {R:TV→Prop} {H:List Ob} {K:TV→List Ob→Prop} (h:Bzj P f args' R) (hp:BUv H args=some args') (hk:∀ x,R x→K x H):BtJ P f args H K:=by
 intro β F w vs hs hv
 refine (h β (fun b=>F b∨Ctx.own ⟨β,H,F⟩ b) w vs ⟨fun b hb=>hb.elim (hs.lt b) hs.own_lt,hs.glob.keep fun b hb=>⟨.inl hb,rfl⟩⟩ (BKR hs hp hv)).mono ?_
 rintro _ w' ⟨v,x,F',rfl,hR,hx,hst⟩
 have hst':BES F w (fun b=>F b∨(F' b∧w.heap.size≤b)) w':=⟨hst.os,hst.tape,hst.output,hst.size,hst.same,fun _ h => .inl h,fun b hb h=>h.elim id fun h=>by omega,fun b hb=>hb.elim (fun h=>Nat.lt_of_lt_of_le (hs.lt b h) hst.size) fun h=>hst.ltF b h.1⟩
 refine ⟨v,x,β,H,_,rfl,hk x hR,hst'.sim hs,hst'.later,Rep.mono (Bxl.ofF (F:=fun b=>F' b∧w.heap.size≤b) (F':=fun b=>F b∨(F' b∧w.heap.size≤b)) fun b hb => .inr hb) hx⟩
end
end
section
open Go.RowKit
variable [Bt6]
set_option autoImplicit false
theorem Btv {α:Sort _} {a b:α} (h:a=b):a=b:=h
abbrev i64 (n:Int):TV := .val (.int .i64 n)
abbrev tb (b:Bool):TV := .val (.bool b)
abbrev ts (l:List UInt8):TV := .val (.string (str l))
abbrev slB (l:List UInt8):TV := .sl 1 (l.map by8)
abbrev slS (l:List (List UInt8)):TV := .sl 1 (l.map ts)
section
variable {P:Program} {e:Env} {H:List Ob}
theorem Bx0 {x:Opd} {K:TV→Prop}:pop (.mov x) e H K=(K (x.ev e)):=Btv rfl
theorem BIP {c:Opd} {a:Opd} {b:Opd} {K:TV→Prop}:pop (.pick c a b) e H K=(match c.ev e with
  | .val (.bool t)=>K (if t then a.ev e else b.ev e)
  | _=>False):=Btv rfl
theorem ByZ {t:TypeId} {op:BinOp} {x:Opd} {y:Opd} {K:TV→Prop}:pop (.bin t op x y) e H K=(match x.ev e,y.ev e with
  | .val u,.val v=>BOU u v=true∧(match BvB t op u v with | some r=>K (.val r) | none=>False)
  | _,_=>False):=Btv rfl
theorem BWr {k:IntKind} {x:Opd} {K:TV→Prop}:pop (.conv k x) e H K=(match x.ev e with
  | .val (.int _ n)=>K (.val (.int k (k.wrap n)))
  | _=>False):=Btv rfl
theorem B0n {x:Opd} {K:TV→Prop}:pop (.b2s x) e H K=(match Bue H 1 (x.ev e) with
  | some cs=>(∀ y∈cs,BMp y)∧K (.val (.string (str (cs.map BFP))))
  | none=>False):=Btv rfl
theorem BC7 {ag:Bool} {sz:Nat} {x:Opd} {K:TV→Prop}:pop (.load ag sz x) e H K=(match x.ev e with
  | .fp y=>BHN ag sz y∧K y
  | .op id ver p=>(match H[id]? with
   | some (.obj v x)=>v=ver∧(match Bzf p x with | some y=>BHN ag sz y∧K y | none=>False)
   | _=>False)
  | _=>False):=Btv rfl
theorem BAx {i:Nat} {off:Nat} {x:Opd} {K:TV→Prop}:pop (.fieldA i off x) e H K=(match x.ev e with
  | .op id ver p=>K (.op id ver (p++[(i,off)]))
  | .fp (.agg cs)=>Buh (cs.take i)=off∧(match cs[i]? with | some y=>K (.fp y) | none=>False)
  | _=>False):=Btv rfl
theorem BHI {k:Nat} {x:Opd} {i:Opd} {K:TV→Prop}:pop (.idxA k x i) e H K=(match x.ev e,i.ev e with
  | .sl k' cs,.val (.int _ j)=>k'=k∧0≤j∧(match cs[j.toNat]? with | some y=>K (.fp y) | none=>False)
  | .os k' id ver p off n cp,.val (.int _ j)=>k'=k∧0≤j∧j<n∧K (.op id ver (p++[(off+j.toNat,(off+j.toNat)*k)]))
  | _,_=>False):=Btv rfl
theorem BYF {n:Nat} {k:Nat} {x:Opd} {i:Opd} {K:TV→Prop}:pop (.idxAA n k x i) e H K=(match x.ev e,i.ev e with
  | .fp (.arr n' k' cs),.val (.int _ j)=>k'=k∧n'=n∧0≤j∧(match cs[j.toNat]? with | some y=>K (.fp y) | none=>False)
  | .op id ver p,.val (.int _ j)=>0≤j∧j<n∧K (.op id ver (p++[(j.toNat,j.toNat*k)]))
  | _,_=>False):=Btv rfl
theorem BBO {x:Opd} {K:TV→Prop}:pop (.lenV x) e H K=(match x.ev e with
  | .val (.slice _ n _)=>K (.val (.int .i64 n))
  | .sl _ cs=>K (.val (.int .i64 cs.length))
  | .os _ _ _ _ _ n _=>K (.val (.int .i64 n))
  | _=>False):=Btv rfl
theorem BPS {k:Nat} {x:Opd} {lo:Option Opd} {hi:Option Opd} {K:TV→Prop}:pop (.slV k x lo hi) e H K=(match x.ev e with
  | .sl k' cs=>k'=k∧bnd e lo hi cs.length cs.length fun l h=>K (.sl k ((cs.drop l).take (h - l)))
  | .os k' id ver p off n cp=>k'=k∧bnd e lo hi n cp fun l h=>K (.os k id ver p (off+l) (h - l) (cp - l))
  | .val (.slice ad 0 0)=>bnd e lo hi 0 0 fun l h=>K (.val (.slice ad 0 0))
  | _=>False):=Btv rfl
theorem BZs {n:Nat} {k:Nat} {x:Opd} {lo:Option Opd} {hi:Option Opd} {K:TV→Prop}:pop (.slA n k x lo hi) e H K=(match x.ev e with
  | .fp (.arr n' k' cs)=>k'=k∧n'=n∧n≤9223372036854775807∧bnd e lo hi n n fun l h=>K (.sl k ((cs.drop l).take (h - l)))
  | .op id ver p=>(match H[id]? with
   | some (.obj v x)=>v=ver∧n≤9223372036854775807∧(match Bzf p x with | some (.arr n' k' cs)=>k'=k∧n'=n∧bnd e lo hi n n fun l h=>K (.os k id ver p l (h - l) (n - l)) | _=>False)
   | _=>False)
  | _=>False):=Btv rfl
theorem BYo {f:Fn} {first:List Opd} {caps:List Opd} {K:TV→Prop}:pop (.mkf f first caps) e H K=((∀ x∈first++caps,BuI (x.ev e)=false)∧K (.fn f (first.map (·.ev e)) (caps.map (·.ev e)))):=Btv rfl
theorem BGP {x:Opd} {K:TV→Prop}:pop (.nilc x) e H K=(match x.ev e with
  | .op id ver p=>K (.op id ver p)
  | .fp y=>K (.fp y)
  | .fn (.func f) a b=>K (.fn (.func f) a b)
  | .ifc t y=>K (.ifc t y)
  | .val (.func (.func f) a b)=>K (.val (.func (.func f) a b))
  | _=>False):=Btv rfl
theorem B0h {x:Opd} {y:Opd} {K:TV→Prop}:pop (.min x y) e H K=(match x.ev e,y.ev e with
  | .val (.int k a),.val (.int _ b)=>K (.val (.int k (if b<a then b else a)))
  | _,_=>False):=Btv rfl
theorem BXI {kd:Nat} {x:Opd} {y:Opd} {neg:Bool} {K:TV→Prop}:pop (.eqN kd x y neg) e H K=(match BuW kd (x.ev e),BuW kd (y.ev e) with
  | some true,some b=>K (.val (.bool (xor neg b)))
  | some false,some true=>K (.val (.bool (xor neg false)))
  | _,_=>False):=Btv rfl
theorem BSg {z:TV} {K:TV→List Ob→Prop}:sop P (.alloc z) e H K=(K (.op H.length 0 []) (H++[.obj 0 z])):=Btv rfl
theorem BOV {k:Nat} {n:Nat} {z:TV} {ps:List (Nat×Opd)} {K:TV→List Ob→Prop}:sop P (.bslice k n z ps) e H K=((Bve e (List.replicate n k) ps∧Bt8 e ps∧n≤1000)∧K (.os k H.length 0 [] 0 n n) (H++[.obj 0 (.arr n k (BvW e (List.replicate n z) ps))])):=Btv rfl
theorem BAG {sz:Nat} {x:Opd} {v:Opd} {K:TV→List Ob→Prop}:sop P (.store sz x v) e H K=((lays (v.ev e)=true∧BtL (v.ev e)=sz)∧(match x.ev e with
  | .op id ver p=>(match H[id]? with
   | some (.obj vr y)=>vr=ver∧(match BDZ p y (v.ev e) with | some y'=>K .any (H.set id (.obj ver y')) | none=>False)
   | _=>False)
  | _=>False)):=Btv rfl
theorem BYv {k:Nat} {bytes:Nat} {z:TV} {l:Opd} {c:Opd} {K:TV→List Ob→Prop}:sop P (.mks k bytes z l c) e H K=(match l.ev e,c.ev e with
  | .val (.int _ l),.val (.int _ c)=>(0≤l∧l≤c∧(bytes:Int)*c≤281474976710656∧c≤9223372036854775807)∧K (.os k H.length 0 [] 0 l.toNat c.toNat) (H++[.obj 0 (.arr c.toNat k (List.replicate c.toNat z))])
  | _,_=>False):=Btv rfl
theorem BVR {k:Nat} {x:Opd} {y:Opd} {K:TV→List Ob→Prop}:sop P (.copy k x y) e H K=(match Bue H k (y.ev e) with
  | some ys=>BBc k (x.ev e) ys H K
  | none=>False):=Btv rfl
theorem BKT {f:FuncId} {args:List Opd} {K:TV→List Ob→Prop}:sop P (.call f args) e H K=((∀ x∈args,BuI (x.ev e)=false)∧BtJ P f (args.map (·.ev e)) H K):=Btv rfl
theorem BUa {x:Opd} {args:List Opd} {K:TV→List Ob→Prop}:sop P (.callv x args) e H K=((∀ x∈args,BuI (x.ev e)=false)∧(match x.ev e with
  | .fn (.func f) first caps=>BEV P f=true∧BtJ P f (first++args.map (·.ev e)++caps) H K
  | .val (.func (.func f) xs ys)=>(xs.isEmpty && ys.isEmpty)=true∧BEV P f=true∧BtJ P f (args.map (·.ev e)) H K
  | .yl id ver=>BCp P id ver (args.map (·.ev e)) H K
  | _=>False)):=Btv rfl
theorem Bx2 {l:List VO} {kp:List Nat} {Q:VEx→Env→List Ob→Prop}:vwp P (.ops l kp) Q e H=(BFA P l (fun e H=>Q .nor (forget kp e) H) e H):=Btv rfl
theorem BSa {n:Nat} {l:List VO} {kp:List Nat} {Q:VEx→Env→List Ob→Prop}:vwp P (.draw n l kp) Q e H=(vq P (l.take n) (fun e=>BFA P (l.drop n) (fun e H=>Q .nor (forget kp e) H) e H) e H):=Btv rfl
theorem BCX  {Q:VEx→Env→List Ob→Prop}:vwp P (.skip ) Q e H=(Q .nor e H):=Btv rfl
theorem BxX {a:Btx} {b:Btx} {Q:VEx→Env→List Ob→Prop}:vwp P (.seq a b) Q e H=(vwp P a (fun x e H=>match x with | .nor=>vwp P b Q e H | .exit i=>Q (.exit i) e H | .ret=>Q .ret e H | .pan u=>Q (.pan u) e H) e H):=Btv rfl
theorem Bww {c:Opd} {a:Btx} {b:Btx} {Q:VEx→Env→List Ob→Prop}:vwp P (.cond c a b) Q e H=(match c.ev e with
  | .val (.bool t)=>if t=true then vwp P a Q e H else vwp P b Q e H
  | _=>False):=Btv rfl
theorem ByG {id:Nat} {c:Btx} {Q:VEx→Env→List Ob→Prop}:vwp P (.block id c) Q e H=(vwp P c (fun x e H=>match x with | .nor=>Q .nor e H | .exit i=>if i=id then Q .nor e H else Q (.exit i) e H | .ret=>Q .ret e H | .pan u=>Q (.pan u) e H) e H):=Btv rfl
theorem BIY {lv:List Nat} {c:Btx} {Q:VEx→Env→List Ob→Prop} {H0:List Ob}:vwp P (.loop lv c) Q e H0=(∃ (I:Nat→Env→List Ob→Prop) (n:Nat),I n (forget lv e) H0 ∧
   ∀ n e H,I n e H→vwp P c (fun x e H=>match x with | .nor=>∃ m g,m<n∧(H0.length≤g∧(H.length≤g∨(BC2 g (forget lv e)=true∧BEv g (H.take g)=true)))∧I m (forget lv e) (H.take g) | .exit i=>Q (.exit i) e H | .ret=>Q .ret e H | .pan u=>Q (.pan u) e H) e H):=Btv rfl
theorem BIV {id:Nat} {Q:VEx→Env→List Ob→Prop}:vwp P (.exit id) Q e H=(Q (.exit id) e H):=Btv rfl
theorem BCH  {Q:VEx→Env→List Ob→Prop}:vwp P (.ret ) Q e H=(Q .ret e H):=Btv rfl
theorem BSI {c:Btx} {Q:VEx→Env→List Ob→Prop}:vwp P (.scope c) Q e H=(vwp P c Q e H):=Btv rfl
theorem B0m {s k:Nat} {c:Btx} {Q:VEx→Env→List Ob→Prop}:vwp P (.own s k c) Q e H=(match get e s with
  | .val (.slice none 0 0)=>vwp P c Q ((s,.os k H.length 0 [] 0 0 0)::e) (H++[.obj 0 (.arr 0 k [])])
  | _=>vwp P c Q e H):=Btv rfl
theorem BV8 {s k:Nat} {p:List (Nat×Nat)} {c:Btx} {Q:VEx→Env→List Ob→Prop}:vwp P (.ownB s p k c) Q e H=(match get e s with
  | .op id ver p0=>(match H[id]? with
   | some (.obj v x)=>v=ver∧(match Bzf (p0++p) x with
    | some (.val (.slice none 0 0))=>(match BDZ (p0++p) x (.os k H.length 0 [] 0 0 0) with
     | some x'=>vwp P c Q e (H.set id (.obj ver x')++[.obj 0 (.arr 0 k [])])
     | none=>False)
    | _=>vwp P c Q e H)
   | _=>False)
  | _=>False):=Btv rfl
theorem BVI {s:Nat} {t:TypeId} {p:List (Nat×Nat)} {c:Btx} {Q:VEx→Env→List Ob→Prop}:vwp P (.ownT s p t c) Q e H=(match get e s with
  | .op id ver p0=>(match H[id]? with
   | some (.obj v x)=>v=ver∧(match Bzf (p0++p) x with
    | some (.val (.slice none 0 0))=>(match BDZ (p0++p) x (.os 1 H.length 0 [] 0 0 0) with
     | some x'=>vwp P c Q e (H.set id (.obj ver x')++[.bld 0 t []])
     | none=>False)
    | _=>vwp P c Q e H)
   | _=>False)
  | _=>False):=Btv rfl
theorem Bt2 {K:Env→List Ob→Prop}:BFA P [] K e H=K e H:=Btv rfl
theorem Bu5 {d:Nat} {o:POp} {r:List VO} {K:Env→List Ob→Prop}:BFA P (⟨some d,.p o,none⟩::r) K e H=pop o e H fun x=>BFA P r K ((d,x)::e) H:=Btv rfl
theorem BHu {d:Nat} {o:SOp} {r:List VO} {K:Env→List Ob→Prop}:BFA P (⟨some d,.s o,none⟩::r) K e H=sop P o e H fun x H=>BFA P r K ((d,x)::e) H:=Btv rfl
theorem Bzu {o:SOp} {r:List VO} {K:Env→List Ob→Prop}:BFA P (⟨none,.s o,none⟩::r) K e H=sop P o e H fun x H=>BFA P r K e H:=Btv rfl
theorem BHU {d s:Nat} {o:VOp} {b:Bool} {r:List VO} {K:Env→List Ob→Prop}:BFA P (⟨some d,o,some (s,b)⟩::r) K e H=BGU e s fun e q=>match q with
 | some t=>if t=b then vop P o e H (fun x H=>BFA P r K ((d,x)::e) H) else BFA P r K ((d,.val undef)::e) H
 | none=>BFA P r K ((d,.val undef)::e) H:=Btv rfl
theorem BG3 {s:Nat} {Q:Env→Option Bool→Prop}:BGU e s Q=(match get e s with
 | .val v=>Q e (isB v)
 | .any=>(∀ t,Q ((s,.val (.bool t))::e) (some t))∧∀ v,isB v=none→Q ((s,.val v)::e) none
 | _=>False):=Btv rfl
theorem BEl {b:Bool}:isB (.bool b)=some b:=Btv rfl
theorem BOc:isB undef=none:=Btv rfl
theorem BNd {o:POp} {K:TV→List Ob→Prop}:vop P (.p o) e H K=pop o e H fun x=>K x H:=Btv rfl
theorem BZA {o:SOp} {K:TV→List Ob→Prop}:vop P (.s o) e H K=sop P o e H K:=Btv rfl
theorem BM9 {K:Env→Prop}:vq P [] K e H=K e:=Btv rfl
theorem BYC {d:Nat} {o:POp} {r:List VO} {K:Env→Prop}:vq P (⟨some d,.p o,none⟩::r) K e H=pop o e H fun x=>vq P r K ((d,x)::e) H:=Btv rfl
theorem B0k {d:Nat} {f:FuncId} {args:List Opd} {r:List VO} {K:Env→Prop}:vq P (⟨some d,.s (.call f args),none⟩::r) K e H=((∀ x∈args,BuI (x.ev e)=false)∧∃ x,BtJ P f (args.map (·.ev e)) H (fun y H'=>y=x∧H'=H)∧vq P r K ((d,x)::e) H):=Btv rfl
theorem BS6 {o:POp} {k:TV→Prop}:BHi P (.p o) e H k=pop o e H k:=Btv rfl
theorem BT3 {f:FuncId} {args:List Opd} {k:TV→Prop}:BHi P (.s (.call f args)) e H k=((∀ x∈args,BuI (x.ev e)=false)∧∃ x,BtJ P f (args.map (·.ev e)) H (fun y H'=>y=x∧H'=H)∧k x):=Btv rfl
variable {t:TypeId} {a b:Int} {k:IntKind}
theorem BvC {n:Int} (h1 : -9223372036854775808≤n) (h2:n≤9223372036854775807):IntKind.i64.wrap n=n:=by rw [IntKind.wrap_i64]; omega
theorem BIF (h1 : -9223372036854775808≤a+b) (h2:a+b≤9223372036854775807):BvB t .add (.int .i64 a) (.int .i64 b)=some (.int .i64 (a+b)):=by
 rw [show BvB t .add (.int .i64 a) (.int .i64 b)=some (.int .i64 (IntKind.i64.wrap (a+b))) from rfl,BvC h1 h2]
theorem BWu (h1 : -9223372036854775808≤a - b) (h2:a - b≤9223372036854775807):BvB t .sub (.int .i64 a) (.int .i64 b)=some (.int .i64 (a - b)):=by
 rw [show BvB t .sub (.int .i64 a) (.int .i64 b)=some (.int .i64 (IntKind.i64.wrap (a - b))) from rfl,BvC h1 h2]
theorem BKG (h1 : -9223372036854775808≤a*b) (h2:a*b≤9223372036854775807):BvB t .mul (.int .i64 a) (.int .i64 b)=some (.int .i64 (a*b)):=by
 rw [show BvB t .mul (.int .i64 a) (.int .i64 b)=some (.int .i64 (IntKind.i64.wrap (a*b))) from rfl,BvC h1 h2]
theorem BJb:BvB t .eql (.int k a) (.int k b)=some (.bool (decide (a=b))):=by
 rw [show BvB t .eql (.int k a) (.int k b)=some (.bool (a == b)) from by simp [BvB,binOp,Op.intCmp]; rfl]; rfl
theorem BNf:BvB t .neq (.int k a) (.int k b)=some (.bool (!decide (a=b))):=by
 rw [show BvB t .neq (.int k a) (.int k b)=some (.bool (a != b)) from by simp [BvB,binOp,Op.intCmp]; rfl]; rfl
theorem BFj:BvB t .lss (.int k a) (.int k b)=some (.bool (decide (a<b))):=by simp [BvB,binOp,Op.intCmp]; rfl
theorem BX1:BvB t .leq (.int k a) (.int k b)=some (.bool (decide (a≤b))):=by simp [BvB,binOp,Op.intCmp]; rfl
theorem BKe:BvB t .gtr (.int k a) (.int k b)=some (.bool (decide (b<a))):=by simp [BvB,binOp,Op.intCmp]; rfl
theorem BYQ:BvB t .geq (.int k a) (.int k b)=some (.bool (decide (b≤a))):=by simp [BvB,binOp,Op.intCmp]; rfl
theorem BNN:BuW 0 (.val (.pointer none))=some true:=Btv rfl
theorem BMU {i v:Nat} {p:List (Nat×Nat)}:BuW 0 (.op i v p)=some false:=Btv rfl
theorem BON {x:TV}:BuW 0 (.fp x)=some false:=Btv rfl
theorem BJE:BuW 1 (.val .nilIface)=some true:=Btv rfl
theorem BL1 {t:TypeId} {x:TV}:BuW 1 (.ifc t x)=some false:=Btv rfl
theorem BOo:BuW 2 (.val (.map none))=some true:=Btv rfl
theorem BMw {i v:Nat}:BuW 2 (.mp i v)=some false:=Btv rfl
theorem BOA {i v:Nat}:BuW 3 (.yl i v)=some false:=Btv rfl
theorem BMv:BuW 3 (.val .nilFunc)=some true:=Btv rfl
theorem BOJ {f:Fn} {a b:List TV}:BuW 3 (.fn f a b)=some false:=Btv rfl
theorem all_cons {α:Type} {p:α→Prop} {a:α} {l:List α}:(∀ x∈a::l,p x)=(p a∧∀ x∈l,p x):=propext List.forall_mem_cons
theorem all_nil {α:Type} {p:α→Prop}:(∀ x∈([]:List α),p x)=True:=propext ⟨fun _=>trivial,fun _ x h=>by cases h⟩
theorem BXj {n:Int} (h0:0≤n) (h1:n<18446744073709551616):(BitVec.ofInt 64 n).toNat=n.toNat:=by
 rw [BitVec.toNat_ofInt]
 have:n % ((2 ^ 64:Nat):Int)=n:=Int.emod_eq_of_lt h0 (by simpa using h1)
 rw [this]
theorem BRe (h1:0≤a) (h2:a≤9223372036854775807) (h3:0≤b) (h4:b≤9223372036854775807):BvB t .and (.int .i64 a) (.int .i64 b)=some (.int .i64 ((a.toNat &&& b.toNat:Nat):Int)):=by
 rw [show BvB t .and (.int .i64 a) (.int .i64 b)=some (.int .i64 (IntKind.i64.wrap ((BitVec.ofInt 64 a &&& BitVec.ofInt 64 b).toNat:Int))) from rfl,BitVec.toNat_and,BXj h1 (by omega),BXj h3 (by omega)]
 have:=Nat.and_le_left (n:=a.toNat) (m:=b.toNat)
 rw [BvC (by omega) (by omega)]
theorem BYZ (h1:0≤a) (h2:a≤9223372036854775807) (h3:0≤b) (h4:b≤9223372036854775807):BvB t .or (.int .i64 a) (.int .i64 b)=some (.int .i64 ((a.toNat ||| b.toNat:Nat):Int)):=by
 rw [show BvB t .or (.int .i64 a) (.int .i64 b)=some (.int .i64 (IntKind.i64.wrap ((BitVec.ofInt 64 a ||| BitVec.ofInt 64 b).toNat:Int))) from rfl,BitVec.toNat_or,BXj h1 (by omega),BXj h3 (by omega)]
 have:=Nat.or_lt_two_pow (n:=63) (x:=a.toNat) (y:=b.toNat) (by omega) (by omega)
 rw [BvC (by omega) (by omega)]
theorem BPz {k2:IntKind} (h1:0≤b) (h2:b≤63) (h3:0≤a*2 ^ b.toNat) (h4:a*2 ^ b.toNat≤9223372036854775807):BvB t .shl (.int .i64 a) (.int k2 b)=some (.int .i64 (a*2 ^ b.toNat)):=by
 have e:binOp .shl t (.int .i64 a) (.int k2 b)=pure (.int .i64 (a*2 ^ b.toNat)):=by
  show Op.shift .shl .i64 a k2 b=_
  unfold Op.shift
  rw [if_neg (by omega)]
  have hm:min b.toNat IntKind.i64.bits=b.toNat:=by
   have:IntKind.i64.bits=64:=rfl
   omega
  simp only [hm]
  rw [BvC (by omega) h4]
 unfold BvB; rw [e]; rfl
theorem BTj {k2:IntKind} (h1:0≤b) (h2:b≤63) (h3:0≤a):BvB t .shr (.int .i64 a) (.int k2 b)=some (.int .i64 (a / 2 ^ b.toNat)):=by
 have e:binOp .shr t (.int .i64 a) (.int k2 b)=pure (.int .i64 (a / 2 ^ b.toNat)):=by
  show Op.shift .shr .i64 a k2 b=_
  unfold Op.shift
  rw [if_neg (by omega)]
  have hm:min b.toNat IntKind.i64.bits=b.toNat:=by
   have:IntKind.i64.bits=64:=rfl
   omega
  simp only [hm]
  rw [Int.fdiv_eq_ediv_of_nonneg _ (by exact Int.le_of_lt (Int.pow_pos (by omega)))]
 unfold BvB; rw [e]; rfl
theorem BWM (h1:0≤a) (h2:b≠0):BvB t .rem (.int k a) (.int k b)=some (.int k (a % b)):=by
 have e:binOp .rem t (.int k a) (.int k b)=pure (.int k (a % b)):=by
  unfold binOp
  simp only [ne_eq,not_true_eq_false,if_false,Op.intDiv,h2,Int.tmod_eq_emod_of_nonneg h1]
 unfold BvB; rw [e]; rfl
theorem BZl (h1:0≤a) (h2:0<b) (h3:a≤9223372036854775807):BvB t .quo (.int .i64 a) (.int .i64 b)=some (.int .i64 (a / b)):=by
 have e:binOp .quo t (.int .i64 a) (.int .i64 b)=pure (.int .i64 (a / b)):=by
  unfold binOp
  simp only [ne_eq,not_true_eq_false,if_false,Op.intDiv,show ¬ b=0 from by omega,Int.tdiv_eq_ediv_of_nonneg h1]
  have h4:a / b≤a:=Int.ediv_le_self _ h1
  have h5:0≤a / b:=Int.ediv_nonneg h1 (by omega)
  rw [BvC (by omega) (by omega)]
 unfold BvB; rw [e]; rfl
theorem BR9 {x y:UInt8}:BvB t .xor (.int .u8 (x.toNat:Int)) (.int .u8 (y.toNat:Int))=some (.int .u8 ((x ^^^ y).toNat:Int)):=by
 rw [show BvB t .xor (.int .u8 (x.toNat:Int)) (.int .u8 (y.toNat:Int))=some (.int .u8 (IntKind.u8.wrap ((BitVec.ofInt 8 (x.toNat:Int) ^^^ BitVec.ofInt 8 (y.toNat:Int)).toNat:Int))) from rfl]
 rw [BitVec.ofInt_natCast,BitVec.ofInt_natCast,UInt8.toNat_xor,BitVec.toNat_xor,BitVec.toNat_ofNat,BitVec.toNat_ofNat,Nat.mod_eq_of_lt x.toNat_lt,Nat.mod_eq_of_lt y.toNat_lt]
 have:=Nat.xor_lt_two_pow (n:=8) x.toNat_lt y.toNat_lt
 rw [IntKind.wrap_u8]; congr 2; omega
theorem BCx (l:List UInt8):(str l).toList=l:=by simp [str,ByteArray.toList_eq]
theorem BK9 {l m:List UInt8}:(l == m)=decide (l=m):=by
 by_cases h:l=m<;>simp [h]
theorem BXY {l m:List UInt8}:BvB t .eql (.string (str l)) (.string (str m))=some (.bool (decide (l=m))):=by
 rw [show BvB t .eql (.string (str l)) (.string (str m))=some (.bool ((str l).toList == (str m).toList)) from rfl,BCx,BCx,BK9]
theorem BYp {l m:List UInt8}:BvB t .neq (.string (str l)) (.string (str m))=some (.bool (!decide (l=m))):=by
 rw [show BvB t .neq (.string (str l)) (.string (str m))=some (.bool (!((str l).toList == (str m).toList))) from rfl,BCx,BCx,BK9]
theorem BXU {b:Bool}:unV .not (.bool b)=some (.bool (!b)):=Btv rfl
theorem Buc {u:Value}:BOU (.int k a) u=true:=by cases u<;>rfl
theorem BQ5 {s:ByteArray} {u:Value}:BOU (.string s) u=true:=by cases u<;>rfl
theorem Bxv {v:Value}:BFQ (TV.val v)=false:=Btv rfl
theorem BQD  : BFQ (TV.any)=false:=Btv rfl
theorem BKy {k:Nat} {cs:List TV}:BFQ (TV.sl k cs)=false:=Btv rfl
theorem BUk {x:TV}:BFQ (TV.fp x)=false:=Btv rfl
theorem BTt {i:Nat} {v:Nat} {p:List (Nat×Nat)}:BFQ (TV.op i v p)=false:=Btv rfl
theorem BTY {k:Nat} {i:Nat} {v:Nat} {p:List (Nat×Nat)} {o:Nat} {n:Nat} {cp:Nat}:BFQ (TV.os k i v p o n cp)=false:=Btv rfl
theorem BRt {cs:List TV}:BFQ (TV.agg cs)=true:=Btv rfl
theorem BPl {n:Nat} {k:Nat} {cs:List TV}:BFQ (TV.arr n k cs)=true:=Btv rfl
theorem BPJ {vs:List TV}:BFQ (TV.tup vs)=false:=Btv rfl
theorem BP5 {t:TypeId} {x:TV}:BFQ (TV.ifc t x)=false:=Btv rfl
theorem BS9 {f:Fn} {a:List TV} {b:List TV}:BFQ (TV.fn f a b)=false:=Btv rfl
theorem BSn {i:Nat} {v:Nat}:BFQ (TV.mp i v)=false:=Btv rfl
theorem BTD {i:Nat} {v:Nat}:BFQ (TV.yl i v)=false:=Btv rfl
theorem BMQ {v:Value}:BuI (TV.val v)=false:=Btv rfl
theorem BOw  : BuI (TV.any)=false:=Btv rfl
theorem BK5 {k:Nat} {cs:List TV}:BuI (TV.sl k cs)=false:=Btv rfl
theorem BQm {x:TV}:BuI (TV.fp x)=false:=Btv rfl
theorem BIy {i:Nat} {v:Nat} {p:List (Nat×Nat)}:BuI (TV.op i v p)=false:=Btv rfl
theorem BLd {k:Nat} {i:Nat} {v:Nat} {p:List (Nat×Nat)} {o:Nat} {n:Nat} {cp:Nat}:BuI (TV.os k i v p o n cp)=false:=Btv rfl
theorem BNc {cs:List TV}:BuI (TV.agg cs)=false:=Btv rfl
theorem BMK {n:Nat} {k:Nat} {cs:List TV}:BuI (TV.arr n k cs)=false:=Btv rfl
theorem BOd {vs:List TV}:BuI (TV.tup vs)=true:=Btv rfl
theorem BOx {t:TypeId} {x:TV}:BuI (TV.ifc t x)=false:=Btv rfl
theorem BPQ {f:Fn} {a:List TV} {b:List TV}:BuI (TV.fn f a b)=false:=Btv rfl
theorem BPh {i:Nat} {v:Nat}:BuI (TV.mp i v)=false:=Btv rfl
theorem BRs {i:Nat} {v:Nat}:BuI (TV.yl i v)=false:=Btv rfl
theorem BO3  : lays (TV.any)=false:=Btv rfl
theorem BMB {k:Nat} {cs:List TV}:lays (TV.sl k cs)=true:=Btv rfl
theorem BS3 {x:TV}:lays (TV.fp x)=true:=Btv rfl
theorem BTO {i:Nat} {v:Nat} {p:List (Nat×Nat)}:lays (TV.op i v p)=true:=Btv rfl
theorem BSN {k:Nat} {i:Nat} {v:Nat} {p:List (Nat×Nat)} {o:Nat} {n:Nat} {cp:Nat}:lays (TV.os k i v p o n cp)=true:=Btv rfl
theorem BQ1 {cs:List TV}:lays (TV.agg cs)=true:=Btv rfl
theorem BRQ {n:Nat} {k:Nat} {cs:List TV}:lays (TV.arr n k cs)=true:=Btv rfl
theorem BQF {vs:List TV}:lays (TV.tup vs)=false:=Btv rfl
theorem BRH {t:TypeId} {x:TV}:lays (TV.ifc t x)=true:=Btv rfl
theorem BTn {f:Fn} {a:List TV} {b:List TV}:lays (TV.fn f a b)=true:=Btv rfl
theorem BTi {i:Nat} {v:Nat}:lays (TV.mp i v)=true:=Btv rfl
theorem BUi {i:Nat} {v:Nat}:lays (TV.yl i v)=true:=Btv rfl
theorem BGR {v:Value}:BuT (TV.val v)=true:=Btv rfl
theorem BNg  : BuT (TV.any)=true:=Btv rfl
theorem BPg {k:Nat} {cs:List TV}:BuT (TV.sl k cs)=true:=Btv rfl
theorem BRP {x:TV}:BuT (TV.fp x)=true:=Btv rfl
theorem BRv {i:Nat} {v:Nat} {p:List (Nat×Nat)}:BuT (TV.op i v p)=false:=Btv rfl
theorem BPs {k:Nat} {i:Nat} {v:Nat} {p:List (Nat×Nat)} {o:Nat} {n:Nat} {cp:Nat}:BuT (TV.os k i v p o n cp)=false:=Btv rfl
theorem BOy {n:Nat} {k:Nat} {cs:List TV}:BuT (TV.arr n k cs)=true:=Btv rfl
theorem BQf {i:Nat} {v:Nat}:BuT (TV.mp i v)=false:=Btv rfl
theorem BRV {i:Nat} {v:Nat}:BuT (TV.yl i v)=false:=Btv rfl
theorem BuM {v:Value}:BtL (TV.val v)=1:=Btv rfl
theorem BNW  : BtL (TV.any)=1:=Btv rfl
theorem Bzd {k:Nat} {cs:List TV}:BtL (TV.sl k cs)=1:=Btv rfl
theorem BPk {x:TV}:BtL (TV.fp x)=1:=Btv rfl
theorem BPf {i:Nat} {v:Nat} {p:List (Nat×Nat)}:BtL (TV.op i v p)=1:=Btv rfl
theorem BO6 {k:Nat} {i:Nat} {v:Nat} {p:List (Nat×Nat)} {o:Nat} {n:Nat} {cp:Nat}:BtL (TV.os k i v p o n cp)=1:=Btv rfl
theorem BNz {vs:List TV}:BtL (TV.tup vs)=1:=Btv rfl
theorem BOQ {t:TypeId} {x:TV}:BtL (TV.ifc t x)=1:=Btv rfl
theorem BRl {f:Fn} {a:List TV} {b:List TV}:BtL (TV.fn f a b)=1:=Btv rfl
theorem BQP {i:Nat} {v:Nat}:BtL (TV.mp i v)=1:=Btv rfl
theorem BQN {i:Nat} {v:Nat}:BtL (TV.yl i v)=1:=Btv rfl
theorem BNk {cs:List TV}:BtL (.agg cs)=Buh cs:=by rw [BtL]
theorem BJA {n k:Nat} {cs:List TV}:BtL (.arr n k cs)=n*k:=by rw [BtL]
theorem Bwq:Buh []=0:=Btv rfl
theorem Bwk {x:TV} {xs:List TV}:Buh (x::xs)=BtL x+Buh xs:=by rw [Buh]
theorem BN8 {cs:List TV}:BuT (.agg cs)=BuD cs:=by rw [BuT]
theorem BNE {t:TypeId} {x:TV}:BuT (.ifc t x)=BuT x:=by rw [BuT]
theorem BNh {cs:List TV}:BuT (.tup cs)=BuD cs:=by rw [BuT]
theorem BNn:BuD []=true:=Btv rfl
theorem BL0 {x:TV} {xs:List TV}:BuD (x::xs)=(BuT x && BuD xs):=by rw [BuD]
theorem BIq {k:IntKind} {n:Int}:lays (.val (.int k n))=true:=Btv rfl
theorem ByE {b:Bool}:lays (.val (.bool b))=true:=Btv rfl
theorem BJ9 {s:ByteArray}:lays (.val (.string s))=true:=Btv rfl
theorem BI0 {p:Option Addr}:lays (.val (.pointer p))=true:=Btv rfl
theorem BMg {p:Option Addr} {n c:Nat}:lays (.val (.slice p n c))=true:=Btv rfl
theorem BPj {r:Option Nat}:lays (.val (.map r))=true:=Btv rfl
theorem BNu {f:Fn} {a b:Array Value}:lays (.val (.func f a b))=true:=Btv rfl
theorem BJH:lays (.val .nilFunc)=true:=Btv rfl
theorem BH2:lays (.val .nilIface)=true:=Btv rfl
theorem BGo {e:Env} {n:Nat}:(Opd.t n).ev e=get e n:=Btv rfl
theorem B0l {e:Env} {n:Nat}:(Opd.g n).ev e=(match BC9 n with | some x => .fp x.tv | none => .val (.pointer (some ⟨n,0,none⟩))):=Btv rfl
theorem BGi {e:Env} {v:Value}:(Opd.c v).ev e = .val v:=Btv rfl
theorem Bxu {x:TV}:Bzf [] x=some x:=Btv rfl
theorem BAv {i d:Nat} {p:List (Nat×Nat)} {cs:List TV}:Bzf ((i,d)::p) (.agg cs)=if Buh (cs.take i)=d then (cs[i]?).bind (Bzf p) else none:=by rw [Bzf]
theorem BIn {i d n k:Nat} {p:List (Nat×Nat)} {cs:List TV}:Bzf ((i,d)::p) (.arr n k cs)=if d=i*k then (cs[i]?).bind (Bzf p) else none:=by rw [Bzf]
theorem Bxt {x y:TV}:BDZ [] x y=if BtL y=BtL x then some y else none:=by rw [BDZ]
theorem Bzg {i d:Nat} {p:List (Nat×Nat)} {cs:List TV} {y:TV}:BDZ ((i,d)::p) (.agg cs) y=if Buh (cs.take i)=d then (cs[i]?).bind fun c=>(BDZ p c y).map fun c' => .agg (cs.set i c') else none:=by rw [BDZ]
theorem BIt {i d n k:Nat} {p:List (Nat×Nat)} {cs:List TV} {y:TV}:BDZ ((i,d)::p) (.arr n k cs) y=if d=i*k∧BuT y=true then (cs[i]?).bind fun c=>(BDZ p c y).map fun c' => .arr n k (cs.set i c') else none:=by rw [BDZ]
theorem BtO {e:Env}:forget [] e=[]:=Btv rfl
theorem BtM {e:Env} {s:Nat} {ks:List Nat}:forget (s::ks) e=(s,get e s)::forget ks e:=Btv rfl
theorem BvZ {i:Nat}:BHX i []=[]:=Btv rfl
theorem Bvm {i:Nat} {x:TV} {xs:List TV}:BHX i (x::xs)=(i,x)::BHX (i+1) xs:=Btv rfl
theorem BwL {ag:Bool} {sz:Nat} {y:TV}:BHN ag sz y=(BtL y=sz∧BFQ y=ag):=Btv rfl
theorem BHs {H:List Ob} {k k2:Nat} {cs:List TV}:Bue H k (.sl k2 cs)=if k2=k then some cs else none:=Btv rfl
theorem BKo {H:List Ob} {k:Nat} {p:Option Addr} {n c:Nat}:Bue H k (.val (.slice p n c))=if n=0∧p.isNone∧c=0 then some [] else none:=Btv rfl
theorem BLz {H:List Ob} {k k2 i v o n cp:Nat} {p:List (Nat×Nat)}:Bue H k (.os k2 i v p o n cp)=if k2=k then (match H[i]? with | some (.obj vr x)=>if vr=v then Bvs p k o n x else none | _=>none) else none:=Btv rfl
theorem BGz {k k2 o n N:Nat} {cs:List TV}:Bvs [] k o n (.arr N k2 cs)=if k2=k∧o+n≤cs.length then some ((cs.drop o).take n) else none:=Btv rfl
theorem BNr {e:Env} {zs:List TV}:BvW e zs []=zs:=Btv rfl
theorem BL8 {e:Env} {zs:List TV} {i:Nat} {x:Opd} {ps:List (Nat×Opd)}:BvW e zs ((i,x)::ps)=BvW e (zs.set i (x.ev e)) ps:=Btv rfl
theorem BJ5 {e:Env} {ks:List Nat}:Bve e ks []=True:=Btv rfl
theorem BJO {e:Env} {ks:List Nat} {i:Nat} {x:Opd} {ps:List (Nat×Opd)}:Bve e ks ((i,x)::ps)=((lays (x.ev e)=true∧ks[i]?=some (BtL (x.ev e)))∧Bve e ks ps):=Btv rfl
theorem BIK {e:Env}:Bt8 e []=True:=Btv rfl
theorem BG9 {e:Env} {i:Nat} {x:Opd} {ps:List (Nat×Opd)}:Bt8 e ((i,x)::ps)=(BuT (x.ev e)=true∧Bt8 e ps):=Btv rfl
theorem Buw {t:Nat} {e:Env} {H:List Ob} {K:TV→Prop}:res [.tmp t] e H K=K (get e t):=Btv rfl
theorem BQp {a sz:Nat} {ag:Bool} {e:Env} {H:List Ob} {K:TV→Prop}:res [.cell a ag sz] e H K=pop (.load ag sz (.t a)) e H K:=Btv rfl
theorem BNT {e:Env} {H:List Ob} {K:TV→Prop}:res [] e H K=((∀ x∈([]:List TV),BuI x=false)∧K (.tup [])):=Btv rfl
theorem BYx {r s:VR} {e:Env} {H:List Ob} {K:TV→Prop}:res [r,s] e H K=BJR [r,s] e H fun xs=>match xs with | [x]=>K x | xs=>(∀ x∈xs,BuI x=false)∧K (.tup xs):=Btv rfl
theorem BPT {r s:VR} {l:List VR} {e:Env} {H:List Ob} {K:TV→Prop}:res (r::s::l) e H K=BJR (r::s::l) e H fun xs=>match xs with | [x]=>K x | xs=>(∀ x∈xs,BuI x=false)∧K (.tup xs):=Btv rfl
theorem BLk {e:Env} {H:List Ob} {K:List TV→Prop}:BJR [] e H K=K []:=Btv rfl
theorem BQX {t:Nat} {r:List VR} {e:Env} {H:List Ob} {K:List TV→Prop}:BJR (.tmp t::r) e H K=BJR r e H fun xs=>K (get e t::xs):=Btv rfl
theorem BI7 {a sz:Nat} {ag:Bool} {r:List VR} {e:Env} {H:List Ob} {K:List TV→Prop}:BJR (.cell a ag sz::r) e H K=pop (.load ag sz (.t a)) e H fun x=>BJR r e H fun xs=>K (x::xs):=Btv rfl
theorem BtR {vr:List VR} {R:TV→List Ob→Prop} {e:Env} {H:List Ob}:BG8 vr R .ret e H=res vr e H fun x=>R x H:=Btv rfl
theorem BI6 {vr:List VR} {R:TV→List Ob→Prop} {e:Env} {H:List Ob}:BG8 vr R .nor e H=res vr e H fun x=>R x H:=Btv rfl
theorem BCD {H:List Ob} {g:TV→Option TV} {v:Value}:BwF H g (TV.val v)=some (.val v):=by rw [BwF]
theorem BO4 {H:List Ob} {g:TV→Option TV}  : BwF H g (TV.any)=some (.any):=by rw [BwF]
theorem BM7 {H:List Ob} {g:TV→Option TV} {k:Nat} {cs:List TV}:BwF H g (TV.sl k cs)=some (.sl k cs):=by rw [BwF]
theorem BTg {H:List Ob} {g:TV→Option TV} {x:TV}:BwF H g (TV.fp x)=some (.fp x):=by rw [BwF]
theorem BRT {H:List Ob} {g:TV→Option TV} {n:Nat} {k:Nat} {cs:List TV}:BwF H g (TV.arr n k cs)=some (.arr n k cs):=by rw [BwF]
theorem BNH {H:List Ob} {g:TV→Option TV} {k i v o n cp:Nat} {p:List (Nat×Nat)}:BwF H g (.os k i v p o n cp)=(match H[i]? with | some (.obj vr x)=>if vr=v then (Bvs p k o n x).map (.sl k) else none | _=>none):=by rw [BwF]; rfl
theorem BUb {H:List Ob} {g:TV→Option TV} {i v:Nat} {p:List (Nat×Nat)}:BwF H g (.op i v p)=(match H[i]? with | some (.obj vr x)=>if vr=v then (Bzf p x).bind fun y=>(g y).map .fp else none | _=>none):=by rw [BwF]; rfl
theorem BPr {H:List Ob} {g:TV→Option TV} {cs:List TV}:BwF H g (.agg cs)=(Bz4 H g cs).map .agg:=by rw [BwF]
theorem BQx {H:List Ob} {g:TV→Option TV} {cs:List TV}:BwF H g (.tup cs)=(Bz4 H g cs).map .tup:=by rw [BwF]
theorem BRb {H:List Ob} {g:TV→Option TV} {t:TypeId} {x:TV}:BwF H g (.ifc t x)=(BwF H g x).map (.ifc t):=by rw [BwF]
theorem BIR {H:List Ob} {g:TV→Option TV}:Bz4 H g []=some []:=Btv rfl
theorem BHx {H:List Ob} {g:TV→Option TV} {x:TV} {xs:List TV}:Bz4 H g (x::xs)=(match BwF H g x,Bz4 H g xs with | some x,some xs=>some (x::xs) | _,_=>none):=by rw [Bz4]; rfl
theorem BNJ {H:List Ob} {x:TV}:frz H x=BwF H (BLV H 2) x:=Btv rfl
theorem BMz {H:List Ob} {x:List TV}:BUv H x=Bz4 H (BLV H 2) x:=Btv rfl
theorem BWN {H:List Ob} {d:Nat} {x:TV}:BLV H (d+1) x=BwF H (BLV H d) x:=Btv rfl
theorem BSx {H:List Ob} {v:Value}:frs H (.val v)=some (.val v):=by rw [frs]
theorem BTc {H:List Ob}:frs H .any=some .any:=by rw [frs]
theorem BXa {H:List Ob} {k i v o n cp:Nat} {p:List (Nat×Nat)}:frs H (.os k i v p o n cp)=(match H[i]? with | some (.obj vr x)=>if vr=v then (match Bvs p k o n x with | some cs=>if BBu cs then some (.sl k cs) else none | none=>none) else none | _=>none):=by rw [frs]; try rfl
theorem BSX {H:List Ob} {cs:List TV}:frs H (.agg cs)=(BJS H cs).map .agg:=by rw [frs]
theorem BSL {H:List Ob} {n k:Nat} {cs:List TV}:frs H (.arr n k cs)=if BBu cs then some (.arr n k cs) else none:=by rw [frs]
theorem BS0 {H:List Ob} {cs:List TV}:frs H (.tup cs)=(BJS H cs).map .tup:=by rw [frs]
theorem BS4 {H:List Ob} {t:TypeId} {x:TV}:frs H (.ifc t x)=(frs H x).map (.ifc t):=by rw [frs]
theorem BPt {H:List Ob}:BJS H []=some []:=by rw [BJS]
theorem BNI {H:List Ob} {x:TV} {xs:List TV}:BJS H (x::xs)=(match frs H x,BJS H xs with | some x,some xs=>some (x::xs) | _,_=>none):=by rw [BJS]; try rfl
theorem BNC {l:List UInt8}:BBu (l.map by8)=true:=by
 induction l with
 | nil=>rfl
 | cons x l ih=>rw [List.map_cons,BBu,ih]; rfl
theorem BQW {l:List (List UInt8)}:BBu (l.map ts)=true:=by
 induction l with
 | nil=>rfl
 | cons x l ih=>rw [List.map_cons,BBu,ih]; rfl
theorem BPB {H:List Ob} {o:Ob}:(H++[o])[H.length]?=some o:=by simp
theorem BP4 {H:List Ob} {o o':Ob}:(H++[o]).set H.length o'=H++[o']:=by simp
theorem BQR {l:List UInt8} {i:Nat} {b:UInt8}:(l.map by8).set i (.val (.int .u8 (b.toNat:Int)))=(l.set i b).map by8:=by rw [List.map_set]
theorem BPP {l:List UInt8}:(l.map by8).map BFP=l:=by
 rw [List.map_map]
 have:(BFP ∘ by8)=id:=by funext b; simp
 rw [this,List.map_id]
theorem BP0 {l:List UInt8}:(∀ y∈l.map by8,BMp y)=True:=by simp
theorem BJ0 {k:Nat}:((k:Int)+1)=((k+1:Nat):Int):=Btv rfl
theorem BRn {a b:Nat}:((a:Int)+(b:Int))=((a+b:Nat):Int):=by omega
theorem BCf {a b:Nat}:((a:Int)<(b:Int))=(a<b):=by simp
theorem BIc {a b:Nat}:((a:Int)≤(b:Int))=(a≤b):=by simp
theorem BJ1 {a b:Nat}:((a:Int)=(b:Int))=(a=b):=propext ⟨fun h=>by omega,fun h=>by omega⟩
theorem BTx {a:Nat}:(0≤(a:Int))=True:=by simp
theorem BLX {g:Nat}:BC2 g []=true:=Btv rfl
theorem BKA {g s:Nat} {x:TV} {e:Env}:BC2 g ((s,x)::e)=(BwQ g x && BC2 g e):=Btv rfl
theorem BLt {g:Nat} {v:Value}:BwQ g (.val v)=true:=Btv rfl
theorem BOt {g k:Nat} {cs:List TV}:BwQ g (.sl k cs)=true:=Btv rfl
theorem BLD {g:Nat}:BEv g []=true:=Btv rfl
theorem Bu4 {d s:Nat} {x:TV}:get ((d,x)::e) s=if d=s then x else get e s:=Btv rfl
end
end
end Go.Proofs.YthlbcfmbldcngaaDoor
