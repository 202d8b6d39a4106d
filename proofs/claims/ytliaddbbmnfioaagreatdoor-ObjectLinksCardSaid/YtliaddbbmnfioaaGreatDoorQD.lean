/- What the proof of ObjectLinksCard stands on (texts merged; names shortened by a program): part 4. -/
import Derived.Test.YtliaddbbmnfioaaGreatDoorQC
import Derived.RangeFuncIn
import Derived.RangeFuncRecord
import Derived.RangeFuncLeaves
import Derived.Sort.LoopGhostIn
set_option linter.defProp false
set_option linter.unusedSectionVars false
set_option linter.unusedSimpArgs false
set_option linter.unusedVariables false
namespace Go.Proofs.YtliaddbbmnfioaaGreatDoor
theorem aI_ {a b:Prop} (x:a) (y:b):a∧b:=⟨x,y⟩
section
open Go.RowKit
variable [Cc]
set_option autoImplicit false
inductive AP where
 | ops (l:List VO) (keep:List Nat)
 | draw (nA:Nat) (l:List VO) (keep:List Nat)
 | skip
 | opsZ (l:List VO) (zs:List Nat) (r:List VO) (keep:List Nat)
 | pops (l:List VO) (keep:List Nat)
 | pdraw (n:Nat) (l:List VO) (keep:List Nat)
 | sdraw (n:Nat) (l:List VO) (keep:List Nat)
 | seq (a b:AP)
 | cond (c:Opd) (a b:AP)
 | block (id:Nat) (c:AP)
 | loop (live:List Nat) (c:AP)
 | exit (id:Nat)
 | ret
 | scope (c:AP)
 | own (s k:Nat) (c:AP)
 | ownB (s:Nat) (p:List (Nat×Nat)) (k:Nat) (c:AP)
 | ownT (s:Nat) (p:List (Nat×Nat)) (t:TypeId) (c:AP)
 | frz (s:Nat) (c:AP)
 | rfunc (f:Opd) (ps:List Nat) (aS bd:AP)
 | dead
 deriving Inhabited
def BqF:List Nat→(Env→List Ob→Prop)→Env→List Ob→Prop
 | [],K,e,H=>K e H
 | s::zs,K,e,H=>match get e s with
  | .os k id ver p off n _=>(match H[id]? with
   | some (.obj v x)=>v=ver∧(match Ll p k off n x with
    | some cs=>BqF zs K ((s,.sl k cs)::e) (H.set id (.gone ver))
    | none=>False)
   | _=>False)
  | _=>False
def er:AP→AP
 | .ops l _ => .ops l []
 | .draw n l _ => .draw n l []
 | .opsZ l _ r _ => .ops (l++r) []
 | .pops l _ => .ops l []
 | .pdraw n l _ => .draw n l []
 | .sdraw n l _ => .sdraw n l []
 | .seq a b => .seq (er a) (er b)
 | .cond c a b => .cond c (er a) (er b)
 | .block id c => .block id (er c)
 | .loop _ c => .loop [] (er c)
 | .scope c => .scope (er c)
 | .own _ _ c=>er c
 | .ownB _ _ _ c=>er c
 | .ownT _ _ _ c=>er c
 | .frz _ c=>er c
 | .rfunc f ps aS bd => .rfunc f ps (er aS) (er bd)
 | .skip => .skip
 | .exit id => .exit id
 | .ret => .ret
 | .dead => .dead
def Atr:Code→Bool
 | .seq a b=>Atr a || Atr b
 | .cond _ a b=>Atr a || Atr b
 | .block _ c=>Atr c
 | .loop c=>Atr c
 | .scope c=>Atr c
 | .region _ ops _=>ops.toList.any fun o=>match o.op with | .panic _=>true | .store .. => true | _=>false
 | _=>false
def BxV:List String:=["(*gitlike/pack.reader).number", "(*gitlike/pack.reader).byte", "(*gitlike/pack.reader).head", "(*gitlike/pack.reader).distance", "(*gitlike/pack.reader).entry"]
def Bk3 (P:Program) (v:VO):Bool:=match v.op with
 | .s (.call f _)=>(match P.funcs[f]? with | some fn=>fn.body.any Atr || BxV.contains fn.name | none=>false)
 | .s (.store _ _ _)=>true
 | _=>false
def nOf (n:Nat):Nat:=n % 10000
def ssN (n:Nat) (l:List VO):SsT:=⟨Bra l,BiX l,decide (10000≤n)⟩
theorem BpR {n:Nat} (h:n<10000):nOf n=n:=Nat.mod_eq_of_lt h
theorem Bsh {n:Nat} (h:n<10000):nOf (10000+n)=n:=by unfold nOf; omega
theorem Brq {n:Nat} {l:List VO} (h:n<10000):ssN n l=⟨Bra l,BiX l,false⟩:=by unfold ssN; rw [decide_eq_false (by omega)]
theorem Bsk {n:Nat} {l:List VO}:ssN (10000+n) l=⟨Bra l,BiX l,true⟩:=by unfold ssN; rw [decide_eq_true (by omega)]
def ADa (chk:Nat→Bool) (n:Nat):Option Nat:=(List.range (n+1)).find? fun j=>chk j && decide (j<10000)
theorem Ao4 {chk:Nat→Bool} {n j:Nat} (h:ADa chk n=some j):chk j=true∧j<10000:=by
 have:=List.find?_some h
 simpa using this
def Bya (v:VO):Bool:=match v.op with
 | .s (.app _ _ _ _ _)=>true
 | _=>false
def AyT (P:Program) (ops:List Oper) (l:List VO) (n:Nat):Option AP:=match (List.range (n+1)).find? (AlJ ss0 ops l) with
 | some k=>if (l.take k).any (Bk3 P) then (match ADa (AlJ ⟨Bra l,BiX l,false⟩ ops l) n with
   | some j=>if (l.take j).any (Bk3 P) then (match ADa (Jo ⟨Bra l,BiX l,false⟩ ops l) n with
     | some j'=>some (.sdraw j' l [])
     | none=>some (.sdraw j l [])) else some (.sdraw j l [])
   | none=>none) else some (.draw k l [])
 | none=>none
theorem Ayq {P:Program} {ops:List Oper} {l:List VO} {n:Nat} {c:AP} (h:AyT P ops l n=some c):∃ k,(c = .draw k l []∧Jo ss0 ops l k=true)∨(c = .sdraw k l []∧Jo (ssN k l) ops l (nOf k)=true):=by
 have low:∀ {j},Jo ⟨Bra l,BiX l,false⟩ ops l j=true→j<10000→Jo (ssN j l) ops l (nOf j)=true:=fun h1 h2=>by rw [Brq h2,BpR h2]; exact h1
 unfold AyT at h
 split at h
 ·rename_i k hk
  split at h
  ·split at h
   ·rename_i j hj
    obtain ⟨hj,hj2⟩:=Ao4 hj
    split at h
    ·split at h
     ·rename_i j' hj'
      obtain ⟨hj',hj2'⟩:=Ao4 hj'
      cases h; exact ⟨j',.inr ⟨rfl,low hj' hj2'⟩⟩
     ·cases h; exact ⟨j,.inr ⟨rfl,low (Y9 hj) hj2⟩⟩
    ·cases h; exact ⟨j,.inr ⟨rfl,low (Y9 hj) hj2⟩⟩
   ·cases h
  ·cases h; exact ⟨k,.inl ⟨rfl,Y9 (List.find?_some hk)⟩⟩
 ·cases h
def Bkj (ops:List Oper) (l:List VO) (n:Nat):Option AP:=(ADa (AlJ ⟨Bra l,BiX l,true⟩ ops l) n).map fun j => .sdraw (10000+j) l []
theorem AAJ {ops:List Oper} {l:List VO} {n:Nat} {c:AP} (h:Bkj ops l n=some c):∃ k,c = .sdraw k l []∧Jo (ssN k l) ops l (nOf k)=true:=by
 obtain ⟨j,hj,rfl⟩:=Option.map_eq_some_iff.1 h
 obtain ⟨hj,hj2⟩:=Ao4 hj
 exact ⟨10000+j,rfl,by rw [Bsk,Bsh hj2]; exact Y9 hj⟩
def AxN (bz:Bool) (P:Program) (N:Nat) (ops:Array Oper):Option AP:=match trL bz P N ops.toList ops.toList with
 | some l=>if P.follows .mixedOrders then (if l.any BtJ || l.any (Bk3 P) then (match trL bz P N (Dq ops.toList (BpO ops.toList l)) (Dq ops.toList (BpO ops.toList l)) with
   | some l'=>if Aii (BpO ops.toList l) ops.toList.length then AyT P (Dq ops.toList (BpO ops.toList l)) l' ops.size else none
   | none=>none)
  else (match (List.range (ops.size+1)).find? (AlJ ss0 ops.toList l) with
   | some n=>if (l.take n).any Bya then (match trL bz P N (Dq ops.toList (BpO ops.toList l)) (Dq ops.toList (BpO ops.toList l)) with
     | some l'=>if Aii (BpO ops.toList l) ops.toList.length then (match Bkj (Dq ops.toList (BpO ops.toList l)) l' ops.size with
       | some c=>some c
       | none=>some (.draw n l [])) else some (.draw n l [])
     | none=>some (.draw n l [])) else some (.draw n l [])
   | none=>none)) else none
 | none=>none
theorem AkP {bz:Bool} {P:Program} {N:Nat} {ops:Array Oper} {c:AP} (h:AxN bz P N ops=some c):(∃ n l,c = .draw n l []∧P.follows .mixedOrders=true ∧
  ((trL bz P N ops.toList ops.toList=some l∧Jo ss0 ops.toList l n=true)∨∃ π,Aii π ops.toList.length=true∧trL bz P N (Dq ops.toList π) (Dq ops.toList π)=some l∧Jo ss0 (Dq ops.toList π) l n=true)) ∨
  ∃ n l,c = .sdraw n l []∧P.follows .mixedOrders=true∧∃ π,Aii π ops.toList.length=true∧trL bz P N (Dq ops.toList π) (Dq ops.toList π)=some l∧Jo (ssN n l) (Dq ops.toList π) l (nOf n)=true:=by
 unfold AxN at h
 split at h
 ·rename_i l hl
  split at h
  ·rename_i hm
   split at h
   ·split at h
    ·rename_i l' hl'
     split at h
     ·rename_i hp
      obtain ⟨k,⟨rfl,hk⟩ | ⟨rfl,hk⟩⟩:=Ayq h
      ·exact .inl ⟨k,l',rfl,hm,.inr ⟨_,hp,hl',hk⟩⟩
      ·exact .inr ⟨k,l',rfl,hm,_,hp,hl',hk⟩
     ·cases h
    ·cases h
   ·split at h
    ·rename_i n hn
     have plain:∀ {c:AP},some (AP.draw n l [])=some c→_:=fun {c} (h:some (AP.draw n l [])=some c)=>(Or.inl ⟨n,l,(Option.some.inj h).symm,hm,.inl ⟨hl,Y9 (List.find?_some hn)⟩⟩:(∃ n l,c = .draw n l []∧P.follows .mixedOrders=true ∧
  ((trL bz P N ops.toList ops.toList=some l∧Jo ss0 ops.toList l n=true)∨∃ π,Aii π ops.toList.length=true∧trL bz P N (Dq ops.toList π) (Dq ops.toList π)=some l∧Jo ss0 (Dq ops.toList π) l n=true)) ∨
  ∃ n l,c = .sdraw n l []∧P.follows .mixedOrders=true∧∃ π,Aii π ops.toList.length=true∧trL bz P N (Dq ops.toList π) (Dq ops.toList π)=some l∧Jo (ssN n l) (Dq ops.toList π) l (nOf n)=true)
     split at h
     ·split at h
      ·rename_i l' hl'
       split at h
       ·rename_i hp
        split at h
        ·rename_i c' hc'
         cases h
         obtain ⟨k,rfl,hk⟩:=AAJ hc'
         exact .inr ⟨k,l',rfl,hm,_,hp,hl',hk⟩
        ·exact plain h
       ·exact plain h
      ·exact plain h
     ·exact plain h
    ·cases h
  ·cases h
 ·cases h
def BrF:AP→Bool
 | .draw n l _=>(l.take n).any fun v=>match v.op with | .s (.bslice _ _ _ _)=>true | _=>false
 | .sdraw n l _=>(l.take (nOf n)).any fun v=>match v.op with | .s (.bslice _ _ _ _)=>true | _=>false
 | _=>false
def Ay1 (P:Program) (N:Nat) (ops:Array Oper):Option AP:=match AxN false P N ops with
 | some c=>if BrF c then (match AxN true P N ops with | some c'=>some c' | none=>some c) else some c
 | none=>none
theorem AgV {P:Program} {N:Nat} {ops:Array Oper} {c:AP} (h:Ay1 P N ops=some c):∃ bz:Bool,(∃ n l,c = .draw n l []∧P.follows .mixedOrders=true ∧
  ((trL bz P N ops.toList ops.toList=some l∧Jo ss0 ops.toList l n=true)∨∃ π,Aii π ops.toList.length=true∧trL bz P N (Dq ops.toList π) (Dq ops.toList π)=some l∧Jo ss0 (Dq ops.toList π) l n=true)) ∨
  ∃ n l,c = .sdraw n l []∧P.follows .mixedOrders=true∧∃ π,Aii π ops.toList.length=true∧trL bz P N (Dq ops.toList π) (Dq ops.toList π)=some l∧Jo (ssN n l) (Dq ops.toList π) l (nOf n)=true:=by
 unfold Ay1 at h
 split at h
 ·rename_i c1 h1
  split at h
  ·split at h
   ·rename_i c2 h2; cases h; exact ⟨true,AkP h2⟩
   ·cases h; exact ⟨false,AkP h1⟩
  ·cases h; exact ⟨false,AkP h1⟩
 ·cases h
theorem Bkb {P:Program} {N:Nat} {ops:Array Oper} {c:AP} (h:Ay1 P N ops=some c) (hc:∀ n l,c ≠ .draw n l []) (hc2:∀ n l,c ≠ .sdraw n l []):False:=by
 obtain ⟨bz,⟨n,l,e,_⟩ | ⟨n,l,e,_⟩⟩:=AgV h
 ·exact hc n l e
 ·exact hc2 n l e
def trC (P:Program) (N:Nat):Code→Option AP
 | .skip=>some .skip
 | .region _ ops false=>some (match trL false P N ops.toList ops.toList with | some l => .ops l [] | none => .dead)
 | .region _ ops true=>some (match Ay1 P N ops with | some c=>c | none => .dead)
 | .seq a b=>match trC P N a,trC P N b with
  | some a,some b=>some (.seq a b)
  | _,_=>none
 | .cond c a b=>match trC P N a,trC P N b with
  | some a,some b=>some (.cond (trO c) a b)
  | _,_=>none
 | .block id c=>(trC P N c).map (.block id)
 | .loop c=>(trC P N c).map (.loop [])
 | .exit id=>some (.exit id)
 | .scope c=>(trC P N c).map .scope
 | .label _=>some .skip
 | .ret=>some .ret
 | .rangeFunc f ps aS bd=>if ps.toList.all (· < N) then (match trC P N aS,trC P N bd with
  | some aS,some bd=>some (.rfunc (trO f) ps.toList aS bd)
  | _,_=>none) else none
 | _=>some .dead
theorem BlP {P:Program} {N id:Nat} {ops:Array Oper} {c:AP} (h:trC P N (.region id ops false)=some c):(∃ l,trL false P N ops.toList ops.toList=some l∧c = .ops l [])∨c = .dead:=by
 simp only [trC,Option.some.injEq] at h
 split at h
 ·rename_i l hl; exact .inl ⟨l,hl,h.symm⟩
 ·exact .inr h.symm
theorem BlY {P:Program} {N id:Nat} {ops:Array Oper} {c:AP} (h:trC P N (.region id ops true)=some c):Ay1 P N ops=some c∨c = .dead:=by
 simp only [trC,Option.some.injEq] at h
 split at h
 ·rename_i l hl; exact .inl (hl.trans (by rw [h]))
 ·exact .inr h.symm
theorem Oo {P:Program} {N id:Nat} {ops:Array Oper} {c:AP} (h:trC P N (.region id ops false)=some c) (hc:∀ l,c ≠ .ops l []) (hd:c ≠ .dead):False:=by
 rcases BlP h with ⟨l,_,e⟩ | e
 ·exact hc l e
 ·exact hd e
theorem Ol {P:Program} {N id:Nat} {ops:Array Oper} {c:AP} (h:trC P N (.region id ops true)=some c) (hc:∀ n l,c ≠ .draw n l []) (hc2:∀ n l,c ≠ .sdraw n l []) (hd:c ≠ .dead):False:=by
 rcases BlY h with e | e
 ·exact Bkb e hc hc2
 ·exact hd e
def Au6:AP→Bool
 | .seq a b=>Au6 a && Au6 b
 | .cond _ a b=>Au6 a && Au6 b
 | .block _ c=>Au6 c
 | .loop _ c=>Au6 c
 | .scope c=>Au6 c
 | .own _ _ c=>Au6 c
 | .ownB _ _ _ c=>Au6 c
 | .ownT _ _ _ c=>Au6 c
 | .frz _ c=>Au6 c
 | .rfunc _ _ _ _=>false
 | _=>true
inductive VEx where
 | nor
 | exit (id:Nat)
 | ret
 | pan (u:Value)
def VEx.ex:VEx→Exit
 | .nor => .normal
 | .exit id => .exit id
 | .ret => .ret
 | .pan u => .panic [{ v:=u,recovered:=false }]
mutual
def VP (g:Nat):TV→Bool
 | .op id _ _=>decide (id<g)
 | .os _ id _ _ _ _ _=>decide (id<g)
 | .mp id _=>decide (id<g)
 | .yl id _=>decide (id<g)
 | .agg cs=>Aei g cs
 | .tup cs=>Aei g cs
 | .ifc _ x=>VP g x
 | .fn _ a b=>Aei g a && Aei g b
 | _=>true
def Aei (g:Nat):List TV→Bool
 | []=>true
 | x::xs=>VP g x && Aei g xs
end
def Att (g:Nat):Env→Bool
 | []=>true
 | (_,x)::e=>VP g x && Att g e
def AyW (g:Nat):Ob→Bool
 | .obj _ x=>VP g x
 | .ice _ _ x=>VP g x
 | .fact id _ _ _=>decide (id<g)
 | .lp _ _ _ _ e _ _ _=>Att g e
 | .mpo _ es=>Aei g (es.map (·.2))
 | .bld _ _ _=>true
 | .sit _ _=>true
 | .mpd _ zs _=>Aei g (zs.map (·.2.2))
 | .mit m _ _=>decide (m<g)
 | .gone _=>true
def AqO (g:Nat):List Ob→Bool
 | []=>true
 | o::H=>AyW g o && AqO g H
def ACR (Q:VEx→Env→List Ob→Prop) (e:Env) (L:Nat):TV→List Ob→Prop:=fun _ H'=>match H'[L]? with
 | some (.lp .ready none fn N e1 ps ca cb)=>Q .nor e (H'.set L (.lp .exhausted none fn N e1 ps ca cb))
 | some (.lp .done (some .ret) fn N e1 ps ca cb)=>Q .ret e (H'.set L (.lp .exhausted (some .ret) fn N e1 ps ca cb))
 | some (.lp .done (some (.exit i)) fn N e1 ps ca cb)=>Q (.exit i) e (H'.set L (.lp .exhausted (some (.exit i)) fn N e1 ps ca cb))
 | _=>False
structure BpM (P:Program) (N:Nat) (ps:List Nat) (ca cb:Code) (aS bd:AP):Prop where
 a:trC P N ca=some (er aS)
 b:trC P N cb=some (er bd)
 p:ps.all (· < N)=true
def vwp (P:Program):AP→(VEx→Env→List Ob→Prop)→Env→List Ob→Prop
 | .ops l kp,Q,e,H=>Aup P l (fun e H=>Q .nor (forget kp e) H) e H
 | .opsZ l zs r kp,Q,e,H=>Aup P l (BqF zs (Aup P r (fun e H=>Q .nor (forget kp e) H))) e H
 | .pops l kp,Q,e,H=>AmN P (fun u H=>Q (.pan u) (ABr l e) H) l (fun e H=>Q .nor (forget kp e) H) e H
 | .pdraw n l kp,Q,e,H=>vq P (l.take n) (fun e=>AmN P (fun u H=>Q (.pan u) [] H) (l.drop n) (fun e H=>Q .nor (forget kp e) H) e H) e H
 | .sdraw n l kp,Q,e,H=>vq P (l.take (nOf n)) (fun e=>AcL (pvopS P (fun u H=>Q (.pan u) [] H) (ssN n l)) (l.drop (nOf n)) (fun e H=>Q .nor (forget kp e) H) e H) e H
 | .draw n l kp,Q,e,H=>vq P (l.take n) (fun e=>Aup P (l.drop n) (fun e H=>Q .nor (forget kp e) H) e H) e H
 | .skip,Q,e,H=>Q .nor e H
 | .seq a b,Q,e,H=>vwp P a (fun x e H=>match x with | .nor=>vwp P b Q e H | .exit i=>Q (.exit i) e H | .ret=>Q .ret e H | .pan u=>Q (.pan u) e H) e H
 | .cond c a b,Q,e,H=>match c.ev e with
  | .val (.bool t)=>if t=true then vwp P a Q e H else vwp P b Q e H
  | _=>False
 | .block id c,Q,e,H=>vwp P c (fun x e H=>match x with | .nor=>Q .nor e H | .exit i=>if i=id then Q .nor e H else Q (.exit i) e H | .ret=>Q .ret e H | .pan u=>Q (.pan u) e H) e H
 | .loop lv c,Q,e,H0=>∃ (I:Nat→Env→List Ob→Prop) (n:Nat),I n (forget lv e) H0 ∧
   ∀ n e H,I n e H→vwp P c (fun x e H=>match x with | .nor=>∃ m g,m<n∧(H0.length≤g∧(H.length≤g∨(Att g (forget lv e)=true∧AqO g (H.take g)=true)))∧I m (forget lv e) (H.take g) | .exit i=>Q (.exit i) e H | .ret=>Q .ret e H | .pan u=>Q (.pan u) e H) e H
 | .exit id,Q,e,H=>Q (.exit id) e H
 | .ret,Q,e,H=>Q .ret e H
 | .scope c,Q,e,H=>vwp P c Q e H
 | .dead,_,_,_=>False
 | .own s k c,Q,e,H=>match get e s with
  | .val (.slice none 0 0)=>vwp P c Q ((s,.os k H.length 0 [] 0 0 0)::e) (H++[.obj 0 (.arr 0 k [])])
  | _=>vwp P c Q e H
 | .ownB s p k c,Q,e,H=>match get e s with
  | .op id ver p0=>(match H[id]? with
   | some (.obj v x)=>v=ver∧(match Aaj (p0++p) x with
    | some (.val (.slice none 0 0))=>(match setP (p0++p) x (.os k H.length 0 [] 0 0 0) with
     | some x'=>vwp P c Q e (H.set id (.obj ver x')++[.obj 0 (.arr 0 k [])])
     | none=>False)
    | _=>vwp P c Q e H)
   | _=>False)
  | _=>False
 | .ownT s p t c,Q,e,H=>match get e s with
  | .op id ver p0=>(match H[id]? with
   | some (.obj v x)=>v=ver∧(match Aaj (p0++p) x with
    | some (.val (.slice none 0 0))=>(match setP (p0++p) x (.os 1 H.length 0 [] 0 0 0) with
     | some x'=>vwp P c Q e (H.set id (.obj ver x')++[.bld 0 t []])
     | none=>False)
    | _=>vwp P c Q e H)
   | _=>False)
  | _=>False
 | .frz s c,Q,e,H=>match get e s with
  | .os k id ver p off n _=>(match H[id]? with
   | some (.obj v x)=>v=ver∧(match Ll p k off n x with
    | some cs=>vwp P c Q ((s,.sl k cs)::e) (H.set id (.gone ver))
    | none=>False)
   | _=>False)
  | _=>False
 | .rfunc f ps aS bd,Q,e,H=>Au6 aS=true∧Au6 bd=true∧(match f.ev e with
  | .fn (.func g) first caps=>Auh P g=true∧∀ (N:Nat) (fn:FuncId) (ca cb:Code),BpM P N ps ca cb aS bd→BD P g (first++[.yl H.length 0]++caps) (H++[.lp .ready none fn N e ps ca cb]) (ACR Q e H.length)
  | .val (.func (.func g) xs ys)=>(xs.isEmpty && ys.isEmpty)=true∧Auh P g=true∧∀ (N:Nat) (fn:FuncId) (ca cb:Code),BpM P N ps ca cb aS bd→BD P g [.yl H.length 0] (H++[.lp .ready none fn N e ps ca cb]) (ACR Q e H.length)
  | _=>False)
section sound
variable {P:Program}
theorem Aql {c:Ctx} {w:World}:∀ {p:List (Nat×Nat)} {x y z x':TV} {us:List Value},Bc c w x us→Aaj p x=some z→(∀ m,Bc c w z m→Bc c w y m)→setP p x y=some x'→Bc c w x' us:=by
 intro p x y z x' us h hg hm hs
 obtain ⟨a,m,b,rfl,h1,h2⟩:=Vw h hg
 obtain ⟨a',m',b',e,h3,h4,h5,_⟩:=Akx h hs (hm m h2)
 have e1:a=a':=by
  have:=congrArg (List.take a.length) e
  rw [List.append_assoc,List.append_assoc,List.take_left] at this
  rw [this,List.take_left' (by omega)]
 subst e1
 rw [List.append_assoc,List.append_assoc] at e
 have e2:=List.append_cancel_left e
 have e3:m=m':=by
  have:=congrArg (List.take m.length) e2
  rw [List.take_left] at this
  rw [this,List.take_left' (by omega)]
 subst e3
 have e4:=List.append_cancel_left e2
 subst e4
 exact h5
theorem Sim.give {β:Nat→Nat→Option (Nat×Nat)} {H:List Ob} {F:Nat→Prop} {w:World} (hs:Sim ⟨β,H,F⟩ w) {k id ver off n cp:Nat} {p:List (Nat×Nat)} {x:TV} {cs:List TV} (hid:H[id]?=some (.obj ver x)) (hcs:Ll p k off n x=some cs) {us:List Value} (hr:Bc ⟨β,H,F⟩ w (.os k id ver p off n cp) us) :
  Bc ⟨β,H.set id (.gone ver),fun b=>F b∨∃ off,β id ver=some (b,off)⟩ w (.sl k cs) us:=by
 have hm:TK (Ctx.bare ⟨β,H,F⟩) w (Ctx.bare ⟨β,H.set id (.gone ver),fun b=>F b∨∃ off,β id ver=some (b,off)⟩) w :=
  ⟨fun b hb=>⟨.inl hb,rfl⟩,fun _ _ k=>(Ctx.bare_has k).elim,fun _ _=>rfl⟩
 rw [Bc] at hr
 obtain ⟨hr1,hr2⟩:=hr
 rcases hr2 with ⟨rfl,a0,hr2,_⟩ | ⟨b0,o0,cap,t0,m0,hr2,hr3,hr4,hr5,hr6,hr7⟩
 ·have:cs=[]:=by
   unfold Ll at hcs
   split at hcs
   ·split at hcs
    ·cases hcs; simp
    ·cases hcs
   ·cases hcs
  subst this
  rw [Bc]
  exact ⟨by simp,.inl ⟨rfl,a0,0,hr2,by omega⟩⟩
 rcases hs.ob id _ hid with ⟨h0,_⟩ | ⟨b,off',pre,vs,post,t,fr,h0,h1,h2,h3,h4⟩
 ·have h0':β id ver=none:=h0
  have hr2':β id ver=some (b0,o0):=hr2
  rw [h0'] at hr2'; cases hr2'
 have h0':β id ver=some (b,off'):=h0
 have hr2':β id ver=some (b0,o0):=hr2
 rw [h0'] at hr2'
 obtain ⟨rfl,rfl⟩:b=b0∧off'=o0:=by simpa using hr2'
 obtain ⟨a,m,q,rfl,k1,k2,k3,k4⟩:=AaI h4 hcs
 rw [Bc]
 refine ⟨k3,.inr ⟨b,off'+MM p+off*k,cap,m,by rw [k4]; exact hr3,by omega,hr5,.inr ⟨off',h0'⟩,Be.mono hm k2,?_⟩⟩
 have e:off'+MM p+off*k=pre.length+a.length:=by rw [h3,k1]; omega
 rw [e]; exact UW h1
theorem Aw2 {N:Nat} {D:List Deferred}:∀ {zs:List Nat} {K:Env→List Ob→Prop} {e:Env} {H:List Ob} {β:Nat→Nat→Option (Nat×Nat)} {F:Nat→Prop} {w:World} {a:Act},BqF zs K e H→Sim ⟨β,H,F⟩ w→Fr N D ⟨β,H,F⟩ w e a →
  ∃ e' H' F',K e' H'∧Sim ⟨β,H',F'⟩ w∧Fr N D ⟨β,H',F'⟩ w e' a∧CP ⟨β,H,F⟩ w ⟨β,H',F'⟩ w
 | [],K,e,H,β,F,w,a,h,hs,hf=>⟨e,H,F,h,hs,hf,CP.refl _ _⟩
 | s::zs,K,e,H,β,F,w,a,h,hs,hf=>by
  rw [BqF] at h
  split at h
  ·rename_i k id ver p off n cp hg
   split at h
   ·rename_i v y hid
    obtain ⟨rfl,h⟩:=h
    split at h
    ·rename_i cs hcs
     obtain ⟨k1,k2⟩:=hs.freeze hid rfl
     have hr:Rep ⟨β,H,F⟩ w (get e s) (a.tmps.getD s undef):=hf.env.1 s
     rw [hg] at hr
     have hr':Rep ⟨β,H.set id (.gone v),fun b=>F b∨∃ off,β id v=some (b,off)⟩ w (.sl k cs) (a.tmps.getD s undef):=by
      rcases hr with (hr | hr | ⟨us,hr,hr2⟩) | ⟨xs,vs,hr,_⟩
      ·cases hr
      ·cases hr
      ·exact .inl (.inr (.inr ⟨us,hs.give hid hcs hr,by rw [hr2]; rfl⟩))
      ·cases hr
     obtain ⟨e',H',F',q1,q2,q3,q4⟩:=Aw2 h k1 (a:=a) ⟨⟨fun s'=>by
      rw [Gj]
      by_cases hss:s=s'
      ·subst hss; rw [if_pos rfl]; exact hr'
      ·rw [if_neg hss]; exact Rep.mono (k2.mono hs) (hf.env.1 s'),k1.glob⟩,hf.size,hf.defers⟩
     exact ⟨e',H',F',q1,q2,q3,k2.trans q4⟩
    ·exact h.elim
   ·exact h.elim
  ·exact h.elim
theorem BkN {P:Program} {N:Nat} {all:List Oper}:∀ {os:List Oper} {l1 l2:List VO},trL false P N all os=some (l1++l2)→∃ o1 o2,os=o1++o2∧trL false P N all o1=some l1∧trL false P N all o2=some l2
 | os,[],l2,h=>⟨[],os,rfl,rfl,h⟩
 | [],v::l1,l2,h=>by simp [trL] at h
 | o::os,v::l1,l2,h=>by
  rw [trL] at h
  split at h
  ·rename_i v' g r hv hg hr
   split at h
   ·rename_i hd
    simp only [List.cons_append,Option.some.injEq,List.cons.injEq] at h
    obtain ⟨rfl,rfl⟩:=h
    obtain ⟨o1,o2,rfl,h1,h2⟩:=BkN hr
    refine ⟨o::o1,o2,rfl,?_,h2⟩
    rw [trL,hv,hg,h1]
    simp [hd]
   ·cases h
  ·cases h
theorem AB6 {N:Nat} {D:List Deferred} {ro:Option Nat} {nn:Nat} {all:Array Oper} {os:List Oper} {l1 l2:List VO} {zs:List Nat} (ht:trL false P N all.toList os=some (l1++l2)) {K:Env→List Ob→Prop} {e:Env} {H:List Ob} {β:Nat→Nat→Option (Nat×Nat)} {F:Nat→Prop} {w:World} {a:Act} {QQ:Exit→Act→World→Prop}
  (h:Aup P l1 (BqF zs (Aup P l2 K)) e H) (hs:Sim ⟨β,H,F⟩ w) (hf:Fr N D ⟨β,H,F⟩ w e a)
  (hk:∀ e' H' β' F' w' a',K e' H'→Sim ⟨β',H',F'⟩ w'→Fr N D ⟨β',H',F'⟩ w' e' a'→CP ⟨β,H,F⟩ w ⟨β',H',F'⟩ w'→QQ .normal a' w'):wpListIn (fz ro) nn P all QQ os a w:=by
 obtain ⟨o1,o2,rfl,h1,h2⟩:=BkN ht
 refine Au2 (Aev.vop (KP:=fun _ _=>False)) h1 h hs hf (fun e' H' β' F' w' a' k1 k2 k3 k4 => ?_) (fun _ _ _ _ _ _ h=>h.elim)
 obtain ⟨e2,H2,F2,q1,q2,q3,q4⟩:=Aw2 k1 k2 k3
 exact Axo h2 q1 q2 q3 fun e3 H3 β3 F3 w3 a3 m1 m2 m3 m4=>hk e3 H3 β3 F3 w3 a3 m1 m2 m3 ((k4.trans q4).trans m4)
theorem Sim.own {β:Nat→Nat→Option (Nat×Nat)} {H:List Ob} {F:Nat→Prop} {w:World} (hs:Sim ⟨β,H,F⟩ w) (k:Nat) :
  Sim ⟨upd β H.length 0 none,H++[.obj 0 (.arr 0 k [])],F⟩ w∧CP ⟨β,H,F⟩ w ⟨upd β H.length 0 none,H++[.obj 0 (.arr 0 k [])],F⟩ w ∧
   Bc ⟨upd β H.length 0 none,H++[.obj 0 (.arr 0 k [])],F⟩ w (.os k H.length 0 [] 0 0 0) [.slice none 0 0]:=by
 obtain ⟨k1,k2⟩:=hs.newNone (x := .arr 0 k []) (by rw [Bc]; exact ⟨rfl,by simp,by rw [Be]⟩)
 exact ⟨k1,k2,by rw [Bc]; exact ⟨Oy _ _ _ _ _ (Nat.le_refl _),.inl ⟨rfl,none,rfl,rfl,fun _ h=>by cases h⟩⟩⟩
theorem Sim.ownBld {β:Nat→Nat→Option (Nat×Nat)} {H:List Ob} {F:Nat→Prop} {w:World} (hs:Sim ⟨β,H,F⟩ w) (t:TypeId) :
  Sim ⟨upd β H.length 0 none,H++[.bld 0 t []],F⟩ w∧CP ⟨β,H,F⟩ w ⟨upd β H.length 0 none,H++[.bld 0 t []],F⟩ w ∧
   Bc ⟨upd β H.length 0 none,H++[.bld 0 t []],F⟩ w (.os 1 H.length 0 [] 0 0 0) [.slice none 0 0]:=by
 obtain ⟨k1,k2⟩:=hs.new (.bld 0 t []) rfl none (w':=w) (fun b off e=>by cases e) rfl rfl rfl (Nat.le_refl _) (fun b hb=>rfl) fun hm => .inl ⟨CV,rfl⟩
 exact ⟨k1,k2,by rw [Bc]; exact ⟨Oy _ _ _ _ _ (Nat.le_refl _),.inl ⟨rfl,none,rfl,rfl,fun _ h=>by cases h⟩⟩⟩
def Ctx.cut (c:Ctx) (g:Nat):Ctx:=⟨c.β,c.H.take g,c.F⟩
theorem Ctx.cut_has {c:Ctx} {g id ver:Nat} (h:c.has id ver) (hg:id<g):(c.cut g).has id ver:=by
 obtain ⟨o,h1,h2⟩:=h
 exact ⟨o,by show (c.H.take g)[id]?=some o; rw [List.getElem?_take,if_pos hg]; exact h1,h2⟩
theorem Ctx.cut_get {c:Ctx} {g id:Nat} {o:Ob} (h:(c.cut g).H[id]?=some o):id<g∧c.H[id]?=some o:=by
 have h':(c.H.take g)[id]?=some o:=h
 rw [List.getElem?_take] at h'
 split at h'
 ·exact ⟨‹_›,h'⟩
 ·cases h'
mutual
theorem Bc.cut {c:Ctx} {w:World} {g:Nat}:∀ {x:TV} {us:List Value},VP g x=true→Bc c w x us→Bc (c.cut g) w x us
 | .val y,us,hf,hr=>by rw [Bc] at hr ⊢; exact hr
 | .any,us,hf,hr=>by rw [Bc] at hr ⊢; exact hr
 | .sl k cs,us,hf,hr=>by rw [Bc] at hr ⊢; exact hr
 | .fp x,us,hf,hr=>by rw [Bc] at hr ⊢; exact hr
 | .arr n k cs,us,hf,hr=>by rw [Bc] at hr ⊢; exact hr
 | .op id ver p,us,hf,hr=>by
  rw [VP,decide_eq_true_eq] at hf; rw [Bc] at hr ⊢; exact ⟨Ctx.cut_has hr.1 hf,hr.2⟩
 | .os k id ver p off n cp,us,hf,hr=>by
  rw [VP,decide_eq_true_eq] at hf; rw [Bc] at hr ⊢; exact ⟨Ctx.cut_has hr.1 hf,hr.2⟩
 | .mp id ver,us,hf,hr=>by
  rw [VP,decide_eq_true_eq] at hf; rw [Bc] at hr ⊢; exact ⟨Ctx.cut_has hr.1 hf,hr.2⟩
 | .yl id ver,us,hf,hr=>by
  rw [VP,decide_eq_true_eq] at hf; rw [Bc] at hr ⊢; exact ⟨Ctx.cut_has hr.1 hf,hr.2⟩
 | .agg cs,us,hf,hr=>by rw [VP] at hf; rw [Bc] at hr ⊢; exact Be.cut hf hr
 | .tup cs,us,hf,hr=>by rw [Bc] at hr; exact hr.elim
 | .ifc t x,us,hf,hr=>by
  rw [VP] at hf; rw [Bc] at hr ⊢
  obtain ⟨u,h1,vs,h2,h3⟩:=hr
  exact ⟨u,h1,vs,Bc.cut hf h2,h3⟩
 | .fn f a b,us,hf,hr=>by
  rw [VP,Bool.and_eq_true] at hf; rw [Bc] at hr ⊢
  obtain ⟨aS,bs,h1,h2,h3⟩:=hr
  exact ⟨aS,bs,h1,Ei.cut hf.1 h2,Ei.cut hf.2 h3⟩
theorem Be.cut {c:Ctx} {w:World} {g:Nat}:∀ {xs:List TV} {us:List Value},Aei g xs=true→Be c w xs us→Be (c.cut g) w xs us
 | [],us,hf,hr=>by rw [Be] at hr ⊢; exact hr
 | x::xs,us,hf,hr=>by
  rw [Aei,Bool.and_eq_true] at hf; rw [Be] at hr ⊢
  obtain ⟨a,b,h1,h2,h3⟩:=hr
  exact ⟨a,b,h1,Bc.cut hf.1 h2,Be.cut hf.2 h3⟩
theorem Ei.cut {c:Ctx} {w:World} {g:Nat}:∀ {xs:List TV} {us:List Value},Aei g xs=true→Ei c w xs us→Ei (c.cut g) w xs us
 | [],us,hf,hr=>by rw [Ei] at hr ⊢; exact hr
 | x::xs,us,hf,hr=>by
  rw [Aei,Bool.and_eq_true] at hf; rw [Ei] at hr ⊢
  obtain ⟨u,us,h1,h2,h3⟩:=hr
  refine ⟨u,us,h1,?_,Ei.cut hf.2 h3⟩
  rcases h2 with h2 | h2 | ⟨aS,h2,h4⟩
  ·exact .inl h2
  ·exact .inr (.inl h2)
  ·exact .inr (.inr ⟨aS,Bc.cut hf.1 h2,h4⟩)
end
theorem Rep.cut {c:Ctx} {w:World} {g:Nat} {x:TV} {v:Value} (hf:VP g x=true) (hr:Rep c w x v):Rep (c.cut g) w x v:=by
 rcases hr with (h | h | ⟨us,h,h'⟩) | ⟨xs,vs,rfl,h2,h3⟩
 ·exact .inl (.inl h)
 ·exact .inl (.inr (.inl h))
 ·exact .inl (.inr (.inr ⟨us,Bc.cut hf h,h'⟩))
 ·rw [VP] at hf; exact .inr ⟨xs,vs,rfl,h2,Ei.cut hf h3⟩
theorem Asg {g:Nat}:∀ {e:Env},Att g e=true→∀ s,VP g (get e s)=true
 | [],_,s=>rfl
 | (k,x)::e,h,s=>by
  rw [Att,Bool.and_eq_true] at h
  rw [Gj]
  split
  ·exact h.1
  ·exact Asg h.2 s
theorem Axt {g:Nat}:∀ {H:List Ob},AqO g H=true→∀ (i:Nat) (o:Ob),H[i]?=some o→AyW g o=true
 | [],_,i,o,h=>by simp at h
 | o::H,h,i,o',hi=>by
  rw [AqO,Bool.and_eq_true] at h
  cases i with
  | zero=>simp at hi; subst hi; exact h.1
  | succ i=>exact Axt h.2 i o' (by simpa using hi)
theorem Df.cut {c:Ctx} {w:World} {g:Nat} {kk:MK}:∀ {es:List (List UInt8×TV)} {ms:List MapEntry},Aei g (es.map (·.2))=true→Df c w kk es ms→Df (c.cut g) w kk es ms
 | [],ms,_,h=>h
 | (k,x)::es,ms,hb,h=>by
  rw [List.map_cons,Aei,Bool.and_eq_true] at hb
  obtain ⟨m,r,rfl,h1,h2,h3⟩:=h
  exact ⟨m,r,rfl,h1,⟨Bc.cut hb.1 h2.1,h2.2⟩,Df.cut hb.2 h3⟩
theorem Sim.cut {c:Ctx} {w:World} {g:Nat} (hs:Sim c w) (hg:AqO g (c.H.take g)=true):Sim (c.cut g) w:=by
 have hown:∀ b,(c.cut g).own b→c.own b:=by
  rintro b ⟨i,o,off,h1,h2,h3⟩
  exact ⟨i,o,off,(Ctx.cut_get h1).2,h2,h3⟩
 refine ⟨fun id o ho => ?_,fun i j x y b o o' hx hy hlx hly e e'=>hs.inj i j x y b o o' (Ctx.cut_get hx).2 (Ctx.cut_get hy).2 hlx hly e e',fun b hb=>hs.apart b (hown b hb),hs.lt,hs.glob⟩
 have h1:=hs.ob id o (Ctx.cut_get ho).2
 have hb:=Axt hg id o ho
 cases o with
 | gone v=>trivial
 | ice v m x =>
  obtain ⟨b,off,pre,vs,post,t,fr,h0,h1,h2,h3,h4⟩:=h1
  exact ⟨b,off,pre,vs,post,t,fr,h0,h1,h2,h3,Bc.cut hb h4⟩
 | bld v t l=>exact h1
 | fact i v t m =>
  obtain ⟨h0,h2⟩:=h1
  exact ⟨Ctx.cut_has h0 (by simpa [AyW] using hb),h2⟩
 | lp st pend fn N en ps ca cb =>
  obtain ⟨b,tmps,D,h0,h1,h2,h3⟩:=h1
  exact ⟨b,tmps,D,h0,h1,h2,fun s=>Rep.cut (Asg hb s) (h3 s)⟩
 | mpo kk es =>
  obtain ⟨b,ms,cl,h0,h1,h2,h3⟩:=h1
  exact ⟨b,ms,cl,h0,h1,Df.cut hb h2,h3⟩
 | sit s pos=>exact h1
 | mpd kk zs cl =>
  obtain ⟨b,ms,h0,h1,h2,h3⟩:=h1
  exact ⟨b,ms,h0,h1,Df.cut (by rw [List.map_map]; exact hb) h2,h3⟩
 | mit m sn cl =>
  obtain ⟨r,b,h0,⟨g0,g1⟩,h1⟩:=h1
  exact ⟨r,b,h0,⟨Ctx.cut_has g0 (by simpa [AyW] using hb),g1⟩,h1⟩
 | obj v x =>
  rcases h1 with ⟨h0,h4⟩ | ⟨b,off,pre,vs,post,t,fr,h0,h1,h2,h3,h4⟩
  ·exact .inl ⟨h0,Bc.cut hb h4⟩
  ·exact .inr ⟨b,off,pre,vs,post,t,fr,h0,h1,h2,h3,Bc.cut hb h4⟩
theorem CP.cut {c0 c:Ctx} {w0 w:World} {g:Nat} (hl:CP c0 w0 c w) (hg:c0.H.length≤g):CP c0 w0 (c.cut g) w :=
 ⟨hl.os,hl.tape,hl.output,hl.size,fun id ver h=>by
  obtain ⟨h1,h2⟩:=hl.has id ver h
  exact ⟨Ctx.cut_has h1 (Nat.lt_of_lt_of_le (Ctx.has_lt h) hg),h2⟩,hl.shape,hl.same,hl.keepF,hl.oldF,fun b hb ⟨i,o,off,h1,h2,h3⟩=>hl.oldOwn b hb ⟨i,o,off,(Ctx.cut_get h1).2,h2,h3⟩⟩
def Agc (D0:List Deferred) (B:Nat) (c:Ctx) (w:World) (D:List Deferred):Prop:=∃ ds:List Nat,D=ds.map (fun r=>{ target := .collected r,args := #[] })++D0∧ds.Nodup∧∀ r∈ds,B≤r∧r<w.heap.size∧¬ c.own r∧¬ c.F r∧w.heap[r]?=some (.deferred (some []))
theorem Agc.nil {D0:List Deferred} {B:Nat} {c:Ctx} {w:World}:Agc D0 B c w D0:=⟨[],rfl,List.nodup_nil,fun r h=>by cases h⟩
theorem Agc.later {D0:List Deferred} {B:Nat} {c c':Ctx} {w w':World} {D:List Deferred} (h:Agc D0 B c w D) (hl:CP c w c' w'):Agc D0 B c' w' D:=by
 obtain ⟨ds,h1,h2,h3⟩:=h
 refine ⟨ds,h1,h2,fun r hr => ?_⟩
 obtain ⟨k1,k2,k3,k4,k5⟩:=h3 r hr
 exact ⟨k1,Nat.lt_of_lt_of_le k2 hl.size,fun h=>k3 (hl.oldOwn r k2 h),fun h=>(hl.oldF r k2 h).elim k4 k3,(hl.same r k2 k3).trans k5⟩
theorem Agc.cut {D0:List Deferred} {B g:Nat} {c:Ctx} {w:World} {D:List Deferred} (h:Agc D0 B c w D):Agc D0 B (c.cut g) w D:=by
 obtain ⟨ds,h1,h2,h3⟩:=h
 refine ⟨ds,h1,h2,fun r hr => ?_⟩
 obtain ⟨k1,k2,k3,k4,k5⟩:=h3 r hr
 exact ⟨k1,k2,fun ⟨i,o,off,h1,h2,h3⟩=>k3 ⟨i,o,off,(Ctx.cut_get h1).2,h2,h3⟩,k4,k5⟩
theorem Alt (w:World) (r:Nat) (o:Obj):(w.putObj r o).os=w.os∧(w.putObj r o).tape=w.tape∧(w.putObj r o).output=w.output∧(w.putObj r o).heap.size=w.heap.size:=⟨rfl,rfl,rfl,by simp [World.putObj]⟩
theorem AxB {w:World} {b:Nat} {r:Loop} (h:w.heap[b]?=some (.loop r)):w.shape? b=none:=by simp [World.shape?,h]
theorem Sim.loopTurn {β:Nat→Nat→Option (Nat×Nat)} {H:List Ob} {F:Nat→Prop} {w:World} (hs:Sim ⟨β,H,F⟩ w) {id N:Nat} {fn:FuncId} {e:Env} {ps:List Nat} {ca cb:Code} {st st':LoopState} {pe pe':Option Code}
  (ho:H[id]?=some (.lp st pe fn N e ps ca cb)):∃ (b:Nat) (r:Loop),β id 0=some (b,0)∧w.heap[b]?=some (.loop r)∧r.state=st∧r.pending=pe∧r.fn=fn∧r.tmps.size=N∧r.params=ps.toArray∧r.assign=ca∧r.body=cb∧(∀ s,Rep ⟨β,H,F⟩ w (get e s) (r.tmps.getD s undef)) ∧
   Sim ⟨β,H.set id (.lp st' pe' fn N e ps ca cb),F⟩ (w.putObj b (.loop { r with state:=st',pending:=pe' })) ∧
   CP ⟨β,H,F⟩ w ⟨β,H.set id (.lp st' pe' fn N e ps ca cb),F⟩ (w.putObj b (.loop { r with state:=st',pending:=pe' })):=by
 obtain ⟨b,tmps,D,h1,h2,h3,h4⟩:=hs.ob id _ ho
 have hlt:b<w.heap.size:=(Array.getElem?_eq_some_iff.1 h2).1
 have hid:id<H.length:=(List.getElem?_eq_some_iff.1 ho).1
 have hput:=World.putObj_heap_same (w:=w) (o := .loop { state:=st',pending:=pe',fn:=fn,tmps:=tmps,params:=ps.toArray,assign:=ca,body:=cb,defers:=D }) hlt
 obtain ⟨k1,k2⟩:=hs.turn (β':=β) (w':=w.putObj b (.loop { state:=st',pending:=pe',fn:=fn,tmps:=tmps,params:=ps.toArray,assign:=ca,body:=cb,defers:=D })) ho (o' := .lp st' pe' fn N e ps ca cb) rfl rfl (Nat.le_refl _) (fun _ _ _=>rfl) (fun b' off hb => .inl ⟨off,hb⟩) rfl rfl rfl
  (by rw [(Alt _ _ _).2.2.2]; exact Nat.le_refl _) (fun b' hb'=>by
   by_cases hbb:b'=b
   ·subst hbb; rw [AxB h2,AxB hput]
   ·exact FX (World.putObj_heap_other hbb)) (fun b' hb' hne=>World.putObj_heap_other (fun e=>hne 0 (by subst e; exact h1)))
  (fun hm=>⟨b,tmps,D,h1,hput,h3,fun s=>Rep.mono hm (h4 s)⟩)
 exact ⟨b,{ state:=st,pending:=pe,fn:=fn,tmps:=tmps,params:=ps.toArray,assign:=ca,body:=cb,defers:=D },h1,h2,rfl,rfl,rfl,h3,rfl,rfl,rfl,h4,k1,k2⟩
theorem Avq {N nn:Nat} {f0:Operand} {ps0:Array Tmp} {ca cb:Code} {Q:VEx→Env→List Ob→Prop} {e:Env} {H:List Ob} {β:Nat→Nat→Option (Nat×Nat)} {F:Nat→Prop} {w:World} {a:Act} {QQ:Exit→Act→World→Prop} {B:Nat} {D D0:List Deferred}
  (hs:Sim ⟨β,H,F⟩ w) (hf:Fr N D ⟨β,H,F⟩ w e a) (hm:Agc D0 B ⟨β,H,F⟩ w D) (hB:B≤w.heap.size) {g:FuncId} {us vs:List Value} {first caps:List TV} (hv:a.eval f0 = .func (.func g) us.toArray vs.toArray) (hgo:Auh P g=true) (hfi:Ei ⟨β,H,F⟩ w first us) (hc:Ei ⟨β,H,F⟩ w caps vs)
  (h:∀ fn,BD P g (first++[.yl H.length 0]++caps) (H++[.lp .ready none fn N e ps0.toList ca cb]) (ACR Q e H.length))
  (hk:∀ x e' H' β' F' w' a' D',Q x e' H'→Sim ⟨β',H',F'⟩ w'→Fr N D' ⟨β',H',F'⟩ w' e' a'→Agc D0 B ⟨β',H',F'⟩ w' D'→CP ⟨β,H,F⟩ w ⟨β',H',F'⟩ w'→QQ x.ex a' w'):(Code.rangeFunc f0 ps0 ca cb).wpIn (fz none) nn P QQ a w:=by
 refine wpIn_rangeFunc ?_
 intro fn hfn
 obtain ⟨rec,hrec⟩:∃ rec:Loop,rec={ state := .ready,pending:=none,fn:=fn,tmps:=a.tmps,params:=ps0,assign:=ca,body:=cb,defers:=w.heap.size }:=⟨_,rfl⟩
 obtain ⟨W1,hW1⟩:∃ W1,(w.alloc (.deferred (some []))).alloc (.loop rec)=W1:=⟨_,rfl⟩
 have hL1:W1.heap[w.heap.size+1]?=some (.loop rec):=by
  rw [←hW1]; have:=World.alloc_heap_new (w.alloc (.deferred (some []))) (.loop rec); rwa [World.size_alloc] at this
 have hK1:W1.heap[w.heap.size]?=some (.deferred (some [])):=by
  rw [←hW1]; exact (Below.heap_alloc _ _ _ (by simp)).trans (World.alloc_heap_new w _)
 have hsz:W1.heap.size=w.heap.size+2:=by rw [←hW1]; simp
 have hold:∀ b,b<w.heap.size→W1.heap[b]?=w.heap[b]?:=fun b hb=>by
  rw [←hW1]; exact (Below.heap_alloc _ _ _ (by simp; omega)).trans (Below.heap_alloc _ _ _ hb)
 obtain ⟨k1,k2⟩:=hs.new (w':=W1) (.lp .ready none fn N e ps0.toList ca cb) rfl (some (w.heap.size+1,0)) (fun b off h=>by simp at h; omega) (by rw [←hW1]; rfl) (by rw [←hW1]; rfl) (by rw [←hW1]; rfl) (by omega) hold
  (fun hmo=>⟨w.heap.size+1,a.tmps,w.heap.size,CV,by rw [hL1,hrec],hf.size,fun s=>Rep.mono hmo (hf.env.1 s)⟩)
 have hmo:=k2.mono hs
 have hown1:∀ b,Ctx.own ⟨upd β H.length 0 (some (w.heap.size+1,0)),H++[.lp .ready none fn N e ps0.toList ca cb],F⟩ b→b≠w.heap.size:=by
  rintro b ⟨i,o,off,h1,h2,h3⟩ rfl
  by_cases hi:i<H.length
  ·rw [List.getElem?_append_left hi] at h1
   have h3':β i o.ver=some (w.heap.size,off):=by
    have h3:upd β H.length 0 (some (w.heap.size+1,0)) i o.ver=some (w.heap.size,off):=h3
    rw [Aq4 (fun h=>by omega)] at h3; exact h3
   have:=hs.own_lt ⟨i,o,off,h1,h2,h3'⟩
   omega
  ·have hil:i=H.length:=by
    have:=(List.getElem?_eq_some_iff.1 h1).1
    simp at this; omega
   subst hil
   simp at h1
   subst h1
   have h3:upd β H.length 0 (some (w.heap.size+1,0)) H.length 0=some (w.heap.size,off):=h3
   rw [CV] at h3
   simp at h3
 refine ⟨w.heap.size+1,[{ target := .collected w.heap.size,args := #[] }],W1,{ target := .fn (.func g) vs.toArray,args:=us.toArray ++ #[.func (.yield (w.heap.size+1)) #[] #[]] },W1,g,us.toArray ++ #[.func (.yield (w.heap.size+1)) #[] #[]]++vs.toArray,W1,?_,?_,?_,?_,?_,?_⟩
 ·rw [←hW1,hrec]; exact run_enterLoop_outer _ _ _ _ _
 ·simp only [resolve,hv]
  simp [go_sem]
 ·intro f' hf'; trivial
 ·simp only [invoke,TN hgo]
 ·intro h; simp [fz,Fence.wide] at h
 ·refine (callsIn_wide (n:=nn - 1)).2 ?_
  have hargs:Ei ⟨upd β H.length 0 (some (w.heap.size+1,0)),H++[.lp .ready none fn N e ps0.toList ca cb],F⟩ W1 (first++[.yl H.length 0]++caps) (us++[.func (.yield (w.heap.size+1)) #[] #[]]++vs):=by
   refine Ei.append (Ei.append (Ei.mono hmo hfi) (Ei.cons.2 ⟨_,[],rfl,.inr (.inr ⟨[.func (.yield (w.heap.size+1)) #[] #[]],?_,rfl⟩),by rw [Ei]⟩)) (Ei.mono hmo hc)
   rw [Bc]
   exact ⟨Oy _ _ _ _ _ (Nat.le_refl _),_,_,CV,rfl⟩
  have hcall:=h fn _ _ W1 _ k1 hargs
  rw [show (us++[Value.func (.yield (w.heap.size+1)) #[] #[]]++vs).toArray=us.toArray ++ #[.func (.yield (w.heap.size+1)) #[] #[]]++vs.toArray from by simp] at hcall
  refine hcall.mono ?_
  rintro _ w3 ⟨v,x,β',H',F',rfl,hR,hs',hl',hx⟩
  have hmk:Agc D0 B ⟨β',H',F'⟩ w3 ({ target := .collected w.heap.size,args := #[] }::D):=by
   have h1:Agc D0 B ⟨upd β H.length 0 (some (w.heap.size+1,0)),H++[.lp .ready none fn N e ps0.toList ca cb],F⟩ W1 ({ target := .collected w.heap.size,args := #[] }::D):=by
    obtain ⟨ds,d1,d2,d3⟩:=hm.later k2
    refine ⟨w.heap.size::ds,by rw [d1]; rfl,List.nodup_cons.2 ⟨fun hin => ?_,d2⟩,fun r hr => ?_⟩
    ·obtain ⟨ds',e1,e2,e3⟩:=hm
     have:ds'=ds:=by
      have:ds'.map (fun r=>({ target := .collected r,args := #[] }:Deferred))=ds.map (fun r=>{ target := .collected r,args := #[] }):=List.append_cancel_right (e1.symm.trans d1)
      exact (List.map_inj_right (fun a b h=>by simpa using h)).1 this
     rw [←this] at hin
     have:=(e3 _ hin).2.1
     omega
    ·rcases List.mem_cons.1 hr with rfl | hr
     ·exact ⟨hB,by omega,fun ho=>hown1 _ ho rfl,fun hF=>absurd (hs.lt _ hF) (by omega),hK1⟩
     ·exact d3 r hr
   exact h1.later hl'
  have fin:∀ (st:LoopState) (pe:Option Code) (fn':FuncId) (N':Nat) (e1:Env) (ps1:List Nat) (c1 c2:Code),st ≠ .busy→H'[H.length]?=some (.lp st pe fn' N' e1 ps1 c1 c2) →
    ∃ w4,(Instr.endLoop (w.heap.size+1)).run P w3 = .ok pe w4∧Sim ⟨β',H'.set H.length (.lp .exhausted pe fn' N' e1 ps1 c1 c2),F'⟩ w4∧CP ⟨β',H',F'⟩ w3 ⟨β',H'.set H.length (.lp .exhausted pe fn' N' e1 ps1 c1 c2),F'⟩ w4:=by
   intro st pe fn' N' e1 ps1 c1 c2 hst hob
   obtain ⟨b,r,r1,r2,r3,r4,_,_,_,_,_,_,r5,r6⟩:=hs'.loopTurn (st' := .exhausted) (pe':=pe) hob
   have hβ:β' H.length 0=some (w.heap.size+1,0):=((hl'.has H.length 0 (Oy _ _ _ _ _ (Nat.le_refl _))).2).trans CV
   rw [hβ] at r1
   obtain ⟨rfl,_⟩:w.heap.size+1=b∧True:=by simpa using r1
   subst r4
   exact ⟨_,run_endLoop (P:=P) r2 (by rw [r3]; exact hst),r5,r6⟩
  have hfr:∀ {c:Ctx} {w4:World},CP ⟨β,H,F⟩ w c w4→NL c.F w4→Fr N ({ target := .collected w.heap.size,args := #[] }::D) c w4 e { a with defers:={ target := .collected w.heap.size,args := #[] }::a.defers }:=fun {c w4} hl hgl =>
   ⟨⟨fun s=>Rep.mono (hl.mono hs) (hf.env.1 s),hgl⟩,hf.size,by rw [hf.defers]⟩
  unfold ACR at hR
  simp only [rangePost]
  split at hR
  ·rename_i hob
   obtain ⟨w4,e1,e2,e3⟩:=fin .ready none _ _ _ _ _ _ (by simp) hob
   exact ⟨none,w4,e1,hk .nor _ _ _ _ _ _ _ hR e2 (hfr ((k2.trans hl').trans e3) e2.glob) (hmk.later e3) ((k2.trans hl').trans e3)⟩
  ·rename_i hob
   obtain ⟨w4,e1,e2,e3⟩:=fin .done (some .ret) _ _ _ _ _ _ (by simp) hob
   exact ⟨some .ret,w4,e1,wpIn_ret (hk .ret _ _ _ _ _ _ _ hR e2 (hfr ((k2.trans hl').trans e3) e2.glob) (hmk.later e3) ((k2.trans hl').trans e3))⟩
  ·rename_i i _ _ _ _ _ _ hob
   obtain ⟨w4,e1,e2,e3⟩:=fin .done (some (.exit _)) _ _ _ _ _ _ (by simp) hob
   exact ⟨some (.exit _),w4,e1,wpIn_exit (hk (.exit _) _ _ _ _ _ _ _ hR e2 (hfr ((k2.trans hl').trans e3) e2.glob) (hmk.later e3) ((k2.trans hl').trans e3))⟩
  ·exact hR.elim
theorem OD {b:Frame} {a:Act} {k:List Item} {cs:List Frame} {w:World} {c:Code}:step P (lone (b.atR a (.code (.scope c)::k)) cs w) = .next (lone (b.atR a (.code c :: .inScope c::k)) cs w) :=
 step_lone_go (by simp [stepG,stepG.exec,Frame.atR])
theorem Awh {b:Frame} {a:Act} {k:List Item} {cs:List Frame} {w:World} {c:Code}:step P (lone (b.atR a (.inScope c::k)) cs w) = .next (lone (b.atR a k) cs w) :=
 step_lone_go (by simp [stepG,stepG.exec,Frame.atR])
theorem ABn {F:Fence} {n:Nat} {Q:Exit→Act→World→Prop} {a:Act} {w:World} {c:Code} (h:c.wpIn F n P (Exit.noGoto Q) a w):(Code.scope c).wpIn F n P Q a w:=by
 intro b k cs hro hb hr
 have h0:(lone (b.atR a (.code (.scope c)::k)) cs w).fenced P F:=fenced_calm hb hr rfl
 obtain ⟨e,a₁,w₁,hq,harr⟩:=h b (.inScope c::k) cs hro hb hr
 cases e with
 | normal=>exact ⟨.normal,a₁,w₁,hq,.head h0 OD (StepsIn.trans harr (.one (fenced_calm hb hr rfl) Awh))⟩
 | exit id' =>
  have hx:exitTo id' (.inScope c::k)=exitTo id' k:=by simp [exitTo]
  exact ⟨.exit id',a₁,w₁,hq,fun k' hk => .head h0 OD (harr.1 k' (by rw [hx]; exact hk)),fun hr' hk=>let ⟨k₁,h1,h2⟩:=harr.2 hr' (by rw [hx]; exact hk); ⟨k₁,h1,.head h0 OD h2⟩⟩
 | goto l=>exact hq.elim
 | ret=>exact ⟨_,a₁,w₁,hq,.of_steps (.one h0 OD) harr⟩
 | panic ch=>exact ⟨_,a₁,w₁,hq,.of_steps (.one h0 OD) harr⟩
 | outgrown=>exact ⟨_,a₁,w₁,hq,.of_steps (.one h0 OD) harr⟩
theorem Blr {N:Nat} {ro:Option Nat} {nn:Nat}:∀ (vc:AP) {code:Code},(ro=none∨Au6 vc=true)→trC P N code=some (er vc)→∀ {Q:VEx→Env→List Ob→Prop} {e:Env} {H:List Ob} {β:Nat→Nat→Option (Nat×Nat)} {F:Nat→Prop} {w:World} {a:Act} {QQ:Exit→Act→World→Prop} {B:Nat} {D D0:List Deferred},vwp P vc Q e H→Sim ⟨β,H,F⟩ w→Fr N D ⟨β,H,F⟩ w e a→Agc D0 B ⟨β,H,F⟩ w D→B≤w.heap.size →
  (∀ x e' H' β' F' w' a' D',Q x e' H'→Sim ⟨β',H',F'⟩ w'→Fr N D' ⟨β',H',F'⟩ w' e' a'→Agc D0 B ⟨β',H',F'⟩ w' D'→CP ⟨β,H,F⟩ w ⟨β',H',F'⟩ w'→QQ x.ex a' w')→code.wpIn (fz ro) nn P QQ a w:=by
 intro vc
 have inv:∀ {code:Code} {v:AP},trC P N code=some v→True:=fun _=>trivial
 induction vc with
 | ops l kp =>
  intro code hrf ht Q e H β F w a QQ B D D0 h hs hf hm hB hk
  rw [er] at ht
  cases code with
  | region id ops d =>
   cases d with
   | true=>exact (Ol ht (by simp) (by simp) (by simp)).elim
   | false =>
    obtain ⟨l',hl,e9⟩:=(BlP ht).resolve_right (by simp)
    simp only [AP.ops.injEq,and_true] at e9
    subst e9
    rw [vwp] at h
    exact wpIn_region_list (Axo hl h hs hf fun e' H' β' F' w' a' k1 k2 k3 k4=>hk .nor _ _ _ _ _ _ _ k1 k2 (k3.forget kp) (hm.later k4) k4)
  | seq x y=>simp only [trC] at ht; split at ht<;>simp at ht
  | cond c x y=>simp only [trC] at ht; split at ht<;>simp at ht
  | rangeFunc f ps x y=>simp only [trC] at ht; split at ht<;>(try split at ht)<;>simp at ht
  | _=>simp [trC] at ht
 | opsZ l zs r kp =>
  intro code hrf ht Q e H β F w a QQ B D D0 h hs hf hm hB hk
  rw [er] at ht
  cases code with
  | region id ops d =>
   cases d with
   | true=>exact (Ol ht (by simp) (by simp) (by simp)).elim
   | false =>
    obtain ⟨l',hl,e9⟩:=(BlP ht).resolve_right (by simp)
    simp only [AP.ops.injEq,and_true] at e9
    subst e9
    rw [vwp] at h
    exact wpIn_region_list (AB6 hl h hs hf fun e' H' β' F' w' a' k1 k2 k3 k4=>hk .nor _ _ _ _ _ _ _ k1 k2 (k3.forget kp) (hm.later k4) k4)
  | seq x y=>simp only [trC] at ht; split at ht<;>simp at ht
  | cond c x y=>simp only [trC] at ht; split at ht<;>simp at ht
  | rangeFunc f ps x y=>simp only [trC] at ht; split at ht<;>(try split at ht)<;>simp at ht
  | _=>simp [trC] at ht
 | pops l kp =>
  intro code hrf ht Q e H β F w a QQ B D D0 h hs hf hm hB hk
  rw [er] at ht
  cases code with
  | region id ops d =>
   cases d with
   | true=>exact (Ol ht (by simp) (by simp) (by simp)).elim
   | false =>
    obtain ⟨l',hl,e9⟩:=(BlP ht).resolve_right (by simp)
    simp only [AP.ops.injEq,and_true] at e9
    subst e9
    rw [vwp] at h
    exact wpIn_region_list (ABy hl h hs hf (fun e' H' β' F' w' a' k1 k2 k3 k4=>hk .nor _ _ _ _ _ _ _ k1 k2 (k3.forget kp) (hm.later k4) k4) fun u H' β' F' w' a' k1 k2 k3 k4=>hk (.pan u) _ _ _ _ _ _ _ k1 k2 k3 (hm.later k4) k4)
  | seq x y=>simp only [trC] at ht; split at ht<;>simp at ht
  | cond c x y=>simp only [trC] at ht; split at ht<;>simp at ht
  | rangeFunc f ps x y=>simp only [trC] at ht; split at ht<;>(try split at ht)<;>simp at ht
  | _=>simp [trC] at ht
 | draw n l kp =>
  intro code hrf ht Q e H β F w a QQ B D D0 h hs hf hm hB hk
  rw [er] at ht
  cases code with
  | region id ops d =>
   cases d with
   | false=>exact (Oo ht (by simp) (by simp)).elim
   | true =>
    obtain ⟨bz,hsp⟩:=AgV ((BlY ht).resolve_right (by simp))
    obtain ⟨n',l',e9,hmo,hh⟩:=hsp.resolve_right (by simp)
    simp only [AP.draw.injEq,and_true] at e9
    obtain ⟨rfl,rfl⟩:=e9
    rw [vwp] at h
    rcases hh with ⟨hl,hck⟩ | ⟨π,hp,hl,hck⟩
    ·exact Axi WOk.vop hmo hl hck h hs hf ⟨fun e' H' β' F' w' a' k1 k2 k3 k4=>hk .nor _ _ _ _ _ _ _ k1 k2 (k3.forget kp) (hm.later k4) k4,fun _ _ _ _ _ _ (h:False)=>h.elim⟩
    ·exact ApE WOk.vop hmo hp hl hck h hs hf ⟨fun e' H' β' F' w' a' k1 k2 k3 k4=>hk .nor _ _ _ _ _ _ _ k1 k2 (k3.forget kp) (hm.later k4) k4,fun _ _ _ _ _ _ (h:False)=>h.elim⟩
  | seq x y=>simp only [trC] at ht; split at ht<;>simp at ht
  | cond c x y=>simp only [trC] at ht; split at ht<;>simp at ht
  | rangeFunc f ps x y=>simp only [trC] at ht; split at ht<;>(try split at ht)<;>simp at ht
  | _=>simp [trC] at ht
 | pdraw n l kp =>
  intro code hrf ht Q e H β F w a QQ B D D0 h hs hf hm hB hk
  rw [er] at ht
  cases code with
  | region id ops d =>
   cases d with
   | false=>exact (Oo ht (by simp) (by simp)).elim
   | true =>
    obtain ⟨bz,hsp⟩:=AgV ((BlY ht).resolve_right (by simp))
    obtain ⟨n',l',e9,hmo,hh⟩:=hsp.resolve_right (by simp)
    simp only [AP.draw.injEq,and_true] at e9
    obtain ⟨rfl,rfl⟩:=e9
    rw [vwp] at h
    rcases hh with ⟨hl,hck⟩ | ⟨π,hp,hl,hck⟩
    ·exact Axi WOk.pvop hmo hl hck h hs hf ⟨fun e' H' β' F' w' a' k1 k2 k3 k4=>hk .nor _ _ _ _ _ _ _ k1 k2 (k3.forget kp) (hm.later k4) k4,fun u H' β' F' w' a' k1 k2 k3 k4=>hk (.pan u) _ _ _ _ _ _ _ k1 k2 k3 (hm.later k4) k4⟩
    ·exact ApE WOk.pvop hmo hp hl hck h hs hf ⟨fun e' H' β' F' w' a' k1 k2 k3 k4=>hk .nor _ _ _ _ _ _ _ k1 k2 (k3.forget kp) (hm.later k4) k4,fun u H' β' F' w' a' k1 k2 k3 k4=>hk (.pan u) _ _ _ _ _ _ _ k1 k2 k3 (hm.later k4) k4⟩
  | seq x y=>simp only [trC] at ht; split at ht<;>simp at ht
  | cond c x y=>simp only [trC] at ht; split at ht<;>simp at ht
  | rangeFunc f ps x y=>simp only [trC] at ht; split at ht<;>(try split at ht)<;>simp at ht
  | _=>simp [trC] at ht
 | sdraw n l kp =>
  intro code hrf ht Q e H β F w a QQ B D D0 h hs hf hm hB hk
  rw [er] at ht
  cases code with
  | region id ops d =>
   cases d with
   | false=>exact (Oo ht (by simp) (by simp)).elim
   | true =>
    obtain ⟨bz,hsp⟩:=AgV ((BlY ht).resolve_right (by simp))
    obtain ⟨n',l',e9,hmo,π,hp,hl,hck⟩:=hsp.resolve_left (by simp)
    simp only [AP.sdraw.injEq,and_true] at e9
    obtain ⟨rfl,rfl⟩:=e9
    rw [vwp] at h
    exact ApE WOk.pvopS hmo hp hl hck h hs hf ⟨fun e' H' β' F' w' a' k1 k2 k3 k4=>hk .nor _ _ _ _ _ _ _ k1 k2 (k3.forget kp) (hm.later k4) k4,fun u H' β' F' w' a' k1 k2 k3 k4=>hk (.pan u) _ _ _ _ _ _ _ k1 k2 k3 (hm.later k4) k4⟩
  | seq x y=>simp only [trC] at ht; split at ht<;>simp at ht
  | cond c x y=>simp only [trC] at ht; split at ht<;>simp at ht
  | rangeFunc f ps x y=>simp only [trC] at ht; split at ht<;>(try split at ht)<;>simp at ht
  | _=>simp [trC] at ht
 | skip =>
  intro code hrf ht Q e H β F w a QQ B D D0 h hs hf hm hB hk
  rw [er] at ht
  cases code with
  | skip=>exact wpIn_skip (hk .nor _ _ _ _ _ _ _ h hs hf hm (CP.refl _ _))
  | label l=>exact wpIn_label (hk .nor _ _ _ _ _ _ _ h hs hf hm (CP.refl _ _))
  | region id ops d =>
   cases d
   ·exact (Oo ht (by simp) (by simp)).elim
   ·exact (Ol ht (by simp) (by simp) (by simp)).elim
  | seq x y=>simp only [trC] at ht; split at ht<;>simp at ht
  | cond c x y=>simp only [trC] at ht; split at ht<;>simp at ht
  | rangeFunc f ps x y=>simp only [trC] at ht; split at ht<;>(try split at ht)<;>simp at ht
  | _=>simp [trC] at ht
 | seq x y ihx ihy =>
  intro code hrf ht Q e H β F w a QQ B D D0 h hs hf hm hB hk
  rw [er] at ht
  cases code with
  | region id ops d =>
   cases d
   ·exact (Oo ht (by simp) (by simp)).elim
   ·exact (Ol ht (by simp) (by simp) (by simp)).elim
  | seq cx cy =>
   simp only [trC] at ht
   split at ht
   ·rename_i vx vy hx hy
    simp only [Option.some.injEq,AP.seq.injEq] at ht
    obtain ⟨rfl,rfl⟩:=ht
    rw [vwp] at h
    have hrx:ro=none∨Au6 x=true:=hrf.imp id fun h=>by simp only [Au6,Bool.and_eq_true] at h; exact h.1
    have hry:ro=none∨Au6 y=true:=hrf.imp id fun h=>by simp only [Au6,Bool.and_eq_true] at h; exact h.2
    refine wpIn_seq (ihx hrx hx h hs hf hm hB ?_)
    intro x e' H' β' F' w' a' D' k1 k2 k3 km k4
    cases x with
    | nor=>exact ihy hry hy k1 k2 k3 km (Nat.le_trans hB k4.size) fun x e2 H2 β2 F2 w2 a2 D2 m1 m2 m3 mm m4=>hk _ _ _ _ _ _ _ _ m1 m2 m3 mm (k4.trans m4)
    | exit i=>exact hk (.exit i) _ _ _ _ _ _ _ k1 k2 k3 km k4
    | ret=>exact hk .ret _ _ _ _ _ _ _ k1 k2 k3 km k4
    | pan u=>exact hk (.pan u) _ _ _ _ _ _ _ k1 k2 k3 km k4
   ·simp at ht
  | cond c x y=>simp only [trC] at ht; split at ht<;>simp at ht
  | rangeFunc f ps x y=>simp only [trC] at ht; split at ht<;>(try split at ht)<;>simp at ht
  | _=>simp [trC] at ht
 | cond c x y ihx ihy =>
  intro code hrf ht Q e H β F w a QQ B D D0 h hs hf hm hB hk
  rw [er] at ht
  cases code with
  | region id ops d =>
   cases d
   ·exact (Oo ht (by simp) (by simp)).elim
   ·exact (Ol ht (by simp) (by simp) (by simp)).elim
  | seq x y=>simp only [trC] at ht; split at ht<;>simp at ht
  | cond cc cx cy =>
   simp only [trC] at ht
   split at ht
   ·rename_i vx vy hx hy
    simp only [Option.some.injEq,AP.cond.injEq] at ht
    obtain ⟨rfl,rfl,rfl⟩:=ht
    rw [vwp] at h
    split at h
    ·rename_i t hc
     have hrx:ro=none∨Au6 x=true:=hrf.imp id fun h=>by simp only [Au6,Bool.and_eq_true] at h; exact h.1
     have hry:ro=none∨Au6 y=true:=hrf.imp id fun h=>by simp only [Au6,Bool.and_eq_true] at h; exact h.2
     refine wpIn_cond_split (hf.env.val hc) (fun htt => ?_) (fun htf => ?_)
     ·rw [if_pos htt] at h; exact ihx hrx hx h hs hf hm hB hk
     ·rw [if_neg (by rw [htf]; simp)] at h; exact ihy hry hy h hs hf hm hB hk
    ·exact h.elim
   ·simp at ht
  | rangeFunc f ps x y=>simp only [trC] at ht; split at ht<;>(try split at ht)<;>simp at ht
  | _=>simp [trC] at ht
 | block id x ih =>
  intro code hrf ht Q e H β F w a QQ B D D0 h hs hf hm hB hk
  rw [er] at ht
  cases code with
  | region id ops d =>
   cases d
   ·exact (Oo ht (by simp) (by simp)).elim
   ·exact (Ol ht (by simp) (by simp) (by simp)).elim
  | seq x y=>simp only [trC] at ht; split at ht<;>simp at ht
  | cond c x y=>simp only [trC] at ht; split at ht<;>simp at ht
  | rangeFunc f ps x y=>simp only [trC] at ht; split at ht<;>(try split at ht)<;>simp at ht
  | block id' c =>
   simp only [trC,Option.map_eq_some_iff,AP.block.injEq] at ht
   obtain ⟨vx,hx,rfl,rfl⟩:=ht
   rw [vwp] at h
   refine wpIn_block (ih hrf hx h hs hf hm hB ?_)
   intro x e' H' β' F' w' a' D' k1 k2 k3 km k4
   cases x with
   | nor=>exact hk .nor _ _ _ _ _ _ _ k1 k2 k3 km k4
   | exit i =>
    show Exit.inBlock _ QQ (.exit i) a' w'
    simp only [Exit.inBlock]
    simp only at k1
    split at k1
    ·rename_i hi; rw [if_pos hi]; exact hk .nor _ _ _ _ _ _ _ k1 k2 k3 km k4
    ·rename_i hi; rw [if_neg hi]; exact hk (.exit i) _ _ _ _ _ _ _ k1 k2 k3 km k4
   | ret=>exact hk .ret _ _ _ _ _ _ _ k1 k2 k3 km k4
   | pan u=>exact hk (.pan u) _ _ _ _ _ _ _ k1 k2 k3 km k4
  | _=>simp [trC] at ht
 | loop lv x ih =>
  intro code hrf ht Q e H β F w a QQ B D D0 h hs hf hm hB hk
  rw [er] at ht
  cases code with
  | region id ops d =>
   cases d
   ·exact (Oo ht (by simp) (by simp)).elim
   ·exact (Ol ht (by simp) (by simp) (by simp)).elim
  | seq x y=>simp only [trC] at ht; split at ht<;>simp at ht
  | cond c x y=>simp only [trC] at ht; split at ht<;>simp at ht
  | rangeFunc f ps x y=>simp only [trC] at ht; split at ht<;>(try split at ht)<;>simp at ht
  | loop c =>
   simp only [trC,Option.map_eq_some_iff,AP.loop.injEq] at ht
   obtain ⟨vx,hx,_,rfl⟩:=ht
   rw [vwp] at h
   obtain ⟨I,n,h0,hstep⟩:=h
   refine wpIn_loop_ghost (fun n a' w'=>∃ e' H' β' F' D',I n e' H'∧Sim ⟨β',H',F'⟩ w'∧Fr N D' ⟨β',H',F'⟩ w' e' a'∧Agc D0 B ⟨β',H',F'⟩ w' D'∧CP ⟨β,H,F⟩ w ⟨β',H',F'⟩ w') n ⟨_,_,_,_,_,h0,hs,hf.forget lv,hm,CP.refl _ _⟩ ?_
   rintro n a' w' ⟨e',H',β',F',D',k1,k2,k3,km,k4⟩
   refine ih hrf hx (hstep n e' H' k1) k2 k3 km (Nat.le_trans hB k4.size) ?_
   intro x e2 H2 β2 F2 w2 a2 D2 m1 m2 m3 mm m4
   cases x with
   | nor =>
    obtain ⟨m,g,hmn,⟨hg,hb⟩,hI⟩:=m1
    have hf3:=m3.forget lv
    rcases hb with hle | ⟨hbe,hbh⟩
    ·rw [List.take_of_length_le hle] at hI
     exact ⟨m,hmn,_,_,_,_,_,hI,m2,hf3,mm,k4.trans m4⟩
    exact ⟨m,hmn,_,_,_,_,_,hI,m2.cut hbh,⟨⟨fun s=>Rep.cut (Asg hbe s) (hf3.env.1 s),hf3.env.2⟩,hf3.size,hf3.defers⟩,mm.cut,(k4.trans m4).cut hg⟩
   | exit i=>exact hk (.exit i) _ _ _ _ _ _ _ m1 m2 m3 mm (k4.trans m4)
   | ret=>exact hk .ret _ _ _ _ _ _ _ m1 m2 m3 mm (k4.trans m4)
   | pan u=>exact hk (.pan u) _ _ _ _ _ _ _ m1 m2 m3 mm (k4.trans m4)
  | _=>simp [trC] at ht
 | exit id =>
  intro code hrf ht Q e H β F w a QQ B D D0 h hs hf hm hB hk
  rw [er] at ht
  cases code with
  | region id ops d =>
   cases d
   ·exact (Oo ht (by simp) (by simp)).elim
   ·exact (Ol ht (by simp) (by simp) (by simp)).elim
  | seq x y=>simp only [trC] at ht; split at ht<;>simp at ht
  | cond c x y=>simp only [trC] at ht; split at ht<;>simp at ht
  | rangeFunc f ps x y=>simp only [trC] at ht; split at ht<;>(try split at ht)<;>simp at ht
  | exit id' =>
   simp only [trC,Option.some.injEq,AP.exit.injEq] at ht; subst ht
   exact wpIn_exit (hk (.exit _) _ _ _ _ _ _ _ h hs hf hm (CP.refl _ _))
  | _=>simp [trC] at ht
 | ret =>
  intro code hrf ht Q e H β F w a QQ B D D0 h hs hf hm hB hk
  rw [er] at ht
  cases code with
  | region id ops d =>
   cases d
   ·exact (Oo ht (by simp) (by simp)).elim
   ·exact (Ol ht (by simp) (by simp) (by simp)).elim
  | seq x y=>simp only [trC] at ht; split at ht<;>simp at ht
  | cond c x y=>simp only [trC] at ht; split at ht<;>simp at ht
  | rangeFunc f ps x y=>simp only [trC] at ht; split at ht<;>(try split at ht)<;>simp at ht
  | ret=>exact wpIn_ret (hk .ret _ _ _ _ _ _ _ h hs hf hm (CP.refl _ _))
  | _=>simp [trC] at ht
 | dead =>
  intro code hrf ht Q e H β F w a QQ B D D0 h
  rw [vwp] at h; exact h.elim
 | scope x ih =>
  intro code hrf ht Q e H β F w a QQ B D D0 h hs hf hm hB hk
  rw [er] at ht
  cases code with
  | region id ops d =>
   cases d
   ·exact (Oo ht (by simp) (by simp)).elim
   ·exact (Ol ht (by simp) (by simp) (by simp)).elim
  | seq x y=>simp only [trC] at ht; split at ht<;>simp at ht
  | cond c x y=>simp only [trC] at ht; split at ht<;>simp at ht
  | rangeFunc f ps x y=>simp only [trC] at ht; split at ht<;>(try split at ht)<;>simp at ht
  | scope c =>
   simp only [trC,Option.map_eq_some_iff,AP.scope.injEq] at ht
   obtain ⟨vx,hx,rfl⟩:=ht
   rw [vwp] at h
   refine ABn (ih hrf hx h hs hf hm hB ?_)
   intro x e' H' β' F' w' a' D' k1 k2 k3 km k4
   cases x with
   | nor=>exact hk .nor _ _ _ _ _ _ _ k1 k2 k3 km k4
   | exit i=>exact hk (.exit i) _ _ _ _ _ _ _ k1 k2 k3 km k4
   | ret=>exact hk .ret _ _ _ _ _ _ _ k1 k2 k3 km k4
   | pan u=>exact hk (.pan u) _ _ _ _ _ _ _ k1 k2 k3 km k4
  | _=>simp [trC] at ht
 | own s k x ih =>
  intro code hrf ht Q e H β F w a QQ B D D0 h hs hf hm hB hk
  rw [er] at ht
  rw [vwp] at h
  split at h
  ·rename_i hg
   obtain ⟨k1,k2,k3⟩:=hs.own k
   have hv:a.tmps.getD s undef = .slice none 0 0:=by
    have:=hf.env.1 s; rw [hg,Rep.val] at this; exact this
   refine ih hrf ht h k1 ⟨⟨fun s' => ?_,k1.glob⟩,hf.size,hf.defers⟩ (hm.later k2) hB fun x' e' H' β' F' w' a' D' m1 m2 m3 mm m4=>hk x' e' H' β' F' w' a' D' m1 m2 m3 mm (k2.trans m4)
   rw [Gj]
   by_cases hss:s=s'
   ·subst hss; rw [if_pos rfl,hv]; exact Rep.of1 k3 (by simp) (by simp)
   ·rw [if_neg hss]; exact Rep.mono (k2.mono hs) (hf.env.1 s')
  ·exact ih hrf ht h hs hf hm hB hk
 | ownB s p k x ih =>
  intro code hrf ht Q e H β F w a QQ B D D0 h hs hf hm hB hk
  rw [er] at ht
  rw [vwp] at h
  split at h
  ·rename_i id ver p0 hg
   split at h
   ·rename_i v y hid
    obtain ⟨rfl,h⟩:=h
    split at h
    ·rename_i hgp
     split at h
     ·rename_i x' hsp
      obtain ⟨k1,k2,k3⟩:=hs.own k
      have hlt:id<H.length:=(List.getElem?_eq_some_iff.1 hid).1
      have hid':(H++[Ob.obj 0 (.arr 0 k [])])[id]?=some (.obj v y):=by rw [List.getElem?_append_left hlt]; exact hid
      obtain ⟨q1,q2⟩:=k1.turn (o' := .obj v x') (w':=w) (β':=upd β H.length 0 none) hid' rfl rfl (Nat.le_refl _) (fun _ _ _=>rfl) (fun b off e => .inl ⟨off,e⟩) rfl rfl rfl (Nat.le_refl _) (fun _ _=>rfl) (fun _ _ _=>rfl) (fun hm=>by
       rcases k1.ob id _ hid' with ⟨r0,r1⟩ | ⟨b,off,pre,vs,post,t,fr,r0,r1,r2,r3,r4⟩
       ·refine .inl ⟨r0,?_⟩
        exact Bc.mono hm (Aql r1 hgp (fun m hm'=>by rw [Bc] at hm'; rw [hm'.1]; exact k3) hsp)
       ·refine .inr ⟨b,off,pre,vs,post,t,fr,r0,r1,r2,r3,?_⟩
        exact Bc.mono hm (Aql r4 hgp (fun m hm'=>by rw [Bc] at hm'; rw [hm'.1]; exact k3) hsp))
      rw [List.set_append_left _ _ hlt] at q1 q2
      exact ih hrf ht h q1 ⟨⟨fun s'=>Rep.mono (q2.mono k1) (Rep.mono (k2.mono hs) (hf.env.1 s')),q1.glob⟩,hf.size,hf.defers⟩ (hm.later (k2.trans q2)) hB fun x' e' H' β' F' w' a' D' m1 m2 m3 mm m4=>hk x' e' H' β' F' w' a' D' m1 m2 m3 mm ((k2.trans q2).trans m4)
     ·exact h.elim
    ·exact ih hrf ht h hs hf hm hB hk
   ·exact h.elim
  ·exact h.elim
 | frz s x ih =>
  intro code hrf ht Q e H β F w a QQ B D D0 h hs hf hm hB hk
  rw [er] at ht
  rw [vwp] at h
  split at h
  ·rename_i k id ver p off n cp hg
   split at h
   ·rename_i v y hid
    obtain ⟨rfl,h⟩:=h
    split at h
    ·rename_i cs hcs
     obtain ⟨k1,k2⟩:=hs.freeze hid rfl
     have hr:Rep ⟨β,H,F⟩ w (get e s) (a.tmps.getD s undef):=hf.env.1 s
     rw [hg] at hr
     have hr':Rep ⟨β,H.set id (.gone v),fun b=>F b∨∃ off,β id v=some (b,off)⟩ w (.sl k cs) (a.tmps.getD s undef):=by
      rcases hr with (hr | hr | ⟨us,hr,hr2⟩) | ⟨xs,vs,hr,_⟩
      ·cases hr
      ·cases hr
      ·exact .inl (.inr (.inr ⟨us,hs.give hid hcs hr,by rw [hr2]; rfl⟩))
      ·cases hr
     refine ih hrf ht h k1 ⟨⟨fun s' => ?_,k1.glob⟩,hf.size,hf.defers⟩ (hm.later k2) hB fun x' e' H' β' F' w' a' D' m1 m2 m3 mm m4=>hk x' e' H' β' F' w' a' D' m1 m2 m3 mm (k2.trans m4)
     rw [Gj]
     by_cases hss:s=s'
     ·subst hss; rw [if_pos rfl]; exact hr'
     ·rw [if_neg hss]; exact Rep.mono (k2.mono hs) (hf.env.1 s')
    ·exact h.elim
   ·exact h.elim
  ·exact h.elim
 | ownT s p t x ih =>
  intro code hrf ht Q e H β F w a QQ B D D0 h hs hf hm hB hk
  rw [er] at ht
  rw [vwp] at h
  split at h
  ·rename_i id ver p0 hg
   split at h
   ·rename_i v y hid
    obtain ⟨rfl,h⟩:=h
    split at h
    ·rename_i hgp
     split at h
     ·rename_i x' hsp
      obtain ⟨k1,k2,k3⟩:=hs.ownBld t
      have hlt:id<H.length:=(List.getElem?_eq_some_iff.1 hid).1
      have hid':(H++[Ob.bld 0 t []])[id]?=some (.obj v y):=by rw [List.getElem?_append_left hlt]; exact hid
      obtain ⟨q1,q2⟩:=k1.turn (o' := .obj v x') (w':=w) (β':=upd β H.length 0 none) hid' rfl rfl (Nat.le_refl _) (fun _ _ _=>rfl) (fun b off e => .inl ⟨off,e⟩) rfl rfl rfl (Nat.le_refl _) (fun _ _=>rfl) (fun _ _ _=>rfl) (fun hm=>by
       rcases k1.ob id _ hid' with ⟨r0,r1⟩ | ⟨b,off,pre,vs,post,t,fr,r0,r1,r2,r3,r4⟩
       ·refine .inl ⟨r0,?_⟩
        exact Bc.mono hm (Aql r1 hgp (fun m hm'=>by rw [Bc] at hm'; rw [hm'.1]; exact k3) hsp)
       ·refine .inr ⟨b,off,pre,vs,post,t,fr,r0,r1,r2,r3,?_⟩
        exact Bc.mono hm (Aql r4 hgp (fun m hm'=>by rw [Bc] at hm'; rw [hm'.1]; exact k3) hsp))
      rw [List.set_append_left _ _ hlt] at q1 q2
      exact ih hrf ht h q1 ⟨⟨fun s'=>Rep.mono (q2.mono k1) (Rep.mono (k2.mono hs) (hf.env.1 s')),q1.glob⟩,hf.size,hf.defers⟩ (hm.later (k2.trans q2)) hB fun x' e' H' β' F' w' a' D' m1 m2 m3 mm m4=>hk x' e' H' β' F' w' a' D' m1 m2 m3 mm ((k2.trans q2).trans m4)
     ·exact h.elim
    ·exact ih hrf ht h hs hf hm hB hk
   ·exact h.elim
  ·exact h.elim
 | rfunc g0 ps aS bd iha ihb =>
  intro code hrf ht Q e H β F w a QQ B D D0 h hs hf hm hB hk
  obtain rfl:ro=none:=hrf.resolve_right (by simp [Au6])
  rw [er] at ht
  cases code with
  | region id ops d =>
   cases d
   ·exact (Oo ht (by simp) (by simp)).elim
   ·exact (Ol ht (by simp) (by simp) (by simp)).elim
  | seq x y=>simp only [trC] at ht; split at ht<;>simp at ht
  | cond c x y=>simp only [trC] at ht; split at ht<;>simp at ht
  | rangeFunc f0 ps0 ca cb =>
   simp only [trC] at ht
   split at ht
   ·rename_i hps
    split at ht
    ·rename_i va vb hca hcb
     simp only [Option.some.injEq,AP.rfunc.injEq] at ht
     obtain ⟨rfl,rfl,rfl,rfl⟩:=ht
     rw [vwp] at h
     obtain ⟨-,-,h⟩:=h
     split at h
     ·rename_i g first caps hg
      obtain ⟨hgo,h⟩:=h
      have hr:Rep ⟨β,H,F⟩ w (.fn (.func g) first caps) (a.eval f0):=hf.env.rep (x:=f0) hg
      have h1:=hr.inv1 (by simp) (by simp) (by simp) (by simp) (by simp)
      rw [Bc] at h1
      obtain ⟨us,vs,hv1,hfi,hc⟩:=h1
      have hv':a.eval f0 = .func (.func g) us.toArray vs.toArray:=by simpa using hv1
      refine Avq hs hf hm hB hv' hgo hfi hc (fun fn=>h N fn ca cb ⟨hca,hcb,hps⟩) hk
     ·rename_i g xs ys hg
      obtain ⟨hxy,hgo,h⟩:=h
      rw [Bool.and_eq_true,Array.isEmpty_iff,Array.isEmpty_iff] at hxy
      obtain ⟨rfl,rfl⟩:=hxy
      have hv':a.eval f0 = .func (.func g) #[] #[]:=hf.env.val hg
      refine Avq (us:=[]) (vs:=[]) (first:=[]) (caps:=[]) hs hf hm hB hv' hgo (by rw [Ei]) (by rw [Ei]) (fun fn=>by simpa using h N fn ca cb ⟨hca,hcb,hps⟩) hk
     ·exact h.elim
    ·cases ht
   ·cases ht
  | _=>simp [trC] at ht
end sound
end
section
open Go.RowKit
variable [Cc]
set_option autoImplicit false
inductive VR where
 | tmp (t:Nat)
 | cell (a:Nat) (ag:Bool) (sz:Nat)
 deriving Inhabited
def trR (P:Program):List ResultVar→Option (List VR)
 | []=>some []
 | .tmp t::r=>(trR P r).map (.tmp t :: ·)
 | .cell a t::r=>match Auz P t,Aju P t,trR P r with
  | some ag,some sz,some r=>some (.cell a ag sz::r)
  | _,_,_=>none
def AA2:List VR→Env→List Ob→(List TV→Prop)→Prop
 | [],e,H,K=>K []
 | .tmp t::r,e,H,K=>AA2 r e H fun xs=>K (get e t::xs)
 | .cell a ag sz::r,e,H,K=>pop (.load ag sz (.t a)) e H fun x=>AA2 r e H fun xs=>K (x::xs)
def res (r:List VR) (e:Env) (H:List Ob) (K:TV→Prop):Prop:=AA2 r e H fun xs=>match xs with
 | [x]=>K x
 | xs=>(∀ x∈xs,Ie x=false)∧K (.tup xs)
section
variable {P:Program}
def rv (a:Act) (r:ResultVar):Sem Value:=match r with
 | .tmp t=>pure (a.tmps.getD t undef)
 | .cell x t=>do loadVar t (←asAddr (a.tmps.getD x undef))
theorem Ax3 {c:Ctx} {w:World} {e:Env} {a:Act} (hs:Sim c w) (he:Dc c w e a):∀ {rs:List ResultVar} {vr:List VR} {K:List TV→Prop},trR P rs=some vr→AA2 vr e c.H K →
  ∃ (xs:List TV) (vs:List Value),(rs.mapM (rv a)).run P w = .ok vs w∧xs.length=vs.length∧(∀ (i:Nat) x v,xs[i]?=some x→vs[i]?=some v→Rep c w x v)∧K xs
 | [],vr,K,ht,h=>by
  simp only [trR,Option.some.injEq] at ht; subst ht
  exact ⟨[],[],rfl,rfl,by simp,h⟩
 | .tmp t::rs,vr,K,ht,h=>by
  simp only [trR,Option.map_eq_some_iff] at ht
  obtain ⟨r,hr,rfl⟩:=ht
  rw [AA2] at h
  obtain ⟨xs,vs,h1,h2,h3,h4⟩:=Ax3 hs he hr h
  refine ⟨get e t::xs,a.tmps.getD t undef::vs,by rw [List.mapM_cons]; simp only [rv,Sem.run_bind,Sem.run_pure,Result.andThen_ok,h1],by simp [h2],?_,h4⟩
  intro i x v hx hv
  cases i with
  | zero=>simp at hx hv; subst hx; subst hv; simpa using he.1 t
  | succ i=>exact h3 i x v (by simpa using hx) (by simpa using hv)
 | .cell b t::rs,vr,K,ht,h=>by
  simp only [trR] at ht
  split at ht
  ·rename_i ag sz r h1 h2 hr
   cases ht
   rw [AA2] at h
   have hy:=Bpv (P:=P) (a:=a) (ty:=0) hs he h1 h2 (x := .tmp b) h
   obtain ⟨x,v,hrun,hx,hK⟩:=hy ⟨none,.load t (.tmp b),0, "", #[],none⟩ rfl rfl
   have hload:(do loadVar t (←asAddr (a.tmps.getD b undef)):Sem Value).run P w = .ok v w:=by
    simp only [execOp,Instr.loadAt,Sem.run_bind,Act.eval] at hrun
    simp only [Sem.run_bind]
    cases hp:a.tmps.getD b undef with
    | pointer p =>
     rw [hp] at hrun
     cases p with
     | none=>simp [Instr.sureAddr,stuck] at hrun
     | some ad =>
      simp only [Instr.sureAddr,Sem.run_pure,Result.andThen_ok,asAddr] at hrun ⊢
      cases hl:(loadVar t ad).run P w with
      | ok u w2=>rw [hl] at hrun; simp only [Result.andThen_ok,Sem.run_pure] at hrun; cases hrun; rfl
      | halt hh w2=>rw [hl] at hrun; simp at hrun
    | _=>rw [hp] at hrun; simp [Instr.sureAddr,stuck] at hrun
   obtain ⟨xs,vs,h3,h4,h5,h6⟩:=Ax3 hs he hr hK
   refine ⟨x::xs,v::vs,by rw [List.mapM_cons,Sem.run_bind]; show Result.andThen ((rv a (.cell b t)).run P w) _=_; rw [show (rv a (.cell b t)).run P w = .ok v w from hload]; simp only [Result.andThen_ok,Sem.run_bind,h3,Sem.run_pure],by simp [h4],?_,h6⟩
   intro i y u hy hu
   cases i with
   | zero=>simp at hy hu; subst hy; subst hu; exact hx
   | succ i=>exact h5 i y u (by simpa using hy) (by simpa using hu)
  ·cases ht
theorem Bp8 {c:Ctx} {w:World} {e:Env} {a:Act} (hs:Sim c w) (he:Dc c w e a) {fn:Func} {vr:List VR} {K:TV→Prop} (ht:trR P fn.results.toList=some vr) (h:res vr e c.H K) :
  ∃ x v,(results fn a.tmps).run P w = .ok v w∧Rep c w x v∧K x:=by
 obtain ⟨xs,vs,h1,h2,h3,h4⟩:=Ax3 hs he ht h
 have hrun:(fn.results.mapM (rv a)).run P w = .ok vs.toArray w:=by
  rw [Array.mapM_eq_mapM_toList]
  simp only [Sem.run_map,h1,Result.andThen_ok]
 have hres:(results fn a.tmps).run P w = .ok (if h:vs.toArray.size=1 then vs.toArray[0] else .tuple vs.toArray) w:=by
  have:results fn a.tmps=(do let vs ← fn.results.mapM (rv a); pure (if h:vs.size=1 then vs[0] else .tuple vs)):=rfl
  rw [this,Sem.run_bind,hrun]; rfl
 rcases xs with _ | ⟨x,_ | ⟨y,xs⟩⟩
 ·have hv:vs=[]:=List.length_eq_zero_iff.1 (by simpa using h2.symm)
  subst hv
  exact ⟨_,_,hres,.inr ⟨[],[],rfl,rfl,by rw [Ei]⟩,h4.2⟩
 ·obtain ⟨v,rfl⟩:=List.length_eq_one_iff.1 (by simpa using h2.symm)
  exact ⟨_,_,hres,h3 0 x v rfl rfl,h4⟩
 ·rcases vs with _ | ⟨u,_ | ⟨v,vs⟩⟩
  ·simp at h2
  ·simp at h2
  ·refine ⟨_,_,hres,.inr ⟨_,u::v::vs,rfl,by simp,?_⟩,h4.2⟩
   have key:∀ (xs:List TV) (vs:List Value),xs.length=vs.length→(∀ x∈xs,Ie x=false)→(∀ (i:Nat) x v,xs[i]?=some x→vs[i]?=some v→Rep c w x v)→Ei c w xs vs:=by
    intro xs
    induction xs with
    | nil=>intro vs h _ _; rw [Ei]; exact List.length_eq_zero_iff.1 h.symm
    | cons x xs ih =>
     intro vs hl ht hr
     cases vs with
     | nil=>simp at hl
     | cons v vs =>
      refine Ei.cons.2 ⟨v,vs,rfl,?_,ih vs (by simpa using hl) (fun y hy=>ht y (by simp [hy])) fun i y u hy hu=>hr (i+1) y u (by simpa using hy) (by simpa using hu)⟩
      rcases hr 0 x v rfl rfl with h | ⟨ys,us,rfl,_⟩
      ·exact h
      ·have:=ht (.tup ys) (by simp); simp [Ie] at this
   exact key _ _ h2 h4.1 h3
def Ayc:Nat→List TV→Env
 | _,[]=>[]
 | i,x::xs=>(i,x)::Ayc (i+1) xs
theorem Azg:∀ (xs:List TV) (i s:Nat),get (Ayc i xs) s=if i≤s then (xs[s - i]?).getD .any else .any
 | [],i,s=>by simp [Ayc,get]
 | x::xs,i,s=>by
  rw [Ayc,Gj,Azg xs (i+1) s]
  by_cases h:i=s
  ·subst h; simp
  ·rw [if_neg h]
   by_cases h2:i≤s
   ·rw [if_pos (by omega),if_pos h2,show s - i=(s - (i+1))+1 from by omega,List.getElem?_cons_succ]
   ·rw [if_neg (by omega),if_neg h2]
theorem Ei.get {c:Ctx} {w:World}:∀ {xs:List TV} {vs:List Value},Ei c w xs vs→xs.length=vs.length∧∀ (i:Nat) x,xs[i]?=some x→∃ v,vs[i]?=some v∧Rep c w x v
 | [],vs,h=>by rw [Ei] at h; subst h; simp
 | x::xs,vs,h=>by
  obtain ⟨u,us,rfl,h1,h2⟩:=Ei.cons.1 h
  obtain ⟨h3,h4⟩:=Ei.get h2
  refine ⟨by simp [h3],fun i y hy => ?_⟩
  cases i with
  | zero=>simp at hy; subst hy; exact ⟨u,rfl,.inl h1⟩
  | succ i=>simpa using h4 i y (by simpa using hy)
def Awf (vr:List VR) (R:TV→List Ob→Prop):VEx→Env→List Ob→Prop
 | .nor,e,H=>res vr e H fun x=>R x H
 | .ret,e,H=>res vr e H fun x=>R x H
 | .exit _,_,_=>False
 | .pan _,_,_=>False
theorem Sim.nobody {c:Ctx} {w:World} (hs:Sim c w) {r:Nat} {o o':Obj} (hr:w.heap[r]?=some o) (h1:¬ c.own r) (h2:¬ c.F r) (hsh:(w.putObj r o').shape? r=w.shape? r):Sim c (w.putObj r o')∧TK c w c (w.putObj r o'):=by
 have hoth:∀ b,b≠r→(w.putObj r o').heap[b]?=w.heap[b]?:=fun b hb=>World.putObj_heap_other hb
 have hm:TK c w c (w.putObj r o'):=⟨fun b hb=>⟨hb,hoth b fun e=>h2 (e▸hb)⟩,fun _ _ h=>⟨h,rfl⟩,fun b _=>by
  by_cases hb:b=r
  ·subst hb; exact hsh
  ·exact FX (hoth b hb)⟩
 refine ⟨⟨fun id ob ho=>AAI.mono hm (Ctx.has_of ho) (fun hl b off hb=>hoth b fun e=>h1 (e▸Ctx.own_of ho hl hb)) (hs.ob id ob ho),hs.inj,hs.apart,fun b hb => ?_,hs.glob.keep hm.stay⟩,hm⟩
 rw [(Alt w r o').2.2.2]; exact hs.lt b hb
theorem CP.nobody {c0 c:Ctx} {w0 w:World} (h:CP c0 w0 c w) {r:Nat} {o':Obj} (hr:w0.heap.size≤r):CP c0 w0 c (w.putObj r o') :=
 ⟨h.os,h.tape,h.output,by rw [(Alt w r o').2.2.2]; exact h.size,h.has,fun b hb=>(FX (World.putObj_heap_other (by omega))).trans (h.shape b hb),fun b hb ho=>(World.putObj_heap_other (by omega)).trans (h.same b hb ho),h.keepF,h.oldF,h.oldOwn⟩
theorem Agc.shut {D0:List Deferred} {u:FrameMode} (hu:u ≠ .run) {FF:Fence} {n:Nat} {fn:Func} {tmps:Array Value} {R:Ending→World→Prop} {B:Nat} {c:Ctx}:∀ {D:List Deferred} {w:World},Agc D0 B c w D→Sim c w →
  ∃ wF,(LeavesInM FF n P fn tmps R D0 u wF→LeavesInM FF n P fn tmps R D u w)∧Sim c wF∧TK c w c wF∧∀ (c0:Ctx) (w0:World),w0.heap.size≤B→CP c0 w0 c w→CP c0 w0 c wF:=by
 rintro D w ⟨ds,rfl,hnd,hds⟩ hs
 induction ds generalizing w with
 | nil=>exact ⟨w,fun h=>h,hs,TK.heap rfl,fun c0 w0 _ h=>h⟩
 | cons r ds ih =>
  obtain ⟨k1,k2,k3,k4,k5⟩:=hds r (by simp)
  rw [List.nodup_cons] at hnd
  have hput:=World.putObj_heap_same (w:=w) (o := .deferred none) k2
  obtain ⟨s1,s2⟩:=hs.nobody (o' := .deferred none) k5 k3 k4 (by simp [World.shape?,hput,k5])
  obtain ⟨wF,e1,e2,e3,e4⟩:=ih (w:=w.putObj r (.deferred none)) hnd.2 (fun q hq=>by
   obtain ⟨q1,q2,q3,q4,q5⟩:=hds q (by simp [hq])
   have hne:q≠r:=fun e=>hnd.1 (e▸hq)
   exact ⟨q1,by rw [(Alt w r _).2.2.2]; exact q2,q3,q4,(World.putObj_heap_other hne).trans q5⟩) s1
  refine ⟨wF,fun h=>⟨hu,.inl ⟨r,_,rfl,run_takeDeferred k5,e1 h⟩⟩,e2,⟨fun b hb=>⟨hb,((e3.stay b hb).2).trans (s2.stay b hb).2⟩,fun _ _ h=>⟨h,rfl⟩,fun b hb=>(e3.shape b (by rw [(Alt w r _).2.2.2]; exact hb)).trans (s2.shape b hb)⟩,fun c0 w0 hB hl=>e4 c0 w0 hB (hl.nobody (by omega))⟩
theorem Blx {f:FuncId} {fn:Func} {vc:AP} {vr:List VR} {args:List TV} {H:List Ob} {R:TV→List Ob→Prop} (hf:P.funcs[f]?=some fn) (ht:fn.body.bind (trC P fn.ntmps)=some (er vc)) (hr:trR P fn.results.toList=some vr)
  (hn:args.length≤fn.ntmps) (h:vwp P vc (Awf vr R) (Ayc 0 args) H):BD P f args H R:=by
 obtain ⟨code,hb,ht⟩:=Option.bind_eq_some_iff.1 ht
 intro β F w vs hs hv
 obtain ⟨hl,hget⟩:=Ei.get hv
 refine (callsIn_wide (n:=0)).1 (callsIn_of_wp_marks hf hb trivial ?_)
 refine Blr (ro:=none) (nn:=0) (B:=w.heap.size) (D:=[]) (D0:=[]) vc (.inl rfl) ht h hs ⟨⟨fun s => ?_,hs.glob⟩,by simp; omega,rfl⟩ Agc.nil (Nat.le_refl _) ?_
 ·rw [Azg]
  simp only [Nat.zero_le,if_true,Nat.sub_zero]
  cases hx:args[s]? with
  | none=>exact Rep.any
  | some x =>
   obtain ⟨v,hv1,hv2⟩:=hget s x hx
   have hs':s<vs.length:=(List.getElem?_eq_some_iff.1 hv1).1
   have:((vs.toArray++Array.replicate (fn.ntmps - vs.toArray.size) undef).getD s undef)=v:=by
    rw [Array.getD_eq_getD_getElem?,Array.getElem?_append_left (by simpa using hs')]
    simp [hv1]
   rw [this]; exact hv2
 ·intro x e' H' β' F' w' a' D' k1 k2 k3 km k4
  have fin:res vr e' H' (fun x=>R x H')→LeavesInM Fence.wide 0 P fn a'.tmps (fun e w'=>∃ v x β' H' F',e = .returned v∧R x H'∧Sim ⟨β',H',F'⟩ w'∧CP ⟨β,H,F⟩ w ⟨β',H',F'⟩ w'∧Rep ⟨β',H',F'⟩ w' x v) a'.defers .returning w':=fun h=>by
   rw [k3.defers]
   obtain ⟨wF,e1,e2,e3,e4⟩:=Agc.shut (D0:=[]) (u := .returning) (by simp) (P:=P) (FF:=Fence.wide) (n:=0) (fn:=fn) (tmps:=a'.tmps) (R:=fun e w'=>∃ v x β' H' F',e = .returned v∧R x H'∧Sim ⟨β',H',F'⟩ w'∧CP ⟨β,H,F⟩ w ⟨β',H',F'⟩ w'∧Rep ⟨β',H',F'⟩ w' x v) km k2
   obtain ⟨y,v,r1,r2,r3⟩:=Bp8 (fn:=fn) (a:=a') e2 ⟨fun s=>Rep.mono e3 (k3.env.1 s),e2.glob⟩ hr h
   exact e1 ⟨v,r1,v,y,β',H',F',rfl,r3,e2,e4 _ _ (Nat.le_refl _) k4,r2⟩
  cases x with
  | nor=>exact fin k1
  | ret=>exact fin k1
  | exit i=>exact k1.elim
  | pan u=>exact k1.elim
def Bka (vr:List VR) (R:TV→List Ob→Prop) (RP:Value→List Ob→Prop):VEx→Env→List Ob→Prop
 | .nor,e,H=>res vr e H fun x=>R x H
 | .ret,e,H=>res vr e H fun x=>R x H
 | .exit _,_,_=>False
 | .pan u,_,H=>RP u H
structure Ags (F:Nat→Prop) (w:World) (F':Nat→Prop) (w':World):Prop where
 os:w'.os=w.os
 tape:w'.tape=w.tape
 output:w'.output=w.output
 size:w.heap.size≤w'.heap.size
 same:∀ b,b<w.heap.size→w'.heap[b]?=w.heap[b]?
 keepF:∀ b,F b→F' b
 oldF:∀ b,b<w.heap.size→F' b→F b
 ltF:∀ b,F' b→b<w'.heap.size
def CE (P:Program) (f:FuncId) (args:List TV) (R:TV→Prop):Prop :=
 ∀ (β:Nat→Nat→Option (Nat×Nat)) (F:Nat→Prop) (w:World) (vs:List Value),((∀ b,F b→b<w.heap.size)∧NL F w)→Ei ⟨β,[],F⟩ w args vs →
  Calls P f vs.toArray w fun e w'=>∃ v x F',e = .returned v∧R x∧Rep ⟨β,[],F'⟩ w' x v∧Ags F w F' w'
theorem CE.mono {f:FuncId} {args:List TV} {R R':TV→Prop} (h:CE P f args R) (hr:∀ x,R x→R' x):CE P f args R' :=
 fun β F w vs hF hv=>(h β F w vs hF hv).mono fun _ _ ⟨v,x,F',h1,h2,h3⟩=>⟨v,x,F',h1,hr _ h2,h3⟩
theorem BD.toPure {f:FuncId} {args:List TV} {R:TV→Prop} (h:BD P f args [] fun x H'=>match frz H' x with | some y=>R y | none=>False):CE P f args R:=by
 intro β F w vs hF hv
 have hs:Sim ⟨β,[],F⟩ w:=⟨fun id o ho=>by simp at ho,fun i j x y b o o' hx=>by simp at hx,fun b hb=>by obtain ⟨i,o,off,h1,_⟩:=hb; simp at h1,hF.1,hF.2⟩
 refine (h β F w vs hs hv).mono ?_
 rintro _ w' ⟨v,x,β',H',F',rfl,hR,hs',hl,hx⟩
 split at hR
 ·rename_i y hy
  have hno:∀ b,¬ Ctx.own ⟨β,[],F⟩ b:=fun b hb=>by obtain ⟨i,o,off,h1,_⟩:=hb; simp at h1
  have hr:=BrZ hs' hy hx
  refine ⟨v,y,fun b=>F' b∨Ctx.own ⟨β',H',F'⟩ b,rfl,hR,Rep.mono (TK.toBare [] β) hr,⟨hl.os,hl.tape,hl.output,hl.size,fun b hb=>hl.same b hb (hno b),fun b hb => .inl (hl.keepF b hb),fun b hb hF' => ?_,fun b hF'=>hF'.elim (hs'.lt b) hs'.own_lt⟩⟩
  rcases hF' with hF' | hF'
  ·exact (hl.oldF b hb hF').resolve_right (hno b)
  ·exact absurd (hl.oldOwn b hb hF') (hno b)
 ·exact hR.elim
theorem Ags.later {β:Nat→Nat→Option (Nat×Nat)} {H:List Ob} {F F':Nat→Prop} {w w':World} (h:Ags F w F' w'):CP ⟨β,H,F⟩ w ⟨β,H,F'⟩ w' :=
 ⟨h.os,h.tape,h.output,h.size,fun id v ⟨o,h1,h2⟩=>⟨⟨o,h1,h2⟩,rfl⟩,fun b hb=>FX (h.same b hb),fun b hb _=>h.same b hb,h.keepF,fun b hb hF => .inl (h.oldF b hb hF),fun b hb ⟨i,o,off,h1,h2,h3⟩=>⟨i,o,off,h1,h2,h3⟩⟩
theorem Ags.sim {β:Nat→Nat→Option (Nat×Nat)} {H:List Ob} {F F':Nat→Prop} {w w':World} (hs:Sim ⟨β,H,F⟩ w) (h:Ags F w F' w'):Sim ⟨β,H,F'⟩ w':=by
 have hm:TK ⟨β,H,F⟩ w ⟨β,H,F'⟩ w':=⟨fun b hb=>⟨h.keepF b hb,h.same b (hs.lt b hb)⟩,fun id v ⟨o,h1,h2⟩=>⟨⟨o,h1,h2⟩,rfl⟩,fun b hb=>FX (h.same b hb)⟩
 refine ⟨fun id o ho=>AAI.mono hm ⟨o,ho,Nat.le_refl _⟩ (fun hl b off hb=>h.same b (hs.own_lt ⟨id,o,off,ho,hl,hb⟩)) (hs.ob id o ho),hs.inj,fun b hb hF => ?_,h.ltF,hs.glob.keep hm.stay⟩
 obtain ⟨i,o,off,h1,h2,h3⟩:=hb
 have ho:Ctx.own ⟨β,H,F⟩ b:=⟨i,o,off,h1,h2,h3⟩
 exact hs.apart b ho (h.oldF b (hs.own_lt ho) hF)
theorem CE.calls {f:FuncId} {args:List TV} {R:TV→Prop} {H:List Ob} {K:TV→List Ob→Prop} (h:CE P f args R) (hp:Jp args=true) (hk:∀ x,R x→K x H):BD P f args H K:=by
 intro β F w vs hs hv
 refine (h β F w vs ⟨hs.lt,hs.glob⟩ (Ei.pure hp hv)).mono ?_
 rintro _ w' ⟨v,x,F',rfl,hR,hx,hst⟩
 exact ⟨v,x,β,H,F',rfl,hk x hR,hst.sim hs,hst.later,Rep.mono (TK.toBare H β) hx⟩
theorem CE.lends {f:FuncId} {args args':List TV} {R:TV→Prop} {H:List Ob} {K:TV→List Ob→Prop} (h:CE P f args' R) (hp:Bv3 H args=some args') (hk:∀ x,R x→AAY x=true∧K x H):BD P f args H K:=by
 intro β F w vs hs hv
 refine (h β (fun b=>F b∨Ctx.own ⟨β,H,F⟩ b) w vs ⟨fun b hb=>hb.elim (hs.lt b) hs.own_lt,hs.glob.keep fun b hb=>⟨.inl hb,rfl⟩⟩ (ADz hs hp hv)).mono ?_
 rintro _ w' ⟨v,x,F',rfl,hR,hx,hst⟩
 obtain ⟨hsc,hK⟩:=hk x hR
 have hst':Ags F w F w':=⟨hst.os,hst.tape,hst.output,hst.size,hst.same,fun _ h=>h,fun _ _ h=>h,fun b hb=>Nat.lt_of_lt_of_le (hs.lt b hb) hst.size⟩
 exact ⟨v,x,β,H,F,rfl,hK,hst'.sim hs,hst'.later,BoY hsc hx⟩
theorem TK.ofF {β β':Nat→Nat→Option (Nat×Nat)} {H:List Ob} {F F':Nat→Prop} {w:World} (h:∀ b,F b→F' b):TK ⟨β,[],F⟩ w ⟨β',H,F'⟩ w :=
 ⟨fun b hb=>⟨h b hb,rfl⟩,fun id v h=>by obtain ⟨o,h,_⟩:=h; simp at h,fun _ _=>rfl⟩
mutual
def frs (H:List Ob):TV→Option TV
 | .val v=>some (.val v)
 | .any=>some .any
 | .os k id ver p off n cp=>match H[id]? with
  | some (.obj v x)=>if v=ver then (match Ll p k off n x with
   | some cs=>if NH cs then some (.sl k cs) else none
   | none=>none) else none
  | _=>none
 | .agg cs=>(AA0 H cs).map .agg
 | .arr n k cs=>if NH cs then some (.arr n k cs) else none
 | .tup cs=>(AA0 H cs).map .tup
 | .ifc t x=>(frs H x).map (.ifc t)
 | _=>none
def AA0 (H:List Ob):List TV→Option (List TV)
 | []=>some []
 | x::xs=>match frs H x,AA0 H xs with
  | some x,some xs=>some (x::xs)
  | _,_=>none
end
def Ctx.mine (c:Ctx):Ctx:=⟨c.β,[],c.own⟩
theorem AyC {p:List (Nat×Nat)} {k off:Nat} {x:TV} {cs:List TV} (h:Ll p k off 0 x=some cs):cs=[]:=by
 unfold Ll at h
 split at h
 ·split at h
  ·cases h; simp
  ·cases h
 ·cases h
mutual
theorem AyS {c:Ctx} {w:World} (hs:Sim c w):∀ {x x':TV} {us:List Value},frs c.H x=some x'→Bc c w x us→Bc c.mine w x' us
 | .val y,x',us,hf,hr=>by simp only [frs,Option.some.injEq] at hf; subst hf; rw [Bc] at hr ⊢; exact hr
 | .any,x',us,hf,hr=>by simp only [frs,Option.some.injEq] at hf; subst hf; rw [Bc] at hr ⊢; exact hr
 | .mp _ _,x',us,hf,hr=>by simp [frs] at hf
 | .yl _ _,x',us,hf,hr=>by simp [frs] at hf
 | .sl k cs,x',us,hf,hr=>by simp [frs] at hf
 | .fp x,x',us,hf,hr=>by simp [frs] at hf
 | .op id ver p,x',us,hf,hr=>by simp [frs] at hf
 | .fn f a b,x',us,hf,hr=>by simp [frs] at hf
 | .os k id ver p off n cp,x',us,hf,hr=>by
  rw [Bc] at hr
  obtain ⟨hr1,hr2⟩:=hr
  rw [frs] at hf
  split at hf
  ·rename_i ver' x hid
   split at hf
   ·rename_i e; subst e
    split at hf
    ·rename_i cs hcs
     split at hf
     ·rename_i hsc
      cases hf
      rcases hr2 with ⟨rfl,a0,hr2,_⟩ | ⟨b0,o0,cap,t0,m0,hr2,hr3,hr4,hr5,hr6,hr7⟩
      ·have:=AyC hcs
       subst this
       rw [Bc]
       exact ⟨by simp,.inl ⟨rfl,a0,0,hr2,by omega⟩⟩
      rcases hs.ob id _ hid with ⟨h0,_⟩ | ⟨b,off',pre,vs,post,t,fr,h0,h1,h2,h3,h4⟩
      ·rw [h0] at hr2; cases hr2
      rw [h0] at hr2
      obtain ⟨rfl,rfl⟩:b=b0∧off'=o0:=by simpa using hr2
      obtain ⟨a,m,q,rfl,k1,k2,k3,k4⟩:=AaI h4 hcs
      rw [Bc]
      refine ⟨k3,.inr ⟨b,off'+MM p+off*k,cap,m,by rw [k4]; exact hr3,by omega,hr5,⟨id,_,off',hid,rfl,h0⟩,YG hsc k2,?_⟩⟩
      have e:off'+MM p+off*k=pre.length+a.length:=by rw [h3,k1]; omega
      rw [e]; exact UW h1
     ·cases hf
    ·cases hf
   ·cases hf
  ·cases hf
 | .agg cs,x',us,hf,hr=>by
  simp only [frs,Option.map_eq_some_iff] at hf
  obtain ⟨ds,hds,rfl⟩:=hf
  rw [Bc] at hr ⊢
  exact Azx hs hds hr
 | .arr n k cs,x',us,hf,hr=>by
  rw [frs] at hf
  split at hf
  ·rename_i hsc; cases hf; rw [Bc] at hr ⊢; exact ⟨hr.1,hr.2.1,YG hsc hr.2.2⟩
  ·cases hf
 | .tup cs,x',us,hf,hr=>by rw [Bc] at hr; exact hr.elim
 | .ifc t x,x',us,hf,hr=>by
  simp only [frs,Option.map_eq_some_iff] at hf
  obtain ⟨y,hy,rfl⟩:=hf
  rw [Bc] at hr ⊢
  obtain ⟨u,h1,vs,h2,h3⟩:=hr
  exact ⟨u,h1,vs,AyS hs hy h2,by rw [h3]; exact AB9 hy vs⟩
theorem Azx {c:Ctx} {w:World} (hs:Sim c w):∀ {xs xs':List TV} {us:List Value},AA0 c.H xs=some xs'→Be c w xs us→Be c.mine w xs' us
 | [],xs',us,hf,hr=>by simp only [AA0,Option.some.injEq] at hf; subst hf; rw [Be] at hr ⊢; exact hr
 | x::xs,xs',us,hf,hr=>by
  rw [AA0] at hf
  split at hf
  ·rename_i y ys hy hys
   cases hf
   rw [Be] at hr ⊢
   obtain ⟨u,us,h1,h2,h3⟩:=hr
   exact ⟨u,us,h1,AyS hs hy h2,Azx hs hys h3⟩
  ·cases hf
theorem AB9 {H:List Ob}:∀ {x x':TV} (hf:frs H x=some x') (us:List Value),mkV x us=mkV x' us
 | .val y,x',hf,us=>by simp only [frs,Option.some.injEq] at hf; subst hf; rfl
 | .any,x',hf,us=>by simp only [frs,Option.some.injEq] at hf; subst hf; rfl
 | .mp _ _,x',hf,us=>by simp [frs] at hf
 | .yl _ _,x',hf,us=>by simp [frs] at hf
 | .sl k cs,x',hf,us=>by simp [frs] at hf
 | .fp x,x',hf,us=>by simp [frs] at hf
 | .op id ver p,x',hf,us=>by simp [frs] at hf
 | .fn f a b,x',hf,us=>by simp [frs] at hf
 | .os k id ver p off n cp,x',hf,us=>by
  rw [frs] at hf
  split at hf
  ·split at hf
   ·split at hf
    ·split at hf
     ·cases hf; rfl
     ·cases hf
    ·cases hf
   ·cases hf
  ·cases hf
 | .agg cs,x',hf,us=>by
  simp only [frs,Option.map_eq_some_iff] at hf
  obtain ⟨ds,hds,rfl⟩:=hf; rfl
 | .arr n k cs,x',hf,us=>by
  rw [frs] at hf
  split at hf
  ·cases hf; rfl
  ·cases hf
 | .tup cs,x',hf,us=>by
  simp only [frs,Option.map_eq_some_iff] at hf
  obtain ⟨ds,hds,rfl⟩:=hf; rfl
 | .ifc t x,x',hf,us=>by
  simp only [frs,Option.map_eq_some_iff] at hf
  obtain ⟨y,hy,rfl⟩:=hf; rfl
end
theorem AC6 {c:Ctx} {w:World} (hs:Sim c w):∀ {xs xs':List TV} {vs:List Value},AA0 c.H xs=some xs'→Ei c w xs vs→Ei c.mine w xs' vs
 | [],xs',vs,hf,hr=>by simp only [AA0,Option.some.injEq] at hf; subst hf; rw [Ei] at hr ⊢; exact hr
 | x::xs,xs',vs,hf,hr=>by
  rw [AA0] at hf
  split at hf
  ·rename_i y ys hy hys
   cases hf
   rw [Ei] at hr ⊢
   obtain ⟨u,us,h1,h2,h3⟩:=hr
   refine ⟨u,us,h1,?_,AC6 hs hys h3⟩
   rcases h2 with rfl | rfl | ⟨aS,h2,h4⟩
   ·simp only [frs,Option.some.injEq] at hy; subst hy; exact .inl rfl
   ·simp only [frs,Option.some.injEq] at hy; subst hy; exact .inr (.inl rfl)
   ·exact .inr (.inr ⟨aS,AyS hs hy h2,by rw [h4]; exact AB9 hy aS⟩)
  ·cases hf
theorem Boy {c:Ctx} {w:World} (hs:Sim c w) {x x':TV} {v:Value} (hf:frs c.H x=some x') (hr:Rep c w x v):Rep c.mine w x' v:=by
 rcases hr with (h | h | ⟨us,h,h'⟩) | ⟨xs,vs,rfl,h2,h3⟩
 ·subst h; simp only [frs,Option.some.injEq] at hf; subst hf; exact Rep.any
 ·subst h; simp only [frs,Option.some.injEq] at hf; subst hf; exact Rep.of_val
 ·exact .inl (.inr (.inr ⟨us,AyS hs hf h,by rw [h']; exact AB9 hf us⟩))
 ·simp only [frs,Option.map_eq_some_iff] at hf
  obtain ⟨ds,hds,rfl⟩:=hf
  exact .inr ⟨ds,vs,rfl,h2,AC6 hs hds h3⟩
def Sr (P:Program) (f:FuncId) (args:List TV) (R:TV→Prop):Prop :=
 ∀ (β:Nat→Nat→Option (Nat×Nat)) (F:Nat→Prop) (w:World) (vs:List Value),((∀ b,F b→b<w.heap.size)∧NL F w)→Ei ⟨β,[],F⟩ w args vs →
  Calls P f vs.toArray w fun e w'=>∃ v x F',e = .returned v∧R x∧Rep ⟨β,[],fun b=>F' b∧w.heap.size≤b⟩ w' x v∧Ags F w F' w'
theorem Sr.mono {f:FuncId} {args:List TV} {R R':TV→Prop} (h:Sr P f args R) (hr:∀ x,R x→R' x):Sr P f args R' :=
 fun β F w vs hF hv=>(h β F w vs hF hv).mono fun _ _ ⟨v,x,F',h1,h2,h3⟩=>⟨v,x,F',h1,hr _ h2,h3⟩
theorem Sr.pure {f:FuncId} {args:List TV} {R:TV→Prop} (h:Sr P f args R):CE P f args R :=
 fun β F w vs hF hv=>(h β F w vs hF hv).mono fun _ _ ⟨v,x,F',h1,h2,h3,h4⟩=>⟨v,x,F',h1,h2,Rep.mono (TK.ofF (F:=fun b=>F' b∧w.heap.size≤b) (F':=F') fun b hb=>hb.1) h3,h4⟩
theorem BD.toFresh {f:FuncId} {args:List TV} {R:TV→Prop} (h:BD P f args [] fun x H'=>match frs H' x with | some y=>R y | none=>False):Sr P f args R:=by
 intro β F w vs hF hv
 have hs:Sim ⟨β,[],F⟩ w:=⟨fun id o ho=>by simp at ho,fun i j x y b o o' hx=>by simp at hx,fun b hb=>by obtain ⟨i,o,off,h1,_⟩:=hb; simp at h1,hF.1,hF.2⟩
 refine (h β F w vs hs hv).mono ?_
 rintro _ w' ⟨v,x,β',H',F',rfl,hR,hs',hl,hx⟩
 split at hR
 ·rename_i y hy
  have hno:∀ b,¬ Ctx.own ⟨β,[],F⟩ b:=fun b hb=>by obtain ⟨i,o,off,h1,_⟩:=hb; simp at h1
  have hr:=Boy hs' hy hx
  have hnew:∀ b,Ctx.own ⟨β',H',F'⟩ b→w.heap.size≤b:=fun b hb=>by
   rcases Nat.lt_or_ge b w.heap.size with h1 | h1
   ·exact absurd (hl.oldOwn b h1 hb) (hno b)
   ·exact h1
  refine ⟨v,y,fun b=>F b∨Ctx.own ⟨β',H',F'⟩ b,rfl,hR,?_,⟨hl.os,hl.tape,hl.output,hl.size,fun b hb=>hl.same b hb (hno b),fun b hb => .inl hb,fun b hb hF'=>hF'.elim id fun h => ?_,fun b hF'=>hF'.elim (fun h=>Nat.lt_of_lt_of_le (hF.1 b h) hl.size) hs'.own_lt⟩⟩
  ·exact Rep.mono (TK.ofF (F:=Ctx.own ⟨β',H',F'⟩) (F':=fun b=>(F b∨Ctx.own ⟨β',H',F'⟩ b)∧w.heap.size≤b) fun b hb=>⟨.inr hb,hnew b hb⟩) hr
  ·have:=hnew b h; omega
 ·exact hR.elim
theorem Sr.lends {f:FuncId} {args args':List TV} {R:TV→Prop} {H:List Ob} {K:TV→List Ob→Prop} (h:Sr P f args' R) (hp:Bv3 H args=some args') (hk:∀ x,R x→K x H):BD P f args H K:=by
 intro β F w vs hs hv
 refine (h β (fun b=>F b∨Ctx.own ⟨β,H,F⟩ b) w vs ⟨fun b hb=>hb.elim (hs.lt b) hs.own_lt,hs.glob.keep fun b hb=>⟨.inl hb,rfl⟩⟩ (ADz hs hp hv)).mono ?_
 rintro _ w' ⟨v,x,F',rfl,hR,hx,hst⟩
 have hst':Ags F w (fun b=>F b∨(F' b∧w.heap.size≤b)) w':=⟨hst.os,hst.tape,hst.output,hst.size,hst.same,fun _ h => .inl h,fun b hb h=>h.elim id fun h=>by omega,fun b hb=>hb.elim (fun h=>Nat.lt_of_lt_of_le (hs.lt b h) hst.size) fun h=>hst.ltF b h.1⟩
 refine ⟨v,x,β,H,_,rfl,hk x hR,hst'.sim hs,hst'.later,Rep.mono (TK.ofF (F:=fun b=>F' b∧w.heap.size≤b) (F':=fun b=>F b∨(F' b∧w.heap.size≤b)) fun b hb => .inr hb) hx⟩
end
end
section
open Go.RowKit
variable [Cc]
set_option autoImplicit false
theorem Ap {α:Sort _} {a b:α} (h:a=b):a=b:=h
abbrev i64 (n:Int):TV := .val (.int .i64 n)
abbrev tb (b:Bool):TV := .val (.bool b)
abbrev ts (l:List UInt8):TV := .val (.string (str l))
abbrev slB (l:List UInt8):TV := .sl 1 (l.map by8)
abbrev slS (l:List (List UInt8)):TV := .sl 1 (l.map ts)
section
variable {P:Program} {e:Env} {H:List Ob}
theorem ByP {c:Opd} {a:Opd} {b:Opd} {K:TV→Prop}:pop (.pick c a b) e H K=(match c.ev e with
  | .val (.bool t)=>K (if t then a.ev e else b.ev e)
  | _=>False):=Ap rfl
theorem Bzo {x:Opd} {K:TV→Prop}:pop (.b2s x) e H K=(match F6 H 1 (x.ev e) with
  | some cs=>(∀ y∈cs,ACl y)∧K (.val (.string (str (cs.map ApP))))
  | none=>False):=Ap rfl
theorem By1 {ag:Bool} {sz:Nat} {x:Opd} {K:TV→Prop}:pop (.load ag sz x) e H K=(match x.ev e with
  | .fp y=>Aw3 ag sz y∧K y
  | .op id ver p=>(match H[id]? with
   | some (.obj v x)=>v=ver∧(match Aaj p x with | some y=>Aw3 ag sz y∧K y | none=>False)
   | _=>False)
  | _=>False):=Ap rfl
theorem BwF {n:Nat} {k:Nat} {x:Opd} {i:Opd} {K:TV→Prop}:pop (.idxAA n k x i) e H K=(match x.ev e,i.ev e with
  | .fp (.arr n' k' cs),.val (.int _ j)=>k'=k∧n'=n∧0≤j∧(match cs[j.toNat]? with | some y=>K (.fp y) | none=>False)
  | .op id ver p,.val (.int _ j)=>0≤j∧j<n∧K (.op id ver (p++[(j.toNat,j.toNat*k)]))
  | _,_=>False):=Ap rfl
theorem ByL {x:Opd} {K:TV→Prop}:pop (.lenV x) e H K=(match x.ev e with
  | .val (.slice _ n _)=>K (.val (.int .i64 n))
  | .sl _ cs=>K (.val (.int .i64 cs.length))
  | .os _ _ _ _ _ n _=>K (.val (.int .i64 n))
  | _=>False):=Ap rfl
theorem BwZ {k:Nat} {x:Opd} {lo:Option Opd} {hi:Option Opd} {K:TV→Prop}:pop (.slV k x lo hi) e H K=(match x.ev e with
  | .sl k' cs=>k'=k∧bnd e lo hi cs.length cs.length fun l h=>K (.sl k ((cs.drop l).take (h - l)))
  | .os k' id ver p off n cp=>k'=k∧bnd e lo hi n cp fun l h=>K (.os k id ver p (off+l) (h - l) (cp - l))
  | .val (.slice ad 0 0)=>bnd e lo hi 0 0 fun l h=>K (.val (.slice ad 0 0))
  | _=>False):=Ap rfl
theorem BxL {n:Nat} {k:Nat} {x:Opd} {lo:Option Opd} {hi:Option Opd} {K:TV→Prop}:pop (.slA n k x lo hi) e H K=(match x.ev e with
  | .fp (.arr n' k' cs)=>k'=k∧n'=n∧n≤9223372036854775807∧bnd e lo hi n n fun l h=>K (.sl k ((cs.drop l).take (h - l)))
  | .op id ver p=>(match H[id]? with
   | some (.obj v x)=>v=ver∧n≤9223372036854775807∧(match Aaj p x with | some (.arr n' k' cs)=>k'=k∧n'=n∧bnd e lo hi n n fun l h=>K (.os k id ver p l (h - l) (n - l)) | _=>False)
   | _=>False)
  | _=>False):=Ap rfl
theorem Byl {f:Fn} {first:List Opd} {caps:List Opd} {K:TV→Prop}:pop (.mkf f first caps) e H K=((∀ x∈first++caps,Ie (x.ev e)=false)∧K (.fn f (first.map (·.ev e)) (caps.map (·.ev e)))):=Ap rfl
theorem ByG {x:Opd} {K:TV→Prop}:pop (.nilc x) e H K=(match x.ev e with
  | .op id ver p=>K (.op id ver p)
  | .fp y=>K (.fp y)
  | .fn (.func f) a b=>K (.fn (.func f) a b)
  | .ifc t y=>K (.ifc t y)
  | .val (.func (.func f) a b)=>K (.val (.func (.func f) a b))
  | _=>False):=Ap rfl
theorem BnE {k:Nat} {n:Nat} {z:TV} {ps:List (Nat×Opd)} {K:TV→List Ob→Prop}:sop P (.bslice k n z ps) e H K=((Ls e (List.replicate n k) ps∧EM e ps∧n≤1000)∧K (.os k H.length 0 [] 0 n n) (H++[.obj 0 (.arr n k (Nw e (List.replicate n z) ps))])):=Ap rfl
theorem Bwn {sz:Nat} {x:Opd} {v:Opd} {K:TV→List Ob→Prop}:sop P (.store sz x v) e H K=((lays (v.ev e)=true∧CG (v.ev e)=sz)∧(match x.ev e with
  | .op id ver p=>(match H[id]? with
   | some (.obj vr y)=>vr=ver∧(match setP p y (v.ev e) with | some y'=>K .any (H.set id (.obj ver y')) | none=>False)
   | _=>False)
  | _=>False)):=Ap rfl
theorem BsQ {f:FuncId} {args:List Opd} {K:TV→List Ob→Prop}:sop P (.call f args) e H K=((∀ x∈args,Ie (x.ev e)=false)∧BD P f (args.map (·.ev e)) H K):=Ap rfl
theorem Bp7 {x:Opd} {args:List Opd} {K:TV→List Ob→Prop}:sop P (.callv x args) e H K=((∀ x∈args,Ie (x.ev e)=false)∧(match x.ev e with
  | .fn (.func f) first caps=>Auh P f=true∧BD P f (first++args.map (·.ev e)++caps) H K
  | .val (.func (.func f) xs ys)=>(xs.isEmpty && ys.isEmpty)=true∧Auh P f=true∧BD P f (args.map (·.ev e)) H K
  | .yl id ver=>AvT P id ver (args.map (·.ev e)) H K
  | _=>False)):=Ap rfl
theorem Bt4  {Q:VEx→Env→List Ob→Prop}:vwp P (.skip ) Q e H=(Q .nor e H):=Ap rfl
theorem Bzi {a:AP} {b:AP} {Q:VEx→Env→List Ob→Prop}:vwp P (.seq a b) Q e H=(vwp P a (fun x e H=>match x with | .nor=>vwp P b Q e H | .exit i=>Q (.exit i) e H | .ret=>Q .ret e H | .pan u=>Q (.pan u) e H) e H):=Ap rfl
theorem Btj {lv:List Nat} {c:AP} {Q:VEx→Env→List Ob→Prop} {H0:List Ob}:vwp P (.loop lv c) Q e H0=(∃ (I:Nat→Env→List Ob→Prop) (n:Nat),I n (forget lv e) H0 ∧
   ∀ n e H,I n e H→vwp P c (fun x e H=>match x with | .nor=>∃ m g,m<n∧(H0.length≤g∧(H.length≤g∨(Att g (forget lv e)=true∧AqO g (H.take g)=true)))∧I m (forget lv e) (H.take g) | .exit i=>Q (.exit i) e H | .ret=>Q .ret e H | .pan u=>Q (.pan u) e H) e H):=Ap rfl
theorem BuY {id:Nat} {Q:VEx→Env→List Ob→Prop}:vwp P (.exit id) Q e H=(Q (.exit id) e H):=Ap rfl
theorem BwK  {Q:VEx→Env→List Ob→Prop}:vwp P (.ret ) Q e H=(Q .ret e H):=Ap rfl
theorem Bsg {c:AP} {Q:VEx→Env→List Ob→Prop}:vwp P (.scope c) Q e H=(vwp P c Q e H):=Ap rfl
theorem Bzk {s k:Nat} {c:AP} {Q:VEx→Env→List Ob→Prop}:vwp P (.own s k c) Q e H=(match get e s with
  | .val (.slice none 0 0)=>vwp P c Q ((s,.os k H.length 0 [] 0 0 0)::e) (H++[.obj 0 (.arr 0 k [])])
  | _=>vwp P c Q e H):=Ap rfl
theorem BsS {s k:Nat} {p:List (Nat×Nat)} {c:AP} {Q:VEx→Env→List Ob→Prop}:vwp P (.ownB s p k c) Q e H=(match get e s with
  | .op id ver p0=>(match H[id]? with
   | some (.obj v x)=>v=ver∧(match Aaj (p0++p) x with
    | some (.val (.slice none 0 0))=>(match setP (p0++p) x (.os k H.length 0 [] 0 0 0) with
     | some x'=>vwp P c Q e (H.set id (.obj ver x')++[.obj 0 (.arr 0 k [])])
     | none=>False)
    | _=>vwp P c Q e H)
   | _=>False)
  | _=>False):=Ap rfl
theorem BuT {s:Nat} {t:TypeId} {p:List (Nat×Nat)} {c:AP} {Q:VEx→Env→List Ob→Prop}:vwp P (.ownT s p t c) Q e H=(match get e s with
  | .op id ver p0=>(match H[id]? with
   | some (.obj v x)=>v=ver∧(match Aaj (p0++p) x with
    | some (.val (.slice none 0 0))=>(match setP (p0++p) x (.os 1 H.length 0 [] 0 0 0) with
     | some x'=>vwp P c Q e (H.set id (.obj ver x')++[.bld 0 t []])
     | none=>False)
    | _=>vwp P c Q e H)
   | _=>False)
  | _=>False):=Ap rfl
theorem Bnx {K:Env→List Ob→Prop}:Aup P [] K e H=K e H:=Ap rfl
theorem BtD {d:Nat} {o:POp} {r:List VO} {K:Env→List Ob→Prop}:Aup P (⟨some d,.p o,none⟩::r) K e H=pop o e H fun x=>Aup P r K ((d,x)::e) H:=Ap rfl
theorem Bud {d:Nat} {o:SOp} {r:List VO} {K:Env→List Ob→Prop}:Aup P (⟨some d,.s o,none⟩::r) K e H=sop P o e H fun x H=>Aup P r K ((d,x)::e) H:=Ap rfl
theorem Brr {o:SOp} {r:List VO} {K:Env→List Ob→Prop}:Aup P (⟨none,.s o,none⟩::r) K e H=sop P o e H fun x H=>Aup P r K e H:=Ap rfl
theorem BsZ {d s:Nat} {o:VOp} {b:Bool} {r:List VO} {K:Env→List Ob→Prop}:Aup P (⟨some d,o,some (s,b)⟩::r) K e H=AwT e s fun e q=>match q with
 | some t=>if t=b then vop P o e H (fun x H=>Aup P r K ((d,x)::e) H) else Aup P r K ((d,.val undef)::e) H
 | none=>Aup P r K ((d,.val undef)::e) H:=Ap rfl
theorem Bw3 {o:POp} {K:TV→List Ob→Prop}:vop P (.p o) e H K=pop o e H fun x=>K x H:=Ap rfl
theorem Byg {o:SOp} {K:TV→List Ob→Prop}:vop P (.s o) e H K=sop P o e H K:=Ap rfl
theorem Bup {K:Env→Prop}:vq P [] K e H=K e:=Ap rfl
theorem Bzf {d:Nat} {o:POp} {r:List VO} {K:Env→Prop}:vq P (⟨some d,.p o,none⟩::r) K e H=pop o e H fun x=>vq P r K ((d,x)::e) H:=Ap rfl
theorem Bzl {d:Nat} {f:FuncId} {args:List Opd} {r:List VO} {K:Env→Prop}:vq P (⟨some d,.s (.call f args),none⟩::r) K e H=((∀ x∈args,Ie (x.ev e)=false)∧∃ x,BD P f (args.map (·.ev e)) H (fun y H'=>y=x∧H'=H)∧vq P r K ((d,x)::e) H):=Ap rfl
theorem Brg {o:POp} {k:TV→Prop}:quiet P (.p o) e H k=pop o e H k:=Ap rfl
theorem Bqw {f:FuncId} {args:List Opd} {k:TV→Prop}:quiet P (.s (.call f args)) e H k=((∀ x∈args,Ie (x.ev e)=false)∧∃ x,BD P f (args.map (·.ev e)) H (fun y H'=>y=x∧H'=H)∧k x):=Ap rfl
variable {t:TypeId} {a b:Int} {k:IntKind}
theorem Gl {n:Int} (h1 : -9223372036854775808≤n) (h2:n≤9223372036854775807):IntKind.i64.wrap n=n:=by rw [IntKind.wrap_i64]; omega
theorem Byi (h1 : -9223372036854775808≤a+b) (h2:a+b≤9223372036854775807):Jh t .add (.int .i64 a) (.int .i64 b)=some (.int .i64 (a+b)):=by
 rw [show Jh t .add (.int .i64 a) (.int .i64 b)=some (.int .i64 (IntKind.i64.wrap (a+b))) from rfl,Gl h1 h2]
theorem Byf (h1 : -9223372036854775808≤a - b) (h2:a - b≤9223372036854775807):Jh t .sub (.int .i64 a) (.int .i64 b)=some (.int .i64 (a - b)):=by
 rw [show Jh t .sub (.int .i64 a) (.int .i64 b)=some (.int .i64 (IntKind.i64.wrap (a - b))) from rfl,Gl h1 h2]
theorem Bxk (h1 : -9223372036854775808≤a*b) (h2:a*b≤9223372036854775807):Jh t .mul (.int .i64 a) (.int .i64 b)=some (.int .i64 (a*b)):=by
 rw [show Jh t .mul (.int .i64 a) (.int .i64 b)=some (.int .i64 (IntKind.i64.wrap (a*b))) from rfl,Gl h1 h2]
theorem BxW:Jh t .eql (.int k a) (.int k b)=some (.bool (decide (a=b))):=by
 rw [show Jh t .eql (.int k a) (.int k b)=some (.bool (a == b)) from by simp [Jh,binOp,Op.intCmp]; rfl]; rfl
theorem BxG:Jh t .neq (.int k a) (.int k b)=some (.bool (!decide (a=b))):=by
 rw [show Jh t .neq (.int k a) (.int k b)=some (.bool (a != b)) from by simp [Jh,binOp,Op.intCmp]; rfl]; rfl
theorem Bxp:Jh t .lss (.int k a) (.int k b)=some (.bool (decide (a<b))):=by simp [Jh,binOp,Op.intCmp]; rfl
theorem Bwv:Jh t .leq (.int k a) (.int k b)=some (.bool (decide (a≤b))):=by simp [Jh,binOp,Op.intCmp]; rfl
theorem Bxb:Jh t .gtr (.int k a) (.int k b)=some (.bool (decide (b<a))):=by simp [Jh,binOp,Op.intCmp]; rfl
theorem Bw6:Jh t .geq (.int k a) (.int k b)=some (.bool (decide (b≤a))):=by simp [Jh,binOp,Op.intCmp]; rfl
theorem Bjr:Ld 0 (.val (.pointer none))=some true:=Ap rfl
theorem BkH {i v:Nat} {p:List (Nat×Nat)}:Ld 0 (.op i v p)=some false:=Ap rfl
theorem Bjw {x:TV}:Ld 0 (.fp x)=some false:=Ap rfl
theorem Bkr:Ld 1 (.val .nilIface)=some true:=Ap rfl
theorem AEF {t:TypeId} {x:TV}:Ld 1 (.ifc t x)=some false:=Ap rfl
theorem BiS:Ld 2 (.val (.map none))=some true:=Ap rfl
theorem Bkx {i v:Nat}:Ld 2 (.mp i v)=some false:=Ap rfl
theorem Bje {i v:Nat}:Ld 3 (.yl i v)=some false:=Ap rfl
theorem BlI:Ld 3 (.val .nilFunc)=some true:=Ap rfl
theorem BkG {f:Fn} {a b:List TV}:Ld 3 (.fn f a b)=some false:=Ap rfl
theorem BvT {n:Int} (h0:0≤n) (h1:n<18446744073709551616):(BitVec.ofInt 64 n).toNat=n.toNat:=by
 rw [BitVec.toNat_ofInt]
 have:n % ((2 ^ 64:Nat):Int)=n:=Int.emod_eq_of_lt h0 (by simpa using h1)
 rw [this]
theorem Bx4 (h1:0≤a) (h2:a≤9223372036854775807) (h3:0≤b) (h4:b≤9223372036854775807):Jh t .and (.int .i64 a) (.int .i64 b)=some (.int .i64 ((a.toNat &&& b.toNat:Nat):Int)):=by
 rw [show Jh t .and (.int .i64 a) (.int .i64 b)=some (.int .i64 (IntKind.i64.wrap ((BitVec.ofInt 64 a &&& BitVec.ofInt 64 b).toNat:Int))) from rfl,BitVec.toNat_and,BvT h1 (by omega),BvT h3 (by omega)]
 have:=Nat.and_le_left (n:=a.toNat) (m:=b.toNat)
 rw [Gl (by omega) (by omega)]
theorem BzC (h1:0≤a) (h2:a≤9223372036854775807) (h3:0≤b) (h4:b≤9223372036854775807):Jh t .or (.int .i64 a) (.int .i64 b)=some (.int .i64 ((a.toNat ||| b.toNat:Nat):Int)):=by
 rw [show Jh t .or (.int .i64 a) (.int .i64 b)=some (.int .i64 (IntKind.i64.wrap ((BitVec.ofInt 64 a ||| BitVec.ofInt 64 b).toNat:Int))) from rfl,BitVec.toNat_or,BvT h1 (by omega),BvT h3 (by omega)]
 have:=Nat.or_lt_two_pow (n:=63) (x:=a.toNat) (y:=b.toNat) (by omega) (by omega)
 rw [Gl (by omega) (by omega)]
theorem BwQ {k2:IntKind} (h1:0≤b) (h2:b≤63) (h3:0≤a*2 ^ b.toNat) (h4:a*2 ^ b.toNat≤9223372036854775807):Jh t .shl (.int .i64 a) (.int k2 b)=some (.int .i64 (a*2 ^ b.toNat)):=by
 have e:binOp .shl t (.int .i64 a) (.int k2 b)=pure (.int .i64 (a*2 ^ b.toNat)):=by
  show Op.shift .shl .i64 a k2 b=_
  unfold Op.shift
  rw [if_neg (by omega)]
  have hm:min b.toNat IntKind.i64.bits=b.toNat:=by
   have:IntKind.i64.bits=64:=rfl
   omega
  simp only [hm]
  rw [Gl (by omega) h4]
 unfold Jh; rw [e]; rfl
theorem Bx5 {k2:IntKind} (h1:0≤b) (h2:b≤63) (h3:0≤a):Jh t .shr (.int .i64 a) (.int k2 b)=some (.int .i64 (a / 2 ^ b.toNat)):=by
 have e:binOp .shr t (.int .i64 a) (.int k2 b)=pure (.int .i64 (a / 2 ^ b.toNat)):=by
  show Op.shift .shr .i64 a k2 b=_
  unfold Op.shift
  rw [if_neg (by omega)]
  have hm:min b.toNat IntKind.i64.bits=b.toNat:=by
   have:IntKind.i64.bits=64:=rfl
   omega
  simp only [hm]
  rw [Int.fdiv_eq_ediv_of_nonneg _ (by exact Int.le_of_lt (Int.pow_pos (by omega)))]
 unfold Jh; rw [e]; rfl
theorem Byo (h1:0≤a) (h2:b≠0):Jh t .rem (.int k a) (.int k b)=some (.int k (a % b)):=by
 have e:binOp .rem t (.int k a) (.int k b)=pure (.int k (a % b)):=by
  unfold binOp
  simp only [ne_eq,not_true_eq_false,if_false,Op.intDiv,h2,Int.tmod_eq_emod_of_nonneg h1]
 unfold Jh; rw [e]; rfl
theorem Byx (h1:0≤a) (h2:0<b) (h3:a≤9223372036854775807):Jh t .quo (.int .i64 a) (.int .i64 b)=some (.int .i64 (a / b)):=by
 have e:binOp .quo t (.int .i64 a) (.int .i64 b)=pure (.int .i64 (a / b)):=by
  unfold binOp
  simp only [ne_eq,not_true_eq_false,if_false,Op.intDiv,show ¬ b=0 from by omega,Int.tdiv_eq_ediv_of_nonneg h1]
  have h4:a / b≤a:=Int.ediv_le_self _ h1
  have h5:0≤a / b:=Int.ediv_nonneg h1 (by omega)
  rw [Gl (by omega) (by omega)]
 unfold Jh; rw [e]; rfl
theorem Bur {x y:UInt8}:Jh t .xor (.int .u8 (x.toNat:Int)) (.int .u8 (y.toNat:Int))=some (.int .u8 ((x ^^^ y).toNat:Int)):=by
 rw [show Jh t .xor (.int .u8 (x.toNat:Int)) (.int .u8 (y.toNat:Int))=some (.int .u8 (IntKind.u8.wrap ((BitVec.ofInt 8 (x.toNat:Int) ^^^ BitVec.ofInt 8 (y.toNat:Int)).toNat:Int))) from rfl]
 rw [BitVec.ofInt_natCast,BitVec.ofInt_natCast,UInt8.toNat_xor,BitVec.toNat_xor,BitVec.toNat_ofNat,BitVec.toNat_ofNat,Nat.mod_eq_of_lt x.toNat_lt,Nat.mod_eq_of_lt y.toNat_lt]
 have:=Nat.xor_lt_two_pow (n:=8) x.toNat_lt y.toNat_lt
 rw [IntKind.wrap_u8]; congr 2; omega
theorem AlR (l:List UInt8):(str l).toList=l:=by simp [str,ByteArray.toList_eq]
theorem ADl {l m:List UInt8}:(l == m)=decide (l=m):=by
 by_cases h:l=m<;>simp [h]
theorem Bys {l m:List UInt8}:Jh t .eql (.string (str l)) (.string (str m))=some (.bool (decide (l=m))):=by
 rw [show Jh t .eql (.string (str l)) (.string (str m))=some (.bool ((str l).toList == (str m).toList)) from rfl,AlR,AlR,ADl]
theorem BwC {l m:List UInt8}:Jh t .neq (.string (str l)) (.string (str m))=some (.bool (!decide (l=m))):=by
 rw [show Jh t .neq (.string (str l)) (.string (str m))=some (.bool (!((str l).toList == (str m).toList))) from rfl,AlR,AlR,ADl]
theorem ByC {b:Bool}:unV .not (.bool b)=some (.bool (!b)):=Ap rfl
theorem Bl6 {u:Value}:BnT (.int k a) u=true:=by cases u<;>rfl
theorem Bne {s:ByteArray} {u:Value}:BnT (.string s) u=true:=by cases u<;>rfl
theorem Bnl {v:Value}:Ar6 (TV.val v)=false:=Ap rfl
theorem BmH  : Ar6 (TV.any)=false:=Ap rfl
theorem Bsv {k:Nat} {cs:List TV}:Ar6 (TV.sl k cs)=false:=Ap rfl
theorem BrT {x:TV}:Ar6 (TV.fp x)=false:=Ap rfl
theorem Br6 {i:Nat} {v:Nat} {p:List (Nat×Nat)}:Ar6 (TV.op i v p)=false:=Ap rfl
theorem BrC {k:Nat} {i:Nat} {v:Nat} {p:List (Nat×Nat)} {o:Nat} {n:Nat} {cp:Nat}:Ar6 (TV.os k i v p o n cp)=false:=Ap rfl
theorem BmN {cs:List TV}:Ar6 (TV.agg cs)=true:=Ap rfl
theorem Boz {n:Nat} {k:Nat} {cs:List TV}:Ar6 (TV.arr n k cs)=true:=Ap rfl
theorem BmJ {vs:List TV}:Ar6 (TV.tup vs)=false:=Ap rfl
theorem Bpb {t:TypeId} {x:TV}:Ar6 (TV.ifc t x)=false:=Ap rfl
theorem Br9 {f:Fn} {a:List TV} {b:List TV}:Ar6 (TV.fn f a b)=false:=Ap rfl
theorem Bsa {i:Nat} {v:Nat}:Ar6 (TV.mp i v)=false:=Ap rfl
theorem Bsp {i:Nat} {v:Nat}:Ar6 (TV.yl i v)=false:=Ap rfl
theorem Bkh {v:Value}:Ie (TV.val v)=false:=Ap rfl
theorem BlF  : Ie (TV.any)=false:=Ap rfl
theorem Bna {k:Nat} {cs:List TV}:Ie (TV.sl k cs)=false:=Ap rfl
theorem BmG {x:TV}:Ie (TV.fp x)=false:=Ap rfl
theorem BnW {i:Nat} {v:Nat} {p:List (Nat×Nat)}:Ie (TV.op i v p)=false:=Ap rfl
theorem BlO {k:Nat} {i:Nat} {v:Nat} {p:List (Nat×Nat)} {o:Nat} {n:Nat} {cp:Nat}:Ie (TV.os k i v p o n cp)=false:=Ap rfl
theorem Bjx {cs:List TV}:Ie (TV.agg cs)=false:=Ap rfl
theorem Blv {n:Nat} {k:Nat} {cs:List TV}:Ie (TV.arr n k cs)=false:=Ap rfl
theorem BjZ {vs:List TV}:Ie (TV.tup vs)=true:=Ap rfl
theorem Bj0 {t:TypeId} {x:TV}:Ie (TV.ifc t x)=false:=Ap rfl
theorem BoT {f:Fn} {a:List TV} {b:List TV}:Ie (TV.fn f a b)=false:=Ap rfl
theorem BmF {i:Nat} {v:Nat}:Ie (TV.mp i v)=false:=Ap rfl
theorem BmS {i:Nat} {v:Nat}:Ie (TV.yl i v)=false:=Ap rfl
theorem Bnf  : lays (TV.any)=false:=Ap rfl
theorem Bqr {k:Nat} {cs:List TV}:lays (TV.sl k cs)=true:=Ap rfl
theorem BqR {x:TV}:lays (TV.fp x)=true:=Ap rfl
theorem BrV {i:Nat} {v:Nat} {p:List (Nat×Nat)}:lays (TV.op i v p)=true:=Ap rfl
theorem Br3 {k:Nat} {i:Nat} {v:Nat} {p:List (Nat×Nat)} {o:Nat} {n:Nat} {cp:Nat}:lays (TV.os k i v p o n cp)=true:=Ap rfl
theorem Bl9 {cs:List TV}:lays (TV.agg cs)=true:=Ap rfl
theorem Bms {n:Nat} {k:Nat} {cs:List TV}:lays (TV.arr n k cs)=true:=Ap rfl
theorem Bl5 {vs:List TV}:lays (TV.tup vs)=false:=Ap rfl
theorem BoS {t:TypeId} {x:TV}:lays (TV.ifc t x)=true:=Ap rfl
theorem Br5 {f:Fn} {a:List TV} {b:List TV}:lays (TV.fn f a b)=true:=Ap rfl
theorem Bqy {i:Nat} {v:Nat}:lays (TV.mp i v)=true:=Ap rfl
theorem Bq3 {i:Nat} {v:Nat}:lays (TV.yl i v)=true:=Ap rfl
theorem Bi1 {v:Value}:LX (TV.val v)=true:=Ap rfl
theorem BkB  : LX (TV.any)=true:=Ap rfl
theorem BmI {k:Nat} {cs:List TV}:LX (TV.sl k cs)=true:=Ap rfl
theorem Bpf {x:TV}:LX (TV.fp x)=true:=Ap rfl
theorem BmV {i:Nat} {v:Nat} {p:List (Nat×Nat)}:LX (TV.op i v p)=false:=Ap rfl
theorem Bl2 {k:Nat} {i:Nat} {v:Nat} {p:List (Nat×Nat)} {o:Nat} {n:Nat} {cp:Nat}:LX (TV.os k i v p o n cp)=false:=Ap rfl
theorem BiT {n:Nat} {k:Nat} {cs:List TV}:LX (TV.arr n k cs)=true:=Ap rfl
theorem BnU {i:Nat} {v:Nat}:LX (TV.mp i v)=false:=Ap rfl
theorem BmM {i:Nat} {v:Nat}:LX (TV.yl i v)=false:=Ap rfl
theorem Bj5 {v:Value}:CG (TV.val v)=1:=Ap rfl
theorem Bk5  : CG (TV.any)=1:=Ap rfl
theorem Bl3 {k:Nat} {cs:List TV}:CG (TV.sl k cs)=1:=Ap rfl
theorem BlT {x:TV}:CG (TV.fp x)=1:=Ap rfl
theorem Bn5 {i:Nat} {v:Nat} {p:List (Nat×Nat)}:CG (TV.op i v p)=1:=Ap rfl
theorem Bpa {k:Nat} {i:Nat} {v:Nat} {p:List (Nat×Nat)} {o:Nat} {n:Nat} {cp:Nat}:CG (TV.os k i v p o n cp)=1:=Ap rfl
theorem Bi0 {vs:List TV}:CG (TV.tup vs)=1:=Ap rfl
theorem Bkq {t:TypeId} {x:TV}:CG (TV.ifc t x)=1:=Ap rfl
theorem Bnn {f:Fn} {a:List TV} {b:List TV}:CG (TV.fn f a b)=1:=Ap rfl
theorem Bou {i:Nat} {v:Nat}:CG (TV.mp i v)=1:=Ap rfl
theorem BnS {i:Nat} {v:Nat}:CG (TV.yl i v)=1:=Ap rfl
theorem Bi9 {cs:List TV}:CG (.agg cs)=Gh cs:=by rw [CG]
theorem BkM {n k:Nat} {cs:List TV}:CG (.arr n k cs)=n*k:=by rw [CG]
theorem ADR:Gh []=0:=Ap rfl
theorem ACu {x:TV} {xs:List TV}:Gh (x::xs)=CG x+Gh xs:=by rw [Gh]
theorem BjQ {cs:List TV}:LX (.agg cs)=Jp cs:=by rw [LX]
theorem BkF {t:TypeId} {x:TV}:LX (.ifc t x)=LX x:=by rw [LX]
theorem BlL {cs:List TV}:LX (.tup cs)=Jp cs:=by rw [LX]
theorem Bkg:Jp []=true:=Ap rfl
theorem AEA {x:TV} {xs:List TV}:Jp (x::xs)=(LX x && Jp xs):=by rw [Jp]
theorem Bmb {k:IntKind} {n:Int}:lays (.val (.int k n))=true:=Ap rfl
theorem AE6 {b:Bool}:lays (.val (.bool b))=true:=Ap rfl
theorem AB4 {s:ByteArray}:lays (.val (.string s))=true:=Ap rfl
theorem Az2 {p:Option Addr}:lays (.val (.pointer p))=true:=Ap rfl
theorem ADY {p:Option Addr} {n c:Nat}:lays (.val (.slice p n c))=true:=Ap rfl
theorem Bov {r:Option Nat}:lays (.val (.map r))=true:=Ap rfl
theorem BjF {f:Fn} {a b:Array Value}:lays (.val (.func f a b))=true:=Ap rfl
theorem Azr:lays (.val .nilFunc)=true:=Ap rfl
theorem Ayo:lays (.val .nilIface)=true:=Ap rfl
theorem Bzu {e:Env} {n:Nat}:(Opd.t n).ev e=get e n:=Ap rfl
theorem Bzn {e:Env} {n:Nat}:(Opd.g n).ev e=(match P7 n with | some x => .fp x.tv | none => .val (.pointer (some ⟨n,0,none⟩))):=Ap rfl
theorem Bzq {e:Env} {v:Value}:(Opd.c v).ev e = .val v:=Ap rfl
theorem Bm8 {x:TV}:Aaj [] x=some x:=Ap rfl
theorem Bmd {i d:Nat} {p:List (Nat×Nat)} {cs:List TV}:Aaj ((i,d)::p) (.agg cs)=if Gh (cs.take i)=d then (cs[i]?).bind (Aaj p) else none:=by rw [Aaj]
theorem Boj {i d n k:Nat} {p:List (Nat×Nat)} {cs:List TV}:Aaj ((i,d)::p) (.arr n k cs)=if d=i*k then (cs[i]?).bind (Aaj p) else none:=by rw [Aaj]
theorem ACO {x y:TV}:setP [] x y=if CG y=CG x then some y else none:=by rw [setP]
theorem Bl4 {i d:Nat} {p:List (Nat×Nat)} {cs:List TV} {y:TV}:setP ((i,d)::p) (.agg cs) y=if Gh (cs.take i)=d then (cs[i]?).bind fun c=>(setP p c y).map fun c' => .agg (cs.set i c') else none:=by rw [setP]
theorem Bot {i d n k:Nat} {p:List (Nat×Nat)} {cs:List TV} {y:TV}:setP ((i,d)::p) (.arr n k cs) y=if d=i*k∧LX y=true then (cs[i]?).bind fun c=>(setP p c y).map fun c' => .arr n k (cs.set i c') else none:=by rw [setP]
theorem AER {e:Env}:forget [] e=[]:=Ap rfl
theorem ABX {e:Env} {s:Nat} {ks:List Nat}:forget (s::ks) e=(s,get e s)::forget ks e:=Ap rfl
theorem BjB {i:Nat}:Ayc i []=[]:=Ap rfl
theorem AES {i:Nat} {x:TV} {xs:List TV}:Ayc i (x::xs)=(i,x)::Ayc (i+1) xs:=Ap rfl
theorem Bmj {ag:Bool} {sz:Nat} {y:TV}:Aw3 ag sz y=(CG y=sz∧Ar6 y=ag):=Ap rfl
theorem AEO {H:List Ob} {k k2:Nat} {cs:List TV}:F6 H k (.sl k2 cs)=if k2=k then some cs else none:=Ap rfl
theorem ACn {H:List Ob} {k:Nat} {p:Option Addr} {n c:Nat}:F6 H k (.val (.slice p n c))=if n=0∧p.isNone∧c=0 then some [] else none:=Ap rfl
theorem AEl {H:List Ob} {k k2 i v o n cp:Nat} {p:List (Nat×Nat)}:F6 H k (.os k2 i v p o n cp)=if k2=k then (match H[i]? with | some (.obj vr x)=>if vr=v then Ll p k o n x else none | _=>none) else none:=Ap rfl
theorem ABA {k k2 o n N:Nat} {cs:List TV}:Ll [] k o n (.arr N k2 cs)=if k2=k∧o+n≤cs.length then some ((cs.drop o).take n) else none:=Ap rfl
theorem BkW {e:Env} {zs:List TV}:Nw e zs []=zs:=Ap rfl
theorem AEL {e:Env} {zs:List TV} {i:Nat} {x:Opd} {ps:List (Nat×Opd)}:Nw e zs ((i,x)::ps)=Nw e (zs.set i (x.ev e)) ps:=Ap rfl
theorem ABo {e:Env} {ks:List Nat}:Ls e ks []=True:=Ap rfl
theorem AAz {e:Env} {ks:List Nat} {i:Nat} {x:Opd} {ps:List (Nat×Opd)}:Ls e ks ((i,x)::ps)=((lays (x.ev e)=true∧ks[i]?=some (CG (x.ev e)))∧Ls e ks ps):=Ap rfl
theorem AyI {e:Env}:EM e []=True:=Ap rfl
theorem AwN {e:Env} {i:Nat} {x:Opd} {ps:List (Nat×Opd)}:EM e ((i,x)::ps)=(LX (x.ev e)=true∧EM e ps):=Ap rfl
theorem Bq5 {t:Nat} {e:Env} {H:List Ob} {K:TV→Prop}:res [.tmp t] e H K=K (get e t):=Ap rfl
theorem Bmy {a sz:Nat} {ag:Bool} {e:Env} {H:List Ob} {K:TV→Prop}:res [.cell a ag sz] e H K=pop (.load ag sz (.t a)) e H K:=Ap rfl
theorem Bk9 {e:Env} {H:List Ob} {K:TV→Prop}:res [] e H K=((∀ x∈([]:List TV),Ie x=false)∧K (.tup [])):=Ap rfl
theorem Bxt {r s:VR} {e:Env} {H:List Ob} {K:TV→Prop}:res [r,s] e H K=AA2 [r,s] e H fun xs=>match xs with | [x]=>K x | xs=>(∀ x∈xs,Ie x=false)∧K (.tup xs):=Ap rfl
theorem Bo1 {r s:VR} {l:List VR} {e:Env} {H:List Ob} {K:TV→Prop}:res (r::s::l) e H K=AA2 (r::s::l) e H fun xs=>match xs with | [x]=>K x | xs=>(∀ x∈xs,Ie x=false)∧K (.tup xs):=Ap rfl
theorem ACY {e:Env} {H:List Ob} {K:List TV→Prop}:AA2 [] e H K=K []:=Ap rfl
theorem Bmo {t:Nat} {r:List VR} {e:Env} {H:List Ob} {K:List TV→Prop}:AA2 (.tmp t::r) e H K=AA2 r e H fun xs=>K (get e t::xs):=Ap rfl
theorem AzS {a sz:Nat} {ag:Bool} {r:List VR} {e:Env} {H:List Ob} {K:List TV→Prop}:AA2 (.cell a ag sz::r) e H K=pop (.load ag sz (.t a)) e H fun x=>AA2 r e H fun xs=>K (x::xs):=Ap rfl
theorem AyX {vr:List VR} {R:TV→List Ob→Prop} {e:Env} {H:List Ob}:Awf vr R .ret e H=res vr e H fun x=>R x H:=Ap rfl
theorem AAw {vr:List VR} {R:TV→List Ob→Prop} {e:Env} {H:List Ob}:Awf vr R .nor e H=res vr e H fun x=>R x H:=Ap rfl
theorem Bob {H:List Ob} {g:TV→Option TV} {v:Value}:Ox H g (TV.val v)=some (.val v):=by rw [Ox]
theorem BmT {H:List Ob} {g:TV→Option TV}  : Ox H g (TV.any)=some (.any):=by rw [Ox]
theorem Brn {H:List Ob} {g:TV→Option TV} {k:Nat} {cs:List TV}:Ox H g (TV.sl k cs)=some (.sl k cs):=by rw [Ox]
theorem BqN {H:List Ob} {g:TV→Option TV} {x:TV}:Ox H g (TV.fp x)=some (.fp x):=by rw [Ox]
theorem Bmf {H:List Ob} {g:TV→Option TV} {n:Nat} {k:Nat} {cs:List TV}:Ox H g (TV.arr n k cs)=some (.arr n k cs):=by rw [Ox]
theorem Bqs {H:List Ob} {g:TV→Option TV} {k i v o n cp:Nat} {p:List (Nat×Nat)}:Ox H g (.os k i v p o n cp)=(match H[i]? with | some (.obj vr x)=>if vr=v then (Ll p k o n x).map (.sl k) else none | _=>none):=by rw [Ox]; rfl
theorem Bsb {H:List Ob} {g:TV→Option TV} {i v:Nat} {p:List (Nat×Nat)}:Ox H g (.op i v p)=(match H[i]? with | some (.obj vr x)=>if vr=v then (Aaj p x).bind fun y=>(g y).map .fp else none | _=>none):=by rw [Ox]; rfl
theorem Bog {H:List Ob} {g:TV→Option TV} {cs:List TV}:Ox H g (.agg cs)=(AgI H g cs).map .agg:=by rw [Ox]
theorem Bny {H:List Ob} {g:TV→Option TV} {cs:List TV}:Ox H g (.tup cs)=(AgI H g cs).map .tup:=by rw [Ox]
theorem Bn1 {H:List Ob} {g:TV→Option TV} {t:TypeId} {x:TV}:Ox H g (.ifc t x)=(Ox H g x).map (.ifc t):=by rw [Ox]
theorem Bkv {H:List Ob} {g:TV→Option TV}:AgI H g []=some []:=Ap rfl
theorem AEt {H:List Ob} {g:TV→Option TV} {x:TV} {xs:List TV}:AgI H g (x::xs)=(match Ox H g x,AgI H g xs with | some x,some xs=>some (x::xs) | _,_=>none):=by rw [AgI]; rfl
theorem BxX {H:List Ob} {x:TV}:frz H x=Ox H (ABT H 2) x:=Ap rfl
theorem Bvt {H:List Ob} {x:List TV}:Bv3 H x=AgI H (ABT H 2) x:=Ap rfl
theorem BtB {H:List Ob} {d:Nat} {x:TV}:ABT H (d+1) x=Ox H (ABT H d) x:=Ap rfl
theorem BpQ {H:List Ob} {v:Value}:frs H (.val v)=some (.val v):=by rw [frs]
theorem BsB {H:List Ob}:frs H .any=some .any:=by rw [frs]
theorem Bus {H:List Ob} {k i v o n cp:Nat} {p:List (Nat×Nat)}:frs H (.os k i v p o n cp)=(match H[i]? with | some (.obj vr x)=>if vr=v then (match Ll p k o n x with | some cs=>if NH cs then some (.sl k cs) else none | none=>none) else none | _=>none):=by rw [frs]; try rfl
theorem BrU {H:List Ob} {cs:List TV}:frs H (.agg cs)=(AA0 H cs).map .agg:=by rw [frs]
theorem BrQ {H:List Ob} {n k:Nat} {cs:List TV}:frs H (.arr n k cs)=if NH cs then some (.arr n k cs) else none:=by rw [frs]
theorem Bqp {H:List Ob} {cs:List TV}:frs H (.tup cs)=(AA0 H cs).map .tup:=by rw [frs]
theorem BqV {H:List Ob} {t:TypeId} {x:TV}:frs H (.ifc t x)=(frs H x).map (.ifc t):=by rw [frs]
theorem Bl8 {H:List Ob}:AA0 H []=some []:=by rw [AA0]
theorem Bjg {H:List Ob} {x:TV} {xs:List TV}:AA0 H (x::xs)=(match frs H x,AA0 H xs with | some x,some xs=>some (x::xs) | _,_=>none):=by rw [AA0]; try rfl
theorem Bjp {l:List UInt8}:NH (l.map by8)=true:=by
 induction l with
 | nil=>rfl
 | cons x l ih=>rw [List.map_cons,NH,ih]; rfl
theorem BnY {l:List (List UInt8)}:NH (l.map ts)=true:=by
 induction l with
 | nil=>rfl
 | cons x l ih=>rw [List.map_cons,NH,ih]; rfl
theorem BnN {l:List UInt8}:(l.map by8).map ApP=l:=by
 rw [List.map_map]
 have:(ApP ∘ by8)=id:=by funext b; simp
 rw [this,List.map_id]
theorem BoP {l:List UInt8}:(∀ y∈l.map by8,ACl y)=True:=by simp
theorem BnI {a b:Nat}:((a:Int)+(b:Int))=((a+b:Nat):Int):=by omega
theorem Bq7 {a b:Nat}:((a:Int)<(b:Int))=(a<b):=by simp
theorem BrI {a b:Nat}:((a:Int)≤(b:Int))=(a≤b):=by simp
theorem Bsy {a b:Nat}:((a:Int)=(b:Int))=(a=b):=propext ⟨fun h=>by omega,fun h=>by omega⟩
theorem Br2 {a:Nat}:(0≤(a:Int))=True:=by simp
theorem BtT {d s:Nat} {x:TV}:get ((d,x)::e) s=if d=s then x else get e s:=Ap rfl
end
end
section
open Go.RowKit
variable [Cc]
set_option autoImplicit false
universe u
class Tg {α:Sort u} (a:α):Type where
instance tg {α:Sort u} (a:α):Tg a:={}
def vif (t:Bool) (A B:Prop) [Tg A] [Tg B]:Prop:=if t=true then A else B
def EC {α:Type} (o:Option α) (K:α→Prop) [Tg K]:Prop:=match o with | some y=>K y | none=>False
def Ky (A K:Prop) [Tg K]:Prop:=A∧K
def Eu {α:Type} (x:α) (K:α→Prop) [Tg K]:Prop:=K x
def vex (K:TV→Prop) [Tg K]:Prop:=∃ x,K x
def VC (P:Program) (f:FuncId) (xs:List TV) (H:List Ob) (K:TV→List Ob→Prop) [Tg K]:Prop:=BD P f xs H K
def VY (P:Program) (id ver:Nat) (xs:List TV) (H:List Ob) (K:TV→List Ob→Prop) [Tg K]:Prop:=AvT P id ver xs H K
theorem Aqa {P:Program} {f:FuncId} {xs:List TV} {H:List Ob} {K:TV→List Ob→Prop} (h:BD P f xs H K):VC P f xs H K:=h
section
variable {A A' B K:Prop} {α:Type}
@[congr] theorem Bvr {t t':Bool} (h:t=t'):vif t A B=vif t' A B:=by rw [h]
@[congr] theorem BsG {o o':Option α} {K:α→Prop} (h:o=o'):EC o K=EC o' K:=by rw [h]
@[congr] theorem BsO (h:A=A'):Ky A K=Ky A' K:=by rw [h]
@[congr] theorem BsI {x x':α} {K:α→Prop} (h:x=x'):Eu x K=Eu x' K:=by rw [h]
@[congr] theorem BtV {P:Program} {c:AP} {Q:VEx→Env→List Ob→Prop} {e e':Env} {H H':List Ob} (he:e=e') (hH:H=H'):vwp P c Q e H=vwp P c Q e' H':=by rw [he,hH]
@[congr] theorem Bv2 {P:Program} {f:FuncId} {xs xs':List TV} {H H':List Ob} {K:TV→List Ob→Prop} (he:xs=xs') (hH:H=H'):VC P f xs H K=VC P f xs' H' K:=by rw [he,hH]
@[congr] theorem Bv4 {P:Program} {id ver:Nat} {xs xs':List TV} {H H':List Ob} {K:TV→List Ob→Prop} (he:xs=xs') (hH:H=H'):VY P id ver xs H K=VY P id ver xs' H' K:=by rw [he,hH]
theorem Boq:vif true A B=A:=by simp [vif]
theorem BjH:vif false A B=B:=by simp [vif]
theorem Bte {p:Prop} [Decidable p] (h:p):vif (decide p) A B=A:=by simp [vif,h]
theorem BtW {p:Prop} [Decidable p] (h:¬ p):vif (decide p) A B=B:=by simp [vif,h]
theorem Brm {t:Bool}:vif (!t) A B=vif t B A:=by cases t<;>simp [vif]
theorem BlE {p:Prop} [Decidable p] (h1:p→A) (h2:¬ p→B):vif (decide p) A B:=by by_cases h:p<;>simp [vif,h,h1,h2]
theorem BrK {s t:Bool}:vif (s && t) A B=vif s (vif t A B) B:=by cases s<;>simp [vif]
theorem BvA {s t:Bool}:vif (s || t) A B=vif s A (vif t A B):=by cases s<;>simp [vif]
theorem Bja {y:α} {K:α→Prop}:EC (some y) K=K y:=rfl
theorem Bno {β:Type} {f:α→β} {o:Option α} {K:β→Prop}:EC (o.map f) K=EC o fun y=>K (f y):=by cases o<;>rfl
theorem Br7 {cs:List α} {i:Nat} {K:α→Prop} (h:i<cs.length):EC cs[i]? K=K cs[i]:=by rw [List.getElem?_eq_getElem h]; rfl
theorem Bki (h:A):Ky A K=K:=by simp [Ky,h]
theorem Bt5:Ky True K=K:=by simp [Ky]
theorem Boa:Ky (A∧B) K=Ky A (Ky B K):=by simp [Ky,and_assoc]
theorem BqP {x:α} {K:α→Prop}:Eu x K=K x:=rfl
end
def PM:Option Ob→Nat→Option TV
 | some (.obj v x),ver=>if v=ver then some x else none
 | _,_=>none
theorem BoU {v:Nat} {x:TV}:PM (some (.obj v x)) v=some x:=by simp [PM]
section
variable {H l:List Ob} {o:Ob} {n k:Nat}
theorem BuL (h:H.length=n):(H++l)[n]?=l[0]?:=by rw [List.getElem?_append_right (by omega),h,Nat.sub_self]
theorem BrR (h:H.length=n):(H++l)[n+k]?=l[k]?:=by rw [List.getElem?_append_right (by omega)]; congr 1; omega
theorem BuX (h:n<H.length):(H++l)[n]?=H[n]?:=List.getElem?_append_left h
theorem BtP (h:n<H.length):(H.set n o)[n]?=some o:=by simp [h]
theorem Bkt {m:Nat} (h:m≠n):(H.set m o)[n]?=H[n]?:=by rw [List.getElem?_set_ne h]
theorem Bqb (h:H.length=n):(H++l).set n o=H++l.set 0 o:=by rw [List.set_append_right _ _ (by omega),h,Nat.sub_self]
theorem BlU (h:H.length=n):(H++l).set (n+k) o=H++l.set k o:=by rw [List.set_append_right _ _ (by omega)]; congr 2; omega
theorem Br4 (h:n<H.length):(H++l).set n o=H.set n o++l:=List.set_append_left _ _ h
end
section
variable {P:Program} {e:Env} {H:List Ob}
def Bkf (c a b:TV) (K:TV→Prop) [Tg K]:Prop:=match c with | .val (.bool t)=>K (if t then a else b) | _=>False
def BvW (t:TypeId) (op:BinOp) (x y:TV) (K:TV→Prop) [Tg K]:Prop:=match x,y with
  | .val u,.val v=>BnT u v=true∧(match Jh t op u v with | some r=>K (.val r) | none=>False)
  | _,_=>False
def Pun (op:UnOp) (x:TV) (K:TV→Prop) [Tg K]:Prop:=match x with
  | .val u=>(match unV op u with | some r=>K (.val r) | none=>False)
  | _=>False
def Bm7 (k:IntKind) (x:TV) (K:TV→Prop) [Tg K]:Prop:=match x with
  | .val (.int _ n)=>K (.val (.int k (k.wrap n)))
  | _=>False
def Bv7 (x:TV) (K:TV→Prop) [Tg K]:Prop:=match x with
  | .val (.string s)=>K (.val (.string s))
  | _=>False
def Bv9 (x:Option (List TV)) (K:TV→Prop) [Tg K]:Prop:=match x with
  | some cs=>(∀ y∈cs,ACl y)∧K (.val (.string (str (cs.map ApP))))
  | none=>False
def ABM (H:List Ob) (ag:Bool) (sz:Nat) (x:TV) (K:TV→Prop) [Tg K]:Prop:=match x with
  | .fp y=>Aw3 ag sz y∧K y
  | .op id ver p=>(match H[id]? with
   | some (.obj v x)=>v=ver∧(match Aaj p x with | some y=>Aw3 ag sz y∧K y | none=>False)
   | _=>False)
  | _=>False
def AsY (i off:Nat) (x:TV) (K:TV→Prop) [Tg K]:Prop:=match x with
  | .op id ver p=>K (.op id ver (p++[(i,off)]))
  | .fp (.agg cs)=>Gh (cs.take i)=off∧(match cs[i]? with | some y=>K (.fp y) | none=>False)
  | _=>False
def AAx (ag:Bool) (sz i off:Nat) (x:TV) (K:TV→Prop) [Tg K]:Prop:=match x with
  | .agg cs=>Gh (cs.take i)=off∧(match cs[i]? with | some y=>Aw3 ag sz y∧K y | none=>False)
  | _=>False
def AEC (k:Nat) (x i:TV) (K:TV→Prop) [Tg K]:Prop:=match x,i with
  | .sl k' cs,.val (.int _ j)=>k'=k∧0≤j∧(match cs[j.toNat]? with | some y=>K (.fp y) | none=>False)
  | .os k' id ver p off n cp,.val (.int _ j)=>k'=k∧0≤j∧j<n∧K (.op id ver (p++[(off+j.toNat,(off+j.toNat)*k)]))
  | _,_=>False
def Axb (n k:Nat) (x i:TV) (K:TV→Prop) [Tg K]:Prop:=match x,i with
  | .fp (.arr n' k' cs),.val (.int _ j)=>k'=k∧n'=n∧0≤j∧(match cs[j.toNat]? with | some y=>K (.fp y) | none=>False)
  | .op id ver p,.val (.int _ j)=>0≤j∧j<n∧K (.op id ver (p++[(j.toNat,j.toNat*k)]))
  | _,_=>False
def BuZ (ag:Bool) (n k:Nat) (x i:TV) (K:TV→Prop) [Tg K]:Prop:=match x,i with
  | .arr n' k' cs,.val (.int _ j)=>k'=k∧n'=n∧0≤j∧(match cs[j.toNat]? with | some y=>Aw3 ag k y∧K y | none=>False)
  | _,_=>False
def Bly (x i:TV) (K:TV→Prop) [Tg K]:Prop:=match x,i with
  | .val (.string s),.val (.int _ j)=>0≤j∧(match (bl s)[j.toNat]? with | some b=>K (by8 b) | none=>False)
  | _,_=>False
def Bun (i:Nat) (x:TV) (K:TV→Prop) [Tg K]:Prop:=match x with
  | .tup xs=>(match xs[i]? with | some y=>K y | none=>False)
  | _=>False
def Bme (x:TV) (K:TV→Prop) [Tg K]:Prop:=match x with
  | .val (.string s)=>K (.val (.int .i64 (bl s).length))
  | _=>False
def AEc (x:TV) (K:TV→Prop) [Tg K]:Prop:=match x with
  | .val (.slice _ n _)=>K (.val (.int .i64 n))
  | .sl _ cs=>K (.val (.int .i64 cs.length))
  | .os _ _ _ _ _ n _=>K (.val (.int .i64 n))
  | _=>False
def Ax5 (lo hi:Option TV) (len lim:Nat) (K:Nat→Nat→Prop) [Tg K]:Prop :=
 match (match lo with | none=>some 0 | some x=>(match x with | .val (.int _ i)=>some i | _=>none)),(match hi with | none=>some (len:Int) | some x=>(match x with | .val (.int _ i)=>some i | _=>none)) with
 | some l,some h=>(0≤l∧l≤h∧h≤lim)∧K l.toNat h.toNat
 | _,_=>False
def evO (e:Env):Option Opd→Option TV
 | none=>none
 | some x=>some (x.ev e)
theorem BoR:evO e none=none:=Ap rfl
theorem Bn6 {x:Opd}:evO e (some x)=some (x.ev e):=Ap rfl
theorem AE0 {lo hi:Option Opd} {len lim:Nat} {K:Nat→Nat→Prop}:bnd e lo hi len lim K=Ax5 (evO e lo) (evO e hi) len lim K:=by
 cases lo<;>cases hi<;>rfl
def Bwe (x:TV) (lo hi:Option TV) (K:TV→Prop) [Tg K]:Prop:=match x with
  | .val (.string s)=>Ax5 lo hi (bl s).length (bl s).length fun l h=>K (.val (.string (str (((bl s).drop l).take (h - l)))))
  | _=>False
def BsL (k:Nat) (x:TV) (lo hi:Option TV) (K:TV→Prop) [Tg K]:Prop:=match x with
  | .sl k' cs=>k'=k∧Ax5 lo hi cs.length cs.length fun l h=>K (.sl k ((cs.drop l).take (h - l)))
  | .os k' id ver p off n cp=>k'=k∧Ax5 lo hi n cp fun l h=>K (.os k id ver p (off+l) (h - l) (cp - l))
  | .val (.slice ad 0 0)=>Ax5 lo hi 0 0 fun l h=>K (.val (.slice ad 0 0))
  | _=>False
def BsH (H:List Ob) (n k:Nat) (x:TV) (lo hi:Option TV) (K:TV→Prop) [Tg K]:Prop:=match x with
  | .fp (.arr n' k' cs)=>k'=k∧n'=n∧n≤9223372036854775807∧Ax5 lo hi n n fun l h=>K (.sl k ((cs.drop l).take (h - l)))
  | .op id ver p=>(match H[id]? with
   | some (.obj v x)=>v=ver∧n≤9223372036854775807∧(match Aaj p x with | some (.arr n' k' cs)=>k'=k∧n'=n∧Ax5 lo hi n n fun l h=>K (.os k id ver p l (h - l) (n - l)) | _=>False)
   | _=>False)
  | _=>False
def ADr (t:TypeId) (x:TV) (K:TV→Prop) [Tg K]:Prop:=lays x=true∧K (.ifc t x)
def Bs8 (f:Fn) (first caps:List TV) (K:TV→Prop) [Tg K]:Prop:=(∀ x∈first++caps,Ie x=false)∧K (.fn f first caps)
def Azf (x:TV) (K:TV→Prop) [Tg K]:Prop:=match x with
  | .op id ver p=>K (.op id ver p)
  | .fp y=>K (.fp y)
  | .fn (.func f) a b=>K (.fn (.func f) a b)
  | .ifc t y=>K (.ifc t y)
  | .val (.func (.func f) a b)=>K (.val (.func (.func f) a b))
  | _=>False
def Bv5 (x y:TV) (K:TV→Prop) [Tg K]:Prop:=match x,y with
  | .val (.int k a),.val (.int _ b)=>K (.val (.int k (if b<a then b else a)))
  | _,_=>False
def Bv6 (x y:TV) (K:TV→Prop) [Tg K]:Prop:=match x,y with
  | .val (.int k a),.val (.int _ b)=>K (.val (.int k (if b > a then b else a)))
  | _,_=>False
def AvU (g:GOp) (H:List Ob) (xs:List TV) (K:TV→Prop) [Tg K]:Prop:=match gev g H xs with
  | some y=>K y
  | none=>False
def BsY (neg:Bool) (x y:TV) (K:TV→Prop) [Tg K]:Prop:=match x,y with
  | .val (.bool a),.val (.bool b)=>K (.val (.bool (xor neg (a == b))))
  | _,_=>False
def Bui (neg:Bool) (x y:Option Bool) (K:TV→Prop) [Tg K]:Prop:=match x,y with
  | some true,some b=>K (.val (.bool (xor neg b)))
  | some false,some true=>K (.val (.bool (xor neg false)))
  | _,_=>False
def Azb (H:List Ob) (sz:Nat) (x v:TV) (K:TV→List Ob→Prop) [Tg K]:Prop:=(lays v=true∧CG v=sz)∧(match x with
  | .op id ver p=>(match H[id]? with
   | some (.obj vr y)=>vr=ver∧(match setP p y v with | some y'=>K .any (H.set id (.obj ver y')) | none=>False)
   | _=>False)
  | _=>False)
def Bwd (H:List Ob) (k bytes:Nat) (z l c:TV) (K:TV→List Ob→Prop) [Tg K]:Prop:=match l,c with
  | .val (.int _ l),.val (.int _ c)=>(0≤l∧l≤c∧(bytes:Int)*c≤281474976710656∧c≤9223372036854775807)∧K (.os k H.length 0 [] 0 l.toNat c.toNat) (H++[.obj 0 (.arr c.toNat k (List.replicate c.toNat z))])
  | _,_=>False
def BpP (k bytes:Nat) (et:TypeId) (x:TV) (y:Option (List TV)) (H:List Ob) (K:TV→List Ob→Prop) [Tg K]:Prop:=match y with
  | some ys=>AAj k bytes et x ys H K
  | none=>False
def ABN (k:Nat) (x:TV) (y:Option (List TV)) (H:List Ob) (K:TV→List Ob→Prop) [Tg K]:Prop:=match y with
  | some ys=>Am8 k x ys H K
  | none=>False
def Bn3 (et:TypeId) (x y:TV) (H:List Ob) (K:TV→List Ob→Prop) [Tg K]:Prop:=match y with
  | .val (.string s)=>AAj 1 1 et x ((bl s).map by8) H K
  | _=>False
def ADw (x y:TV) (H:List Ob) (K:TV→List Ob→Prop) [Tg K]:Prop:=match y with
  | .val (.string s)=>Am8 1 x ((bl s).map by8) H K
  | _=>False
def Bmg (P:Program) (f:FuncId) (x:Option (Nat×Nat×List UInt8)) (H:List Ob) (K:TV→List Ob→Prop) [Tg K]:Prop:=Bxl P f∧(match x with
  | some (j,v,l)=>l.length≤9223372036854775807∧K (.val (.string (str l))) (H.set j (.gone v))
  | none=>False)
def BvV (H:List Ob) (x:TV) (K:TV→List Ob→Prop) [Tg K]:Prop:=match x with
  | .val (.string s)=>(bl s).length≤9223372036854775807∧K (.os 1 H.length 0 [] 0 (bl s).length (bl s).length) (H++[.obj 0 (.arr (bl s).length 1 ((bl s).map by8))])
  | _=>False
def Bo7 (k bytes:Nat) (z x n:TV) (H:List Ob) (K:TV→List Ob→Prop) [Tg K]:Prop:=match x,n with
  | .val (.slice none 0 0),.val (.int .i64 j)=>(0≤j∧(bytes:Int)*j≤140737488355328∧j≤9223372036854775807)∧K (.os k H.length 0 [] 0 j.toNat j.toNat) (H++[.obj 0 (.arr j.toNat k (List.replicate j.toNat z))])
  | _,_=>False
def AD5 (H:List Ob) (K:TV→List Ob→Prop) [Tg K]:Prop:=K (.val (.bool true)) H∧K (.val (.bool false)) H
def Bpi (neg:Bool) (x:TV) (H:List Ob) (K:TV→List Ob→Prop) [Tg K]:Prop:=match x with
  | .val (.slice a _ _)=>K (.val (.bool (xor neg a.isNone))) H
  | .sl _ cs=>(cs=[]→K (.val (.bool true)) H∧K (.val (.bool false)) H)∧(cs≠[]→K (.val (.bool neg)) H)
  | .os _ _ _ _ _ n _=>(n=0→K (.val (.bool true)) H∧K (.val (.bool false)) H)∧(n≠0→K (.val (.bool neg)) H)
  | _=>False
def Axd (P:Program) (x:TV) (args:List TV) (H:List Ob) (K:TV→List Ob→Prop) [Tg K]:Prop:=match x with
  | .fn (.func f) first caps=>Auh P f=true∧BD P f (first++args++caps) H K
  | .val (.func (.func f) xs ys)=>(xs.isEmpty && ys.isEmpty)=true∧Auh P f=true∧BD P f args H K
  | .yl id ver=>AvT P id ver args H K
  | _=>False
def BvI (P:Program) (nm:String) (x:TV) (args:List TV) (H:List Ob) (K:TV→List Ob→Prop) [Tg K]:Prop:=Bv0 P nm H x fun f r=>BD P f (r::args) H K
def BsP (P:Program) (q:Option (FuncId×Option (Bool×Nat))) (r:TV) (args:List TV) (H:List Ob) (K:TV→List Ob→Prop) [Tg K]:Prop:=match q with
 | some (f,none)=>Auh P f=true∧BD P f (r::args) H K
 | some (f,some (ag,sz))=>Auh P f=true∧ldT H ag sz r fun y=>BD P f (y::args) H K
 | none=>False
def Gd (q:Option Bool) (b:Bool) (A B:Prop) [Tg A] [Tg B]:Prop:=match q with
 | some t=>if t=b then A else B
 | none=>B
def evs (e:Env) (xs:List Opd):List TV:=xs.map (·.ev e)
theorem Bqd:evs e []=[]:=Ap rfl
theorem Bl1 {x:Opd} {xs:List Opd}:evs e (x::xs)=x.ev e::evs e xs:=Ap rfl
def Al2 (xs:List TV):Prop:=∀ x∈xs,Ie x=false
theorem BjC:Al2 []=True:=by simp [Al2]
theorem AEG {x:TV} {xs:List TV}:Al2 (x::xs)=(Ie x=false∧Al2 xs):=by simp [Al2]
theorem Ahp {args:List Opd}:(∀ x∈args,Ie (x.ev e)=false)=Al2 (evs e args):=by simp [Al2,evs]
section
variable {c c' a a' b b' x x' y y':TV} {K:TV→Prop} {KK:TV→List Ob→Prop} {lo lo' hi hi':Option TV} {ox ox':Option (List TV)} {q q' q2 q2':Option Bool} {xs xs':List TV} {A B:Prop} {H':List Ob}
@[congr] theorem Bxc (h1:c=c') (h2:a=a') (h3:b=b'):Bkf c a b K=Bkf c' a' b' K:=by rw [h1,h2,h3]
@[congr] theorem ByO {t:TypeId} {op:BinOp} (h1:x=x') (h2:y=y'):BvW t op x y K=BvW t op x' y' K:=by rw [h1,h2]
@[congr] theorem Bzh {op:UnOp} (h1:x=x'):Pun op x K=Pun op x' K:=by rw [h1]
@[congr] theorem BxN {k:IntKind} (h1:x=x'):Bm7 k x K=Bm7 k x' K:=by rw [h1]
@[congr] theorem ByJ (h1:x=x'):Bv7 x K=Bv7 x' K:=by rw [h1]
@[congr] theorem By5 (h1:ox=ox'):Bv9 ox K=Bv9 ox' K:=by rw [h1]
@[congr] theorem BwW {ag:Bool} {sz:Nat} (h1:x=x') (h2:H=H'):ABM H ag sz x K=ABM H' ag sz x' K:=by rw [h1,h2]
@[congr] theorem BtO {i o:Nat} (h1:x=x'):AsY i o x K=AsY i o x' K:=by rw [h1]
@[congr] theorem Bv1 {ag:Bool} {sz i o:Nat} (h1:x=x'):AAx ag sz i o x K=AAx ag sz i o x' K:=by rw [h1]
@[congr] theorem Bw7 {k:Nat} (h1:x=x') (h2:y=y'):AEC k x y K=AEC k x' y' K:=by rw [h1,h2]
@[congr] theorem BvY {n k:Nat} (h1:x=x') (h2:y=y'):Axb n k x y K=Axb n k x' y' K:=by rw [h1,h2]
@[congr] theorem ByE {ag:Bool} {n k:Nat} (h1:x=x') (h2:y=y'):BuZ ag n k x y K=BuZ ag n k x' y' K:=by rw [h1,h2]
@[congr] theorem Bxw (h1:x=x') (h2:y=y'):Bly x y K=Bly x' y' K:=by rw [h1,h2]
@[congr] theorem ByV {i:Nat} (h1:x=x'):Bun i x K=Bun i x' K:=by rw [h1]
@[congr] theorem Bws (h1:x=x'):Bme x K=Bme x' K:=by rw [h1]
@[congr] theorem Bwz (h1:x=x'):AEc x K=AEc x' K:=by rw [h1]
@[congr] theorem ByM {n m:Nat} {K:Nat→Nat→Prop} {n' m':Nat} (h1:lo=lo') (h2:hi=hi') (h3:n=n') (h4:m=m'):Ax5 lo hi n m K=Ax5 lo' hi' n' m' K:=by rw [h1,h2,h3,h4]
@[congr] theorem ByK (h1:x=x') (h2:lo=lo') (h3:hi=hi'):Bwe x lo hi K=Bwe x' lo' hi' K:=by rw [h1,h2,h3]
@[congr] theorem ByT {k:Nat} (h1:x=x') (h2:lo=lo') (h3:hi=hi'):BsL k x lo hi K=BsL k x' lo' hi' K:=by rw [h1,h2,h3]
@[congr] theorem ByZ {n k:Nat} (h0:H=H') (h1:x=x') (h2:lo=lo') (h3:hi=hi'):BsH H n k x lo hi K=BsH H' n k x' lo' hi' K:=by rw [h0,h1,h2,h3]
@[congr] theorem Bwf {t:TypeId} (h1:x=x'):ADr t x K=ADr t x' K:=by rw [h1]
@[congr] theorem ByH {f:Fn} {ys ys':List TV} (h1:xs=xs') (h2:ys=ys'):Bs8 f xs ys K=Bs8 f xs' ys' K:=by rw [h1,h2]
@[congr] theorem ByA (h1:x=x'):Azf x K=Azf x' K:=by rw [h1]
@[congr] theorem ByU (h1:x=x') (h2:y=y'):Bv5 x y K=Bv5 x' y' K:=by rw [h1,h2]
@[congr] theorem ByW (h1:x=x') (h2:y=y'):Bv6 x y K=Bv6 x' y' K:=by rw [h1,h2]
@[congr] theorem By3 {g:GOp} {xs xs':List TV} (h1:H=H') (h2:xs=xs'):AvU g H xs K=AvU g H' xs' K:=by rw [h1,h2]
@[congr] theorem ByN {n:Bool} (h1:x=x') (h2:y=y'):BsY n x y K=BsY n x' y' K:=by rw [h1,h2]
@[congr] theorem Bze {n:Bool} (h1:q=q') (h2:q2=q2'):Bui n q q2 K=Bui n q' q2' K:=by rw [h1,h2]
@[congr] theorem BvS {sz:Nat} (h0:H=H') (h1:x=x') (h2:y=y'):Azb H sz x y KK=Azb H' sz x' y' KK:=by rw [h0,h1,h2]
@[congr] theorem By2 {k n:Nat} {z:TV} (h0:H=H') (h1:x=x') (h2:y=y'):Bwd H k n z x y KK=Bwd H' k n z x' y' KK:=by rw [h0,h1,h2]
@[congr] theorem ByX {k n:Nat} {et:TypeId} (h0:H=H') (h1:x=x') (h2:ox=ox'):BpP k n et x ox H KK=BpP k n et x' ox' H' KK:=by rw [h0,h1,h2]
@[congr] theorem Byh {k:Nat} (h0:H=H') (h1:x=x') (h2:ox=ox'):ABN k x ox H KK=ABN k x' ox' H' KK:=by rw [h0,h1,h2]
@[congr] theorem BxR {et:TypeId} (h0:H=H') (h1:x=x') (h2:y=y'):Bn3 et x y H KK=Bn3 et x' y' H' KK:=by rw [h0,h1,h2]
@[congr] theorem Bwa (h0:H=H') (h1:x=x') (h2:y=y'):ADw x y H KK=ADw x' y' H' KK:=by rw [h0,h1,h2]
@[congr] theorem Bx0 {P:Program} {f:FuncId} {r r':Option (Nat×Nat×List UInt8)} (h0:H=H') (h1:r=r'):Bmg P f r H KK=Bmg P f r' H' KK:=by rw [h0,h1]
@[congr] theorem BwN {k n:Nat} {z:TV} (h0:H=H') (h1:x=x') (h2:y=y'):Bo7 k n z x y H KK=Bo7 k n z x' y' H' KK:=by rw [h0,h1,h2]
@[congr] theorem ByQ {n:Bool} (h0:H=H') (h1:x=x'):Bpi n x H KK=Bpi n x' H' KK:=by rw [h0,h1]
@[congr] theorem BwX (h0:H=H'):AD5 H KK=AD5 H' KK:=by rw [h0]
@[congr] theorem ByS (h0:H=H') (h1:x=x'):BvV H x KK=BvV H' x' KK:=by rw [h0,h1]
@[congr] theorem BvZ (h0:H=H') (h1:x=x') (h2:xs=xs'):Axd P x xs H KK=Axd P x' xs' H' KK:=by rw [h0,h1,h2]
@[congr] theorem By0 {P:Program} {nm:String} (h0:H=H') (h1:x=x') (h2:xs=xs'):BvI P nm x xs H KK=BvI P nm x' xs' H' KK:=by rw [h0,h1,h2]
@[congr] theorem By8 {P:Program} {g g':Option (FuncId×Option (Bool×Nat))} (h:g=g') (h0:H=H') (h1:x=x') (h2:xs=xs'):BsP P g x xs H KK=BsP P g' x' xs' H' KK:=by rw [h,h0,h1,h2]
@[congr] theorem BzF {b:Bool} (h1:q=q'):Gd q b A B=Gd q' b A B:=by rw [h1]
end
section
variable {K:TV→Prop} {KK:TV→List Ob→Prop} {x y i a b c:Opd} {lo hi:Option Opd}
theorem Byp:pop (.mov x) e H K=Eu (x.ev e) K:=Ap rfl
theorem BvK:pop (.pick c a b) e H K=Bkf (c.ev e) (a.ev e) (b.ev e) K:=Ap rfl
theorem Bxm {t:TypeId} {op:BinOp}:pop (.bin t op x y) e H K=BvW t op (x.ev e) (y.ev e) K:=Ap rfl
theorem Bzx {op:UnOp}:pop (.un op x) e H K=Pun op (x.ev e) K:=Ap rfl
theorem Bvq {k:IntKind}:pop (.conv k x) e H K=Bm7 k (x.ev e) K:=Ap rfl
theorem Bxi:pop (.s2s x) e H K=Bv7 (x.ev e) K:=Ap rfl
theorem Byr:pop (.b2s x) e H K=Bv9 (F6 H 1 (x.ev e)) K:=Ap rfl
theorem BvM {ag:Bool} {sz:Nat}:pop (.load ag sz x) e H K=ABM H ag sz (x.ev e) K:=Ap rfl
theorem Bmr {n o:Nat}:pop (.fieldA n o x) e H K=AsY n o (x.ev e) K:=Ap rfl
theorem Br1 {ag:Bool} {sz n o:Nat}:pop (.field ag sz n o x) e H K=AAx ag sz n o (x.ev e) K:=Ap rfl
theorem BtL {k:Nat}:pop (.idxA k x i) e H K=AEC k (x.ev e) (i.ev e) K:=Ap rfl
theorem BqQ {n k:Nat}:pop (.idxAA n k x i) e H K=Axb n k (x.ev e) (i.ev e) K:=Ap rfl
theorem Bwy {ag:Bool} {n k:Nat}:pop (.idx ag n k x i) e H K=BuZ ag n k (x.ev e) (i.ev e) K:=Ap rfl
theorem Bt8:pop (.idxS x i) e H K=Bly (x.ev e) (i.ev e) K:=Ap rfl
theorem Bx6 {n:Nat}:pop (.ext n x) e H K=Bun n (x.ev e) K:=Ap rfl
theorem BvQ:pop (.lenS x) e H K=Bme (x.ev e) K:=Ap rfl
theorem Bvc:pop (.lenV x) e H K=AEc (x.ev e) K:=Ap rfl
theorem Bxu:pop (.slS x lo hi) e H K=Bwe (x.ev e) (evO e lo) (evO e hi) K:=by
 show (match x.ev e with | .val (.string s)=>bnd e lo hi (bl s).length (bl s).length fun l h=>K (.val (.string (str (((bl s).drop l).take (h - l))))) | _=>False)=_
 simp only [AE0]; rfl
theorem Byc {k:Nat}:pop (.slV k x lo hi) e H K=BsL k (x.ev e) (evO e lo) (evO e hi) K:=by
 rw [BwZ]; simp only [AE0]; rfl
theorem Bwk {n k:Nat}:pop (.slA n k x lo hi) e H K=BsH H n k (x.ev e) (evO e lo) (evO e hi) K:=by
 rw [BxL]; simp only [AE0]; rfl
theorem BrW {t:TypeId}:pop (.iface t x) e H K=ADr t (x.ev e) K:=Ap rfl
theorem BxC {f:Fn} {xs ys:List Opd}:pop (.mkf f xs ys) e H K=Bs8 f (evs e xs) (evs e ys) K:=by
 rw [Byl]; unfold Bs8 evs; rw [←List.map_append]
 refine congrArg (· ∧ _) (propext ⟨fun h y hy => ?_,fun h y hy=>h _ (List.mem_map.2 ⟨y,hy,rfl⟩)⟩)
 obtain ⟨z,hz,rfl⟩:=List.mem_map.1 hy; exact h z hz
theorem Bvg:pop (.nilc x) e H K=Azf (x.ev e) K:=Ap rfl
theorem Bxd:pop (.min x y) e H K=Bv5 (x.ev e) (y.ev e) K:=Ap rfl
theorem BwA:pop (.max x y) e H K=Bv6 (x.ev e) (y.ev e) K:=Ap rfl
theorem Bw9 {g:GOp} {xs:List Opd}:pop (.gen g xs) e H K=AvU g H (evs e xs) K:=Ap rfl
theorem Bxo {n:Bool}:pop (.eqB x y n) e H K=BsY n (x.ev e) (y.ev e) K:=Ap rfl
theorem Bw5 {kd:Nat} {n:Bool}:pop (.eqN kd x y n) e H K=Bui n (Ld kd (x.ev e)) (Ld kd (y.ev e)) K:=Ap rfl
theorem Brx {zs:List TV} {szs:List Nat} {ps:List (Nat×Opd)}:pop (.build zs szs ps) e H K=Ky (Ls e szs ps) (Eu (TV.agg (Nw e zs ps)) K):=Ap rfl
theorem Bop {n k:Nat} {zs:List TV} {ps:List (Nat×Opd)}:pop (.buildA n k zs ps) e H K=Ky (Ls e (List.replicate n k) ps) (Ky (EM e ps) (Eu (TV.arr n k (Nw e zs ps)) K)):=Ap rfl
theorem BxY {k n:Nat} {z:TV} {ps:List (Nat×Opd)}:pop (.bsl k n z ps) e H K=Ky (Ls e (List.replicate n k) ps) (Ky (EM e ps∧n≤1000) (Eu (TV.sl k (Nw e (List.replicate n z) ps)) K)):=by
 show ((_∧_∧_)∧_)=_
 simp only [Ky,Eu,and_assoc]
theorem Bq1 {z:TV}:sop P (.alloc z) e H KK=Eu (H.length) fun n=>Eu (H++[.obj 0 z]) fun H'=>KK (.op n 0 []) H':=Ap rfl
theorem Bo3 {z:TV} {t:TypeId}:sop P (.allocT z t) e H KK=Eu (H.length) fun n=>Eu (CG z) fun m=>Eu (H++[.obj 0 z,.fact n 0 t m]) fun H'=>KK (.op n 0 []) H':=Ap rfl
theorem Bvd {t:TypeId}:sop P (.boxT x t) e H KK=Eu (x.ev e) fun v=>Ky (lays v=true) (Eu (H.length) fun n=>Eu (CG v) fun m=>Eu (H++[.obj 0 v,.fact n 0 t m]) fun H'=>KK (.op n 0 []) H'):=Ap rfl
theorem BsT {f:FuncId}:sop P (.bstr f x) e H KK=Bmg P f (AET H (x.ev e)) H KK:=Ap rfl
def BmE (x:TV) (H:List Ob) (K:TV→List Ob→Prop) [Tg K]:Prop:=match x with
 | .val (.string s)=>K (.op H.length 0 []) (H++[.sit (bl s) 0])
 | _=>False
@[congr] theorem Bww {x x':TV} {H':List Ob} (h1:x=x') (h2:H=H'):BmE x H KK=BmE x' H' KK:=by rw [h1,h2]
theorem BtE:sop P (.rngS x) e H KK=BmE (x.ev e) H KK:=Ap rfl
theorem BmA {s:ByteArray}:BmE (.val (.string s)) H KK=Eu H.length fun n=>Eu (H++[.sit (bl s) 0]) fun H'=>KK (.op n 0 []) H':=Ap rfl
def Bks:Option Ob→Option (List UInt8×Nat)
 | some (.sit s pos)=>some (s,pos)
 | _=>none
theorem Bos {s:List UInt8} {pos:Nat}:Bks (some (.sit s pos))=some (s,pos):=Ap rfl
def Bkz (x:TV) (H:List Ob) (K:TV→List Ob→Prop) [Tg K]:Prop:=match x with
 | .op id 0 []=>(match H[id]? with
  | some (.sit s pos)=>if pos<s.length then K (.tup [.val (.bool true),.val (.int .i64 (pos:Int)),.val (.int .i32 ((Utf8.decode (str s) pos).1:Int))]) (H.set id (.sit s (pos+(Utf8.decode (str s) pos).2))) else K (.tup [.val (.bool false)]) H
  | _=>False)
 | _=>False
@[congr] theorem BwP {x x':TV} {H':List Ob} (h1:x=x') (h2:H=H'):Bkz x H KK=Bkz x' H' KK:=by rw [h1,h2]
theorem Buj:sop P (.nxtS x) e H KK=Bkz (x.ev e) H KK:=Ap rfl
theorem Bmv {id:Nat}:Bkz (.op id 0 []) H KK=EC (Bks H[id]?) fun p=>vif (decide (p.2<p.1.length))
  (Eu (H.set id (.sit p.1 (p.2+(Utf8.decode (str p.1) p.2).2))) fun H'=>KK (.tup [.val (.bool true),.val (.int .i64 (p.2:Int)),.val (.int .i32 ((Utf8.decode (str p.1) p.2).1:Int))]) H') (KK (.tup [.val (.bool false)]) H):=by
 unfold Bkz
 cases h:H[id]? with
 | none=>simp [Bks,EC,h]
 | some o =>
  cases o with
  | sit s pos=>simp only [h,Bks,EC,Eu]; by_cases hp:pos<s.length<;>simp [vif,hp]
  | _=>simp [Bks,EC,h]
theorem BwD:sop P (.box x) e H KK=Eu (x.ev e) fun v=>Ky (lays v=true) (Eu (H.length) fun n=>Eu (H++[.obj 0 v]) fun H'=>KK (.op n 0 []) H'):=Ap rfl
theorem Bnv {k n:Nat} {z:TV} {ps:List (Nat×Opd)}:sop P (.bslice k n z ps) e H KK=Ky (Ls e (List.replicate n k) ps) (Ky (EM e ps∧n≤1000) (Eu H.length fun m=>Eu (H++[.obj 0 (.arr n k (Nw e (List.replicate n z) ps))]) fun H'=>KK (.os k m 0 [] 0 n n) H')):=by
 rw [BnE]; simp only [Ky,Eu,and_assoc]
def Auq (kk:MK):Option Ob→Option (List (List UInt8×TV))
 | some (.mpo kk' es)=>if kk'=kk then some es else none
 | _=>none
def AvY (kk:MK):Option Ob→Option (List (List UInt8×TV))
 | some (.mpo kk' es)=>if kk'=kk then some es else none
 | some (.mpd kk' zs _)=>if kk'=kk then some (zs.map (·.2)) else none
 | _=>none
theorem BnM {kk:MK} {es:List (List UInt8×TV)}:AvY kk (some (.mpo kk es))=some es:=by simp [AvY]
theorem BqU {kk:MK} {zs:List (Nat×List UInt8×TV)} {cl:Nat}:AvY kk (some (.mpd kk zs cl))=some (zs.map (·.2)):=by simp [AvY]
def ABR:Option Ob→Option (List (List UInt8×TV))
 | some (.mpo _ es)=>some es
 | some (.mpd _ zs _)=>some (zs.map (·.2))
 | _=>none
theorem BoH {kk:MK} {es:List (List UInt8×TV)}:ABR (some (.mpo kk es))=some es:=by simp [ABR]
theorem BqL {kk:MK} {zs:List (Nat×List UInt8×TV)} {cl:Nat}:ABR (some (.mpd kk zs cl))=some (zs.map (·.2)):=by simp [ABR]
theorem Brw {kk:MK} {es:List (List UInt8×TV)}:stO (some (.mpo kk es))=some (kk,AtL 0 es,es.length):=Ap rfl
theorem Brz {kk:MK} {zs:List (Nat×List UInt8×TV)} {cl:Nat}:stO (some (.mpd kk zs cl))=some (kk,zs,cl):=Ap rfl
def Blz (x:TV) (H:List Ob) (K:TV→List Ob→Prop) [Tg K]:Prop:=match x with
 | .mp id 0=>(match stO H[id]? with
  | some (_,_,cl)=>K (.op H.length 0 []) (H++[.mit id [] cl])
  | none=>False)
 | _=>False
@[congr] theorem BwO {x x':TV} {H':List Ob} (h1:x=x') (h2:H=H'):Blz x H KK=Blz x' H' KK:=by rw [h1,h2]
theorem Bvz:sop P (.rngM x) e H KK=Blz (x.ev e) H KK:=Ap rfl
theorem Bl0 {id:Nat}:Blz (.mp id 0) H KK=EC (stO H[id]?) fun p=>Eu H.length fun n=>Eu (H++[.mit id [] p.2.2]) fun H'=>KK (.op n 0 []) H':=by
 unfold Blz
 cases h:stO H[id]? with
 | none=>simp [EC,h]
 | some o=>obtain ⟨a,b,c⟩:=o; simp [EC,Eu,h]
def Aye:Option Ob→Option (Nat×List Nat×Nat)
 | some (.mit m sn cl)=>some (m,sn,cl)
 | _=>none
theorem Bnp {m cl:Nat} {sn:List Nat}:Aye (some (.mit m sn cl))=some (m,sn,cl):=Ap rfl
def BjS (x:TV) (H:List Ob) (K:TV→List Ob→Prop) [Tg K]:Prop:=match x with
 | .op id 0 []=>(match H[id]? with
  | some (.mit m sn cl)=>(match stO H[m]? with
   | some (kk,zs,cl')=>(cl'=cl∧∀ z∈zs,z.1<cl)∧(∀ z∈zs,z.1∉sn→K (.tup [.val (.bool true),kTV kk z.2.1,z.2.2]) (H.set id (.mit m (sn++[z.1]) cl)))∧((∀ z∈zs,z.1∈sn)→K (.tup [.val (.bool false)]) H)
   | none=>False)
  | _=>False)
 | _=>False
@[congr] theorem Bwx {x x':TV} {H':List Ob} (h1:x=x') (h2:H=H'):BjS x H KK=BjS x' H' KK:=by rw [h1,h2]
theorem Bvv:sop P (.nxtM x) e H KK=BjS (x.ev e) H KK:=Ap rfl
def BvU (id m:Nat) (sn:List Nat) (cl:Nat) (kk:MK) (zs:List (Nat×List UInt8×TV)) (cl':Nat) (H:List Ob) (K:TV→List Ob→Prop) [Tg K]:Prop :=
 (cl'=cl∧∀ z∈zs,z.1<cl)∧(∀ z∈zs,z.1∉sn→K (.tup [.val (.bool true),kTV kk z.2.1,z.2.2]) (H.set id (.mit m (sn++[z.1]) cl)))∧((∀ z∈zs,z.1∈sn)→K (.tup [.val (.bool false)]) H)
@[congr] theorem By6 {id m:Nat} {sn sn':List Nat} {cl c2:Nat} {kk:MK} {zs zs':List (Nat×List UInt8×TV)} {cl' c2':Nat} {H':List Ob} (h1:sn=sn') (h2:cl=c2) (h3:zs=zs') (h4:cl'=c2') (h5:H=H'):BvU id m sn cl kk zs cl' H KK=BvU id m sn' c2 kk zs' c2' H' KK:=by rw [h1,h2,h3,h4,h5]
theorem BmY {id:Nat}:BjS (.op id 0 []) H KK=EC (Aye H[id]?) fun p=>EC (stO H[p.1]?) fun q=>BvU id p.1 p.2.1 p.2.2 q.1 q.2.1 q.2.2 H KK:=by
 unfold BjS
 cases h:H[id]? with
 | none=>simp [Aye,EC,h]
 | some o =>
  cases o with
  | mit m sn cl =>
   simp only [h,Aye,EC]
   cases h2:stO H[m]? with
   | none=>simp
   | some q=>obtain ⟨a,b,c⟩:=q; simp only [BvU]
  | _=>simp [Aye,EC,h]
def BuD (p:Nat×List Nat×Nat) (q:MK×List (Nat×List UInt8×TV)×Nat):Option TV:=match p.2.1.getLast? with
 | some s=>if q.2.2=p.2.2 then (match q.2.1.find? (·.1 == s) with
  | some z=>some (.tup [kTV q.1 z.2.1,z.2.2])
  | none=>none) else none
 | none=>none
def BsM (kk:MK) (o:Option Ob):Option (List (Nat×List UInt8×TV)×Nat):=match stO o with
 | some (kk',zs,cl)=>if kk'=kk then some (zs,cl) else none
 | none=>none
theorem BlZ {kk:MK} {es:List (List UInt8×TV)}:BsM kk (some (.mpo kk es))=some (AtL 0 es,es.length):=by simp [BsM,stO]
theorem BmP {kk:MK} {zs:List (Nat×List UInt8×TV)} {cl:Nat}:BsM kk (some (.mpd kk zs cl))=some (zs,cl):=by simp [BsM,stO]
def Bko (kk:MK) (m k:TV) (H:List Ob) (K:TV→List Ob→Prop) [Tg K]:Prop:=match m,FV kk k with
 | .mp id 0,some kb=>(match stO H[id]? with
  | some (kk',zs,cl)=>kk'=kk∧K .any (H.set id (.mpd kk (zs.eraseIdx (Ar5 kb (zs.map (·.2)))) cl))
  | none=>False)
 | _,_=>False
@[congr] theorem Bxe {kk:MK} {H':List Ob} {m m' k k':TV} (h1:m=m') (h2:k=k') (h4:H=H'):Bko kk m k H KK=Bko kk m' k' H' KK:=by rw [h1,h2,h4]
theorem Bts {kk:MK} {m k:Opd}:sop P (.delM kk m k) e H KK=Bko kk (m.ev e) (k.ev e) H KK:=Ap rfl
theorem BlW {kk:MK} {id:Nat} {kx:TV}:Bko kk (.mp id 0) kx H KK=EC (BsM kk H[id]?) fun p=>EC (FV kk kx) fun kb=>Eu (p.1.eraseIdx (Ar5 kb (p.1.map (·.2)))) fun zs=>Eu (H.set id (.mpd kk zs p.2)) fun H'=>KK .any H':=by
 unfold Bko BsM
 cases h:stO H[id]? with
 | none=>cases FV kk kx<;>simp [h,EC]
 | some q =>
  obtain ⟨kk',zs,cl⟩:=q
  by_cases hk:kk'=kk
  ·subst hk; cases FV kk' kx<;>simp [h,EC,Eu]
  ·cases FV kk kx<;>simp [h,EC,hk]
def BvR (H:List Ob) (x:TV) (K:TV→List Ob→Prop) [Tg K]:Prop:=match x with
 | .os k id ver [] off n cp=>n≠0∧obV H[id]?=some ver∧K (.os k id ver [] off n cp) H
 | _=>False
@[congr] theorem ByF {H':List Ob} {x x':TV} (h0:H=H') (h1:x=x'):BvR H x KK=BvR H' x' KK:=by rw [h0,h1]
theorem BxT {x:Opd}:sop P (.cvS x) e H KK=BvR H (x.ev e) KK:=Ap rfl
theorem Bq8 {k id ver off n cp:Nat}:BvR H (.os k id ver [] off n cp) KK=Ky (n≠0) (Ky (obV H[id]?=some ver) (KK (.os k id ver [] off n cp) H)):=Ap rfl
theorem Bs7 {v:Nat} {y:TV}:obV (some (.obj v y))=some v:=Ap rfl
def Blg (k:Nat) (z x:TV) (H:List Ob) (K:TV→List Ob→Prop) [Tg K]:Prop:=match x with
 | .os k' id ver p off n cp=>Am8 k (.os k' id ver p off n cp) (List.replicate n z) H fun _ H'=>K .any H'
 | .val (.slice none 0 0)=>K .any H
 | _=>False
@[congr] theorem Bym {k:Nat} {z x x':TV} {H':List Ob} (h1:x=x') (h2:H=H'):Blg k z x H KK=Blg k z x' H' KK:=by rw [h1,h2]
theorem Bvf {k:Nat} {z:TV}:sop P (.clrS k z x) e H KK=Blg k z (x.ev e) H KK:=Ap rfl
theorem BjM {k:Nat} {z:TV}:Blg k z (.val (.slice none 0 0)) H KK=KK .any H:=Ap rfl
theorem BoC {k id ver off n cp:Nat} {p:List (Nat×Nat)} {z:TV}:Blg k z (.os k id ver p off n cp) H KK=Eu (List.replicate n z) fun ys=>ABN k (.os k id ver p off n cp) (some ys) H fun _ H'=>KK .any H':=Ap rfl
theorem Bm1 {kk:MK} {es:List (List UInt8×TV)}:Auq kk (some (.mpo kk es))=some es:=by simp [Auq]
theorem BtK {l:List UInt8}:FV .str (.val (.string (str l)))=some l:=by simp [FV,bl,str]
theorem Btg {n:Nat} {l:List UInt8}:FV (.arr n) (.arr n 1 (l.map by8))=some l:=by
 unfold FV; simp only [Aro,AgL,and_self,if_true]
theorem Bp6 {z:TV} {r:Option TV}:Auu z false r=r.getD z:=by simp [Auu]
theorem BpV {z:TV} {r:Option TV}:Auu z true r = .tup [r.getD z,.val (.bool r.isSome)]:=by simp [Auu]
def BsK (x:TV) (A:Prop) [Tg A]:Prop:=match x with
 | .val (.int _ _)=>A
 | _=>False
@[congr] theorem Bzc {x x':TV} {A:Prop} (h:x=x'):BsK x A=BsK x' A:=by rw [h]
theorem Bq6 {q:IntKind} {n:Int} {A:Prop}:BsK (.val (.int q n)) A=A:=by simp [BsK]
theorem Bs6 {kk:MK}:sop P (.mkm kk none) e H KK=Eu H.length fun n=>Eu (H++[.mpo kk []]) fun H'=>KK (.mp n 0) H':=by simp [sop,Eu]
theorem Btv {kk:MK}:sop P (.mkm kk (some x)) e H KK=BsK (x.ev e) (Eu H.length fun n=>Eu (H++[.mpo kk []]) fun H'=>KK (.mp n 0) H'):=by
 simp only [sop,Eu,BsK]
 cases x.ev e with
 | val v=>cases v<;>simp
 | _=>simp
def BjO (kk:MK) (m k v:TV) (H:List Ob) (K:TV→List Ob→Prop) [Tg K]:Prop:=match m,FV kk k with
 | .mp id 0,some kb=>(match H[id]? with
  | some (.mpo kk' es)=>(kk'=kk∧lays v=true)∧K .any (H.set id (.mpo kk (AiA kb v es)))
  | _=>False)
 | _,_=>False
@[congr] theorem BxO {kk:MK} {H':List Ob} {m m' k k' v v':TV} (h1:m=m') (h2:k=k') (h3:v=v') (h4:H=H'):BjO kk m k v H KK=BjO kk m' k' v' H' KK:=by rw [h1,h2,h3,h4]
theorem BuN {kk:MK} {m k:Opd}:sop P (.mupd kk m k x) e H KK=BjO kk (m.ev e) (k.ev e) (x.ev e) H KK:=Ap rfl
def Blj (kk:MK) (z m k:TV) (H:List Ob) (K:TV→List Ob→Prop) [Tg K]:Prop:=match m,FV kk k with
 | .mp id 0,some kb=>(match H[id]? with
  | some (.mpo kk' es)=>kk'=kk∧K (.tup [(AjB kb es).getD z,.val (.int .i64 (Ar5 kb es))]) (H.set id (.mpo kk (AiA kb ((AjB kb es).getD z) es)))
  | _=>False)
 | _,_=>False
@[congr] theorem Bwm {kk:MK} {H':List Ob} {z m m' k k':TV} (h1:m=m') (h2:k=k') (h4:H=H'):Blj kk z m k H KK=Blj kk z m' k' H' KK:=by rw [h1,h2,h4]
theorem Bvm {kk:MK} {z:TV} {m k:Opd}:sop P (.ment kk z m k) e H KK=Blj kk z (m.ev e) (k.ev e) H KK:=Ap rfl
def Bk4 (m st v:TV) (H:List Ob) (K:TV→List Ob→Prop) [Tg K]:Prop:=match m,st with
 | .mp id 0,.val (.int _ j)=>(match H[id]? with
  | some (.mpo kk es)=>(0≤j∧lays v=true)∧(match es[j.toNat]? with
   | some (k,_)=>K .any (H.set id (.mpo kk (es.set j.toNat (k,v))))
   | none=>False)
  | _=>False)
 | _,_=>False
@[congr] theorem Byy {H':List Ob} {m m' st st' v v':TV} (h1:m=m') (h2:st=st') (h3:v=v') (h4:H=H'):Bk4 m st v H KK=Bk4 m' st' v' H' KK:=by rw [h1,h2,h3,h4]
theorem BvH {m st:Opd}:sop P (.mest m st x) e H KK=Bk4 (m.ev e) (st.ev e) (x.ev e) H KK:=Ap rfl
theorem Bq9 {sz:Nat}:sop P (.store sz x y) e H KK=Azb H sz (x.ev e) (y.ev e) KK:=Ap rfl
theorem Bw0 {k n:Nat} {z:TV}:sop P (.mks k n z x y) e H KK=Bwd H k n z (x.ev e) (y.ev e) KK:=Ap rfl
theorem BxH {k n:Nat} {et:TypeId}:sop P (.app k n et x y) e H KK=BpP k n et (x.ev e) (F6 H k (y.ev e)) H KK:=Ap rfl
theorem Bvh {et:TypeId}:sop P (.appS et x y) e H KK=Bn3 et (x.ev e) (y.ev e) H KK:=Ap rfl
theorem BvN {k:Nat}:sop P (.copy k x y) e H KK=ABN k (x.ev e) (F6 H k (y.ev e)) H KK:=Ap rfl
theorem Bq0:sop P (.copyS x y) e H KK=ADw (x.ev e) (y.ev e) H KK:=Ap rfl
theorem Bul {k n:Nat} {z:TV}:sop P (.appZ k n z x y) e H KK=Bo7 k n z (x.ev e) (y.ev e) H KK:=Ap rfl
theorem BxZ {n:Bool}:sop P (.eqS x n) e H KK=Bpi n (x.ev e) H KK:=Ap rfl
theorem Bx3:sop P (.s2b x) e H KK=BvV H (x.ev e) KK:=Ap rfl
theorem Bs2 {f:FuncId} {args:List Opd}:sop P (.call f args) e H KK=Eu (evs e args) fun xs=>Ky (Al2 xs) (VC P f xs H KK):=by
 rw [BsQ,Ahp]; rfl
theorem Bxg {nm:String} {args:List Opd}:sop P (.inv x nm args) e H KK=Eu (evs e args) fun xs=>Ky (Al2 xs) (BvI P nm (x.ev e) xs H KK):=by
 show ((∀ y∈args,Ie (y.ev e)=false)∧_)=_
 rw [Ahp]; rfl
theorem Bqo {args:List Opd}:sop P (.callv x args) e H KK=Eu (evs e args) fun xs=>Ky (Al2 xs) (Axd P (x.ev e) xs H KK):=by
 rw [Bp7,Ahp]; rfl
end
section
variable {K:TV→Prop} {KK:TV→List Ob→Prop} {x y:TV} {cs ys:List TV} {n n' k k':Nat} {id ver off cp:Nat} {p:List (Nat×Nat)} {j:Int} {q:IntKind} {lo hi:Option TV}
theorem Boo {t:Bool}:Bkf (.val (.bool t)) x y K=vif t (K x) (K y):=by cases t<;>simp [Bkf,vif]
theorem BqJ {t:TypeId} {op:BinOp} {u v:Value}:BvW t op (.val u) (.val v) K=Ky (BnT u v=true) (EC (Jh t op u v) fun r=>Eu (TV.val r) K):=by
 show (_∧_)=_; cases Jh t op u v<;>rfl
theorem Bt3 {op:UnOp} {u:Value}:Pun op (.val u) K=EC (unV op u) fun r=>Eu (TV.val r) K:=by
 unfold Pun; simp only; cases unV op u<;>rfl
theorem Bof {k:IntKind}:Bm7 k (.val (.int q j)) K=Eu (TV.val (.int k (k.wrap j))) K:=Ap rfl
theorem Bsf {s:ByteArray}:Bv7 (.val (.string s)) K=K (.val (.string s)):=Ap rfl
theorem Bp9:Bv9 (some cs) K=Ky (∀ y∈cs,ACl y) (Eu (TV.val (.string (str (cs.map ApP)))) K):=Ap rfl
theorem Bma {ag:Bool} {sz:Nat}:ABM H ag sz (.fp y) K=Ky (Aw3 ag sz y) (K y):=Ap rfl
theorem BoL {ag:Bool} {sz:Nat}:ABM H ag sz (.op id ver p) K=EC (PM H[id]? ver) fun x=>EC (Aaj p x) fun y=>Ky (Aw3 ag sz y) (K y):=by
 unfold ABM
 simp only
 cases h:H[id]? with
 | none=>simp [PM,EC]
 | some o =>
  cases o with
  | gone v=>simp [PM,EC]
  | ice v m y=>simp [PM,EC]
  | fact i v t m=>simp [PM,EC]
  | bld v t l=>simp [PM,EC]
  | lp st pe fn N en ps ca cb=>simp [PM,EC]
  | mpo kk es=>simp [PM,EC]
  | mpd kk zs cl=>simp [PM,EC]
  | mit m sn cl=>simp [PM,EC]
  | sit s pos=>simp [PM,EC]
  | obj v x =>
   by_cases hv:v=ver
   ·subst hv; simp only [PM,EC,Ky,if_true,true_and]; cases Aaj p x<;>rfl
   ·simp [PM,EC,hv]
theorem ADX {i o:Nat}:AsY i o (.op id ver p) K=Eu (p++[(i,o)]) fun p=>K (.op id ver p):=Ap rfl
theorem AEJ {i o:Nat}:AsY i o (.fp (.agg cs)) K=Ky (Gh (cs.take i)=o) (EC cs[i]? fun y=>K (.fp y)):=by
 unfold AsY; simp only; cases cs[i]?<;>rfl
theorem BkK {ag:Bool} {sz i o:Nat}:AAx ag sz i o (.agg cs) K=Ky (Gh (cs.take i)=o) (EC cs[i]? fun y=>Ky (Aw3 ag sz y) (K y)):=by
 unfold AAx; simp only; cases cs[i]?<;>rfl
theorem Bmk:AEC k (.sl k cs) (.val (.int q j)) K=Ky (0≤j) (EC cs[j.toNat]? fun y=>K (.fp y)):=by
 unfold AEC; simp only [true_and]; cases cs[j.toNat]?<;>rfl
theorem BmX:AEC k (.os k id ver p off n cp) (.val (.int q j)) K=Ky (0≤j∧j<n) (Eu (off+j.toNat) fun m=>Eu (p++[(m,m*k)]) fun p=>K (.op id ver p)):=by
 show (k=k∧_)=_; simp [Ky,Eu,and_assoc]
theorem BjJ:Axb n k (.fp (.arr n k cs)) (.val (.int q j)) K=Ky (0≤j) (EC cs[j.toNat]? fun y=>K (.fp y)):=by
 unfold Axb; simp only [true_and]; cases cs[j.toNat]?<;>rfl
theorem BiY:Axb n k (.op id ver p) (.val (.int q j)) K=Ky (0≤j∧j<n) (Eu j.toNat fun m=>Eu (p++[(m,m*k)]) fun p=>K (.op id ver p)):=by
 show (_∧_)=_; simp [Ky,Eu,and_assoc]
theorem BrJ {ag:Bool}:BuZ ag n k (.arr n k cs) (.val (.int q j)) K=Ky (0≤j) (EC cs[j.toNat]? fun y=>Ky (Aw3 ag k y) (K y)):=by
 unfold BuZ; simp only [true_and]; cases cs[j.toNat]?<;>rfl
theorem BoZ {s:ByteArray}:Bly (.val (.string s)) (.val (.int q j)) K=Ky (0≤j) (EC (bl s)[j.toNat]? fun b=>K (by8 b)):=by
 unfold Bly; simp only; cases (bl s)[j.toNat]?<;>rfl
theorem Brj {i:Nat}:Bun i (.tup cs) K=EC cs[i]? K:=by
 unfold Bun; simp only; cases cs[i]?<;>rfl
theorem Bnb {s:ByteArray}:Bme (.val (.string s)) K=Eu (TV.val (.int .i64 (bl s).length)) K:=Ap rfl
theorem Boe:AEc (.sl k cs) K=Eu (TV.val (.int .i64 cs.length)) K:=Ap rfl
theorem BlQ:AEc (.os k id ver p off n cp) K=K (.val (.int .i64 n)):=Ap rfl
theorem Bj4 {ad:Option Addr} {c:Nat}:AEc (.val (.slice ad n c)) K=K (.val (.int .i64 n)):=Ap rfl
section
variable {len lim:Nat} {KN:Nat→Nat→Prop} {l h:Int} {q2:IntKind}
theorem Bqh:Ax5 none none len lim KN=Ky (len≤lim) (KN 0 len):=by
 show ((0≤(0:Int)∧(0:Int)≤(len:Int)∧(len:Int)≤lim)∧KN (Int.toNat 0) (Int.toNat len))=_
 simp [Ky]
theorem Bse:Ax5 (some (.val (.int q l))) none len lim KN=Ky (0≤l∧l≤len∧(len:Int)≤lim) (Eu l.toNat fun l=>KN l len):=by
 show ((0≤l∧l≤(len:Int)∧(len:Int)≤lim)∧KN l.toNat (Int.toNat len))=_
 simp [Ky,Eu]
theorem Br0:Ax5 none (some (.val (.int q h))) len lim KN=Ky (0≤h∧h≤lim) (Eu h.toNat fun h=>KN 0 h):=by
 show ((0≤(0:Int)∧0≤h∧h≤lim)∧KN (Int.toNat 0) h.toNat)=_
 simp [Ky,Eu]
theorem Bp0:Ax5 (some (.val (.int q l))) (some (.val (.int q2 h))) len lim KN=Ky (0≤l∧l≤h∧h≤lim) (Eu l.toNat fun l=>Eu h.toNat fun h=>KN l h):=Ap rfl
end
theorem BpY {s:ByteArray}:Bwe (.val (.string s)) lo hi K=Ax5 lo hi (bl s).length (bl s).length fun l h=>Eu (((bl s).drop l).take (h - l)) fun r=>K (.val (.string (str r))):=Ap rfl
theorem BqS:BsL k (.sl k cs) lo hi K=Ax5 lo hi cs.length cs.length fun l h=>Eu ((cs.drop l).take (h - l)) fun r=>K (.sl k r):=by
 exact propext ⟨fun h=>h.2,fun h=>⟨rfl,h⟩⟩
theorem Bqt:BsL k (.os k id ver p off n cp) lo hi K=Ax5 lo hi n cp fun l h=>Eu (off+l) fun o=>Eu (h - l) fun m=>Eu (cp - l) fun c=>K (.os k id ver p o m c):=by
 exact propext ⟨fun h=>h.2,fun h=>⟨rfl,h⟩⟩
theorem Bpc {ad:Option Addr}:BsL k (.val (.slice ad 0 0)) lo hi K=Ax5 lo hi 0 0 fun l h=>K (.val (.slice ad 0 0)):=Ap rfl
theorem Bqn:BsH H n k (.fp (.arr n k cs)) lo hi K=Ky (n≤9223372036854775807) (Ax5 lo hi n n fun l h=>Eu ((cs.drop l).take (h - l)) fun r=>K (.sl k r)):=by
 exact propext ⟨fun h=>⟨h.2.2.1,h.2.2.2⟩,fun h=>⟨rfl,rfl,h.1,h.2⟩⟩
def AAK:Option TV→Nat→Nat→Option (List TV)
 | some (.arr n' k' cs),n,k=>if n'=n∧k'=k then some cs else none
 | _,_,_=>none
theorem BnJ:AAK (some (.arr n k cs)) n k=some cs:=by simp [AAK]
theorem BpW:BsH H n k (.op id ver p) lo hi K=EC (PM H[id]? ver) fun x=>Ky (n≤9223372036854775807) (EC (AAK (Aaj p x) n k) fun _=>Ax5 lo hi n n fun l h=>Eu (h - l) fun m=>Eu (n - l) fun c=>K (.os k id ver p l m c)):=by
 unfold BsH
 simp only
 cases h:H[id]? with
 | none=>simp [PM,EC]
 | some o =>
  cases o with
  | gone v=>simp [PM,EC]
  | ice v m y=>simp [PM,EC]
  | fact i v t m=>simp [PM,EC]
  | bld v t l=>simp [PM,EC]
  | lp st pe fn N en ps ca cb=>simp [PM,EC]
  | mpo kk es=>simp [PM,EC]
  | mpd kk zs cl=>simp [PM,EC]
  | mit m sn cl=>simp [PM,EC]
  | sit s pos=>simp [PM,EC]
  | obj v x =>
   by_cases hv:v=ver
   ·simp only [PM,EC,hv,Ky,Eu,if_true,true_and]
    congr 1
    cases hg:Aaj p x with
    | none=>simp [AAK]
    | some y =>
     cases y with
     | arr n2 k2 ds =>
      by_cases h1:n2=n
      ·by_cases h2:k2=k
       ·simp [AAK,h1,h2]; exact Iff.rfl
       ·simp [AAK,h1,h2]
      ·simp [AAK,h1]
     | _=>simp [AAK]
   ·simp [PM,EC,hv]
theorem BlG {t:TypeId}:ADr t x K=Ky (lays x=true) (K (.ifc t x)):=Ap rfl
theorem BrE {f:Fn}:Bs8 f cs ys K=Ky (Al2 (cs++ys)) (K (.fn f cs ys)):=Ap rfl
theorem Bm3:Azf (.op id ver p) K=K (.op id ver p):=Ap rfl
theorem Bo5:Azf (.fp y) K=K (.fp y):=Ap rfl
theorem Bnz {f:FuncId} {a b:List TV}:Azf (.fn (.func f) a b) K=K (.fn (.func f) a b):=Ap rfl
theorem Bju {t:TypeId}:Azf (.ifc t y) K=K (.ifc t y):=Ap rfl
theorem AEb {f:FuncId} {a b:Array Value}:Azf (.val (.func (.func f) a b)) K=K (.val (.func (.func f) a b)):=Ap rfl
section
variable {a b:Int} {q2:IntKind}
theorem Bsq:Bv5 (.val (.int q a)) (.val (.int q2 b)) K=vif (decide (b<a)) (K (.val (.int q b))) (K (.val (.int q a))):=by
 show K _=_
 by_cases h:b<a<;>simp [vif,h]
theorem BpU:Bv6 (.val (.int q a)) (.val (.int q2 b)) K=vif (decide (a<b)) (K (.val (.int q b))) (K (.val (.int q a))):=by
 show K _=_
 by_cases h:a<b<;>simp [vif,h]
theorem Boh {q1 q2 q3:IntKind} {l h m:Int}:AvU (.sl3 k) H [.sl k cs,.val (.int q1 l),.val (.int q2 h),.val (.int q3 m)] K=Ky (0≤l∧l≤h∧h≤m∧m≤cs.length) (Eu ((cs.drop l.toNat).take (h.toNat - l.toNat)) fun r=>K (.sl k r)):=by
 unfold AvU gev Ky Eu
 simp only [true_and]
 by_cases hc:0≤l∧l≤h∧h≤m∧m≤cs.length
 ·rw [if_pos hc]; simp [hc]
 ·rw [if_neg hc]; simp only [hc,false_and]
theorem Bn4 {sh:List EL} {b:Bool} {xs ys:List TV}:AvU (.eqR sh b) H [.agg xs,.agg ys] K=EC (AxR sh xs ys) fun r=>Eu (TV.val (.bool (xor b r))) K:=by
 have hg:gev (.eqR sh b) H [.agg xs,.agg ys]=(AxR sh xs ys).map fun r => .val (.bool (xor b r)):=by unfold gev; rfl
 unfold AvU EC Eu
 rw [hg]
 cases AxR sh xs ys<;>rfl
theorem BmR:AxR [] [] []=some true:=Ap rfl
theorem Bvn {l:List EL} {k:IntKind} {a b:Int} {xs ys:List TV}:AxR (.i::l) (.val (.int k a)::xs) (.val (.int k b)::ys)=(AxR l xs ys).map fun r=>(a == b) && r:=by rw [AxR,if_pos rfl]
theorem Bvy {l:List EL} {a b:ByteArray} {xs ys:List TV}:AxR (.s::l) (.val (.string a)::xs) (.val (.string b)::ys)=(AxR l xs ys).map fun r=>(a == b) && r:=Ap rfl
theorem Bu8 {l:List EL} {n:Nat} {a b:List UInt8} {xs ys:List TV}:AxR (.b n::l) (.arr n 1 (a.map by8)::xs) (.arr n 1 (b.map by8)::ys)=(AxR l xs ys).map fun r=>(a == b) && r:=by
 rw [AxR]
 simp only [Aro,AgL,and_self,if_true]
theorem Bn7 {n:Nat} {b:Bool} {xs ys:List UInt8}:AvU (.eqA n b) H [.arr n 1 (xs.map by8),.arr n 1 (ys.map by8)] K=Eu (TV.val (.bool (xor b (xs == ys)))) K:=by
 unfold AvU gev Eu
 simp only [Aro,AgL,and_self,if_true]
theorem BmO {q:IntKind} {n:Int}:AvU .r2s H [.val (.int q n)] K=Eu (TV.val (.string (Utf8.encode n))) K:=Ap rfl
theorem BnO {t t':TypeId}:AvU (.tas t) H [.ifc t' x] K=Ky (t'=t) (K x):=by
 unfold AvU gev Ky
 by_cases h:t'=t<;>simp [h]
theorem Bjj {a:Option Addr} {l n:Nat}:AvU .capV H [.val (.slice a l n)] K=Eu (TV.val (.int .i64 (n:Int))) K:=Ap rfl
theorem BoW {n:Nat}:AvU (.s2a n k) H [.sl k cs] K=Ky (0<n∧n≤cs.length) (Eu (cs.take n) fun r=>K (.fp (.arr n k r))):=by
 unfold AvU gev Ky Eu
 simp only [true_and]
 by_cases hc:0<n∧n≤cs.length
 ·rw [if_pos hc]; simp [hc]
 ·rw [if_neg hc]; simp only [hc,false_and]
theorem BtA {s t:Bool}:BsY false (.val (.bool s)) (.val (.bool t)) K=Eu (TV.val (.bool (s == t))) K:=by
 show K _=_; simp [Eu]
theorem BuH {s t:Bool}:BsY true (.val (.bool s)) (.val (.bool t)) K=Eu (TV.val (.bool (!(s == t)))) K:=by
 show K _=_; simp [Eu]
theorem Bux {m b:Bool}:Bui m (some true) (some b) K=Eu (TV.val (.bool (xor m b))) K:=Ap rfl
theorem Btt {m:Bool}:Bui m (some false) (some true) K=Eu (TV.val (.bool (xor m false))) K:=Ap rfl
end
theorem Bmi {kk:MK} {m:Nat} {kx v:TV}:BjO kk (.mp m 0) kx v H KK=EC (Auq kk H[m]?) fun es=>EC (FV kk kx) fun kb=>Ky (lays v=true) (Eu (AiA kb v es) fun es'=>Eu (H.set m (.mpo kk es')) fun H'=>KK .any H'):=by
 unfold BjO
 cases hh:H[m]? with
 | none=>cases FV kk kx<;>simp [hh,Auq,EC]
 | some o =>
  cases o with
  | mpo kk' es =>
   by_cases hk:kk'=kk
   ·subst hk; cases FV kk' kx<;>simp [hh,Auq,EC,Ky,Eu]
   ·cases FV kk kx<;>simp [hh,Auq,EC,hk]
  | _=>cases FV kk kx<;>simp [hh,Auq,EC]
theorem Bng {kk:MK} {m:Nat} {kx z:TV}:Blj kk z (.mp m 0) kx H KK=EC (Auq kk H[m]?) fun es=>EC (FV kk kx) fun kb=>Eu ((AjB kb es).getD z) fun y=>Eu (Ar5 kb es) fun p=>Eu (AiA kb y es) fun es'=>Eu (H.set m (.mpo kk es')) fun H'=>KK (.tup [y,.val (.int .i64 (p:Int))]) H':=by
 unfold Blj
 cases hh:H[m]? with
 | none=>cases FV kk kx<;>simp [hh,Auq,EC]
 | some o =>
  cases o with
  | mpo kk' es =>
   by_cases hk:kk'=kk
   ·subst hk; cases FV kk' kx<;>simp [hh,Auq,EC,Eu]
   ·cases FV kk kx<;>simp [hh,Auq,EC,hk]
  | _=>cases FV kk kx<;>simp [hh,Auq,EC]
def Axp:Option Ob→Option (MK×List (List UInt8×TV))
 | some (.mpo kk es)=>some (kk,es)
 | _=>none
theorem BjV {kk:MK} {es:List (List UInt8×TV)}:Axp (some (.mpo kk es))=some (kk,es):=by simp [Axp]
theorem Bmq {m j:Nat} {q:IntKind} {v:TV}:Bk4 (.mp m 0) (.val (.int q (j:Int))) v H KK=EC (Axp H[m]?) fun p=>Ky (lays v=true) (EC p.2[j]? fun y=>Eu (p.2.set j (y.1,v)) fun es'=>Eu (H.set m (.mpo p.1 es')) fun H'=>KK .any H'):=by
 unfold Bk4
 cases hh:H[m]? with
 | none=>simp [hh,Axp,EC]
 | some o =>
  cases o with
  | mpo kk' es =>
   simp only [hh,Axp,EC,Ky,Eu,Int.natCast_nonneg,true_and,Int.toNat_natCast]
   cases es[j]?<;>simp
  | _=>simp [hh,Axp,EC]
theorem Bke {kk:MK} {z kx:TV} {ok:Bool} {m:Nat}:AvU (.look kk z ok) H [.mp m 0,kx] K=EC (AvY kk H[m]?) fun es=>EC (FV kk kx) fun kb=>Eu (Auu z ok (AjB kb es)) K:=by
 unfold AvU gev Ayv
 cases hh:H[m]? with
 | none=>cases hb:FV kk kx<;>simp [hh,hb,AvY,EC]
 | some o =>
  cases o with
  | mpo kk' es =>
   by_cases hk:kk'=kk
   ·subst hk; cases hb:FV kk' kx<;>simp [hh,hb,AvY,EC,Eu]
   ·cases hb:FV kk kx<;>simp [hh,hb,AvY,EC,hk]
  | mpd kk' zs cl =>
   by_cases hk:kk'=kk
   ·subst hk; cases hb:FV kk' kx<;>simp [hh,hb,AvY,EC,Eu]
   ·cases hb:FV kk kx<;>simp [hh,hb,AvY,EC,hk]
  | _=>cases hb:FV kk kx<;>simp [hh,hb,AvY,EC]
theorem AEK {kk:MK} {z kx:TV} {ok:Bool}:AvU (.look kk z ok) H [.val (.map none),kx] K=EC (FV kk kx) fun kb=>Eu (Auu z ok none) K:=by
 unfold AvU gev Ayv
 cases hb:FV kk kx<;>simp [hb,EC,Eu]
theorem BiV {m:Nat}:AvU .lenM H [.mp m 0] K=EC (ABR H[m]?) fun p=>Eu p.length fun n=>Eu (TV.val (.int .i64 (n:Int))) K:=by
 unfold AvU gev BnG
 cases hh:H[m]? with
 | none=>simp [hh,ABR,EC]
 | some o=>cases o<;>simp [hh,ABR,EC,Eu]
theorem Bll {id:Nat}:AvU .entM H [.op id 0 []] K=EC (Aye H[id]?) fun p=>EC (stO H[p.1]?) fun q=>EC (BuD p q) K:=by
 unfold AvU gev BvX
 cases hh:H[id]? with
 | none=>simp [hh,Aye,EC]
 | some o =>
  cases o with
  | mit m sn cl =>
   simp only [hh,Aye,EC,BuD]
   cases h2:stO H[m]? with
   | none=>simp
   | some q =>
    obtain ⟨kk,zs,cl'⟩:=q
    cases h3:sn.getLast? with
    | none=>simp
    | some s =>
     by_cases hc:cl'=cl
     ·subst hc; cases hf:zs.find? (·.1 == s)<;>simp [hf]
     ·simp [hc]
  | _=>simp [hh,Aye,EC]
theorem BlK {sz:Nat}:Azb H sz (.op id ver p) y KK=Ky (lays y=true∧CG y=sz) (EC (PM H[id]? ver) fun z=>EC (setP p z y) fun z'=>Eu (H.set id (.obj ver z')) fun H'=>KK .any H'):=by
 unfold Azb
 simp only [Ky]
 congr 1
 cases h:H[id]? with
 | none=>simp [PM,EC]
 | some o =>
  cases o with
  | gone v=>simp [PM,EC]
  | ice v m y=>simp [PM,EC]
  | fact i v t m=>simp [PM,EC]
  | bld v t l=>simp [PM,EC]
  | lp st pe fn N en ps ca cb=>simp [PM,EC]
  | mpo kk es=>simp [PM,EC]
  | mpd kk zs cl=>simp [PM,EC]
  | mit m sn cl=>simp [PM,EC]
  | sit s pos=>simp [PM,EC]
  | obj v x =>
   by_cases hv:v=ver
   ·subst hv; simp only [PM,EC,Eu,if_true,true_and]; cases setP p x y<;>rfl
   ·simp [PM,EC,hv]
theorem Bp5 {z:TV} {l c:Int} {q2:IntKind} {bytes:Nat}:Bwd H k bytes z (.val (.int q l)) (.val (.int q2 c)) KK=Ky (0≤l∧l≤c∧(bytes:Int)*c≤281474976710656∧c≤9223372036854775807) (Eu l.toNat fun l=>Eu c.toNat fun c=>Eu H.length fun m=>Eu (H++[.obj 0 (.arr c k (List.replicate c z))]) fun H'=>KK (.os k m 0 [] 0 l c) H'):=Ap rfl
theorem Bow {bytes:Nat} {et:TypeId}:BpP k bytes et (.val (.slice none 0 0)) (some ys) H KK=Ky (ys.length*bytes≤140737488355328∧ys.length≤9223372036854775807) (Eu ys.length fun n=>Eu H.length fun m=>Eu (H++[.obj 1 (.arr n k ys)]) fun H'=>KK (.os k m 1 [] 0 n n) H'):=Ap rfl
def AA6:Option TV→Nat→Option (List TV)
 | some (.arr _ k' cs),k=>if k'=k then some cs else none
 | _,_=>none
theorem BoX:AA6 (some (.arr n k cs)) k=some cs:=by simp [AA6]
theorem BmC {v n2:Nat} {et:TypeId}:Bo2 (some (.obj v (.arr n2 k cs))) v k et off n ys=some (.obj (v+1) (.arr (n+ys.length) k ((cs.drop off).take n++ys))):=by simp [Bo2]
theorem ACN {v:Nat} {et:TypeId} {l m:List UInt8}:Bo2 (some (.bld v et l)) v 1 et 0 n (m.map by8)=some (.bld (v+1) et (l.take n++m)):=by
 simp only [Bo2,Aro,AgL,and_self,if_true]
theorem Blc {v:Nat} {et:TypeId} {l:List UInt8} {b:UInt8}:Bo2 (some (.bld v et l)) v 1 et 0 n [by8 b]=some (.bld (v+1) et (l.take n++[b])):=ACN (m:=[b])
theorem Bmn {v n2:Nat}:BsF (some (.obj v (.arr n2 k cs)))=cs.length:=by simp [BsF]
theorem BnB {v:Nat} {et:TypeId} {l:List UInt8}:BsF (some (.bld v et l))=l.length:=by simp [BsF]
theorem BrN {bytes:Nat} {et:TypeId}:BpP k bytes et (.os k id ver [] off n cp) (some ys) H KK=EC (Bo2 H[id]? ver k et off n ys) fun o=>Ky (off+n≤BsF H[id]?∧(n+ys.length)*bytes≤140737488355328∧n+ys.length≤9223372036854775807)
   (Eu (n+ys.length) fun m=>Eu (H.set id o) fun H'=>KK (.os k id (ver+1) [] 0 m m) H'):=by
 unfold BpP AAj
 simp only [true_and]
 cases h:Bo2 H[id]? ver k et off n ys with
 | none=>simp [EC]
 | some o=>simp [EC,Ky,Eu]
theorem BnZ {s:ByteArray} {et:TypeId}:Bn3 et x (.val (.string s)) H KK=Eu ((bl s).map by8) fun ys=>BpP 1 1 et x (some ys) H KK:=Ap rfl
def ByD:Option TV→Option Nat
 | some (.arr n _ _)=>some n
 | _=>none
theorem BqW:ByD (some (.arr n k cs))=some n:=Ap rfl
theorem Bm9:ABN k (.os k id ver p off n cp) (some ys) H KK=EC (PM H[id]? ver) fun z=>EC (AA6 (Aaj p z) k) fun cs=>EC (ByD (Aaj p z)) fun N=>Ky (off+n≤cs.length) (EC (setP p z (.arr N k (cs.take off++(ys.take n++cs.drop (off+min ys.length n))))) fun z' =>
  Eu (H.set id (.obj ver z')) fun H'=>Eu (TV.val (.int .i64 (min ys.length n:Nat))) fun r=>KK r H'):=by
 unfold ABN Am8
 simp only [true_and]
 cases h:H[id]? with
 | none=>simp [PM,EC]
 | some o =>
  cases o with
  | gone v=>simp [PM,EC]
  | ice v m y=>simp [PM,EC]
  | fact i v t m=>simp [PM,EC]
  | bld v t l=>simp [PM,EC]
  | lp st pe fn N en ps ca cb=>simp [PM,EC]
  | mpo kk es=>simp [PM,EC]
  | mpd kk zs cl=>simp [PM,EC]
  | mit m sn cl=>simp [PM,EC]
  | sit s pos=>simp [PM,EC]
  | obj v x =>
   by_cases hv:v=ver
   ·simp only [PM,EC,hv,if_true,true_and]
    cases hg:Aaj p x with
    | none=>simp [AA6]
    | some y =>
     cases y with
     | arr n2 k2 ds =>
      by_cases h1:k2=k
      ·subst h1; simp only [AA6,ByD,Ky,Eu,if_true,true_and]; refine congrArg (_ ∧ ·) ?_; cases setP p x (.arr n2 k2 (ds.take off++(ys.take n++ds.drop (off+min ys.length n))))<;>rfl
      ·simp [AA6,h1]
     | _=>simp [AA6]
   ·simp [PM,EC,hv]
theorem Bjm {s:ByteArray}:ADw x (.val (.string s)) H KK=Eu ((bl s).map by8) fun ys=>ABN 1 x (some ys) H KK:=Ap rfl
theorem Bnt {f:FuncId} {j v:Nat} {l:List UInt8}:Bmg P f (some (j,v,l)) H KK=Ky (Bxl P f) (Ky (l.length≤9223372036854775807) (Eu (H.set j (.gone v)) fun H'=>KK (.val (.string (str l))) H')):=Ap rfl
def Buv (o:Option Ob) (j v n:Nat) (a:TV):Option (Nat×Nat×List UInt8):=match o with
 | some (.bld v3 t l)=>if v3=v∧t=Azw∧n=l.length∧CG a=1 then some (j,v,l) else none
 | _=>none
def Bmz (H:List Ob) (j v n:Nat) (a:TV):Option (Nat×Nat×List UInt8):=Buv H[j]? j v n a
def AEB (H:List Ob) (q:Option TV):Option (Nat×Nat×List UInt8):=match q with
 | some (.agg [a,.os 1 j v2 [] 0 n cp])=>Bmz H j v2 n a
 | _=>none
theorem BmU {id ver:Nat} {p:List (Nat×Nat)}:AET H (.op id ver p)=AEB H ((PM H[id]? ver).bind (Aaj p)):=by
 unfold AET
 simp only []
 cases h:H[id]? with
 | none=>simp [PM,AEB]
 | some o =>
  cases o with
  | obj v y =>
   by_cases hv:v=ver
   ·simp only [PM,hv,if_true,Option.bind_some]
    unfold AEB Bmz Buv
    rfl
   ·simp [PM,AEB,hv]
  | _=>simp [PM,AEB]
theorem BoO {a:TV} {j v n cp:Nat}:AEB H (some (.agg [a,.os 1 j v [] 0 n cp]))=Bmz H j v n a:=Ap rfl
theorem Bnc {a:TV} {j v n:Nat}:Bmz H j v n a=Buv H[j]? j v n a:=Ap rfl
theorem Bqu {a:TV} {j v n:Nat} {l:List UInt8} (hn:n=l.length) (ha:CG a=1):Buv (some (.bld v 5 l)) j v n a=some (j,v,l):=by
 simp [Buv,hn,ha,Azw]
theorem BrO {s:ByteArray}:BvV H (.val (.string s)) KK=Ky ((bl s).length≤9223372036854775807) (Eu (bl s).length fun n=>Eu ((bl s).map by8) fun r=>Eu H.length fun m=>Eu (H++[.obj 0 (.arr n 1 r)]) fun H'=>KK (.os 1 m 0 [] 0 n n) H'):=Ap rfl
theorem BoK {z:TV} {j:Int} {bytes:Nat}:Bo7 k bytes z (.val (.slice none 0 0)) (.val (.int .i64 j)) H KK=Ky (0≤j∧(bytes:Int)*j≤140737488355328∧j≤9223372036854775807) (Eu j.toNat fun n=>Eu H.length fun m=>Eu (H++[.obj 0 (.arr n k (List.replicate n z))]) fun H'=>KK (.os k m 0 [] 0 n n) H'):=Ap rfl
theorem BoI {n:Bool} {a:Option Addr} {l c:Nat}:Bpi n (.val (.slice a l c)) H KK=KK (.val (.bool (xor n a.isNone))) H:=Ap rfl
theorem BqZ {n:Bool}:Bpi n (.sl k cs) H KK=vif (decide (cs.length=0)) (AD5 H KK) (KK (.val (.bool n)) H):=by
 unfold Bpi vif AD5
 by_cases h:cs=[]
 ·subst h; simp
 ·have h2:¬ cs.length=0:=fun e=>h (List.length_eq_zero_iff.1 e)
  simp [h,h2]
theorem BrX {n:Bool} {m off l cp:Nat} {p:List (Nat×Nat)}:Bpi n (.os k m ver p off l cp) H KK=vif (decide (l=0)) (AD5 H KK) (KK (.val (.bool n)) H):=by
 unfold Bpi vif AD5
 by_cases h:l=0
 ·subst h; simp
 ·simp [h]
theorem Bi4 {f:FuncId} {a b:List TV}:Axd P (.fn (.func f) a b) cs H KK=Ky (Auh P f=true) (Eu (a++cs++b) fun xs=>VC P f xs H KK):=Ap rfl
theorem AEX {f:FuncId}:Axd P (.val (.func (.func f) #[] #[])) cs H KK=Ky (Auh P f=true) (VC P f cs H KK):=by
 exact propext ⟨fun h=>⟨h.2.1,h.2.2⟩,fun h=>⟨rfl,h.1,h.2⟩⟩
theorem Bkn:Axd P (.yl id ver) cs H KK=VY P id ver cs H KK:=Ap rfl
theorem BrD {nm:String} {t:TypeId}:BvI P nm (.ifc t x) cs H KK=BsP P (BmB P t nm) x cs H KK:=by
 unfold BvI Bv0 BsP
 show (match BmB P t nm with | some (f,none)=>_ | some (f,some (ag,sz))=>_ | none=>False)=_
 rcases BmB P t nm with _ | ⟨f,_ | ⟨ag,sz⟩⟩<;>rfl
theorem Buk {f:FuncId}:BsP P (some (f,none)) x cs H KK=Ky (Auh P f=true) (Eu (x::cs) fun xs=>VC P f xs H KK):=Ap rfl
theorem Bs4 {f:FuncId} {ag:Bool} {sz:Nat}:BsP P (some (f,some (ag,sz))) x cs H KK=Ky (Auh P f=true) (ABM H ag sz x fun y=>Eu (y::cs) fun xs=>VC P f xs H KK):=Ap rfl
theorem BwB {t:Bool} {A B:Prop}:Gd (some t) true A B=vif t A B:=Ap rfl
theorem Bx2 {t:Bool} {A B:Prop}:Gd (some t) false A B=vif t B A:=by cases t<;>simp [Gd,vif]
theorem Bzg {b:Bool} {A B:Prop}:Gd none b A B=B:=Ap rfl
end
section
variable {Q:VEx→Env→List Ob→Prop} {l:List VO} {kp:List Nat} {a b:AP}
def BoN (x:TV) (A B:Prop) [Tg A] [Tg B]:Prop:=match x with
  | .val (.bool t)=>if t=true then A else B
  | _=>False
@[congr] theorem BxQ {x x':TV} {A B:Prop} (h:x=x'):BoN x A B=BoN x' A B:=by rw [h]
theorem BmZ {t:Bool} {A B:Prop}:BoN (.val (.bool t)) A B=vif t A B:=Ap rfl
theorem Bwt:vwp P (.ops l kp) Q e H=Aup P l (fun e H=>Eu (forget kp e) fun e=>Q .nor e H) e H:=Ap rfl
def ABD (zs:List Nat) (e:Env) (H:List Ob) (K:Env→List Ob→Prop) [Tg K]:Prop:=BqF zs K e H
@[congr] theorem Bwi {zs:List Nat} {e e':Env} {H H':List Ob} {K:Env→List Ob→Prop} (h1:e=e') (h2:H=H'):ABD zs e H K=ABD zs e' H' K:=by rw [h1,h2]
theorem BxP {K:Env→List Ob→Prop}:ABD [] e H K=K e H:=Ap rfl
theorem Blu {s k id ver off n cp m:Nat} {zs:List Nat} {xs:List TV} {K:Env→List Ob→Prop} (hg:get e s = .os k id ver [] off n cp) (ho:H[id]?=some (.obj ver (.arr m k xs))) (hn:off+n≤xs.length) (h:ABD zs ((s,.sl k ((xs.drop off).take n))::e) (H.set id (.gone ver)) K):ABD (s::zs) e H K:=by
 unfold ABD at h ⊢
 rw [BqF,hg]
 simp only [ho]
 refine ⟨trivial,?_⟩
 have:Ll [] k off n (.arr m k xs)=some ((xs.drop off).take n):=by unfold Ll; simp [Aaj,hn]
 rw [this]; exact h
theorem Buc {l r:List VO} {zs kp:List Nat}:vwp P (.opsZ l zs r kp) Q e H=Aup P l (fun e H=>ABD zs e H fun e H=>Aup P r (fun e H=>Eu (forget kp e) fun e=>Q .nor e H) e H) e H:=Ap rfl
theorem BvD {n:Nat}:vwp P (.draw n l kp) Q e H=(vq P (l.take n) (fun e=>Aup P (l.drop n) (fun e H=>Eu (forget kp e) fun e=>Q .nor e H) e H) e H):=Ap rfl
def Thn (P:Program) (b:AP) (Q:VEx→Env→List Ob→Prop):VEx→Env→List Ob→Prop:=fun x e H=>match x with | .nor=>vwp P b Q e H | .exit i=>Q (.exit i) e H | .ret=>Q .ret e H | .pan u=>Q (.pan u) e H
theorem Bsj:Thn P b Q .nor e H=vwp P b Q e H:=Ap rfl
theorem Bn9 {i:Nat}:Thn P b Q (.exit i) e H=Q (.exit i) e H:=Ap rfl
theorem BrL:Thn P b Q .ret e H=Q .ret e H:=Ap rfl
theorem BwR:vwp P (.seq a b) Q e H=vwp P a (Thn P b Q) e H:=Ap rfl
def Blk (id:Nat) (Q:VEx→Env→List Ob→Prop):VEx→Env→List Ob→Prop:=fun x e H=>match x with | .nor=>Q .nor e H | .exit i=>if i=id then Q .nor e H else Q (.exit i) e H | .ret=>Q .ret e H | .pan u=>Q (.pan u) e H
theorem BqD {id:Nat}:Blk id Q .nor e H=Q .nor e H:=Ap rfl
theorem BnH {id:Nat}:Blk id Q (.exit id) e H=Q .nor e H:=by simp [Blk]
theorem AB7 {id i:Nat} (h:i≠id):Blk id Q (.exit i) e H=Q (.exit i) e H:=by simp [Blk,h]
theorem BpT {id:Nat}:Blk id Q .ret e H=Q .ret e H:=Ap rfl
theorem Bqv {id:Nat}:vwp P (.block id a) Q e H=vwp P a (Blk id Q) e H:=Ap rfl
theorem Bvx {c:Opd}:vwp P (.cond c a b) Q e H=BoN (c.ev e) (vwp P a Q e H) (vwp P b Q e H):=Ap rfl
def Rnd (n0:Nat) (lv:List Nat) (Q:VEx→Env→List Ob→Prop) (I:Nat→Env→List Ob→Prop) (n:Nat):VEx→Env→List Ob→Prop:=fun x e H=>match x with
 | .nor=>∃ m g,m<n∧(n0≤g∧(H.length≤g∨(Att g (forget lv e)=true∧AqO g (H.take g)=true)))∧I m (forget lv e) (H.take g)
 | .exit i=>Q (.exit i) e H | .ret=>Q .ret e H | .pan u=>Q (.pan u) e H
section
variable {n0:Nat} {lv:List Nat} {I:Nat→Env→List Ob→Prop} {n:Nat}
theorem BoD {i:Nat}:Rnd n0 lv Q I n (.exit i) e H=Q (.exit i) e H:=Ap rfl
theorem Bri:Rnd n0 lv Q I n .ret e H=Q .ret e H:=Ap rfl
theorem BQ (m:Nat) (hm:m<n) (h:n0≤H.length) (hR:I m (forget lv e) H):Rnd n0 lv Q I n .nor e H:=by
 refine ⟨m,H.length,hm,⟨h,.inl (Nat.le_refl _)⟩,?_⟩
 rw [List.take_length]; exact hR
theorem BkL (m g:Nat) (hm:m<n) (h:n0≤g) (he:Att g (forget lv e)=true) (hH:AqO g (H.take g)=true) (hR:I m (forget lv e) (H.take g)):Rnd n0 lv Q I n .nor e H :=
 ⟨m,g,hm,⟨h,.inr ⟨he,hH⟩⟩,hR⟩
end
theorem FU {lv:List Nat} {H0:List Ob} (I:Nat→Env→List Ob→Prop) (n:Nat) (h0:I n (forget lv e) H0)
  (hs:∀ n e H,I n e H→vwp P a (Rnd H0.length lv Q I n) e H):vwp P (.loop lv a) Q e H0:=by
 rw [Btj]
 exact ⟨I,n,h0,hs⟩
theorem o_g {d s:Nat} {o:VOp} {b:Bool} {r:List VO} {K:Env→List Ob→Prop}:Aup P (⟨some d,o,some (s,b)⟩::r) K e H=AwT e s fun e q=>Gd q b (vop P o e H (fun x H=>Aup P r K ((d,x)::e) H)) (Aup P r K ((d,.val undef)::e) H):=by
 rw [BsZ]; refine congrArg (AwT e s) ?_; funext e q; cases q<;>rfl
def Blm (x:TV) (e:Env) (s:Nat) (Q:Env→Option Bool→Prop) [Tg Q]:Prop:=match x with
 | .val v=>Q e (isB v)
 | .any=>(∀ t,Q ((s,.val (.bool t))::e) (some t))∧∀ v,isB v=none→Q ((s,.val v)::e) none
 | _=>False
@[congr] theorem Bxj {x x':TV} {s:Nat} {Q:Env→Option Bool→Prop} (h:x=x'):Blm x e s Q=Blm x' e s Q:=by rw [h]
theorem Bt9 {s:Nat} {Q:Env→Option Bool→Prop}:AwT e s Q=Blm (get e s) e s Q:=Ap rfl
theorem Bp4 {b:Bool} {s:Nat} {Q:Env→Option Bool→Prop}:Blm (.val (.bool b)) e s Q=Q e (some b):=Ap rfl
theorem Bss {s:Nat} {Q:Env→Option Bool→Prop}:Blm (.val undef) e s Q=Q e none:=Ap rfl
theorem u_c {d:Nat} {f:FuncId} {args:List Opd} {r:List VO} {K:Env→Prop}:vq P (⟨some d,.s (.call f args),none⟩::r) K e H=Eu (evs e args) fun xs=>Ky (Al2 xs) (vex fun x=>VC P f xs H (fun y H'=>y=x∧H'=H)∧vq P r K ((d,x)::e) H):=by
 rw [Bzl,Ahp]; rfl
def Gq (x:TV) (b:Bool) (A B:Prop) [Tg A] [Tg B]:Prop:=match x with
 | .val v=>if isB v=some b then A else B
 | _=>False
@[congr] theorem BzG {x x':TV} {b:Bool} {A B:Prop} (h:x=x'):Gq x b A B=Gq x' b A B:=by rw [h]
theorem Bzm {t:Bool} {A B:Prop}:Gq (.val (.bool t)) true A B=vif t A B:=by cases t<;>simp [Gq,vif,isB]
theorem BzE {b:Bool} {A B:Prop}:Gq (.val undef) b A B=B:=by simp [Gq,isB,undef]
theorem BzD {t:Bool} {A B:Prop}:Gq (.val (.bool t)) false A B=vif t B A:=by cases t<;>simp [Gq,vif,isB]
theorem u_g {d s:Nat} {o:VOp} {b:Bool} {r:List VO} {K:Env→Prop}:vq P (⟨some d,o,some (s,b)⟩::r) K e H=Gq (get e s) b (quiet P o e H fun x=>vq P r K ((d,x)::e) H) (vq P r K ((d,.val undef)::e) H):=Ap rfl
theorem Bzr {f:FuncId} {args:List Opd} {k:TV→Prop}:quiet P (.s (.call f args)) e H k=Eu (evs e args) fun xs=>Ky (Al2 xs) (vex fun x=>VC P f xs H (fun y H'=>y=x∧H'=H)∧k x):=by
 rw [Bqw,Ahp]; rfl
def BvC (P:Program) (x:TV) (s k:Nat) (c:AP) (Q:VEx→Env→List Ob→Prop) (e:Env) (H:List Ob):Prop:=match x with
  | .val (.slice none 0 0)=>vwp P c Q ((s,.os k H.length 0 [] 0 0 0)::e) (H++[.obj 0 (.arr 0 k [])])
  | _=>vwp P c Q e H
@[congr] theorem Bza {x x':TV} {s k:Nat} (h:x=x'):BvC P x s k a Q e H=BvC P x' s k a Q e H:=by rw [h]
theorem Bx8 {s k:Nat}:vwp P (.own s k a) Q e H=BvC P (get e s) s k a Q e H:=Ap rfl
theorem BnR {s k:Nat}:BvC P (.val (.slice none 0 0)) s k a Q e H=vwp P a Q ((s,.os k H.length 0 [] 0 0 0)::e) (H++[.obj 0 (.arr 0 k [])]):=Ap rfl
theorem Bsz {s k k' id ver off n cp:Nat} {p:List (Nat×Nat)}:BvC P (.os k' id ver p off n cp) s k a Q e H=vwp P a Q e H:=Ap rfl
end
theorem BwI {t:Nat} {K:TV→Prop}:res [.tmp t] e H K=Eu (get e t) K:=Ap rfl
theorem BvL {t:Nat} {r:List VR} {K:List TV→Prop}:AA2 (.tmp t::r) e H K=Eu (get e t) fun x=>AA2 r e H fun xs=>K (x::xs):=Ap rfl
def Bzb (K:TV→Prop) (xs:List TV):Prop:=match xs with
 | [x]=>K x
 | xs=>(∀ x∈xs,Ie x=false)∧K (.tup xs)
theorem Bol {x y:TV} {l:List TV} {K:TV→Prop}:Bzb K (x::y::l)=Ky (Al2 (x::y::l)) (Eu (TV.tup (x::y::l)) K):=Ap rfl
theorem Bt0 {r s:VR} {l:List VR} {K:TV→Prop}:res (r::s::l) e H K=AA2 (r::s::l) e H (Bzb K):=Ap rfl
theorem Buz {a sz:Nat} {ag:Bool} {K:TV→Prop}:res [.cell a ag sz] e H K=pop (.load ag sz (.t a)) e H K:=Ap rfl
theorem Bxz {K:TV→Prop}:res [] e H K=K (.tup []):=by rw [Bk9]; simp
end
def VCP (P:Program) (f:FuncId) (xs:List TV) (H:List Ob) (K:TV→List Ob→Prop) (KP:Value→List Ob→Prop) [Tg K] [Tg KP]:Prop:=AoQ P f xs H K KP
@[congr] theorem Bua {P:Program} {f:FuncId} {xs xs':List TV} {H H':List Ob} {K:TV→List Ob→Prop} {KP:Value→List Ob→Prop} (he:xs=xs') (hH:H=H'):VCP P f xs H K KP=VCP P f xs' H' K KP:=by rw [he,hH]
def BsE (x:TV) (K:Value→Prop) [Tg K]:Prop:=match x with
 | .val (.iface t v)=>K (.iface t v)
 | .ifc t (.val v)=>K (.iface t v)
 | _=>False
@[congr] theorem By7 {x x':TV} {K:Value→Prop} (h:x=x'):BsE x K=BsE x' K:=by rw [h]
theorem Bml {t:TypeId} {v:Value} {K:Value→Prop}:BsE (.ifc t (.val v)) K=K (.iface t v):=Ap rfl
theorem Bp2 {t:TypeId} {v:Value} {K:Value→Prop}:BsE (.val (.iface t v)) K=K (.iface t v):=Ap rfl
section
variable {P:Program} {e:Env} {H:List Ob} {r:List VO} {K:Env→List Ob→Prop} {PP:Value→List Ob→Prop} {Q:VEx→Env→List Ob→Prop}
@[congr] theorem Brh {l:List VO} {e':Env} {H':List Ob} (he:e=e') (hH:H=H'):AmN P PP l K e H=AmN P PP l K e' H':=by rw [he,hH]
@[congr] theorem Bqf {o:VOp} {e':Env} {H':List Ob} {KK:TV→List Ob→Prop} (he:e=e') (hH:H=H'):pvop P PP o e H KK=pvop P PP o e' H' KK:=by rw [he,hH]
theorem Bub {l:List VO} {kp:List Nat}:vwp P (.pops l kp) Q e H=AmN P (fun u H=>Q (.pan u) (ABr l e) H) l (fun e H=>Eu (forget kp e) fun e=>Q .nor e H) e H:=Ap rfl
theorem Bsw {n:Nat} {l:List VO} {kp:List Nat}:vwp P (.pdraw n l kp) Q e H=(vq P (l.take n) (fun e=>AmN P (fun u H=>Q (.pan u) [] H) (l.drop n) (fun e H=>Eu (forget kp e) fun e=>Q .nor e H) e H) e H):=Ap rfl
theorem Bvu:AmN P PP [] K e H=K e H:=Ap rfl
theorem Bzj {d:Nat} {o:VOp}:AmN P PP (⟨some d,o,none⟩::r) K e H=pvop P PP o e H (fun x H=>AmN P PP r K ((d,x)::e) H):=Ap rfl
theorem Bw2 {o:VOp}:AmN P PP (⟨none,o,none⟩::r) K e H=pvop P PP o e H (fun x H=>AmN P PP r K e H):=Ap rfl
theorem Bzp {d s:Nat} {o:VOp} {b:Bool}:AmN P PP (⟨some d,o,some (s,b)⟩::r) K e H=AwT e s fun e q=>Gd q b (pvop P PP o e H (fun x H=>AmN P PP r K ((d,x)::e) H)) (AmN P PP r K ((d,.val undef)::e) H):=by
 show AcL (pvop P PP) _ K e H=_
 rw [AcL]
 refine congrArg (AwT e s) ?_; funext e q; cases q<;>rfl
theorem Btf {o:POp} {KK:TV→List Ob→Prop}:pvop P PP (.p o) e H KK=pop o e H fun x=>KK x H:=Ap rfl
theorem BkI {f:FuncId} {args:List Opd} {KK:TV→List Ob→Prop}:pvop P PP (.s (.call f args)) e H KK=Eu (evs e args) fun xs=>Ky (Al2 xs) (VCP P f xs H KK PP):=by
 show ((∀ x∈args,Ie (x.ev e)=false)∧_)=_
 rw [Ahp]; rfl
theorem Bnj {x:Opd} {KK:TV→List Ob→Prop}:pvop P PP (.s (.pan x)) e H KK=BsE (x.ev e) (fun u=>PP u H):=by
 show (match x.ev e with | .val (.iface t v)=>PP (.iface t v) H | .ifc t (.val v)=>PP (.iface t v) H | _=>False)=_
 unfold BsE
 split<;>simp_all
theorem ADI {z:TV} {KK:TV→List Ob→Prop}:pvop P PP (.s (.alloc z)) e H KK=sop P (.alloc z) e H KK:=Ap rfl
theorem Bm5 {x:Opd} {KK:TV→List Ob→Prop}:pvop P PP (.s (.box x)) e H KK=sop P (.box x) e H KK:=Ap rfl
theorem ABq {k n:Nat} {z:TV} {ps:List (Nat×Opd)} {KK:TV→List Ob→Prop}:pvop P PP (.s (.bslice k n z ps)) e H KK=sop P (.bslice k n z ps) e H KK:=Ap rfl
theorem AEi {sz:Nat} {x v:Opd} {KK:TV→List Ob→Prop}:pvop P PP (.s (.store sz x v)) e H KK=sop P (.store sz x v) e H KK:=Ap rfl
theorem Bmh {k bytes:Nat} {z:TV} {l c:Opd} {KK:TV→List Ob→Prop}:pvop P PP (.s (.mks k bytes z l c)) e H KK=sop P (.mks k bytes z l c) e H KK:=Ap rfl
theorem BmW {k bytes:Nat} {et:TypeId} {x y:Opd} {KK:TV→List Ob→Prop}:pvop P PP (.s (.app k bytes et x y)) e H KK=sop P (.app k bytes et x y) e H KK:=Ap rfl
theorem Bky {et:TypeId} {x y:Opd} {KK:TV→List Ob→Prop}:pvop P PP (.s (.appS et x y)) e H KK=sop P (.appS et x y) e H KK:=Ap rfl
theorem Bjl {k n:Nat} {z:TV} {x y:Opd} {KK:TV→List Ob→Prop}:pvop P PP (.s (.appZ k n z x y)) e H KK=sop P (.appZ k n z x y) e H KK:=Ap rfl
theorem Bmp {x:Opd} {n:Bool} {KK:TV→List Ob→Prop}:pvop P PP (.s (.eqS x n)) e H KK=sop P (.eqS x n) e H KK:=Ap rfl
theorem Bo9 {x:Opd} {KK:TV→List Ob→Prop}:pvop P PP (.s (.s2b x)) e H KK=sop P (.s2b x) e H KK:=Ap rfl
theorem BjI {k:Nat} {x y:Opd} {KK:TV→List Ob→Prop}:pvop P PP (.s (.copy k x y)) e H KK=sop P (.copy k x y) e H KK:=Ap rfl
theorem AEQ {x y:Opd} {KK:TV→List Ob→Prop}:pvop P PP (.s (.copyS x y)) e H KK=sop P (.copyS x y) e H KK:=Ap rfl
theorem ADK {x:Opd} {args:List Opd} {KK:TV→List Ob→Prop}:pvop P PP (.s (.callv x args)) e H KK=sop P (.callv x args) e H KK:=Ap rfl
theorem BoA {x:Opd} {nm:String} {args:List Opd} {KK:TV→List Ob→Prop}:pvop P PP (.s (.inv x nm args)) e H KK=sop P (.inv x nm args) e H KK:=Ap rfl
theorem BnX {kk:MK} {h:Option Opd} {KK:TV→List Ob→Prop}:pvop P PP (.s (.mkm kk h)) e H KK=sop P (.mkm kk h) e H KK:=Ap rfl
theorem Bi2 {kk:MK} {m k x:Opd} {KK:TV→List Ob→Prop}:pvop P PP (.s (.mupd kk m k x)) e H KK=sop P (.mupd kk m k x) e H KK:=Ap rfl
theorem BkC {kk:MK} {z:TV} {m k:Opd} {KK:TV→List Ob→Prop}:pvop P PP (.s (.ment kk z m k)) e H KK=sop P (.ment kk z m k) e H KK:=Ap rfl
theorem BkD {m st x:Opd} {KK:TV→List Ob→Prop}:pvop P PP (.s (.mest m st x)) e H KK=sop P (.mest m st x) e H KK:=Ap rfl
theorem ACr {z:TV} {t:TypeId} {KK:TV→List Ob→Prop}:pvop P PP (.s (.allocT z t)) e H KK=sop P (.allocT z t) e H KK:=Ap rfl
theorem Bjn {x:Opd} {t:TypeId} {KK:TV→List Ob→Prop}:pvop P PP (.s (.boxT x t)) e H KK=sop P (.boxT x t) e H KK:=Ap rfl
theorem BlN {x:Opd} {KK:TV→List Ob→Prop}:pvop P PP (.s (.rngS x)) e H KK=sop P (.rngS x) e H KK:=Ap rfl
theorem Blh {x:Opd} {KK:TV→List Ob→Prop}:pvop P PP (.s (.nxtS x)) e H KK=sop P (.nxtS x) e H KK:=Ap rfl
theorem AE3 {x:Opd} {KK:TV→List Ob→Prop}:pvop P PP (.s (.rngM x)) e H KK=sop P (.rngM x) e H KK:=Ap rfl
theorem Bkl {x:Opd} {KK:TV→List Ob→Prop}:pvop P PP (.s (.nxtM x)) e H KK=sop P (.nxtM x) e H KK:=Ap rfl
theorem BjG {kk:MK} {m k:Opd} {KK:TV→List Ob→Prop}:pvop P PP (.s (.delM kk m k)) e H KK=sop P (.delM kk m k) e H KK:=Ap rfl
theorem Bnw {x:Opd} {KK:TV→List Ob→Prop}:pvop P PP (.s (.cvS x)) e H KK=sop P (.cvS x) e H KK:=Ap rfl
theorem Bkw {k:Nat} {z:TV} {x:Opd} {KK:TV→List Ob→Prop}:pvop P PP (.s (.clrS k z x)) e H KK=sop P (.clrS k z x) e H KK:=Ap rfl
theorem Bkm {f:FuncId} {x:Opd} {KK:TV→List Ob→Prop}:pvop P PP (.s (.bstr f x)) e H KK=sop P (.bstr f x) e H KK:=Ap rfl
theorem Bru {b:AP} {u:Value}:Thn P b Q (.pan u) e H=Q (.pan u) e H:=Ap rfl
theorem Bp1 {id:Nat} {u:Value}:Blk id Q (.pan u) e H=Q (.pan u) e H:=Ap rfl
theorem BqC {n0:Nat} {lv:List Nat} {I:Nat→Env→List Ob→Prop} {n:Nat} {u:Value}:Rnd n0 lv Q I n (.pan u) e H=Q (.pan u) e H:=Ap rfl
theorem AEz {vr:List VR} {R:TV→List Ob→Prop} {RP:Value→List Ob→Prop}:Bka vr R RP .ret e H=res vr e H fun x=>R x H:=Ap rfl
theorem AD9 {vr:List VR} {R:TV→List Ob→Prop} {RP:Value→List Ob→Prop}:Bka vr R RP .nor e H=res vr e H fun x=>R x H:=Ap rfl
theorem ADQ {vr:List VR} {R:TV→List Ob→Prop} {RP:Value→List Ob→Prop} {u:Value}:Bka vr R RP (.pan u) e H=RP u H:=Ap rfl
def AyU (P:Program) (PP:Value→List Ob→Prop) (Ss:SsT) (l:List VO) (K:Env→List Ob→Prop) (e:Env) (H:List Ob):Prop:=AcL (pvopS P PP Ss) l K e H
@[congr] theorem BqT {Ss:SsT} {l:List VO} {e':Env} {H':List Ob} (he:e=e') (hH:H=H'):AyU P PP Ss l K e H=AyU P PP Ss l K e' H':=by rw [he,hH]
@[congr] theorem Bpw {Ss:SsT} {o:VOp} {e':Env} {H':List Ob} {KK:TV→List Ob→Prop} (he:e=e') (hH:H=H'):pvopS P PP Ss o e H KK=pvopS P PP Ss o e' H' KK:=by rw [he,hH]
theorem Bq2 {n:Nat} {l:List VO} {kp:List Nat}:vwp P (.sdraw n l kp) Q e H=(vq P (l.take (nOf n)) (fun e=>AyU P (fun u H=>Q (.pan u) [] H) (ssN n l) (l.drop (nOf n)) (fun e H=>Eu (forget kp e) fun e=>Q .nor e H) e H) e H):=Ap rfl
section
variable {Ss:SsT}
theorem Btk:AyU P PP Ss [] K e H=K e H:=Ap rfl
theorem Bzw {d:Nat} {o:VOp}:AyU P PP Ss (⟨some d,o,none⟩::r) K e H=pvopS P PP Ss o e H (fun x H=>AyU P PP Ss r K ((d,x)::e) H):=Ap rfl
theorem Bwr {o:VOp}:AyU P PP Ss (⟨none,o,none⟩::r) K e H=pvopS P PP Ss o e H (fun x H=>AyU P PP Ss r K e H):=Ap rfl
theorem BvJ {o:POp} {KK:TV→List Ob→Prop}:pvopS P PP Ss (.p o) e H KK=pop o e H fun x=>KK x H:=Ap rfl
theorem BiW {f:FuncId} {args:List Opd} {KK:TV→List Ob→Prop}:pvopS P PP Ss (.s (.call f args)) e H KK=Eu (evs e args) fun xs=>Ky (Al2 xs) (VCP P f xs H (fun x H'=>KK x H'∧Aat Ss.l e H H') PP):=by
 show ((∀ x∈args,Ie (x.ev e)=false)∧_)=_
 rw [Ahp]; rfl
theorem AEE {sz:Nat} {x v:Opd} {KK:TV→List Ob→Prop}:pvopS P PP Ss (.s (.store sz x v)) e H KK=sop P (.store sz x v) e H fun x H'=>KK x H'∧Aat Ss.st e H H':=Ap rfl
theorem AEo {z:TV} {KK:TV→List Ob→Prop}:pvopS P PP Ss (.s (.alloc z)) e H KK=sop P (.alloc z) e H KK:=Ap rfl
theorem Bpe {k bytes:Nat} {z:TV} {l c:Opd} {KK:TV→List Ob→Prop}:pvopS P PP Ss (.s (.mks k bytes z l c)) e H KK=sop P (.mks k bytes z l c) e H KK:=Ap rfl
theorem Bnd {k bytes:Nat} {et:TypeId} {x y:Opd} {KK:TV→List Ob→Prop}:pvopS P PP Ss (.s (.app k bytes et x y)) e H KK=vif Ss.ap (sop P (.app k bytes et x y) e H fun x H'=>KK x H'∧Aat Ss.l e H H') (sop P (.app k bytes et x y) e H KK):=by
 show sop P (.app k bytes et x y) e H (fun x H'=>KK x H'∧(Ss.ap=true→Aat Ss.l e H H'))=_
 unfold vif
 split
 ·rename_i h
  congr 1; funext x H'; simp [h]
 ·rename_i h
  congr 1; funext x H'; simp [h]
theorem BkQ {et:TypeId} {x y:Opd} {KK:TV→List Ob→Prop}:pvopS P PP Ss (.s (.appS et x y)) e H KK=sop P (.appS et x y) e H KK:=Ap rfl
theorem BtX {n:Nat}:nOf n=n % 10000:=Ap rfl
theorem Btw {n:Nat} {l:List VO}:(ssN n l).ap=decide (10000≤n):=Ap rfl
theorem ABV {k n:Nat} {z:TV} {ps:List (Nat×Opd)} {KK:TV→List Ob→Prop}:pvopS P PP Ss (.s (.bslice k n z ps)) e H KK=sop P (.bslice k n z ps) e H KK:=Ap rfl
end
theorem O1 {e:Env} {H H':List Ob}:Aat [] e H H':=Aat.nil
theorem BqY {s:Nat} {Ss:List Nat} {e:Env} {H H':List Ob} {id ver:Nat} {p:List (Nat×Nat)} (h:get e s = .op id ver p) (h1:H'[id]?=H[id]?) (h2:Aat Ss e H H'):Aat (s::Ss) e H H':=fun t ht id' hg=>by
 rcases List.mem_cons.1 ht with rfl | ht
 ·rw [h] at hg; cases hg; exact h1
 ·exact h2 t ht id' hg
theorem LZ {s:Nat} {Ss:List Nat} {e:Env} {H H':List Ob} (h:(match get e s with | .op _ _ _=>false | .os _ _ _ _ _ _ _=>false | _=>true)=true) (h2:Aat Ss e H H'):Aat (s::Ss) e H H':=fun t ht id' hg=>by
 rcases List.mem_cons.1 ht with rfl | ht
 ·revert hg h
  cases get e t<;>simp [BtN]
 ·exact h2 t ht id' hg
theorem BD.callsP {f:FuncId} {args:List TV} {R:TV→List Ob→Prop} {RP:Value→List Ob→Prop} (h:BD P f args H R):VCP P f args H R RP:=h.mayP
end
def AB:=(aI_ (aI_ (aI_ (aI_ (aI_ (aI_ (aI_ (aI_ @Byp @BvK) (aI_ @Bxm @Bzx)) (aI_ (aI_ @Bvq @Bxi) (aI_ @Byr @BvM))) (aI_ (aI_ (aI_ @Bmr @Br1) (aI_ @BtL @BqQ)) (aI_ (aI_ @Bwy @Bt8) (aI_ @Bx6 @BvQ)))) (aI_ (aI_ (aI_ (aI_ @Bvc @Bxu) (aI_ @Byc @Bwk)) (aI_ (aI_ @BrW @BxC) (aI_ @Bvg @Bxd))) (aI_ (aI_ (aI_ @BwA @Bxo) (aI_ @Bw5 @Bw9)) (aI_ (aI_ @Brx @Bop) (aI_ @BxY @Bq1))))) (aI_ (aI_ (aI_ (aI_ (aI_ @Bo3 @BwD) (aI_ @Bvd @BsT)) (aI_ (aI_ @BtE @Buj) (aI_ @Bvz @Bvv))) (aI_ (aI_ (aI_ @Bts @Bvf) (aI_ @BxT @Bnv)) (aI_ (aI_ @Bq9 @Bw0) (aI_ @BxH @Bvh)))) (aI_ (aI_ (aI_ (aI_ @BvN @Bq0) (aI_ @Bx3 @Bul)) (aI_ (aI_ @BxZ @Bs6) (aI_ @Btv @BuN))) (aI_ (aI_ (aI_ @Bvm @BvH) (aI_ @Bs2 @Bqo)) (aI_ (aI_ @Bxg @Bwt) (aI_ @Buc @BxP)))))) (aI_ (aI_ (aI_ (aI_ (aI_ (aI_ @BvD @Bt4) (aI_ @BwR @Bqv)) (aI_ (aI_ @Bvx @BuY) (aI_ @BwK @Bsg))) (aI_ (aI_ (aI_ @Bx8 @BsS) (aI_ @BuT @Bnx)) (aI_ (aI_ @BtD @Bud) (aI_ @Brr @o_g)))) (aI_ (aI_ (aI_ (aI_ @Bt9 @Bw3) (aI_ @Byg @Bup)) (aI_ (aI_ @Bzf @u_c) (aI_ @u_g @Brg))) (aI_ (aI_ (aI_ @Bzr @AyX) (aI_ @AAw @BwI)) (aI_ (aI_ @Buz @Bxz) (aI_ @Bt0 @ACY))))) (aI_ (aI_ (aI_ (aI_ (aI_ @BvL @AzS) (aI_ @Bol @Bsj)) (aI_ (aI_ @Bn9 @BrL) (aI_ @BqD @BnH))) (aI_ (aI_ (aI_ @AB7 @BpT) (aI_ @BoD @Bri)) (aI_ (aI_ @Bub @Bsw) (aI_ @Bq2 @Btk)))) (aI_ (aI_ (aI_ (aI_ @Bzw @Bwr) (aI_ @BvJ @BiW)) (aI_ (aI_ @AEE @AEo) (aI_ @Bpe @Bnd))) (aI_ (aI_ (aI_ @BkQ @ABV) (aI_ @Bvu @Bzj)) (aI_ (aI_ @Bw2 @Bzp) (aI_ @Btf @BkI))))))) (aI_ (aI_ (aI_ (aI_ (aI_ (aI_ @Bnj @ADI) (aI_ @Bm5 @ABq)) (aI_ (aI_ @AEi @Bmh) (aI_ @BmW @Bky))) (aI_ (aI_ (aI_ @Bo9 @Bjl) (aI_ @Bmp @BjI)) (aI_ (aI_ @AEQ @ADK) (aI_ @BoA @BnX)))) (aI_ (aI_ (aI_ (aI_ @Bi2 @BkC) (aI_ @BkD @ACr)) (aI_ (aI_ @Bjn @BlN) (aI_ @Blh @AE3))) (aI_ (aI_ (aI_ @Bkl @BjG) (aI_ @Bkw @Bnw)) (aI_ (aI_ @Bkm @Bru) (aI_ @Bp1 @BqC))))) (aI_ (aI_ @AEz @AD9) @ADQ)))
def Aj:=(aI_ (aI_ (aI_ (aI_ (aI_ (aI_ (aI_ (aI_ @BtX @Btw) (aI_ @Bp2 @Bml)) (aI_ (aI_ @Boq @BjH) (aI_ @Brm @BrK))) (aI_ (aI_ (aI_ @BvA @Bte) (aI_ @BtW @Bja)) (aI_ (aI_ @Bno @Br7) (aI_ @Boa @Bt5)))) (aI_ (aI_ (aI_ (aI_ @Bki @BqP) (aI_ @BoU @BuL)) (aI_ (aI_ @BrR @BuX) (aI_ @BtP @Bkt))) (aI_ (aI_ (aI_ @Bqb @BlU) (aI_ @Br4 @Boo)) (aI_ (aI_ @BqJ @Bt3) (aI_ @Bof @Bsf))))) (aI_ (aI_ (aI_ (aI_ (aI_ @Bp9 @Bma) (aI_ @BoL @ADX)) (aI_ (aI_ @AEJ @BkK) (aI_ @Bmk @BmX))) (aI_ (aI_ (aI_ @BjJ @BiY) (aI_ @BrJ @BoZ)) (aI_ (aI_ @Brj @Bnb) (aI_ @Boe @BlQ)))) (aI_ (aI_ (aI_ (aI_ @Bj4 @Bqh) (aI_ @Bse @Br0)) (aI_ (aI_ @Bp0 @BpY) (aI_ @BqS @Bqt))) (aI_ (aI_ (aI_ @Bpc @Bqn) (aI_ @BnJ @BpW)) (aI_ (aI_ @BlG @BrE) (aI_ @Bm3 @Bo5)))))) (aI_ (aI_ (aI_ (aI_ (aI_ (aI_ @Bnz @Bju) (aI_ @AEb @Bsq)) (aI_ (aI_ @BpU @BtA) (aI_ @BuH @Bux))) (aI_ (aI_ (aI_ @Btt @Boh) (aI_ @Bn7 @Bn4)) (aI_ (aI_ @BmR @Bvn) (aI_ @Bvy @Bu8)))) (aI_ (aI_ (aI_ (aI_ @Bke @AEK) (aI_ @BiV @BmO)) (aI_ (aI_ @BoW @Bjj) (aI_ @BnO @BoK))) (aI_ (aI_ (aI_ @BoI @BqZ) (aI_ @BrX @Bm1)) (aI_ (aI_ @BjV @BnM) (aI_ @BqU @BoH))))) (aI_ (aI_ (aI_ (aI_ (aI_ @BqL @Brw) (aI_ @Brz @Bl0)) (aI_ (aI_ @BmY @Bnp) (aI_ @BlW @BlZ))) (aI_ (aI_ (aI_ @BmP @BjM) (aI_ @BoC @Bq8)) (aI_ (aI_ @Bs7 @Bll) (aI_ @BtK @Btg)))) (aI_ (aI_ (aI_ (aI_ @Bp6 @BpV) (aI_ @Bq6 @Bmi)) (aI_ (aI_ @Bng @Bmq) (aI_ @Option.getD_none.{0} @Option.getD_some.{0}))) (aI_ (aI_ (aI_ @BlK @Bp5) (aI_ @Bow @BoX)) (aI_ (aI_ @BmC @ACN) (aI_ @Blc @Bmn))))))) (aI_ (aI_ (aI_ (aI_ (aI_ (aI_ @BnB @BrN) (aI_ @BnZ @BqW)) (aI_ (aI_ @Bm9 @Bjm) (aI_ @BrO @Bnt))) (aI_ (aI_ (aI_ @BmA @Bmv) (aI_ @Bos @BmU)) (aI_ (aI_ @BoO @Bnc) (aI_ @Bqu @Bi4)))) (aI_ (aI_ (aI_ (aI_ @BrD @Buk) (aI_ @Bs4 @AEX)) (aI_ (aI_ @Bkn @BwB) (aI_ @Bx2 @Bzg))) (aI_ (aI_ (aI_ @BmZ @Bp4) (aI_ @Bss @Bzm)) (aI_ (aI_ @BzD @BzE) (aI_ @BnR @Bsz))))) (aI_ (aI_ (aI_ @BoR @Bn6) (aI_ @Bqd @Bl1)) (aI_ @BjC @AEG))))
def AA:=(aI_ (aI_ (aI_ (aI_ (aI_ (aI_ (aI_ (aI_ @Bnl @BmH) (aI_ @Bsv @BrT)) (aI_ (aI_ @Br6 @BrC) (aI_ @BmN @Boz))) (aI_ (aI_ (aI_ @BmJ @Bpb) (aI_ @Br9 @Bsa)) (aI_ (aI_ @Bsp @Bkh) (aI_ @BlF @Bna)))) (aI_ (aI_ (aI_ (aI_ @BmG @BnW) (aI_ @BlO @Bjx)) (aI_ (aI_ @Blv @BjZ) (aI_ @Bj0 @BoT))) (aI_ (aI_ (aI_ @BmF @BmS) (aI_ @Bnf @Bqr)) (aI_ (aI_ @BqR @BrV) (aI_ @Br3 @Bl9))))) (aI_ (aI_ (aI_ (aI_ (aI_ @Bms @Bl5) (aI_ @BoS @Br5)) (aI_ (aI_ @Bqy @Bq3) (aI_ @Bi1 @BkB))) (aI_ (aI_ (aI_ @BmI @Bpf) (aI_ @BmV @Bl2)) (aI_ (aI_ @BiT @BnU) (aI_ @BmM @Bj5)))) (aI_ (aI_ (aI_ (aI_ @Bk5 @Bl3) (aI_ @BlT @Bn5)) (aI_ (aI_ @Bpa @Bi0) (aI_ @Bkq @Bnn))) (aI_ (aI_ (aI_ @Bou @BnS) (aI_ @Bi9 @BkM)) (aI_ (aI_ @ADR @ACu) (aI_ @BjQ @BkF)))))) (aI_ (aI_ (aI_ (aI_ (aI_ (aI_ @BlL @Bkg) (aI_ @AEA @Bmb)) (aI_ (aI_ @AE6 @AB4) (aI_ @Az2 @ADY))) (aI_ (aI_ (aI_ @Bov @BjF) (aI_ @Azr @Ayo)) (aI_ (aI_ @Bzu @Bzq) (aI_ @Bzn @Bm8)))) (aI_ (aI_ (aI_ (aI_ @Bmd @Boj) (aI_ @ACO @Bl4)) (aI_ (aI_ @Bot @AER) (aI_ @ABX @BjB))) (aI_ (aI_ (aI_ @AES @Bmj) (aI_ @AEO @ACn)) (aI_ (aI_ @AEl @ABA) (aI_ @BkW @AEL))))) (aI_ (aI_ (aI_ (aI_ (aI_ @ABo @AAz) (aI_ @AyI @AwN)) (aI_ (aI_ @Bq5 @Bmy) (aI_ @Bk9 @Bo1))) (aI_ (aI_ (aI_ @ACY @Bmo) (aI_ @AzS @AyX)) (aI_ (aI_ @AAw @Bob) (aI_ @BmT @Brn)))) (aI_ (aI_ (aI_ (aI_ @BqN @Bmf) (aI_ @Bqs @Bsb)) (aI_ (aI_ @Bog @Bny) (aI_ @Bn1 @Bkv))) (aI_ (aI_ (aI_ @AEt @BpQ) (aI_ @BsB @Bus)) (aI_ (aI_ @BrU @BrQ) (aI_ @Bqp @BqV))))))) (aI_ (aI_ (aI_ @Bl8 @Bjg) (aI_ @Bjp @BnY)) (aI_ (aI_ @BxX @Bvt) @BtB)))
theorem ADL {α β:Type} {f:α→β} {l:List α} {i:Nat}:(l.map f).drop i=(l.drop i).map f:=List.map_drop.symm
theorem ADM {α β:Type} {f:α→β} {l:List α} {i:Nat}:(l.map f).take i=(l.take i).map f:=List.map_take.symm
theorem Bvb {b:UInt8}:IntKind.i64.wrap (b.toNat:Int)=b.toNat:=Gl (by omega) (by have:=b.toNat_lt; omega)
theorem BpG {n:Nat}:IntKind.u8.wrap (n:Int)=((UInt8.ofNat n).toNat:Int):=by
 rw [IntKind.wrap_u8,UInt8.toNat_ofNat']; omega
theorem Bs5 {α:Type} {n i:Nat} {a:α} (h:i<n):(List.replicate n a)[i]?=some a:=by simp [h]
section
variable {a b c:Nat}
theorem BoF:(a:Int)*(b:Int)=((a*b:Nat):Int):=Ap rfl
theorem BnF (h:b≤a):(a:Int) - (b:Int)=((a - b:Nat):Int):=by omega
theorem BoV:(a:Int) / (b:Int)=((a / b:Nat):Int):=Ap rfl
theorem Bor:(a:Int) % (b:Int)=((a % b:Nat):Int):=Ap rfl
variable {t:TypeId} {k2:IntKind}
theorem Btr (h1:b≤63) (h2:a*2 ^ b≤9223372036854775807):Jh t .shl (.int .i64 (a:Int)) (.int k2 (b:Int))=some (.int .i64 ((a*2 ^ b:Nat):Int)):=by
 have e:(a:Int)*2 ^ ((b:Int).toNat)=((a*2 ^ b:Nat):Int):=by rw [Int.toNat_natCast,Int.natCast_mul,Int.natCast_pow]; rfl
 rw [BwQ (by omega) (by omega) (by rw [e]; omega) (by rw [e]; omega),e]
theorem BuG (h1:b≤63):Jh t .shr (.int .i64 (a:Int)) (.int k2 (b:Int))=some (.int .i64 ((a / 2 ^ b:Nat):Int)):=by
 have e:(a:Int) / 2 ^ ((b:Int).toNat)=((a / 2 ^ b:Nat):Int):=by rw [Int.toNat_natCast,Int.natCast_ediv,Int.natCast_pow]; rfl
 rw [Bx5 (by omega) (by omega) (by omega),e]
variable {k:IntKind}
theorem BtM (h:b≠0):Jh t .rem (.int k (a:Int)) (.int k (b:Int))=some (.int k ((a % b:Nat):Int)):=by rw [Byo (by omega) (by omega),Int.natCast_emod]
theorem Bji (h:b≠0) (h2:a≤9223372036854775807):Jh t .quo (.int .i64 (a:Int)) (.int .i64 (b:Int))=some (.int .i64 ((a / b:Nat):Int)):=by rw [Byx (by omega) (by omega) (by omega),Int.natCast_ediv]
end
theorem BD.toPureV {P:Program} {f:FuncId} {args:List TV} {R:TV→Prop} (h:BD P f args [] fun x H'=>EC (frz H' x) R):CE P f args R :=
 BD.toPure (h.mono fun x H' hx=>by
  cases hf:frz H' x with
  | none=>rw [hf] at hx; exact hx
  | some y=>rw [hf] at hx; exact hx)
abbrev mv_ (d s:Nat):VO:=⟨some d,.p (.mov (.t s)),none⟩
abbrev po_ (d:Nat) (p:POp):VO:=⟨some d,.p p,none⟩
abbrev so_ (d:Nat) (q:SOp):VO:=⟨some d,.s q,none⟩
abbrev ci_ (n:Nat):Opd := .c (.int .i64 (n:Int))
theorem ES {P:Program} {f:FuncId} {fn:Func} {vc:AP} {vr:List VR} (n:Nat) (hf:P.funcs[f]?=some fn) (ht:fn.body.bind (trC P fn.ntmps)=some (er vc)) (hr:trR P fn.results.toList=some vr) (hn:fn.ntmps=n) :
  ∀ ⦃args:List TV⦄ ⦃H:List Ob⦄ ⦃R:TV→List Ob→Prop⦄,args.length≤n→vwp P vc (Awf vr R) (Ayc 0 args) H→BD P f args H R:=fun _ _ _ h1 h2=>Blx hf ht hr (hn▸h1) h2
theorem Ac {c c':AP} (h:c=c'):∀ (P:Program) (Q:VEx→Env→List Ob→Prop) (e:Env) (H:List Ob),vwp P c Q e H=vwp P c' Q e H:=fun _ _ _ _=>by rw [h]
theorem Aa {α:Type}:(∀ {l:List α} {i:Nat} {a:α},(l.set i a).length=l.length)∧(∀ {l m:List α},(l++m).length=l.length+m.length)∧(∀ {a:α} {l:List α},(a::l).length=l.length+1)∧([]:List α).length=0:=⟨List.length_set,List.length_append,List.length_cons,List.length_nil⟩
theorem BD.toFreshV {P:Program} {f:FuncId} {args:List TV} {R:TV→Prop} (h:BD P f args [] fun x H'=>EC (frs H' x) R):Sr P f args R :=
 BD.toFresh (h.mono fun x H' hx=>by
  cases hf:frs H' x with
  | none=>rw [hf] at hx; exact hx
  | some y=>rw [hf] at hx; exact hx)
theorem BlR {α:Type} {l:List α} {n:Nat} (h:l.length≤n):l.take n=l:=List.take_of_length_le h
theorem BwS {α:Type} {c:Prop} [Decidable c] {a b:α} (h:c):(if c then a else b)=a:=if_pos h
theorem Bx1 {α:Type} {c:Prop} [Decidable c] {a b:α} (h:¬ c):(if c then a else b)=b:=if_neg h
theorem ABm {α:Type} {l:List α} {n:Nat} (h:n≤l.length):(l.take n).length=n:=by simp [h]
theorem Aya {α:Type} {l:List α} {i:Nat}:(l.drop i).take (l.length - i)=l.drop i:=List.take_of_length_le (by simp)
theorem Bn0 {a b:Nat}:a+b - a=b:=Nat.add_sub_cancel_left a b
theorem Bnr {α:Type} {l m:List α}:(l++m).take l.length=l:=List.take_left
theorem BoG {α:Type} {l m:List α}:(l++m).drop l.length=m:=List.drop_left
theorem BmL {a b:Nat}:a+b - b=a:=Nat.add_sub_cancel a b
def Az:=(aI_ (aI_ (aI_ (aI_ (aI_ (aI_ (aI_ @Bnr @BoG) (aI_ @Bn0 @Aya)) (aI_ (aI_ @ABm @List.length_drop.{0}) (aI_ @BwS @Bx1))) (aI_ (aI_ (aI_ @BlR @BmL) (aI_ @Nat.zero_le @BtT)) (aI_ (aI_ @List.nil_append.{0} @List.length_nil.{0}) (aI_ @List.length_cons.{0} @List.cons_append.{0})))) (aI_ (aI_ (aI_ (aI_ @List.getElem?_cons_zero.{0} @List.getElem?_cons_succ.{0}) (aI_ @List.set_cons_zero.{0} @List.set_cons_succ.{0})) (aI_ (aI_ @List.map_cons.{0,0} @List.map_nil.{0,0}) (aI_ @Bl6 @Bne))) (aI_ (aI_ (aI_ @true_and @and_true) (aI_ @List.take_zero.{0} @List.take_succ_cons.{0})) (aI_ (aI_ @List.drop_succ_cons.{0} @List.take_nil.{0}) (aI_ @List.drop_nil.{0} @Nat.zero_add))))) (aI_ (aI_ (aI_ (aI_ (aI_ @Byi @Bxk) (aI_ @Byf @BxW)) (aI_ (aI_ @BxG @Bxp) (aI_ @Bwv @Bxb))) (aI_ (aI_ (aI_ @Bw6 @Bx4) (aI_ @BzC @BtM)) (aI_ (aI_ @Bji @Bur) (aI_ @Bjr @BkH)))) (aI_ (aI_ (aI_ (aI_ @Bjw @Bkr) (aI_ @AEF @BiS)) (aI_ (aI_ @Bkx @BlI) (aI_ @BkG @Bje))) (aI_ (aI_ (aI_ @Bool.false_xor @Bool.true_xor) (aI_ @Bys @BwC)) (aI_ (aI_ @ByC @decide_true) (aI_ @decide_false @Bool.not_true)))))) (aI_ (aI_ (aI_ (aI_ (aI_ (aI_ @Bool.not_false @not_true_eq_false) (aI_ @not_false_eq_true @Bool.false_eq_true)) (aI_ (aI_ @Bool.true_eq_false @Option.bind_some.{0,0}) (aI_ @Option.map_some.{0,0} @Bool.and_self))) (aI_ (aI_ (aI_ @and_self @Nat.sub_zero) (aI_ @Nat.mul_one @List.length_map.{0,0})) (aI_ (aI_ @Int.toNat_natCast @List.getElem?_map.{0,0}) (aI_ @Int.natCast_nonneg @List.length_append.{0})))) (aI_ (aI_ (aI_ (aI_ @List.drop_zero.{0} @ADL) (aI_ @ADM @BnN)) (aI_ (aI_ @BoP @BnI) (aI_ @Bq7 @BrI))) (aI_ (aI_ (aI_ @Bsy @Br2) (aI_ @List.replicate_zero.{0} @List.take_length.{0})) (aI_ (aI_ @List.length_set.{0} @List.length_replicate.{0}) (aI_ @Bvb @Gl))))) (aI_ (aI_ (aI_ (aI_ @BpG @List.set_set.{0}) (aI_ @List.getElem?_nil.{0} @Bs5)) (aI_ (aI_ @BoF @BnF) (aI_ @BoV @Bor))) (aI_ @Btr @BuG))))
end
end Go.Proofs.YtliaddbbmnfioaaGreatDoor
