/- What the proof of StageWritesCard stands on (texts merged; names shortened by a program): part 4. -/
import Derived.Test.YtnkpoloeifhflaaDoorQC
import Derived.RangeFuncIn
import Derived.RangeFuncRecord
import Derived.RangeFuncLeaves
import Derived.Sort.LoopGhostIn
set_option linter.unusedSectionVars false
set_option linter.unusedSimpArgs false
set_option linter.unusedVariables false
namespace Go.Proofs.YtnkpoloeifhflaaDoor
section
open Go.RowKit
variable [AtQ]
set_option autoImplicit false
inductive Atc where
 | ops (l:List VO) (keep:List Nat)
 | draw (nA:Nat) (l:List VO) (keep:List Nat)
 | skip
 | opsZ (l:List VO) (zs:List Nat) (r:List VO) (keep:List Nat)
 | pops (l:List VO) (keep:List Nat)
 | pdraw (n:Nat) (l:List VO) (keep:List Nat)
 | sdraw (n:Nat) (l:List VO) (keep:List Nat)
 | seq (a b:Atc)
 | cond (c:Opd) (a b:Atc)
 | block (id:Nat) (c:Atc)
 | loop (live:List Nat) (c:Atc)
 | exit (id:Nat)
 | ret
 | scope (c:Atc)
 | own (s k:Nat) (c:Atc)
 | ownB (s:Nat) (p:List (Nat×Nat)) (k:Nat) (c:Atc)
 | ownT (s:Nat) (p:List (Nat×Nat)) (t:TypeId) (c:Atc)
 | frz (s:Nat) (c:Atc)
 | rfunc (f:Opd) (ps:List Nat) (aS bd:Atc)
 | dead
 deriving Inhabited
def A7X:List Nat→(Env→List Ob→Prop)→Env→List Ob→Prop
 | [],K,e,H=>K e H
 | s::zs,K,e,H=>match get e s with
  | .os k id ver p off n _=>(match H[id]? with
   | some (.obj v x)=>v=ver∧(match Aw6 p k off n x with
    | some cs=>A7X zs K ((s,.sl k cs)::e) (H.set id (.gone ver))
    | none=>False)
   | _=>False)
  | _=>False
def er:Atc→Atc
 | .ops l _ => .ops l []
 | .draw n l _ => .draw n l []
 | .opsZ l _ r _ => .ops (l++r) []
 | .pops l _ => .ops l []
 | .pdraw n l _ => .draw n l []
 | .sdraw n l _ => .sdraw n l []
 | .seq a b => .seq (er a) (er b)
 | .cond c a b => .cond c (er a) (er b)
 | .block id c => .block id (er c)
 | .loop _ c => .loop [] (er c)
 | .scope c => .scope (er c)
 | .own _ _ c=>er c
 | .ownB _ _ _ c=>er c
 | .ownT _ _ _ c=>er c
 | .frz _ c=>er c
 | .rfunc f ps aS bd => .rfunc f ps (er aS) (er bd)
 | .skip => .skip
 | .exit id => .exit id
 | .ret => .ret
 | .dead => .dead
def AM9:Code→Bool
 | .seq a b=>AM9 a || AM9 b
 | .cond _ a b=>AM9 a || AM9 b
 | .block _ c=>AM9 c
 | .loop c=>AM9 c
 | .scope c=>AM9 c
 | .region _ ops _=>ops.toList.any fun o=>match o.op with | .panic _=>true | .store .. => true | _=>false
 | _=>false
def BcK:List String:=["(*gitlike/pack.reader).number", "(*gitlike/pack.reader).byte", "(*gitlike/pack.reader).head", "(*gitlike/pack.reader).distance", "(*gitlike/pack.reader).entry", "gitlike/stage.put", "gitlike/gitlikeref8.number"]
def AYe (P:Program) (v:VO):Bool:=match v.op with
 | .s (.call f _)=>(match P.funcs[f]? with | some fn=>fn.body.any AM9 || BcK.contains fn.name | none=>false)
 | .s (.store _ _ _)=>true
 | _=>false
def nOf (n:Nat):Nat:=n % 10000
def ssN (n:Nat) (l:List VO):SsT:=⟨A7F l,AXD l,decide (10000≤n)⟩
theorem A7p {n:Nat} (h:n<10000):nOf n=n:=Nat.mod_eq_of_lt h
theorem A6s {n:Nat} (h:n<10000):nOf (10000+n)=n:=by unfold nOf; omega
theorem A6H {n:Nat} {l:List VO} (h:n<10000):ssN n l=⟨A7F l,AXD l,false⟩:=by unfold ssN; rw [decide_eq_false (by omega)]
theorem A5J {n:Nat} {l:List VO}:ssN (10000+n) l=⟨A7F l,AXD l,true⟩:=by unfold ssN; rw [decide_eq_true (by omega)]
def AU3 (chk:Nat→Bool) (n:Nat):Option Nat:=(List.range (n+1)).find? fun j=>chk j && decide (j<10000)
theorem AJJ {chk:Nat→Bool} {n j:Nat} (h:AU3 chk n=some j):chk j=true∧j<10000:=by
 have:=List.find?_some h
 simpa using this
def BbR (v:VO):Bool:=match v.op with
 | .s (.app _ _ _ _ _)=>true
 | _=>false
def AQP (P:Program) (ops:List Oper) (l:List VO) (n:Nat):Option Atc:=match (List.range (n+1)).find? (AH7 ss0 ops l) with
 | some k=>if (l.take k).any (AYe P) then (match AU3 (AH7 ⟨A7F l,AXD l,false⟩ ops l) n with
   | some j=>if (l.take j).any (AYe P) then (match AU3 (Awt ⟨A7F l,AXD l,false⟩ ops l) n with
     | some j'=>some (.sdraw j' l [])
     | none=>some (.sdraw j l [])) else some (.sdraw j l [])
   | none=>none) else some (.draw k l [])
 | none=>none
theorem AQ3 {P:Program} {ops:List Oper} {l:List VO} {n:Nat} {c:Atc} (h:AQP P ops l n=some c):∃ k,(c = .draw k l []∧Awt ss0 ops l k=true)∨(c = .sdraw k l []∧Awt (ssN k l) ops l (nOf k)=true):=by
 have low:∀ {j},Awt ⟨A7F l,AXD l,false⟩ ops l j=true→j<10000→Awt (ssN j l) ops l (nOf j)=true:=fun h1 h2=>by rw [A6H h2,A7p h2]; exact h1
 unfold AQP at h
 split at h
 ·rename_i k hk
  split at h
  ·split at h
   ·rename_i j hj
    obtain ⟨hj,hj2⟩:=AJJ hj
    split at h
    ·split at h
     ·rename_i j' hj'
      obtain ⟨hj',hj2'⟩:=AJJ hj'
      cases h; exact ⟨j',.inr ⟨rfl,low hj' hj2'⟩⟩
     ·cases h; exact ⟨j,.inr ⟨rfl,low (ABv hj) hj2⟩⟩
    ·cases h; exact ⟨j,.inr ⟨rfl,low (ABv hj) hj2⟩⟩
   ·cases h
  ·cases h; exact ⟨k,.inl ⟨rfl,ABv (List.find?_some hk)⟩⟩
 ·cases h
def AXa (ops:List Oper) (l:List VO) (n:Nat):Option Atc:=(AU3 (AH7 ⟨A7F l,AXD l,true⟩ ops l) n).map fun j => .sdraw (10000+j) l []
theorem AS8 {ops:List Oper} {l:List VO} {n:Nat} {c:Atc} (h:AXa ops l n=some c):∃ k,c = .sdraw k l []∧Awt (ssN k l) ops l (nOf k)=true:=by
 obtain ⟨j,hj,rfl⟩:=Option.map_eq_some_iff.1 h
 obtain ⟨hj,hj2⟩:=AJJ hj
 exact ⟨10000+j,rfl,by rw [A5J,A6s hj2]; exact ABv hj⟩
def AQR (bz:Bool) (P:Program) (N:Nat) (ops:Array Oper):Option Atc:=match trL bz P N ops.toList ops.toList with
 | some l=>if P.follows .mixedOrders then (if l.any Baz || l.any (AYe P) then (match trL bz P N (AtH ops.toList (A4W ops.toList l)) (AtH ops.toList (A4W ops.toList l)) with
   | some l'=>if AEW (A4W ops.toList l) ops.toList.length then AQP P (AtH ops.toList (A4W ops.toList l)) l' ops.size else none
   | none=>none)
  else (match (List.range (ops.size+1)).find? (AH7 ss0 ops.toList l) with
   | some n=>if (l.take n).any BbR then (match trL bz P N (AtH ops.toList (A4W ops.toList l)) (AtH ops.toList (A4W ops.toList l)) with
     | some l'=>if AEW (A4W ops.toList l) ops.toList.length then (match AXa (AtH ops.toList (A4W ops.toList l)) l' ops.size with
       | some c=>some c
       | none=>some (.draw n l [])) else some (.draw n l [])
     | none=>some (.draw n l [])) else some (.draw n l [])
   | none=>none)) else none
 | none=>none
theorem AG1 {bz:Bool} {P:Program} {N:Nat} {ops:Array Oper} {c:Atc} (h:AQR bz P N ops=some c):(∃ n l,c = .draw n l []∧P.follows .mixedOrders=true ∧
  ((trL bz P N ops.toList ops.toList=some l∧Awt ss0 ops.toList l n=true)∨∃ π,AEW π ops.toList.length=true∧trL bz P N (AtH ops.toList π) (AtH ops.toList π)=some l∧Awt ss0 (AtH ops.toList π) l n=true)) ∨
  ∃ n l,c = .sdraw n l []∧P.follows .mixedOrders=true∧∃ π,AEW π ops.toList.length=true∧trL bz P N (AtH ops.toList π) (AtH ops.toList π)=some l∧Awt (ssN n l) (AtH ops.toList π) l (nOf n)=true:=by
 unfold AQR at h
 split at h
 ·rename_i l hl
  split at h
  ·rename_i hm
   split at h
   ·split at h
    ·rename_i l' hl'
     split at h
     ·rename_i hp
      obtain ⟨k,⟨rfl,hk⟩ | ⟨rfl,hk⟩⟩:=AQ3 h
      ·exact .inl ⟨k,l',rfl,hm,.inr ⟨_,hp,hl',hk⟩⟩
      ·exact .inr ⟨k,l',rfl,hm,_,hp,hl',hk⟩
     ·cases h
    ·cases h
   ·split at h
    ·rename_i n hn
     have plain:∀ {c:Atc},some (Atc.draw n l [])=some c→_:=fun {c} (h:some (Atc.draw n l [])=some c)=>(Or.inl ⟨n,l,(Option.some.inj h).symm,hm,.inl ⟨hl,ABv (List.find?_some hn)⟩⟩:(∃ n l,c = .draw n l []∧P.follows .mixedOrders=true ∧
  ((trL bz P N ops.toList ops.toList=some l∧Awt ss0 ops.toList l n=true)∨∃ π,AEW π ops.toList.length=true∧trL bz P N (AtH ops.toList π) (AtH ops.toList π)=some l∧Awt ss0 (AtH ops.toList π) l n=true)) ∨
  ∃ n l,c = .sdraw n l []∧P.follows .mixedOrders=true∧∃ π,AEW π ops.toList.length=true∧trL bz P N (AtH ops.toList π) (AtH ops.toList π)=some l∧Awt (ssN n l) (AtH ops.toList π) l (nOf n)=true)
     split at h
     ·split at h
      ·rename_i l' hl'
       split at h
       ·rename_i hp
        split at h
        ·rename_i c' hc'
         cases h
         obtain ⟨k,rfl,hk⟩:=AS8 hc'
         exact .inr ⟨k,l',rfl,hm,_,hp,hl',hk⟩
        ·exact plain h
       ·exact plain h
      ·exact plain h
     ·exact plain h
    ·cases h
  ·cases h
 ·cases h
def A7E:Atc→Bool
 | .draw n l _=>(l.take n).any fun v=>match v.op with | .s (.bslice _ _ _ _)=>true | _=>false
 | .sdraw n l _=>(l.take (nOf n)).any fun v=>match v.op with | .s (.bslice _ _ _ _)=>true | _=>false
 | _=>false
def ASG (P:Program) (N:Nat) (ops:Array Oper):Option Atc:=match AQR false P N ops with
 | some c=>if A7E c then (match AQR true P N ops with | some c'=>some c' | none=>some c) else some c
 | none=>none
theorem AEo {P:Program} {N:Nat} {ops:Array Oper} {c:Atc} (h:ASG P N ops=some c):∃ bz:Bool,(∃ n l,c = .draw n l []∧P.follows .mixedOrders=true ∧
  ((trL bz P N ops.toList ops.toList=some l∧Awt ss0 ops.toList l n=true)∨∃ π,AEW π ops.toList.length=true∧trL bz P N (AtH ops.toList π) (AtH ops.toList π)=some l∧Awt ss0 (AtH ops.toList π) l n=true)) ∨
  ∃ n l,c = .sdraw n l []∧P.follows .mixedOrders=true∧∃ π,AEW π ops.toList.length=true∧trL bz P N (AtH ops.toList π) (AtH ops.toList π)=some l∧Awt (ssN n l) (AtH ops.toList π) l (nOf n)=true:=by
 unfold ASG at h
 split at h
 ·rename_i c1 h1
  split at h
  ·split at h
   ·rename_i c2 h2; cases h; exact ⟨true,AG1 h2⟩
   ·cases h; exact ⟨false,AG1 h1⟩
  ·cases h; exact ⟨false,AG1 h1⟩
 ·cases h
theorem AXn {P:Program} {N:Nat} {ops:Array Oper} {c:Atc} (h:ASG P N ops=some c) (hc:∀ n l,c ≠ .draw n l []) (hc2:∀ n l,c ≠ .sdraw n l []):False:=by
 obtain ⟨bz,⟨n,l,e,_⟩ | ⟨n,l,e,_⟩⟩:=AEo h
 ·exact hc n l e
 ·exact hc2 n l e
def trC (P:Program) (N:Nat):Code→Option Atc
 | .skip=>some .skip
 | .region _ ops false=>some (match trL false P N ops.toList ops.toList with | some l => .ops l [] | none => .dead)
 | .region _ ops true=>some (match ASG P N ops with | some c=>c | none => .dead)
 | .seq a b=>match trC P N a,trC P N b with
  | some a,some b=>some (.seq a b)
  | _,_=>none
 | .cond c a b=>match trC P N a,trC P N b with
  | some a,some b=>some (.cond (trO c) a b)
  | _,_=>none
 | .block id c=>(trC P N c).map (.block id)
 | .loop c=>(trC P N c).map (.loop [])
 | .exit id=>some (.exit id)
 | .scope c=>(trC P N c).map .scope
 | .label _=>some .skip
 | .ret=>some .ret
 | .rangeFunc f ps aS bd=>if ps.toList.all (· < N) then (match trC P N aS,trC P N bd with
  | some aS,some bd=>some (.rfunc (trO f) ps.toList aS bd)
  | _,_=>none) else none
 | _=>some .dead
theorem A4q {P:Program} {N id:Nat} {ops:Array Oper} {c:Atc} (h:trC P N (.region id ops false)=some c):(∃ l,trL false P N ops.toList ops.toList=some l∧c = .ops l [])∨c = .dead:=by
 simp only [trC,Option.some.injEq] at h
 split at h
 ·rename_i l hl; exact .inl ⟨l,hl,h.symm⟩
 ·exact .inr h.symm
theorem A1U {P:Program} {N id:Nat} {ops:Array Oper} {c:Atc} (h:trC P N (.region id ops true)=some c):ASG P N ops=some c∨c = .dead:=by
 simp only [trC,Option.some.injEq] at h
 split at h
 ·rename_i l hl; exact .inl (hl.trans (by rw [h]))
 ·exact .inr h.symm
theorem Ayf {P:Program} {N id:Nat} {ops:Array Oper} {c:Atc} (h:trC P N (.region id ops false)=some c) (hc:∀ l,c ≠ .ops l []) (hd:c ≠ .dead):False:=by
 rcases A4q h with ⟨l,_,e⟩ | e
 ·exact hc l e
 ·exact hd e
theorem Aye {P:Program} {N id:Nat} {ops:Array Oper} {c:Atc} (h:trC P N (.region id ops true)=some c) (hc:∀ n l,c ≠ .draw n l []) (hc2:∀ n l,c ≠ .sdraw n l []) (hd:c ≠ .dead):False:=by
 rcases A1U h with e | e
 ·exact AXn e hc hc2
 ·exact hd e
def AL5:Atc→Bool
 | .seq a b=>AL5 a && AL5 b
 | .cond _ a b=>AL5 a && AL5 b
 | .block _ c=>AL5 c
 | .loop _ c=>AL5 c
 | .scope c=>AL5 c
 | .own _ _ c=>AL5 c
 | .ownB _ _ _ c=>AL5 c
 | .ownT _ _ _ c=>AL5 c
 | .frz _ c=>AL5 c
 | .rfunc _ _ _ _=>false
 | _=>true
inductive VEx where
 | nor
 | exit (id:Nat)
 | ret
 | pan (u:Value)
def VEx.ex:VEx→Exit
 | .nor => .normal
 | .exit id => .exit id
 | .ret => .ret
 | .pan u => .panic [{ v:=u,recovered:=false }]
mutual
def AA9 (g:Nat):TV→Bool
 | .op id _ _=>decide (id<g)
 | .os _ id _ _ _ _ _=>decide (id<g)
 | .mp id _=>decide (id<g)
 | .yl id _=>decide (id<g)
 | .agg cs=>ADR g cs
 | .tup cs=>ADR g cs
 | .ifc _ x=>AA9 g x
 | .fn _ a b=>ADR g a && ADR g b
 | _=>true
def ADR (g:Nat):List TV→Bool
 | []=>true
 | x::xs=>AA9 g x && ADR g xs
end
def APh (g:Nat):Env→Bool
 | []=>true
 | (_,x)::e=>AA9 g x && APh g e
def AU0 (g:Nat):Ob→Bool
 | .obj _ x=>AA9 g x
 | .ice _ _ x=>AA9 g x
 | .fact id _ _ _=>decide (id<g)
 | .lp _ _ _ _ e _ _ _=>APh g e
 | .mpo _ es=>ADR g (es.map (·.2))
 | .bld _ _ _=>true
 | .sit _ _=>true
 | .mpd _ zs _=>ADR g (zs.map (·.2.2))
 | .mit m _ _=>decide (m<g)
 | .gone _=>true
def ANh (g:Nat):List Ob→Bool
 | []=>true
 | o::H=>AU0 g o && ANh g H
def ANa (Q:VEx→Env→List Ob→Prop) (e:Env) (L:Nat):TV→List Ob→Prop:=fun _ H'=>match H'[L]? with
 | some (.lp .ready none fn N e1 ps ca cb)=>Q .nor e (H'.set L (.lp .exhausted none fn N e1 ps ca cb))
 | some (.lp .done (some .ret) fn N e1 ps ca cb)=>Q .ret e (H'.set L (.lp .exhausted (some .ret) fn N e1 ps ca cb))
 | some (.lp .done (some (.exit i)) fn N e1 ps ca cb)=>Q (.exit i) e (H'.set L (.lp .exhausted (some (.exit i)) fn N e1 ps ca cb))
 | _=>False
structure AU9 (P:Program) (N:Nat) (ps:List Nat) (ca cb:Code) (aS bd:Atc):Prop where
 a:trC P N ca=some (er aS)
 b:trC P N cb=some (er bd)
 p:ps.all (· < N)=true
def vwp (P:Program):Atc→(VEx→Env→List Ob→Prop)→Env→List Ob→Prop
 | .ops l kp,Q,e,H=>ANH P l (fun e H=>Q .nor (forget kp e) H) e H
 | .opsZ l zs r kp,Q,e,H=>ANH P l (A7X zs (ANH P r (fun e H=>Q .nor (forget kp e) H))) e H
 | .pops l kp,Q,e,H=>AIm P (fun u H=>Q (.pan u) (ATM l e) H) l (fun e H=>Q .nor (forget kp e) H) e H
 | .pdraw n l kp,Q,e,H=>vq P (l.take n) (fun e=>AIm P (fun u H=>Q (.pan u) [] H) (l.drop n) (fun e H=>Q .nor (forget kp e) H) e H) e H
 | .sdraw n l kp,Q,e,H=>vq P (l.take (nOf n)) (fun e=>ADe (pvopS P (fun u H=>Q (.pan u) [] H) (ssN n l)) (l.drop (nOf n)) (fun e H=>Q .nor (forget kp e) H) e H) e H
 | .draw n l kp,Q,e,H=>vq P (l.take n) (fun e=>ANH P (l.drop n) (fun e H=>Q .nor (forget kp e) H) e H) e H
 | .skip,Q,e,H=>Q .nor e H
 | .seq a b,Q,e,H=>vwp P a (fun x e H=>match x with | .nor=>vwp P b Q e H | .exit i=>Q (.exit i) e H | .ret=>Q .ret e H | .pan u=>Q (.pan u) e H) e H
 | .cond c a b,Q,e,H=>match c.ev e with
  | .val (.bool t)=>if t=true then vwp P a Q e H else vwp P b Q e H
  | _=>False
 | .block id c,Q,e,H=>vwp P c (fun x e H=>match x with | .nor=>Q .nor e H | .exit i=>if i=id then Q .nor e H else Q (.exit i) e H | .ret=>Q .ret e H | .pan u=>Q (.pan u) e H) e H
 | .loop lv c,Q,e,H0=>∃ (I:Nat→Env→List Ob→Prop) (n:Nat),I n (forget lv e) H0 ∧
   ∀ n e H,I n e H→vwp P c (fun x e H=>match x with | .nor=>∃ m g,m<n∧(H0.length≤g∧(H.length≤g∨(APh g (forget lv e)=true∧ANh g (H.take g)=true)))∧I m (forget lv e) (H.take g) | .exit i=>Q (.exit i) e H | .ret=>Q .ret e H | .pan u=>Q (.pan u) e H) e H
 | .exit id,Q,e,H=>Q (.exit id) e H
 | .ret,Q,e,H=>Q .ret e H
 | .scope c,Q,e,H=>vwp P c Q e H
 | .dead,_,_,_=>False
 | .own s k c,Q,e,H=>match get e s with
  | .val (.slice none 0 0)=>vwp P c Q ((s,.os k H.length 0 [] 0 0 0)::e) (H++[.obj 0 (.arr 0 k [])])
  | _=>vwp P c Q e H
 | .ownB s p k c,Q,e,H=>match get e s with
  | .op id ver p0=>(match H[id]? with
   | some (.obj v x)=>v=ver∧(match ABl (p0++p) x with
    | some (.val (.slice none 0 0))=>(match AI8 (p0++p) x (.os k H.length 0 [] 0 0 0) with
     | some x'=>vwp P c Q e (H.set id (.obj ver x')++[.obj 0 (.arr 0 k [])])
     | none=>False)
    | _=>vwp P c Q e H)
   | _=>False)
  | _=>False
 | .ownT s p t c,Q,e,H=>match get e s with
  | .op id ver p0=>(match H[id]? with
   | some (.obj v x)=>v=ver∧(match ABl (p0++p) x with
    | some (.val (.slice none 0 0))=>(match AI8 (p0++p) x (.os 1 H.length 0 [] 0 0 0) with
     | some x'=>vwp P c Q e (H.set id (.obj ver x')++[.bld 0 t []])
     | none=>False)
    | _=>vwp P c Q e H)
   | _=>False)
  | _=>False
 | .frz s c,Q,e,H=>match get e s with
  | .os k id ver p off n _=>(match H[id]? with
   | some (.obj v x)=>v=ver∧(match Aw6 p k off n x with
    | some cs=>vwp P c Q ((s,.sl k cs)::e) (H.set id (.gone ver))
    | none=>False)
   | _=>False)
  | _=>False
 | .rfunc f ps aS bd,Q,e,H=>AL5 aS=true∧AL5 bd=true∧(match f.ev e with
  | .fn (.func g) first caps=>AMt P g=true∧∀ (N:Nat) (fn:FuncId) (ca cb:Code),AU9 P N ps ca cb aS bd→Atj P g (first++[.yl H.length 0]++caps) (H++[.lp .ready none fn N e ps ca cb]) (ANa Q e H.length)
  | .val (.func (.func g) xs ys)=>(xs.isEmpty && ys.isEmpty)=true∧AMt P g=true∧∀ (N:Nat) (fn:FuncId) (ca cb:Code),AU9 P N ps ca cb aS bd→Atj P g [.yl H.length 0] (H++[.lp .ready none fn N e ps ca cb]) (ANa Q e H.length)
  | _=>False)
section sound
variable {P:Program}
theorem AKd {c:Ctx} {w:World}:∀ {p:List (Nat×Nat)} {x y z x':TV} {us:List Value},Ath c w x us→ABl p x=some z→(∀ m,Ath c w z m→Ath c w y m)→AI8 p x y=some x'→Ath c w x' us:=by
 intro p x y z x' us h hg hm hs
 obtain ⟨a,m,b,rfl,h1,h2⟩:=AAR h hg
 obtain ⟨a',m',b',e,h3,h4,h5,_⟩:=AHy h hs (hm m h2)
 have e1:a=a':=by
  have:=congrArg (List.take a.length) e
  rw [List.append_assoc,List.append_assoc,List.take_left] at this
  rw [this,List.take_left' (by omega)]
 subst e1
 rw [List.append_assoc,List.append_assoc] at e
 have e2:=List.append_cancel_left e
 have e3:m=m':=by
  have:=congrArg (List.take m.length) e2
  rw [List.take_left] at this
  rw [this,List.take_left' (by omega)]
 subst e3
 have e4:=List.append_cancel_left e2
 subst e4
 exact h5
theorem Sim.give {β:Nat→Nat→Option (Nat×Nat)} {H:List Ob} {F:Nat→Prop} {w:World} (hs:Sim ⟨β,H,F⟩ w) {k id ver off n cp:Nat} {p:List (Nat×Nat)} {x:TV} {cs:List TV} (hid:H[id]?=some (.obj ver x)) (hcs:Aw6 p k off n x=some cs) {us:List Value} (hr:Ath ⟨β,H,F⟩ w (.os k id ver p off n cp) us) :
  Ath ⟨β,H.set id (.gone ver),fun b=>F b∨∃ off,β id ver=some (b,off)⟩ w (.sl k cs) us:=by
 have hm:AAo (Ctx.bare ⟨β,H,F⟩) w (Ctx.bare ⟨β,H.set id (.gone ver),fun b=>F b∨∃ off,β id ver=some (b,off)⟩) w :=
  ⟨fun b hb=>⟨.inl hb,rfl⟩,fun _ _ k=>(Ctx.bare_has k).elim,fun _ _=>rfl⟩
 rw [Ath] at hr
 obtain ⟨hr1,hr2⟩:=hr
 rcases hr2 with ⟨rfl,a0,hr2,_⟩ | ⟨b0,o0,cap,t0,m0,hr2,hr3,hr4,hr5,hr6,hr7⟩
 ·have:cs=[]:=by
   unfold Aw6 at hcs
   split at hcs
   ·split at hcs
    ·cases hcs; simp
    ·cases hcs
   ·cases hcs
  subst this
  rw [Ath]
  exact ⟨by simp,.inl ⟨rfl,a0,0,hr2,by omega⟩⟩
 rcases hs.ob id _ hid with ⟨h0,_⟩ | ⟨b,off',pre,vs,post,t,fr,h0,h1,h2,h3,h4⟩
 ·have h0':β id ver=none:=h0
  have hr2':β id ver=some (b0,o0):=hr2
  rw [h0'] at hr2'; cases hr2'
 have h0':β id ver=some (b,off'):=h0
 have hr2':β id ver=some (b0,o0):=hr2
 rw [h0'] at hr2'
 obtain ⟨rfl,rfl⟩:b=b0∧off'=o0:=by simpa using hr2'
 obtain ⟨a,m,q,rfl,k1,k2,k3,k4⟩:=AB9 h4 hcs
 rw [Ath]
 refine ⟨k3,.inr ⟨b,off'+Axp p+off*k,cap,m,by rw [k4]; exact hr3,by omega,hr5,.inr ⟨off',h0'⟩,Ati.mono hm k2,?_⟩⟩
 have e:off'+Axp p+off*k=pre.length+a.length:=by rw [h3,k1]; omega
 rw [e]; exact AAG h1
theorem AQw {N:Nat} {D:List Deferred}:∀ {zs:List Nat} {K:Env→List Ob→Prop} {e:Env} {H:List Ob} {β:Nat→Nat→Option (Nat×Nat)} {F:Nat→Prop} {w:World} {a:Act},A7X zs K e H→Sim ⟨β,H,F⟩ w→Fr N D ⟨β,H,F⟩ w e a →
  ∃ e' H' F',K e' H'∧Sim ⟨β,H',F'⟩ w∧Fr N D ⟨β,H',F'⟩ w e' a∧Att ⟨β,H,F⟩ w ⟨β,H',F'⟩ w
 | [],K,e,H,β,F,w,a,h,hs,hf=>⟨e,H,F,h,hs,hf,Att.refl _ _⟩
 | s::zs,K,e,H,β,F,w,a,h,hs,hf=>by
  rw [A7X] at h
  split at h
  ·rename_i k id ver p off n cp hg
   split at h
   ·rename_i v y hid
    obtain ⟨rfl,h⟩:=h
    split at h
    ·rename_i cs hcs
     obtain ⟨k1,k2⟩:=hs.freeze hid rfl
     have hr:Rep ⟨β,H,F⟩ w (get e s) (a.tmps.getD s undef):=hf.env.1 s
     rw [hg] at hr
     have hr':Rep ⟨β,H.set id (.gone v),fun b=>F b∨∃ off,β id v=some (b,off)⟩ w (.sl k cs) (a.tmps.getD s undef):=by
      rcases hr with (hr | hr | ⟨us,hr,hr2⟩) | ⟨xs,vs,hr,_⟩
      ·cases hr
      ·cases hr
      ·exact .inl (.inr (.inr ⟨us,hs.give hid hcs hr,by rw [hr2]; rfl⟩))
      ·cases hr
     obtain ⟨e',H',F',q1,q2,q3,q4⟩:=AQw h k1 (a:=a) ⟨⟨fun s'=>by
      rw [Auz]
      by_cases hss:s=s'
      ·subst hss; rw [if_pos rfl]; exact hr'
      ·rw [if_neg hss]; exact Rep.mono (k2.mono hs) (hf.env.1 s'),k1.glob⟩,hf.size,hf.defers⟩
     exact ⟨e',H',F',q1,q2,q3,k2.trans q4⟩
    ·exact h.elim
   ·exact h.elim
  ·exact h.elim
theorem AXz {P:Program} {N:Nat} {all:List Oper}:∀ {os:List Oper} {l1 l2:List VO},trL false P N all os=some (l1++l2)→∃ o1 o2,os=o1++o2∧trL false P N all o1=some l1∧trL false P N all o2=some l2
 | os,[],l2,h=>⟨[],os,rfl,rfl,h⟩
 | [],v::l1,l2,h=>by simp [trL] at h
 | o::os,v::l1,l2,h=>by
  rw [trL] at h
  split at h
  ·rename_i v' g r hv hg hr
   split at h
   ·rename_i hd
    simp only [List.cons_append,Option.some.injEq,List.cons.injEq] at h
    obtain ⟨rfl,rfl⟩:=h
    obtain ⟨o1,o2,rfl,h1,h2⟩:=AXz hr
    refine ⟨o::o1,o2,rfl,?_,h2⟩
    rw [trL,hv,hg,h1]
    simp [hd]
   ·cases h
  ·cases h
theorem AT9 {N:Nat} {D:List Deferred} {ro:Option Nat} {nn:Nat} {all:Array Oper} {os:List Oper} {l1 l2:List VO} {zs:List Nat} (ht:trL false P N all.toList os=some (l1++l2)) {K:Env→List Ob→Prop} {e:Env} {H:List Ob} {β:Nat→Nat→Option (Nat×Nat)} {F:Nat→Prop} {w:World} {a:Act} {QQ:Exit→Act→World→Prop}
  (h:ANH P l1 (A7X zs (ANH P l2 K)) e H) (hs:Sim ⟨β,H,F⟩ w) (hf:Fr N D ⟨β,H,F⟩ w e a)
  (hk:∀ e' H' β' F' w' a',K e' H'→Sim ⟨β',H',F'⟩ w'→Fr N D ⟨β',H',F'⟩ w' e' a'→Att ⟨β,H,F⟩ w ⟨β',H',F'⟩ w'→QQ .normal a' w'):wpListIn (fz ro) nn P all QQ os a w:=by
 obtain ⟨o1,o2,rfl,h1,h2⟩:=AXz ht
 refine APn (ADk.vop (KP:=fun _ _=>False)) h1 h hs hf (fun e' H' β' F' w' a' k1 k2 k3 k4 => ?_) (fun _ _ _ _ _ _ h=>h.elim)
 obtain ⟨e2,H2,F2,q1,q2,q3,q4⟩:=AQw k1 k2 k3
 exact AQq h2 q1 q2 q3 fun e3 H3 β3 F3 w3 a3 m1 m2 m3 m4=>hk e3 H3 β3 F3 w3 a3 m1 m2 m3 ((k4.trans q4).trans m4)
theorem Sim.own {β:Nat→Nat→Option (Nat×Nat)} {H:List Ob} {F:Nat→Prop} {w:World} (hs:Sim ⟨β,H,F⟩ w) (k:Nat) :
  Sim ⟨upd β H.length 0 none,H++[.obj 0 (.arr 0 k [])],F⟩ w∧Att ⟨β,H,F⟩ w ⟨upd β H.length 0 none,H++[.obj 0 (.arr 0 k [])],F⟩ w ∧
   Ath ⟨upd β H.length 0 none,H++[.obj 0 (.arr 0 k [])],F⟩ w (.os k H.length 0 [] 0 0 0) [.slice none 0 0]:=by
 obtain ⟨k1,k2⟩:=hs.newNone (x := .arr 0 k []) (by rw [Ath]; exact ⟨rfl,by simp,by rw [Ati]⟩)
 exact ⟨k1,k2,by rw [Ath]; exact ⟨Aym _ _ _ _ _ (Nat.le_refl _),.inl ⟨rfl,none,rfl,rfl,fun _ h=>by cases h⟩⟩⟩
theorem Sim.ownBld {β:Nat→Nat→Option (Nat×Nat)} {H:List Ob} {F:Nat→Prop} {w:World} (hs:Sim ⟨β,H,F⟩ w) (t:TypeId) :
  Sim ⟨upd β H.length 0 none,H++[.bld 0 t []],F⟩ w∧Att ⟨β,H,F⟩ w ⟨upd β H.length 0 none,H++[.bld 0 t []],F⟩ w ∧
   Ath ⟨upd β H.length 0 none,H++[.bld 0 t []],F⟩ w (.os 1 H.length 0 [] 0 0 0) [.slice none 0 0]:=by
 obtain ⟨k1,k2⟩:=hs.new (.bld 0 t []) rfl none (w':=w) (fun b off e=>by cases e) rfl rfl rfl (Nat.le_refl _) (fun b hb=>rfl) fun hm => .inl ⟨Atw,rfl⟩
 exact ⟨k1,k2,by rw [Ath]; exact ⟨Aym _ _ _ _ _ (Nat.le_refl _),.inl ⟨rfl,none,rfl,rfl,fun _ h=>by cases h⟩⟩⟩
def Ctx.cut (c:Ctx) (g:Nat):Ctx:=⟨c.β,c.H.take g,c.F⟩
theorem Ctx.cut_has {c:Ctx} {g id ver:Nat} (h:c.has id ver) (hg:id<g):(c.cut g).has id ver:=by
 obtain ⟨o,h1,h2⟩:=h
 exact ⟨o,by show (c.H.take g)[id]?=some o; rw [List.getElem?_take,if_pos hg]; exact h1,h2⟩
theorem Ctx.cut_get {c:Ctx} {g id:Nat} {o:Ob} (h:(c.cut g).H[id]?=some o):id<g∧c.H[id]?=some o:=by
 have h':(c.H.take g)[id]?=some o:=h
 rw [List.getElem?_take] at h'
 split at h'
 ·exact ⟨‹_›,h'⟩
 ·cases h'
mutual
theorem Ath.cut {c:Ctx} {w:World} {g:Nat}:∀ {x:TV} {us:List Value},AA9 g x=true→Ath c w x us→Ath (c.cut g) w x us
 | .val y,us,hf,hr=>by rw [Ath] at hr ⊢; exact hr
 | .any,us,hf,hr=>by rw [Ath] at hr ⊢; exact hr
 | .sl k cs,us,hf,hr=>by rw [Ath] at hr ⊢; exact hr
 | .fp x,us,hf,hr=>by rw [Ath] at hr ⊢; exact hr
 | .arr n k cs,us,hf,hr=>by rw [Ath] at hr ⊢; exact hr
 | .op id ver p,us,hf,hr=>by
  rw [AA9,decide_eq_true_eq] at hf; rw [Ath] at hr ⊢; exact ⟨Ctx.cut_has hr.1 hf,hr.2⟩
 | .os k id ver p off n cp,us,hf,hr=>by
  rw [AA9,decide_eq_true_eq] at hf; rw [Ath] at hr ⊢; exact ⟨Ctx.cut_has hr.1 hf,hr.2⟩
 | .mp id ver,us,hf,hr=>by
  rw [AA9,decide_eq_true_eq] at hf; rw [Ath] at hr ⊢; exact ⟨Ctx.cut_has hr.1 hf,hr.2⟩
 | .yl id ver,us,hf,hr=>by
  rw [AA9,decide_eq_true_eq] at hf; rw [Ath] at hr ⊢; exact ⟨Ctx.cut_has hr.1 hf,hr.2⟩
 | .agg cs,us,hf,hr=>by rw [AA9] at hf; rw [Ath] at hr ⊢; exact Ati.cut hf hr
 | .tup cs,us,hf,hr=>by rw [Ath] at hr; exact hr.elim
 | .ifc t x,us,hf,hr=>by
  rw [AA9] at hf; rw [Ath] at hr ⊢
  obtain ⟨u,h1,vs,h2,h3⟩:=hr
  exact ⟨u,h1,vs,Ath.cut hf h2,h3⟩
 | .fn f a b,us,hf,hr=>by
  rw [AA9,Bool.and_eq_true] at hf; rw [Ath] at hr ⊢
  obtain ⟨aS,bs,h1,h2,h3⟩:=hr
  exact ⟨aS,bs,h1,Aue.cut hf.1 h2,Aue.cut hf.2 h3⟩
theorem Ati.cut {c:Ctx} {w:World} {g:Nat}:∀ {xs:List TV} {us:List Value},ADR g xs=true→Ati c w xs us→Ati (c.cut g) w xs us
 | [],us,hf,hr=>by rw [Ati] at hr ⊢; exact hr
 | x::xs,us,hf,hr=>by
  rw [ADR,Bool.and_eq_true] at hf; rw [Ati] at hr ⊢
  obtain ⟨a,b,h1,h2,h3⟩:=hr
  exact ⟨a,b,h1,Ath.cut hf.1 h2,Ati.cut hf.2 h3⟩
theorem Aue.cut {c:Ctx} {w:World} {g:Nat}:∀ {xs:List TV} {us:List Value},ADR g xs=true→Aue c w xs us→Aue (c.cut g) w xs us
 | [],us,hf,hr=>by rw [Aue] at hr ⊢; exact hr
 | x::xs,us,hf,hr=>by
  rw [ADR,Bool.and_eq_true] at hf; rw [Aue] at hr ⊢
  obtain ⟨u,us,h1,h2,h3⟩:=hr
  refine ⟨u,us,h1,?_,Aue.cut hf.2 h3⟩
  rcases h2 with h2 | h2 | ⟨aS,h2,h4⟩
  ·exact .inl h2
  ·exact .inr (.inl h2)
  ·exact .inr (.inr ⟨aS,Ath.cut hf.1 h2,h4⟩)
end
theorem Rep.cut {c:Ctx} {w:World} {g:Nat} {x:TV} {v:Value} (hf:AA9 g x=true) (hr:Rep c w x v):Rep (c.cut g) w x v:=by
 rcases hr with (h | h | ⟨us,h,h'⟩) | ⟨xs,vs,rfl,h2,h3⟩
 ·exact .inl (.inl h)
 ·exact .inl (.inr (.inl h))
 ·exact .inl (.inr (.inr ⟨us,Ath.cut hf h,h'⟩))
 ·rw [AA9] at hf; exact .inr ⟨xs,vs,rfl,h2,Aue.cut hf h3⟩
theorem ALY {g:Nat}:∀ {e:Env},APh g e=true→∀ s,AA9 g (get e s)=true
 | [],_,s=>rfl
 | (k,x)::e,h,s=>by
  rw [APh,Bool.and_eq_true] at h
  rw [Auz]
  split
  ·exact h.1
  ·exact ALY h.2 s
theorem AQm {g:Nat}:∀ {H:List Ob},ANh g H=true→∀ (i:Nat) (o:Ob),H[i]?=some o→AU0 g o=true
 | [],_,i,o,h=>by simp at h
 | o::H,h,i,o',hi=>by
  rw [ANh,Bool.and_eq_true] at h
  cases i with
  | zero=>simp at hi; subst hi; exact h.1
  | succ i=>exact AQm h.2 i o' (by simpa using hi)
theorem Atz.cut {c:Ctx} {w:World} {g:Nat} {kk:MK}:∀ {es:List (List UInt8×TV)} {ms:List MapEntry},ADR g (es.map (·.2))=true→Atz c w kk es ms→Atz (c.cut g) w kk es ms
 | [],ms,_,h=>h
 | (k,x)::es,ms,hb,h=>by
  rw [List.map_cons,ADR,Bool.and_eq_true] at hb
  obtain ⟨m,r,rfl,h1,h2,h3⟩:=h
  exact ⟨m,r,rfl,h1,⟨Ath.cut hb.1 h2.1,h2.2⟩,Atz.cut hb.2 h3⟩
theorem Sim.cut {c:Ctx} {w:World} {g:Nat} (hs:Sim c w) (hg:ANh g (c.H.take g)=true):Sim (c.cut g) w:=by
 have hown:∀ b,(c.cut g).own b→c.own b:=by
  rintro b ⟨i,o,off,h1,h2,h3⟩
  exact ⟨i,o,off,(Ctx.cut_get h1).2,h2,h3⟩
 refine ⟨fun id o ho => ?_,fun i j x y b o o' hx hy hlx hly e e'=>hs.inj i j x y b o o' (Ctx.cut_get hx).2 (Ctx.cut_get hy).2 hlx hly e e',fun b hb=>hs.apart b (hown b hb),hs.lt,hs.glob⟩
 have h1:=hs.ob id o (Ctx.cut_get ho).2
 have hb:=AQm hg id o ho
 cases o with
 | gone v=>trivial
 | ice v m x =>
  obtain ⟨b,off,pre,vs,post,t,fr,h0,h1,h2,h3,h4⟩:=h1
  exact ⟨b,off,pre,vs,post,t,fr,h0,h1,h2,h3,Ath.cut hb h4⟩
 | bld v t l=>exact h1
 | fact i v t m =>
  obtain ⟨h0,h2⟩:=h1
  exact ⟨Ctx.cut_has h0 (by simpa [AU0] using hb),h2⟩
 | lp st pend fn N en ps ca cb =>
  obtain ⟨b,tmps,D,h0,h1,h2,h3⟩:=h1
  exact ⟨b,tmps,D,h0,h1,h2,fun s=>Rep.cut (ALY hb s) (h3 s)⟩
 | mpo kk es =>
  obtain ⟨b,ms,cl,h0,h1,h2,h3⟩:=h1
  exact ⟨b,ms,cl,h0,h1,Atz.cut hb h2,h3⟩
 | sit s pos=>exact h1
 | mpd kk zs cl =>
  obtain ⟨b,ms,h0,h1,h2,h3⟩:=h1
  exact ⟨b,ms,h0,h1,Atz.cut (by rw [List.map_map]; exact hb) h2,h3⟩
 | mit m sn cl =>
  obtain ⟨r,b,h0,⟨g0,g1⟩,h1⟩:=h1
  exact ⟨r,b,h0,⟨Ctx.cut_has g0 (by simpa [AU0] using hb),g1⟩,h1⟩
 | obj v x =>
  rcases h1 with ⟨h0,h4⟩ | ⟨b,off,pre,vs,post,t,fr,h0,h1,h2,h3,h4⟩
  ·exact .inl ⟨h0,Ath.cut hb h4⟩
  ·exact .inr ⟨b,off,pre,vs,post,t,fr,h0,h1,h2,h3,Ath.cut hb h4⟩
theorem Att.cut {c0 c:Ctx} {w0 w:World} {g:Nat} (hl:Att c0 w0 c w) (hg:c0.H.length≤g):Att c0 w0 (c.cut g) w :=
 ⟨hl.os,hl.tape,hl.output,hl.size,fun id ver h=>by
  obtain ⟨h1,h2⟩:=hl.has id ver h
  exact ⟨Ctx.cut_has h1 (Nat.lt_of_lt_of_le (Ctx.has_lt h) hg),h2⟩,hl.shape,hl.same,hl.keepF,hl.oldF,fun b hb ⟨i,o,off,h1,h2,h3⟩=>hl.oldOwn b hb ⟨i,o,off,(Ctx.cut_get h1).2,h2,h3⟩⟩
def ADL (D0:List Deferred) (B:Nat) (c:Ctx) (w:World) (D:List Deferred):Prop:=∃ ds:List Nat,D=ds.map (fun r=>{ target := .collected r,args := #[] })++D0∧ds.Nodup∧∀ r∈ds,B≤r∧r<w.heap.size∧¬ c.own r∧¬ c.F r∧w.heap[r]?=some (.deferred (some []))
theorem ADL.nil {D0:List Deferred} {B:Nat} {c:Ctx} {w:World}:ADL D0 B c w D0:=⟨[],rfl,List.nodup_nil,fun r h=>by cases h⟩
theorem ADL.later {D0:List Deferred} {B:Nat} {c c':Ctx} {w w':World} {D:List Deferred} (h:ADL D0 B c w D) (hl:Att c w c' w'):ADL D0 B c' w' D:=by
 obtain ⟨ds,h1,h2,h3⟩:=h
 refine ⟨ds,h1,h2,fun r hr => ?_⟩
 obtain ⟨k1,k2,k3,k4,k5⟩:=h3 r hr
 exact ⟨k1,Nat.lt_of_lt_of_le k2 hl.size,fun h=>k3 (hl.oldOwn r k2 h),fun h=>(hl.oldF r k2 h).elim k4 k3,(hl.same r k2 k3).trans k5⟩
theorem ADL.cut {D0:List Deferred} {B g:Nat} {c:Ctx} {w:World} {D:List Deferred} (h:ADL D0 B c w D):ADL D0 B (c.cut g) w D:=by
 obtain ⟨ds,h1,h2,h3⟩:=h
 refine ⟨ds,h1,h2,fun r hr => ?_⟩
 obtain ⟨k1,k2,k3,k4,k5⟩:=h3 r hr
 exact ⟨k1,k2,fun ⟨i,o,off,h1,h2,h3⟩=>k3 ⟨i,o,off,(Ctx.cut_get h1).2,h2,h3⟩,k4,k5⟩
theorem AG4 (w:World) (r:Nat) (o:Obj):(w.putObj r o).os=w.os∧(w.putObj r o).tape=w.tape∧(w.putObj r o).output=w.output∧(w.putObj r o).heap.size=w.heap.size:=⟨rfl,rfl,rfl,by simp [World.putObj]⟩
theorem AQd {w:World} {b:Nat} {r:Loop} (h:w.heap[b]?=some (.loop r)):w.shape? b=none:=by simp [World.shape?,h]
theorem Sim.loopTurn {β:Nat→Nat→Option (Nat×Nat)} {H:List Ob} {F:Nat→Prop} {w:World} (hs:Sim ⟨β,H,F⟩ w) {id N:Nat} {fn:FuncId} {e:Env} {ps:List Nat} {ca cb:Code} {st st':LoopState} {pe pe':Option Code}
  (ho:H[id]?=some (.lp st pe fn N e ps ca cb)):∃ (b:Nat) (r:Loop),β id 0=some (b,0)∧w.heap[b]?=some (.loop r)∧r.state=st∧r.pending=pe∧r.fn=fn∧r.tmps.size=N∧r.params=ps.toArray∧r.assign=ca∧r.body=cb∧(∀ s,Rep ⟨β,H,F⟩ w (get e s) (r.tmps.getD s undef)) ∧
   Sim ⟨β,H.set id (.lp st' pe' fn N e ps ca cb),F⟩ (w.putObj b (.loop { r with state:=st',pending:=pe' })) ∧
   Att ⟨β,H,F⟩ w ⟨β,H.set id (.lp st' pe' fn N e ps ca cb),F⟩ (w.putObj b (.loop { r with state:=st',pending:=pe' })):=by
 obtain ⟨b,tmps,D,h1,h2,h3,h4⟩:=hs.ob id _ ho
 have hlt:b<w.heap.size:=(Array.getElem?_eq_some_iff.1 h2).1
 have hid:id<H.length:=(List.getElem?_eq_some_iff.1 ho).1
 have hput:=World.putObj_heap_same (w:=w) (o := .loop { state:=st',pending:=pe',fn:=fn,tmps:=tmps,params:=ps.toArray,assign:=ca,body:=cb,defers:=D }) hlt
 obtain ⟨k1,k2⟩:=hs.turn (β':=β) (w':=w.putObj b (.loop { state:=st',pending:=pe',fn:=fn,tmps:=tmps,params:=ps.toArray,assign:=ca,body:=cb,defers:=D })) ho (o' := .lp st' pe' fn N e ps ca cb) rfl rfl (Nat.le_refl _) (fun _ _ _=>rfl) (fun b' off hb => .inl ⟨off,hb⟩) rfl rfl rfl
  (by rw [(AG4 _ _ _).2.2.2]; exact Nat.le_refl _) (fun b' hb'=>by
   by_cases hbb:b'=b
   ·subst hbb; rw [AQd h2,AQd hput]
   ·exact Auw (World.putObj_heap_other hbb)) (fun b' hb' hne=>World.putObj_heap_other (fun e=>hne 0 (by subst e; exact h1)))
  (fun hm=>⟨b,tmps,D,h1,hput,h3,fun s=>Rep.mono hm (h4 s)⟩)
 exact ⟨b,{ state:=st,pending:=pe,fn:=fn,tmps:=tmps,params:=ps.toArray,assign:=ca,body:=cb,defers:=D },h1,h2,rfl,rfl,rfl,h3,rfl,rfl,rfl,h4,k1,k2⟩
theorem AO9 {N nn:Nat} {f0:Operand} {ps0:Array Tmp} {ca cb:Code} {Q:VEx→Env→List Ob→Prop} {e:Env} {H:List Ob} {β:Nat→Nat→Option (Nat×Nat)} {F:Nat→Prop} {w:World} {a:Act} {QQ:Exit→Act→World→Prop} {B:Nat} {D D0:List Deferred}
  (hs:Sim ⟨β,H,F⟩ w) (hf:Fr N D ⟨β,H,F⟩ w e a) (hm:ADL D0 B ⟨β,H,F⟩ w D) (hB:B≤w.heap.size) {g:FuncId} {us vs:List Value} {first caps:List TV} (hv:a.eval f0 = .func (.func g) us.toArray vs.toArray) (hgo:AMt P g=true) (hfi:Aue ⟨β,H,F⟩ w first us) (hc:Aue ⟨β,H,F⟩ w caps vs)
  (h:∀ fn,Atj P g (first++[.yl H.length 0]++caps) (H++[.lp .ready none fn N e ps0.toList ca cb]) (ANa Q e H.length))
  (hk:∀ x e' H' β' F' w' a' D',Q x e' H'→Sim ⟨β',H',F'⟩ w'→Fr N D' ⟨β',H',F'⟩ w' e' a'→ADL D0 B ⟨β',H',F'⟩ w' D'→Att ⟨β,H,F⟩ w ⟨β',H',F'⟩ w'→QQ x.ex a' w'):(Code.rangeFunc f0 ps0 ca cb).wpIn (fz none) nn P QQ a w:=by
 refine wpIn_rangeFunc ?_
 intro fn hfn
 obtain ⟨rec,hrec⟩:∃ rec:Loop,rec={ state := .ready,pending:=none,fn:=fn,tmps:=a.tmps,params:=ps0,assign:=ca,body:=cb,defers:=w.heap.size }:=⟨_,rfl⟩
 obtain ⟨W1,hW1⟩:∃ W1,(w.alloc (.deferred (some []))).alloc (.loop rec)=W1:=⟨_,rfl⟩
 have hL1:W1.heap[w.heap.size+1]?=some (.loop rec):=by
  rw [←hW1]; have:=World.alloc_heap_new (w.alloc (.deferred (some []))) (.loop rec); rwa [World.size_alloc] at this
 have hK1:W1.heap[w.heap.size]?=some (.deferred (some [])):=by
  rw [←hW1]; exact (Below.heap_alloc _ _ _ (by simp)).trans (World.alloc_heap_new w _)
 have hsz:W1.heap.size=w.heap.size+2:=by rw [←hW1]; simp
 have hold:∀ b,b<w.heap.size→W1.heap[b]?=w.heap[b]?:=fun b hb=>by
  rw [←hW1]; exact (Below.heap_alloc _ _ _ (by simp; omega)).trans (Below.heap_alloc _ _ _ hb)
 obtain ⟨k1,k2⟩:=hs.new (w':=W1) (.lp .ready none fn N e ps0.toList ca cb) rfl (some (w.heap.size+1,0)) (fun b off h=>by simp at h; omega) (by rw [←hW1]; rfl) (by rw [←hW1]; rfl) (by rw [←hW1]; rfl) (by omega) hold
  (fun hmo=>⟨w.heap.size+1,a.tmps,w.heap.size,Atw,by rw [hL1,hrec],hf.size,fun s=>Rep.mono hmo (hf.env.1 s)⟩)
 have hmo:=k2.mono hs
 have hown1:∀ b,Ctx.own ⟨upd β H.length 0 (some (w.heap.size+1,0)),H++[.lp .ready none fn N e ps0.toList ca cb],F⟩ b→b≠w.heap.size:=by
  rintro b ⟨i,o,off,h1,h2,h3⟩ rfl
  by_cases hi:i<H.length
  ·rw [List.getElem?_append_left hi] at h1
   have h3':β i o.ver=some (w.heap.size,off):=by
    have h3:upd β H.length 0 (some (w.heap.size+1,0)) i o.ver=some (w.heap.size,off):=h3
    rw [AKp (fun h=>by omega)] at h3; exact h3
   have:=hs.own_lt ⟨i,o,off,h1,h2,h3'⟩
   omega
  ·have hil:i=H.length:=by
    have:=(List.getElem?_eq_some_iff.1 h1).1
    simp at this; omega
   subst hil
   simp at h1
   subst h1
   have h3:upd β H.length 0 (some (w.heap.size+1,0)) H.length 0=some (w.heap.size,off):=h3
   rw [Atw] at h3
   simp at h3
 refine ⟨w.heap.size+1,[{ target := .collected w.heap.size,args := #[] }],W1,{ target := .fn (.func g) vs.toArray,args:=us.toArray ++ #[.func (.yield (w.heap.size+1)) #[] #[]] },W1,g,us.toArray ++ #[.func (.yield (w.heap.size+1)) #[] #[]]++vs.toArray,W1,?_,?_,?_,?_,?_,?_⟩
 ·rw [←hW1,hrec]; exact run_enterLoop_outer _ _ _ _ _
 ·simp only [resolve,hv]
  simp [go_sem]
 ·intro f' hf'; trivial
 ·simp only [invoke,AAk hgo]
 ·intro h; simp [fz,Fence.wide] at h
 ·refine (callsIn_wide (n:=nn - 1)).2 ?_
  have hargs:Aue ⟨upd β H.length 0 (some (w.heap.size+1,0)),H++[.lp .ready none fn N e ps0.toList ca cb],F⟩ W1 (first++[.yl H.length 0]++caps) (us++[.func (.yield (w.heap.size+1)) #[] #[]]++vs):=by
   refine Aue.append (Aue.append (Aue.mono hmo hfi) (Aue.cons.2 ⟨_,[],rfl,.inr (.inr ⟨[.func (.yield (w.heap.size+1)) #[] #[]],?_,rfl⟩),by rw [Aue]⟩)) (Aue.mono hmo hc)
   rw [Ath]
   exact ⟨Aym _ _ _ _ _ (Nat.le_refl _),_,_,Atw,rfl⟩
  have hcall:=h fn _ _ W1 _ k1 hargs
  rw [show (us++[Value.func (.yield (w.heap.size+1)) #[] #[]]++vs).toArray=us.toArray ++ #[.func (.yield (w.heap.size+1)) #[] #[]]++vs.toArray from by simp] at hcall
  refine hcall.mono ?_
  rintro _ w3 ⟨v,x,β',H',F',rfl,hR,hs',hl',hx⟩
  have hmk:ADL D0 B ⟨β',H',F'⟩ w3 ({ target := .collected w.heap.size,args := #[] }::D):=by
   have h1:ADL D0 B ⟨upd β H.length 0 (some (w.heap.size+1,0)),H++[.lp .ready none fn N e ps0.toList ca cb],F⟩ W1 ({ target := .collected w.heap.size,args := #[] }::D):=by
    obtain ⟨ds,d1,d2,d3⟩:=hm.later k2
    refine ⟨w.heap.size::ds,by rw [d1]; rfl,List.nodup_cons.2 ⟨fun hin => ?_,d2⟩,fun r hr => ?_⟩
    ·obtain ⟨ds',e1,e2,e3⟩:=hm
     have:ds'=ds:=by
      have:ds'.map (fun r=>({ target := .collected r,args := #[] }:Deferred))=ds.map (fun r=>{ target := .collected r,args := #[] }):=List.append_cancel_right (e1.symm.trans d1)
      exact (List.map_inj_right (fun a b h=>by simpa using h)).1 this
     rw [←this] at hin
     have:=(e3 _ hin).2.1
     omega
    ·rcases List.mem_cons.1 hr with rfl | hr
     ·exact ⟨hB,by omega,fun ho=>hown1 _ ho rfl,fun hF=>absurd (hs.lt _ hF) (by omega),hK1⟩
     ·exact d3 r hr
   exact h1.later hl'
  have fin:∀ (st:LoopState) (pe:Option Code) (fn':FuncId) (N':Nat) (e1:Env) (ps1:List Nat) (c1 c2:Code),st ≠ .busy→H'[H.length]?=some (.lp st pe fn' N' e1 ps1 c1 c2) →
    ∃ w4,(Instr.endLoop (w.heap.size+1)).run P w3 = .ok pe w4∧Sim ⟨β',H'.set H.length (.lp .exhausted pe fn' N' e1 ps1 c1 c2),F'⟩ w4∧Att ⟨β',H',F'⟩ w3 ⟨β',H'.set H.length (.lp .exhausted pe fn' N' e1 ps1 c1 c2),F'⟩ w4:=by
   intro st pe fn' N' e1 ps1 c1 c2 hst hob
   obtain ⟨b,r,r1,r2,r3,r4,_,_,_,_,_,_,r5,r6⟩:=hs'.loopTurn (st' := .exhausted) (pe':=pe) hob
   have hβ:β' H.length 0=some (w.heap.size+1,0):=((hl'.has H.length 0 (Aym _ _ _ _ _ (Nat.le_refl _))).2).trans Atw
   rw [hβ] at r1
   obtain ⟨rfl,_⟩:w.heap.size+1=b∧True:=by simpa using r1
   subst r4
   exact ⟨_,run_endLoop (P:=P) r2 (by rw [r3]; exact hst),r5,r6⟩
  have hfr:∀ {c:Ctx} {w4:World},Att ⟨β,H,F⟩ w c w4→ABr c.F w4→Fr N ({ target := .collected w.heap.size,args := #[] }::D) c w4 e { a with defers:={ target := .collected w.heap.size,args := #[] }::a.defers }:=fun {c w4} hl hgl =>
   ⟨⟨fun s=>Rep.mono (hl.mono hs) (hf.env.1 s),hgl⟩,hf.size,by rw [hf.defers]⟩
  unfold ANa at hR
  simp only [rangePost]
  split at hR
  ·rename_i hob
   obtain ⟨w4,e1,e2,e3⟩:=fin .ready none _ _ _ _ _ _ (by simp) hob
   exact ⟨none,w4,e1,hk .nor _ _ _ _ _ _ _ hR e2 (hfr ((k2.trans hl').trans e3) e2.glob) (hmk.later e3) ((k2.trans hl').trans e3)⟩
  ·rename_i hob
   obtain ⟨w4,e1,e2,e3⟩:=fin .done (some .ret) _ _ _ _ _ _ (by simp) hob
   exact ⟨some .ret,w4,e1,wpIn_ret (hk .ret _ _ _ _ _ _ _ hR e2 (hfr ((k2.trans hl').trans e3) e2.glob) (hmk.later e3) ((k2.trans hl').trans e3))⟩
  ·rename_i i _ _ _ _ _ _ hob
   obtain ⟨w4,e1,e2,e3⟩:=fin .done (some (.exit _)) _ _ _ _ _ _ (by simp) hob
   exact ⟨some (.exit _),w4,e1,wpIn_exit (hk (.exit _) _ _ _ _ _ _ _ hR e2 (hfr ((k2.trans hl').trans e3) e2.glob) (hmk.later e3) ((k2.trans hl').trans e3))⟩
  ·exact hR.elim
theorem Ayx {b:Frame} {a:Act} {k:List Item} {cs:List Frame} {w:World} {c:Code}:step P (lone (b.atR a (.code (.scope c)::k)) cs w) = .next (lone (b.atR a (.code c :: .inScope c::k)) cs w) :=
 step_lone_go (by simp [stepG,stepG.exec,Frame.atR])
theorem APs {b:Frame} {a:Act} {k:List Item} {cs:List Frame} {w:World} {c:Code}:step P (lone (b.atR a (.inScope c::k)) cs w) = .next (lone (b.atR a k) cs w) :=
 step_lone_go (by simp [stepG,stepG.exec,Frame.atR])
theorem AUi {F:Fence} {n:Nat} {Q:Exit→Act→World→Prop} {a:Act} {w:World} {c:Code} (h:c.wpIn F n P (Exit.noGoto Q) a w):(Code.scope c).wpIn F n P Q a w:=by
 intro b k cs hro hb hr
 have h0:(lone (b.atR a (.code (.scope c)::k)) cs w).fenced P F:=fenced_calm hb hr rfl
 obtain ⟨e,a₁,w₁,hq,harr⟩:=h b (.inScope c::k) cs hro hb hr
 cases e with
 | normal=>exact ⟨.normal,a₁,w₁,hq,.head h0 Ayx (StepsIn.trans harr (.one (fenced_calm hb hr rfl) APs))⟩
 | exit id' =>
  have hx:exitTo id' (.inScope c::k)=exitTo id' k:=by simp [exitTo]
  exact ⟨.exit id',a₁,w₁,hq,fun k' hk => .head h0 Ayx (harr.1 k' (by rw [hx]; exact hk)),fun hr' hk=>let ⟨k₁,h1,h2⟩:=harr.2 hr' (by rw [hx]; exact hk); ⟨k₁,h1,.head h0 Ayx h2⟩⟩
 | goto l=>exact hq.elim
 | ret=>exact ⟨_,a₁,w₁,hq,.of_steps (.one h0 Ayx) harr⟩
 | panic ch=>exact ⟨_,a₁,w₁,hq,.of_steps (.one h0 Ayx) harr⟩
 | outgrown=>exact ⟨_,a₁,w₁,hq,.of_steps (.one h0 Ayx) harr⟩
theorem AOp {N:Nat} {ro:Option Nat} {nn:Nat}:∀ (vc:Atc) {code:Code},(ro=none∨AL5 vc=true)→trC P N code=some (er vc)→∀ {Q:VEx→Env→List Ob→Prop} {e:Env} {H:List Ob} {β:Nat→Nat→Option (Nat×Nat)} {F:Nat→Prop} {w:World} {a:Act} {QQ:Exit→Act→World→Prop} {B:Nat} {D D0:List Deferred},vwp P vc Q e H→Sim ⟨β,H,F⟩ w→Fr N D ⟨β,H,F⟩ w e a→ADL D0 B ⟨β,H,F⟩ w D→B≤w.heap.size →
  (∀ x e' H' β' F' w' a' D',Q x e' H'→Sim ⟨β',H',F'⟩ w'→Fr N D' ⟨β',H',F'⟩ w' e' a'→ADL D0 B ⟨β',H',F'⟩ w' D'→Att ⟨β,H,F⟩ w ⟨β',H',F'⟩ w'→QQ x.ex a' w')→code.wpIn (fz ro) nn P QQ a w:=by
 intro vc
 have inv:∀ {code:Code} {v:Atc},trC P N code=some v→True:=fun _=>trivial
 induction vc with
 | ops l kp =>
  intro code hrf ht Q e H β F w a QQ B D D0 h hs hf hm hB hk
  rw [er] at ht
  cases code with
  | region id ops d =>
   cases d with
   | true=>exact (Aye ht (by simp) (by simp) (by simp)).elim
   | false =>
    obtain ⟨l',hl,e9⟩:=(A4q ht).resolve_right (by simp)
    simp only [Atc.ops.injEq,and_true] at e9
    subst e9
    rw [vwp] at h
    exact wpIn_region_list (AQq hl h hs hf fun e' H' β' F' w' a' k1 k2 k3 k4=>hk .nor _ _ _ _ _ _ _ k1 k2 (k3.forget kp) (hm.later k4) k4)
  | seq x y=>simp only [trC] at ht; split at ht<;>simp at ht
  | cond c x y=>simp only [trC] at ht; split at ht<;>simp at ht
  | rangeFunc f ps x y=>simp only [trC] at ht; split at ht<;>(try split at ht)<;>simp at ht
  | _=>simp [trC] at ht
 | opsZ l zs r kp =>
  intro code hrf ht Q e H β F w a QQ B D D0 h hs hf hm hB hk
  rw [er] at ht
  cases code with
  | region id ops d =>
   cases d with
   | true=>exact (Aye ht (by simp) (by simp) (by simp)).elim
   | false =>
    obtain ⟨l',hl,e9⟩:=(A4q ht).resolve_right (by simp)
    simp only [Atc.ops.injEq,and_true] at e9
    subst e9
    rw [vwp] at h
    exact wpIn_region_list (AT9 hl h hs hf fun e' H' β' F' w' a' k1 k2 k3 k4=>hk .nor _ _ _ _ _ _ _ k1 k2 (k3.forget kp) (hm.later k4) k4)
  | seq x y=>simp only [trC] at ht; split at ht<;>simp at ht
  | cond c x y=>simp only [trC] at ht; split at ht<;>simp at ht
  | rangeFunc f ps x y=>simp only [trC] at ht; split at ht<;>(try split at ht)<;>simp at ht
  | _=>simp [trC] at ht
 | pops l kp =>
  intro code hrf ht Q e H β F w a QQ B D D0 h hs hf hm hB hk
  rw [er] at ht
  cases code with
  | region id ops d =>
   cases d with
   | true=>exact (Aye ht (by simp) (by simp) (by simp)).elim
   | false =>
    obtain ⟨l',hl,e9⟩:=(A4q ht).resolve_right (by simp)
    simp only [Atc.ops.injEq,and_true] at e9
    subst e9
    rw [vwp] at h
    exact wpIn_region_list (AUa hl h hs hf (fun e' H' β' F' w' a' k1 k2 k3 k4=>hk .nor _ _ _ _ _ _ _ k1 k2 (k3.forget kp) (hm.later k4) k4) fun u H' β' F' w' a' k1 k2 k3 k4=>hk (.pan u) _ _ _ _ _ _ _ k1 k2 k3 (hm.later k4) k4)
  | seq x y=>simp only [trC] at ht; split at ht<;>simp at ht
  | cond c x y=>simp only [trC] at ht; split at ht<;>simp at ht
  | rangeFunc f ps x y=>simp only [trC] at ht; split at ht<;>(try split at ht)<;>simp at ht
  | _=>simp [trC] at ht
 | draw n l kp =>
  intro code hrf ht Q e H β F w a QQ B D D0 h hs hf hm hB hk
  rw [er] at ht
  cases code with
  | region id ops d =>
   cases d with
   | false=>exact (Ayf ht (by simp) (by simp)).elim
   | true =>
    obtain ⟨bz,hsp⟩:=AEo ((A1U ht).resolve_right (by simp))
    obtain ⟨n',l',e9,hmo,hh⟩:=hsp.resolve_right (by simp)
    simp only [Atc.draw.injEq,and_true] at e9
    obtain ⟨rfl,rfl⟩:=e9
    rw [vwp] at h
    rcases hh with ⟨hl,hck⟩ | ⟨π,hp,hl,hck⟩
    ·exact AQv WOk.vop hmo hl hck h hs hf ⟨fun e' H' β' F' w' a' k1 k2 k3 k4=>hk .nor _ _ _ _ _ _ _ k1 k2 (k3.forget kp) (hm.later k4) k4,fun _ _ _ _ _ _ (h:False)=>h.elim⟩
    ·exact AJj WOk.vop hmo hp hl hck h hs hf ⟨fun e' H' β' F' w' a' k1 k2 k3 k4=>hk .nor _ _ _ _ _ _ _ k1 k2 (k3.forget kp) (hm.later k4) k4,fun _ _ _ _ _ _ (h:False)=>h.elim⟩
  | seq x y=>simp only [trC] at ht; split at ht<;>simp at ht
  | cond c x y=>simp only [trC] at ht; split at ht<;>simp at ht
  | rangeFunc f ps x y=>simp only [trC] at ht; split at ht<;>(try split at ht)<;>simp at ht
  | _=>simp [trC] at ht
 | pdraw n l kp =>
  intro code hrf ht Q e H β F w a QQ B D D0 h hs hf hm hB hk
  rw [er] at ht
  cases code with
  | region id ops d =>
   cases d with
   | false=>exact (Ayf ht (by simp) (by simp)).elim
   | true =>
    obtain ⟨bz,hsp⟩:=AEo ((A1U ht).resolve_right (by simp))
    obtain ⟨n',l',e9,hmo,hh⟩:=hsp.resolve_right (by simp)
    simp only [Atc.draw.injEq,and_true] at e9
    obtain ⟨rfl,rfl⟩:=e9
    rw [vwp] at h
    rcases hh with ⟨hl,hck⟩ | ⟨π,hp,hl,hck⟩
    ·exact AQv WOk.pvop hmo hl hck h hs hf ⟨fun e' H' β' F' w' a' k1 k2 k3 k4=>hk .nor _ _ _ _ _ _ _ k1 k2 (k3.forget kp) (hm.later k4) k4,fun u H' β' F' w' a' k1 k2 k3 k4=>hk (.pan u) _ _ _ _ _ _ _ k1 k2 k3 (hm.later k4) k4⟩
    ·exact AJj WOk.pvop hmo hp hl hck h hs hf ⟨fun e' H' β' F' w' a' k1 k2 k3 k4=>hk .nor _ _ _ _ _ _ _ k1 k2 (k3.forget kp) (hm.later k4) k4,fun u H' β' F' w' a' k1 k2 k3 k4=>hk (.pan u) _ _ _ _ _ _ _ k1 k2 k3 (hm.later k4) k4⟩
  | seq x y=>simp only [trC] at ht; split at ht<;>simp at ht
  | cond c x y=>simp only [trC] at ht; split at ht<;>simp at ht
  | rangeFunc f ps x y=>simp only [trC] at ht; split at ht<;>(try split at ht)<;>simp at ht
  | _=>simp [trC] at ht
 | sdraw n l kp =>
  intro code hrf ht Q e H β F w a QQ B D D0 h hs hf hm hB hk
  rw [er] at ht
  cases code with
  | region id ops d =>
   cases d with
   | false=>exact (Ayf ht (by simp) (by simp)).elim
   | true =>
    obtain ⟨bz,hsp⟩:=AEo ((A1U ht).resolve_right (by simp))
    obtain ⟨n',l',e9,hmo,π,hp,hl,hck⟩:=hsp.resolve_left (by simp)
    simp only [Atc.sdraw.injEq,and_true] at e9
    obtain ⟨rfl,rfl⟩:=e9
    rw [vwp] at h
    exact AJj WOk.pvopS hmo hp hl hck h hs hf ⟨fun e' H' β' F' w' a' k1 k2 k3 k4=>hk .nor _ _ _ _ _ _ _ k1 k2 (k3.forget kp) (hm.later k4) k4,fun u H' β' F' w' a' k1 k2 k3 k4=>hk (.pan u) _ _ _ _ _ _ _ k1 k2 k3 (hm.later k4) k4⟩
  | seq x y=>simp only [trC] at ht; split at ht<;>simp at ht
  | cond c x y=>simp only [trC] at ht; split at ht<;>simp at ht
  | rangeFunc f ps x y=>simp only [trC] at ht; split at ht<;>(try split at ht)<;>simp at ht
  | _=>simp [trC] at ht
 | skip =>
  intro code hrf ht Q e H β F w a QQ B D D0 h hs hf hm hB hk
  rw [er] at ht
  cases code with
  | skip=>exact wpIn_skip (hk .nor _ _ _ _ _ _ _ h hs hf hm (Att.refl _ _))
  | label l=>exact wpIn_label (hk .nor _ _ _ _ _ _ _ h hs hf hm (Att.refl _ _))
  | region id ops d =>
   cases d
   ·exact (Ayf ht (by simp) (by simp)).elim
   ·exact (Aye ht (by simp) (by simp) (by simp)).elim
  | seq x y=>simp only [trC] at ht; split at ht<;>simp at ht
  | cond c x y=>simp only [trC] at ht; split at ht<;>simp at ht
  | rangeFunc f ps x y=>simp only [trC] at ht; split at ht<;>(try split at ht)<;>simp at ht
  | _=>simp [trC] at ht
 | seq x y ihx ihy =>
  intro code hrf ht Q e H β F w a QQ B D D0 h hs hf hm hB hk
  rw [er] at ht
  cases code with
  | region id ops d =>
   cases d
   ·exact (Ayf ht (by simp) (by simp)).elim
   ·exact (Aye ht (by simp) (by simp) (by simp)).elim
  | seq cx cy =>
   simp only [trC] at ht
   split at ht
   ·rename_i vx vy hx hy
    simp only [Option.some.injEq,Atc.seq.injEq] at ht
    obtain ⟨rfl,rfl⟩:=ht
    rw [vwp] at h
    have hrx:ro=none∨AL5 x=true:=hrf.imp id fun h=>by simp only [AL5,Bool.and_eq_true] at h; exact h.1
    have hry:ro=none∨AL5 y=true:=hrf.imp id fun h=>by simp only [AL5,Bool.and_eq_true] at h; exact h.2
    refine wpIn_seq (ihx hrx hx h hs hf hm hB ?_)
    intro x e' H' β' F' w' a' D' k1 k2 k3 km k4
    cases x with
    | nor=>exact ihy hry hy k1 k2 k3 km (Nat.le_trans hB k4.size) fun x e2 H2 β2 F2 w2 a2 D2 m1 m2 m3 mm m4=>hk _ _ _ _ _ _ _ _ m1 m2 m3 mm (k4.trans m4)
    | exit i=>exact hk (.exit i) _ _ _ _ _ _ _ k1 k2 k3 km k4
    | ret=>exact hk .ret _ _ _ _ _ _ _ k1 k2 k3 km k4
    | pan u=>exact hk (.pan u) _ _ _ _ _ _ _ k1 k2 k3 km k4
   ·simp at ht
  | cond c x y=>simp only [trC] at ht; split at ht<;>simp at ht
  | rangeFunc f ps x y=>simp only [trC] at ht; split at ht<;>(try split at ht)<;>simp at ht
  | _=>simp [trC] at ht
 | cond c x y ihx ihy =>
  intro code hrf ht Q e H β F w a QQ B D D0 h hs hf hm hB hk
  rw [er] at ht
  cases code with
  | region id ops d =>
   cases d
   ·exact (Ayf ht (by simp) (by simp)).elim
   ·exact (Aye ht (by simp) (by simp) (by simp)).elim
  | seq x y=>simp only [trC] at ht; split at ht<;>simp at ht
  | cond cc cx cy =>
   simp only [trC] at ht
   split at ht
   ·rename_i vx vy hx hy
    simp only [Option.some.injEq,Atc.cond.injEq] at ht
    obtain ⟨rfl,rfl,rfl⟩:=ht
    rw [vwp] at h
    split at h
    ·rename_i t hc
     have hrx:ro=none∨AL5 x=true:=hrf.imp id fun h=>by simp only [AL5,Bool.and_eq_true] at h; exact h.1
     have hry:ro=none∨AL5 y=true:=hrf.imp id fun h=>by simp only [AL5,Bool.and_eq_true] at h; exact h.2
     refine wpIn_cond_split (hf.env.val hc) (fun htt => ?_) (fun htf => ?_)
     ·rw [if_pos htt] at h; exact ihx hrx hx h hs hf hm hB hk
     ·rw [if_neg (by rw [htf]; simp)] at h; exact ihy hry hy h hs hf hm hB hk
    ·exact h.elim
   ·simp at ht
  | rangeFunc f ps x y=>simp only [trC] at ht; split at ht<;>(try split at ht)<;>simp at ht
  | _=>simp [trC] at ht
 | block id x ih =>
  intro code hrf ht Q e H β F w a QQ B D D0 h hs hf hm hB hk
  rw [er] at ht
  cases code with
  | region id ops d =>
   cases d
   ·exact (Ayf ht (by simp) (by simp)).elim
   ·exact (Aye ht (by simp) (by simp) (by simp)).elim
  | seq x y=>simp only [trC] at ht; split at ht<;>simp at ht
  | cond c x y=>simp only [trC] at ht; split at ht<;>simp at ht
  | rangeFunc f ps x y=>simp only [trC] at ht; split at ht<;>(try split at ht)<;>simp at ht
  | block id' c =>
   simp only [trC,Option.map_eq_some_iff,Atc.block.injEq] at ht
   obtain ⟨vx,hx,rfl,rfl⟩:=ht
   rw [vwp] at h
   refine wpIn_block (ih hrf hx h hs hf hm hB ?_)
   intro x e' H' β' F' w' a' D' k1 k2 k3 km k4
   cases x with
   | nor=>exact hk .nor _ _ _ _ _ _ _ k1 k2 k3 km k4
   | exit i =>
    show Exit.inBlock _ QQ (.exit i) a' w'
    simp only [Exit.inBlock]
    simp only at k1
    split at k1
    ·rename_i hi; rw [if_pos hi]; exact hk .nor _ _ _ _ _ _ _ k1 k2 k3 km k4
    ·rename_i hi; rw [if_neg hi]; exact hk (.exit i) _ _ _ _ _ _ _ k1 k2 k3 km k4
   | ret=>exact hk .ret _ _ _ _ _ _ _ k1 k2 k3 km k4
   | pan u=>exact hk (.pan u) _ _ _ _ _ _ _ k1 k2 k3 km k4
  | _=>simp [trC] at ht
 | loop lv x ih =>
  intro code hrf ht Q e H β F w a QQ B D D0 h hs hf hm hB hk
  rw [er] at ht
  cases code with
  | region id ops d =>
   cases d
   ·exact (Ayf ht (by simp) (by simp)).elim
   ·exact (Aye ht (by simp) (by simp) (by simp)).elim
  | seq x y=>simp only [trC] at ht; split at ht<;>simp at ht
  | cond c x y=>simp only [trC] at ht; split at ht<;>simp at ht
  | rangeFunc f ps x y=>simp only [trC] at ht; split at ht<;>(try split at ht)<;>simp at ht
  | loop c =>
   simp only [trC,Option.map_eq_some_iff,Atc.loop.injEq] at ht
   obtain ⟨vx,hx,_,rfl⟩:=ht
   rw [vwp] at h
   obtain ⟨I,n,h0,hstep⟩:=h
   refine wpIn_loop_ghost (fun n a' w'=>∃ e' H' β' F' D',I n e' H'∧Sim ⟨β',H',F'⟩ w'∧Fr N D' ⟨β',H',F'⟩ w' e' a'∧ADL D0 B ⟨β',H',F'⟩ w' D'∧Att ⟨β,H,F⟩ w ⟨β',H',F'⟩ w') n ⟨_,_,_,_,_,h0,hs,hf.forget lv,hm,Att.refl _ _⟩ ?_
   rintro n a' w' ⟨e',H',β',F',D',k1,k2,k3,km,k4⟩
   refine ih hrf hx (hstep n e' H' k1) k2 k3 km (Nat.le_trans hB k4.size) ?_
   intro x e2 H2 β2 F2 w2 a2 D2 m1 m2 m3 mm m4
   cases x with
   | nor =>
    obtain ⟨m,g,hmn,⟨hg,hb⟩,hI⟩:=m1
    have hf3:=m3.forget lv
    rcases hb with hle | ⟨hbe,hbh⟩
    ·rw [List.take_of_length_le hle] at hI
     exact ⟨m,hmn,_,_,_,_,_,hI,m2,hf3,mm,k4.trans m4⟩
    exact ⟨m,hmn,_,_,_,_,_,hI,m2.cut hbh,⟨⟨fun s=>Rep.cut (ALY hbe s) (hf3.env.1 s),hf3.env.2⟩,hf3.size,hf3.defers⟩,mm.cut,(k4.trans m4).cut hg⟩
   | exit i=>exact hk (.exit i) _ _ _ _ _ _ _ m1 m2 m3 mm (k4.trans m4)
   | ret=>exact hk .ret _ _ _ _ _ _ _ m1 m2 m3 mm (k4.trans m4)
   | pan u=>exact hk (.pan u) _ _ _ _ _ _ _ m1 m2 m3 mm (k4.trans m4)
  | _=>simp [trC] at ht
 | exit id =>
  intro code hrf ht Q e H β F w a QQ B D D0 h hs hf hm hB hk
  rw [er] at ht
  cases code with
  | region id ops d =>
   cases d
   ·exact (Ayf ht (by simp) (by simp)).elim
   ·exact (Aye ht (by simp) (by simp) (by simp)).elim
  | seq x y=>simp only [trC] at ht; split at ht<;>simp at ht
  | cond c x y=>simp only [trC] at ht; split at ht<;>simp at ht
  | rangeFunc f ps x y=>simp only [trC] at ht; split at ht<;>(try split at ht)<;>simp at ht
  | exit id' =>
   simp only [trC,Option.some.injEq,Atc.exit.injEq] at ht; subst ht
   exact wpIn_exit (hk (.exit _) _ _ _ _ _ _ _ h hs hf hm (Att.refl _ _))
  | _=>simp [trC] at ht
 | ret =>
  intro code hrf ht Q e H β F w a QQ B D D0 h hs hf hm hB hk
  rw [er] at ht
  cases code with
  | region id ops d =>
   cases d
   ·exact (Ayf ht (by simp) (by simp)).elim
   ·exact (Aye ht (by simp) (by simp) (by simp)).elim
  | seq x y=>simp only [trC] at ht; split at ht<;>simp at ht
  | cond c x y=>simp only [trC] at ht; split at ht<;>simp at ht
  | rangeFunc f ps x y=>simp only [trC] at ht; split at ht<;>(try split at ht)<;>simp at ht
  | ret=>exact wpIn_ret (hk .ret _ _ _ _ _ _ _ h hs hf hm (Att.refl _ _))
  | _=>simp [trC] at ht
 | dead =>
  intro code hrf ht Q e H β F w a QQ B D D0 h
  rw [vwp] at h; exact h.elim
 | scope x ih =>
  intro code hrf ht Q e H β F w a QQ B D D0 h hs hf hm hB hk
  rw [er] at ht
  cases code with
  | region id ops d =>
   cases d
   ·exact (Ayf ht (by simp) (by simp)).elim
   ·exact (Aye ht (by simp) (by simp) (by simp)).elim
  | seq x y=>simp only [trC] at ht; split at ht<;>simp at ht
  | cond c x y=>simp only [trC] at ht; split at ht<;>simp at ht
  | rangeFunc f ps x y=>simp only [trC] at ht; split at ht<;>(try split at ht)<;>simp at ht
  | scope c =>
   simp only [trC,Option.map_eq_some_iff,Atc.scope.injEq] at ht
   obtain ⟨vx,hx,rfl⟩:=ht
   rw [vwp] at h
   refine AUi (ih hrf hx h hs hf hm hB ?_)
   intro x e' H' β' F' w' a' D' k1 k2 k3 km k4
   cases x with
   | nor=>exact hk .nor _ _ _ _ _ _ _ k1 k2 k3 km k4
   | exit i=>exact hk (.exit i) _ _ _ _ _ _ _ k1 k2 k3 km k4
   | ret=>exact hk .ret _ _ _ _ _ _ _ k1 k2 k3 km k4
   | pan u=>exact hk (.pan u) _ _ _ _ _ _ _ k1 k2 k3 km k4
  | _=>simp [trC] at ht
 | own s k x ih =>
  intro code hrf ht Q e H β F w a QQ B D D0 h hs hf hm hB hk
  rw [er] at ht
  rw [vwp] at h
  split at h
  ·rename_i hg
   obtain ⟨k1,k2,k3⟩:=hs.own k
   have hv:a.tmps.getD s undef = .slice none 0 0:=by
    have:=hf.env.1 s; rw [hg,Rep.val] at this; exact this
   refine ih hrf ht h k1 ⟨⟨fun s' => ?_,k1.glob⟩,hf.size,hf.defers⟩ (hm.later k2) hB fun x' e' H' β' F' w' a' D' m1 m2 m3 mm m4=>hk x' e' H' β' F' w' a' D' m1 m2 m3 mm (k2.trans m4)
   rw [Auz]
   by_cases hss:s=s'
   ·subst hss; rw [if_pos rfl,hv]; exact Rep.of1 k3 (by simp) (by simp)
   ·rw [if_neg hss]; exact Rep.mono (k2.mono hs) (hf.env.1 s')
  ·exact ih hrf ht h hs hf hm hB hk
 | ownB s p k x ih =>
  intro code hrf ht Q e H β F w a QQ B D D0 h hs hf hm hB hk
  rw [er] at ht
  rw [vwp] at h
  split at h
  ·rename_i id ver p0 hg
   split at h
   ·rename_i v y hid
    obtain ⟨rfl,h⟩:=h
    split at h
    ·rename_i hgp
     split at h
     ·rename_i x' hsp
      obtain ⟨k1,k2,k3⟩:=hs.own k
      have hlt:id<H.length:=(List.getElem?_eq_some_iff.1 hid).1
      have hid':(H++[Ob.obj 0 (.arr 0 k [])])[id]?=some (.obj v y):=by rw [List.getElem?_append_left hlt]; exact hid
      obtain ⟨q1,q2⟩:=k1.turn (o' := .obj v x') (w':=w) (β':=upd β H.length 0 none) hid' rfl rfl (Nat.le_refl _) (fun _ _ _=>rfl) (fun b off e => .inl ⟨off,e⟩) rfl rfl rfl (Nat.le_refl _) (fun _ _=>rfl) (fun _ _ _=>rfl) (fun hm=>by
       rcases k1.ob id _ hid' with ⟨r0,r1⟩ | ⟨b,off,pre,vs,post,t,fr,r0,r1,r2,r3,r4⟩
       ·refine .inl ⟨r0,?_⟩
        exact Ath.mono hm (AKd r1 hgp (fun m hm'=>by rw [Ath] at hm'; rw [hm'.1]; exact k3) hsp)
       ·refine .inr ⟨b,off,pre,vs,post,t,fr,r0,r1,r2,r3,?_⟩
        exact Ath.mono hm (AKd r4 hgp (fun m hm'=>by rw [Ath] at hm'; rw [hm'.1]; exact k3) hsp))
      rw [List.set_append_left _ _ hlt] at q1 q2
      exact ih hrf ht h q1 ⟨⟨fun s'=>Rep.mono (q2.mono k1) (Rep.mono (k2.mono hs) (hf.env.1 s')),q1.glob⟩,hf.size,hf.defers⟩ (hm.later (k2.trans q2)) hB fun x' e' H' β' F' w' a' D' m1 m2 m3 mm m4=>hk x' e' H' β' F' w' a' D' m1 m2 m3 mm ((k2.trans q2).trans m4)
     ·exact h.elim
    ·exact ih hrf ht h hs hf hm hB hk
   ·exact h.elim
  ·exact h.elim
 | frz s x ih =>
  intro code hrf ht Q e H β F w a QQ B D D0 h hs hf hm hB hk
  rw [er] at ht
  rw [vwp] at h
  split at h
  ·rename_i k id ver p off n cp hg
   split at h
   ·rename_i v y hid
    obtain ⟨rfl,h⟩:=h
    split at h
    ·rename_i cs hcs
     obtain ⟨k1,k2⟩:=hs.freeze hid rfl
     have hr:Rep ⟨β,H,F⟩ w (get e s) (a.tmps.getD s undef):=hf.env.1 s
     rw [hg] at hr
     have hr':Rep ⟨β,H.set id (.gone v),fun b=>F b∨∃ off,β id v=some (b,off)⟩ w (.sl k cs) (a.tmps.getD s undef):=by
      rcases hr with (hr | hr | ⟨us,hr,hr2⟩) | ⟨xs,vs,hr,_⟩
      ·cases hr
      ·cases hr
      ·exact .inl (.inr (.inr ⟨us,hs.give hid hcs hr,by rw [hr2]; rfl⟩))
      ·cases hr
     refine ih hrf ht h k1 ⟨⟨fun s' => ?_,k1.glob⟩,hf.size,hf.defers⟩ (hm.later k2) hB fun x' e' H' β' F' w' a' D' m1 m2 m3 mm m4=>hk x' e' H' β' F' w' a' D' m1 m2 m3 mm (k2.trans m4)
     rw [Auz]
     by_cases hss:s=s'
     ·subst hss; rw [if_pos rfl]; exact hr'
     ·rw [if_neg hss]; exact Rep.mono (k2.mono hs) (hf.env.1 s')
    ·exact h.elim
   ·exact h.elim
  ·exact h.elim
 | ownT s p t x ih =>
  intro code hrf ht Q e H β F w a QQ B D D0 h hs hf hm hB hk
  rw [er] at ht
  rw [vwp] at h
  split at h
  ·rename_i id ver p0 hg
   split at h
   ·rename_i v y hid
    obtain ⟨rfl,h⟩:=h
    split at h
    ·rename_i hgp
     split at h
     ·rename_i x' hsp
      obtain ⟨k1,k2,k3⟩:=hs.ownBld t
      have hlt:id<H.length:=(List.getElem?_eq_some_iff.1 hid).1
      have hid':(H++[Ob.bld 0 t []])[id]?=some (.obj v y):=by rw [List.getElem?_append_left hlt]; exact hid
      obtain ⟨q1,q2⟩:=k1.turn (o' := .obj v x') (w':=w) (β':=upd β H.length 0 none) hid' rfl rfl (Nat.le_refl _) (fun _ _ _=>rfl) (fun b off e => .inl ⟨off,e⟩) rfl rfl rfl (Nat.le_refl _) (fun _ _=>rfl) (fun _ _ _=>rfl) (fun hm=>by
       rcases k1.ob id _ hid' with ⟨r0,r1⟩ | ⟨b,off,pre,vs,post,t,fr,r0,r1,r2,r3,r4⟩
       ·refine .inl ⟨r0,?_⟩
        exact Ath.mono hm (AKd r1 hgp (fun m hm'=>by rw [Ath] at hm'; rw [hm'.1]; exact k3) hsp)
       ·refine .inr ⟨b,off,pre,vs,post,t,fr,r0,r1,r2,r3,?_⟩
        exact Ath.mono hm (AKd r4 hgp (fun m hm'=>by rw [Ath] at hm'; rw [hm'.1]; exact k3) hsp))
      rw [List.set_append_left _ _ hlt] at q1 q2
      exact ih hrf ht h q1 ⟨⟨fun s'=>Rep.mono (q2.mono k1) (Rep.mono (k2.mono hs) (hf.env.1 s')),q1.glob⟩,hf.size,hf.defers⟩ (hm.later (k2.trans q2)) hB fun x' e' H' β' F' w' a' D' m1 m2 m3 mm m4=>hk x' e' H' β' F' w' a' D' m1 m2 m3 mm ((k2.trans q2).trans m4)
     ·exact h.elim
    ·exact ih hrf ht h hs hf hm hB hk
   ·exact h.elim
  ·exact h.elim
 | rfunc g0 ps aS bd iha ihb =>
  intro code hrf ht Q e H β F w a QQ B D D0 h hs hf hm hB hk
  obtain rfl:ro=none:=hrf.resolve_right (by simp [AL5])
  rw [er] at ht
  cases code with
  | region id ops d =>
   cases d
   ·exact (Ayf ht (by simp) (by simp)).elim
   ·exact (Aye ht (by simp) (by simp) (by simp)).elim
  | seq x y=>simp only [trC] at ht; split at ht<;>simp at ht
  | cond c x y=>simp only [trC] at ht; split at ht<;>simp at ht
  | rangeFunc f0 ps0 ca cb =>
   simp only [trC] at ht
   split at ht
   ·rename_i hps
    split at ht
    ·rename_i va vb hca hcb
     simp only [Option.some.injEq,Atc.rfunc.injEq] at ht
     obtain ⟨rfl,rfl,rfl,rfl⟩:=ht
     rw [vwp] at h
     obtain ⟨-,-,h⟩:=h
     split at h
     ·rename_i g first caps hg
      obtain ⟨hgo,h⟩:=h
      have hr:Rep ⟨β,H,F⟩ w (.fn (.func g) first caps) (a.eval f0):=hf.env.rep (x:=f0) hg
      have h1:=hr.inv1 (by simp) (by simp) (by simp) (by simp) (by simp)
      rw [Ath] at h1
      obtain ⟨us,vs,hv1,hfi,hc⟩:=h1
      have hv':a.eval f0 = .func (.func g) us.toArray vs.toArray:=by simpa using hv1
      refine AO9 hs hf hm hB hv' hgo hfi hc (fun fn=>h N fn ca cb ⟨hca,hcb,hps⟩) hk
     ·rename_i g xs ys hg
      obtain ⟨hxy,hgo,h⟩:=h
      rw [Bool.and_eq_true,Array.isEmpty_iff,Array.isEmpty_iff] at hxy
      obtain ⟨rfl,rfl⟩:=hxy
      have hv':a.eval f0 = .func (.func g) #[] #[]:=hf.env.val hg
      refine AO9 (us:=[]) (vs:=[]) (first:=[]) (caps:=[]) hs hf hm hB hv' hgo (by rw [Aue]) (by rw [Aue]) (fun fn=>by simpa using h N fn ca cb ⟨hca,hcb,hps⟩) hk
     ·exact h.elim
    ·cases ht
   ·cases ht
  | _=>simp [trC] at ht
end sound
end
section
open Go.RowKit
variable [AtQ]
set_option autoImplicit false
inductive VR where
 | tmp (t:Nat)
 | cell (a:Nat) (ag:Bool) (sz:Nat)
 deriving Inhabited
def trR (P:Program):List ResultVar→Option (List VR)
 | []=>some []
 | .tmp t::r=>(trR P r).map (.tmp t :: ·)
 | .cell a t::r=>match AOj P t,AFL P t,trR P r with
  | some ag,some sz,some r=>some (.cell a ag sz::r)
  | _,_,_=>none
def ATr:List VR→Env→List Ob→(List TV→Prop)→Prop
 | [],e,H,K=>K []
 | .tmp t::r,e,H,K=>ATr r e H fun xs=>K (get e t::xs)
 | .cell a ag sz::r,e,H,K=>pop (.load ag sz (.t a)) e H fun x=>ATr r e H fun xs=>K (x::xs)
def res (r:List VR) (e:Env) (H:List Ob) (K:TV→Prop):Prop:=ATr r e H fun xs=>match xs with
 | [x]=>K x
 | xs=>(∀ x∈xs,AuM x=false)∧K (.tup xs)
section
variable {P:Program}
def rv (a:Act) (r:ResultVar):Sem Value:=match r with
 | .tmp t=>pure (a.tmps.getD t undef)
 | .cell x t=>do loadVar t (←asAddr (a.tmps.getD x undef))
theorem ARw {c:Ctx} {w:World} {e:Env} {a:Act} (hs:Sim c w) (he:Aty c w e a):∀ {rs:List ResultVar} {vr:List VR} {K:List TV→Prop},trR P rs=some vr→ATr vr e c.H K →
  ∃ (xs:List TV) (vs:List Value),(rs.mapM (rv a)).run P w = .ok vs w∧xs.length=vs.length∧(∀ (i:Nat) x v,xs[i]?=some x→vs[i]?=some v→Rep c w x v)∧K xs
 | [],vr,K,ht,h=>by
  simp only [trR,Option.some.injEq] at ht; subst ht
  exact ⟨[],[],rfl,rfl,by simp,h⟩
 | .tmp t::rs,vr,K,ht,h=>by
  simp only [trR,Option.map_eq_some_iff] at ht
  obtain ⟨r,hr,rfl⟩:=ht
  rw [ATr] at h
  obtain ⟨xs,vs,h1,h2,h3,h4⟩:=ARw hs he hr h
  refine ⟨get e t::xs,a.tmps.getD t undef::vs,by rw [List.mapM_cons]; simp only [rv,Sem.run_bind,Sem.run_pure,Result.andThen_ok,h1],by simp [h2],?_,h4⟩
  intro i x v hx hv
  cases i with
  | zero=>simp at hx hv; subst hx; subst hv; simpa using he.1 t
  | succ i=>exact h3 i x v (by simpa using hx) (by simpa using hv)
 | .cell b t::rs,vr,K,ht,h=>by
  simp only [trR] at ht
  split at ht
  ·rename_i ag sz r h1 h2 hr
   cases ht
   rw [ATr] at h
   have hy:=A42 (P:=P) (a:=a) (ty:=0) hs he h1 h2 (x := .tmp b) h
   obtain ⟨x,v,hrun,hx,hK⟩:=hy ⟨none,.load t (.tmp b),0, "", #[],none⟩ rfl rfl
   have hload:(do loadVar t (←asAddr (a.tmps.getD b undef)):Sem Value).run P w = .ok v w:=by
    simp only [execOp,Instr.loadAt,Sem.run_bind,Act.eval] at hrun
    simp only [Sem.run_bind]
    cases hp:a.tmps.getD b undef with
    | pointer p =>
     rw [hp] at hrun
     cases p with
     | none=>simp [Instr.sureAddr,stuck] at hrun
     | some ad =>
      simp only [Instr.sureAddr,Sem.run_pure,Result.andThen_ok,asAddr] at hrun ⊢
      cases hl:(loadVar t ad).run P w with
      | ok u w2=>rw [hl] at hrun; simp only [Result.andThen_ok,Sem.run_pure] at hrun; cases hrun; rfl
      | halt hh w2=>rw [hl] at hrun; simp at hrun
    | _=>rw [hp] at hrun; simp [Instr.sureAddr,stuck] at hrun
   obtain ⟨xs,vs,h3,h4,h5,h6⟩:=ARw hs he hr hK
   refine ⟨x::xs,v::vs,by rw [List.mapM_cons,Sem.run_bind]; show Result.andThen ((rv a (.cell b t)).run P w) _=_; rw [show (rv a (.cell b t)).run P w = .ok v w from hload]; simp only [Result.andThen_ok,Sem.run_bind,h3,Sem.run_pure],by simp [h4],?_,h6⟩
   intro i y u hy hu
   cases i with
   | zero=>simp at hy hu; subst hy; subst hu; exact hx
   | succ i=>exact h5 i y u (by simpa using hy) (by simpa using hu)
  ·cases ht
theorem A5k {c:Ctx} {w:World} {e:Env} {a:Act} (hs:Sim c w) (he:Aty c w e a) {fn:Func} {vr:List VR} {K:TV→Prop} (ht:trR P fn.results.toList=some vr) (h:res vr e c.H K) :
  ∃ x v,(results fn a.tmps).run P w = .ok v w∧Rep c w x v∧K x:=by
 obtain ⟨xs,vs,h1,h2,h3,h4⟩:=ARw hs he ht h
 have hrun:(fn.results.mapM (rv a)).run P w = .ok vs.toArray w:=by
  rw [Array.mapM_eq_mapM_toList]
  simp only [Sem.run_map,h1,Result.andThen_ok]
 have hres:(results fn a.tmps).run P w = .ok (if h:vs.toArray.size=1 then vs.toArray[0] else .tuple vs.toArray) w:=by
  have:results fn a.tmps=(do let vs ← fn.results.mapM (rv a); pure (if h:vs.size=1 then vs[0] else .tuple vs)):=rfl
  rw [this,Sem.run_bind,hrun]; rfl
 rcases xs with _ | ⟨x,_ | ⟨y,xs⟩⟩
 ·have hv:vs=[]:=List.length_eq_zero_iff.1 (by simpa using h2.symm)
  subst hv
  exact ⟨_,_,hres,.inr ⟨[],[],rfl,rfl,by rw [Aue]⟩,h4.2⟩
 ·obtain ⟨v,rfl⟩:=List.length_eq_one_iff.1 (by simpa using h2.symm)
  exact ⟨_,_,hres,h3 0 x v rfl rfl,h4⟩
 ·rcases vs with _ | ⟨u,_ | ⟨v,vs⟩⟩
  ·simp at h2
  ·simp at h2
  ·refine ⟨_,_,hres,.inr ⟨_,u::v::vs,rfl,by simp,?_⟩,h4.2⟩
   have key:∀ (xs:List TV) (vs:List Value),xs.length=vs.length→(∀ x∈xs,AuM x=false)→(∀ (i:Nat) x v,xs[i]?=some x→vs[i]?=some v→Rep c w x v)→Aue c w xs vs:=by
    intro xs
    induction xs with
    | nil=>intro vs h _ _; rw [Aue]; exact List.length_eq_zero_iff.1 h.symm
    | cons x xs ih =>
     intro vs hl ht hr
     cases vs with
     | nil=>simp at hl
     | cons v vs =>
      refine Aue.cons.2 ⟨v,vs,rfl,?_,ih vs (by simpa using hl) (fun y hy=>ht y (by simp [hy])) fun i y u hy hu=>hr (i+1) y u (by simpa using hy) (by simpa using hu)⟩
      rcases hr 0 x v rfl rfl with h | ⟨ys,us,rfl,_⟩
      ·exact h
      ·have:=ht (.tup ys) (by simp); simp [AuM] at this
   exact key _ _ h2 h4.1 h3
def AQX:Nat→List TV→Env
 | _,[]=>[]
 | i,x::xs=>(i,x)::AQX (i+1) xs
theorem ATa:∀ (xs:List TV) (i s:Nat),get (AQX i xs) s=if i≤s then (xs[s - i]?).getD .any else .any
 | [],i,s=>by simp [AQX,get]
 | x::xs,i,s=>by
  rw [AQX,Auz,ATa xs (i+1) s]
  by_cases h:i=s
  ·subst h; simp
  ·rw [if_neg h]
   by_cases h2:i≤s
   ·rw [if_pos (by omega),if_pos h2,show s - i=(s - (i+1))+1 from by omega,List.getElem?_cons_succ]
   ·rw [if_neg (by omega),if_neg h2]
theorem Aue.get {c:Ctx} {w:World}:∀ {xs:List TV} {vs:List Value},Aue c w xs vs→xs.length=vs.length∧∀ (i:Nat) x,xs[i]?=some x→∃ v,vs[i]?=some v∧Rep c w x v
 | [],vs,h=>by rw [Aue] at h; subst h; simp
 | x::xs,vs,h=>by
  obtain ⟨u,us,rfl,h1,h2⟩:=Aue.cons.1 h
  obtain ⟨h3,h4⟩:=Aue.get h2
  refine ⟨by simp [h3],fun i y hy => ?_⟩
  cases i with
  | zero=>simp at hy; subst hy; exact ⟨u,rfl,.inl h1⟩
  | succ i=>simpa using h4 i y (by simpa using hy)
def ABL (vr:List VR) (R:TV→List Ob→Prop):VEx→Env→List Ob→Prop
 | .nor,e,H=>res vr e H fun x=>R x H
 | .ret,e,H=>res vr e H fun x=>R x H
 | .exit _,_,_=>False
 | .pan _,_,_=>False
theorem Sim.nobody {c:Ctx} {w:World} (hs:Sim c w) {r:Nat} {o o':Obj} (hr:w.heap[r]?=some o) (h1:¬ c.own r) (h2:¬ c.F r) (hsh:(w.putObj r o').shape? r=w.shape? r):Sim c (w.putObj r o')∧AAo c w c (w.putObj r o'):=by
 have hoth:∀ b,b≠r→(w.putObj r o').heap[b]?=w.heap[b]?:=fun b hb=>World.putObj_heap_other hb
 have hm:AAo c w c (w.putObj r o'):=⟨fun b hb=>⟨hb,hoth b fun e=>h2 (e▸hb)⟩,fun _ _ h=>⟨h,rfl⟩,fun b _=>by
  by_cases hb:b=r
  ·subst hb; exact hsh
  ·exact Auw (hoth b hb)⟩
 refine ⟨⟨fun id ob ho=>ASe.mono hm (Ctx.has_of ho) (fun hl b off hb=>hoth b fun e=>h1 (e▸Ctx.own_of ho hl hb)) (hs.ob id ob ho),hs.inj,hs.apart,fun b hb => ?_,hs.glob.keep hm.stay⟩,hm⟩
 rw [(AG4 w r o').2.2.2]; exact hs.lt b hb
theorem Att.nobody {c0 c:Ctx} {w0 w:World} (h:Att c0 w0 c w) {r:Nat} {o':Obj} (hr:w0.heap.size≤r):Att c0 w0 c (w.putObj r o') :=
 ⟨h.os,h.tape,h.output,by rw [(AG4 w r o').2.2.2]; exact h.size,h.has,fun b hb=>(Auw (World.putObj_heap_other (by omega))).trans (h.shape b hb),fun b hb ho=>(World.putObj_heap_other (by omega)).trans (h.same b hb ho),h.keepF,h.oldF,h.oldOwn⟩
theorem ADL.shut {D0:List Deferred} {u:FrameMode} (hu:u ≠ .run) {FF:Fence} {n:Nat} {fn:Func} {tmps:Array Value} {R:Ending→World→Prop} {B:Nat} {c:Ctx}:∀ {D:List Deferred} {w:World},ADL D0 B c w D→Sim c w →
  ∃ wF,(LeavesInM FF n P fn tmps R D0 u wF→LeavesInM FF n P fn tmps R D u w)∧Sim c wF∧AAo c w c wF∧∀ (c0:Ctx) (w0:World),w0.heap.size≤B→Att c0 w0 c w→Att c0 w0 c wF:=by
 rintro D w ⟨ds,rfl,hnd,hds⟩ hs
 induction ds generalizing w with
 | nil=>exact ⟨w,fun h=>h,hs,AAo.heap rfl,fun c0 w0 _ h=>h⟩
 | cons r ds ih =>
  obtain ⟨k1,k2,k3,k4,k5⟩:=hds r (by simp)
  rw [List.nodup_cons] at hnd
  have hput:=World.putObj_heap_same (w:=w) (o := .deferred none) k2
  obtain ⟨s1,s2⟩:=hs.nobody (o' := .deferred none) k5 k3 k4 (by simp [World.shape?,hput,k5])
  obtain ⟨wF,e1,e2,e3,e4⟩:=ih (w:=w.putObj r (.deferred none)) hnd.2 (fun q hq=>by
   obtain ⟨q1,q2,q3,q4,q5⟩:=hds q (by simp [hq])
   have hne:q≠r:=fun e=>hnd.1 (e▸hq)
   exact ⟨q1,by rw [(AG4 w r _).2.2.2]; exact q2,q3,q4,(World.putObj_heap_other hne).trans q5⟩) s1
  refine ⟨wF,fun h=>⟨hu,.inl ⟨r,_,rfl,run_takeDeferred k5,e1 h⟩⟩,e2,⟨fun b hb=>⟨hb,((e3.stay b hb).2).trans (s2.stay b hb).2⟩,fun _ _ h=>⟨h,rfl⟩,fun b hb=>(e3.shape b (by rw [(AG4 w r _).2.2.2]; exact hb)).trans (s2.shape b hb)⟩,fun c0 w0 hB hl=>e4 c0 w0 hB (hl.nobody (by omega))⟩
theorem AWC {f:FuncId} {fn:Func} {vc:Atc} {vr:List VR} {args:List TV} {H:List Ob} {R:TV→List Ob→Prop} (hf:P.funcs[f]?=some fn) (ht:fn.body.bind (trC P fn.ntmps)=some (er vc)) (hr:trR P fn.results.toList=some vr)
  (hn:args.length≤fn.ntmps) (h:vwp P vc (ABL vr R) (AQX 0 args) H):Atj P f args H R:=by
 obtain ⟨code,hb,ht⟩:=Option.bind_eq_some_iff.1 ht
 intro β F w vs hs hv
 obtain ⟨hl,hget⟩:=Aue.get hv
 refine (callsIn_wide (n:=0)).1 (callsIn_of_wp_marks hf hb trivial ?_)
 refine AOp (ro:=none) (nn:=0) (B:=w.heap.size) (D:=[]) (D0:=[]) vc (.inl rfl) ht h hs ⟨⟨fun s => ?_,hs.glob⟩,by simp; omega,rfl⟩ ADL.nil (Nat.le_refl _) ?_
 ·rw [ATa]
  simp only [Nat.zero_le,if_true,Nat.sub_zero]
  cases hx:args[s]? with
  | none=>exact Rep.any
  | some x =>
   obtain ⟨v,hv1,hv2⟩:=hget s x hx
   have hs':s<vs.length:=(List.getElem?_eq_some_iff.1 hv1).1
   have:((vs.toArray++Array.replicate (fn.ntmps - vs.toArray.size) undef).getD s undef)=v:=by
    rw [Array.getD_eq_getD_getElem?,Array.getElem?_append_left (by simpa using hs')]
    simp [hv1]
   rw [this]; exact hv2
 ·intro x e' H' β' F' w' a' D' k1 k2 k3 km k4
  have fin:res vr e' H' (fun x=>R x H')→LeavesInM Fence.wide 0 P fn a'.tmps (fun e w'=>∃ v x β' H' F',e = .returned v∧R x H'∧Sim ⟨β',H',F'⟩ w'∧Att ⟨β,H,F⟩ w ⟨β',H',F'⟩ w'∧Rep ⟨β',H',F'⟩ w' x v) a'.defers .returning w':=fun h=>by
   rw [k3.defers]
   obtain ⟨wF,e1,e2,e3,e4⟩:=ADL.shut (D0:=[]) (u := .returning) (by simp) (P:=P) (FF:=Fence.wide) (n:=0) (fn:=fn) (tmps:=a'.tmps) (R:=fun e w'=>∃ v x β' H' F',e = .returned v∧R x H'∧Sim ⟨β',H',F'⟩ w'∧Att ⟨β,H,F⟩ w ⟨β',H',F'⟩ w'∧Rep ⟨β',H',F'⟩ w' x v) km k2
   obtain ⟨y,v,r1,r2,r3⟩:=A5k (fn:=fn) (a:=a') e2 ⟨fun s=>Rep.mono e3 (k3.env.1 s),e2.glob⟩ hr h
   exact e1 ⟨v,r1,v,y,β',H',F',rfl,r3,e2,e4 _ _ (Nat.le_refl _) k4,r2⟩
  cases x with
  | nor=>exact fin k1
  | ret=>exact fin k1
  | exit i=>exact k1.elim
  | pan u=>exact k1.elim
def AXW (vr:List VR) (R:TV→List Ob→Prop) (RP:Value→List Ob→Prop):VEx→Env→List Ob→Prop
 | .nor,e,H=>res vr e H fun x=>R x H
 | .ret,e,H=>res vr e H fun x=>R x H
 | .exit _,_,_=>False
 | .pan u,_,H=>RP u H
def AVK (id n0:Nat) (R:TV→List Ob→Prop):VEx→Env→List Ob→Prop:=fun x _ H=>match H[id]? with
 | some (.lp .busy none fn N e ps ca cb)=>(match x with
  | .nor=>∃ g,(n0≤g∧id<g∧(H.length≤g∨ANh g ((H.set id (.lp .ready none fn N e ps ca cb)).take g)=true))∧R (.val (.bool true)) ((H.set id (.lp .ready none fn N e ps ca cb)).take g)
  | .ret=>R (.val (.bool false)) (H.set id (.lp .done (some .ret) fn N e ps ca cb))
  | .exit i=>R (.val (.bool false)) (H.set id (.lp .done (some (.exit i)) fn N e ps ca cb))
  | .pan _=>False)
 | _=>False
def ASy:List Nat→List TV→Env→Env
 | p::ps,x::xs,e=>ASy ps xs ((p,x)::e)
 | _,_,e=>e
theorem AU2 {c:Ctx} {w:World} {N:Nat}:∀ {ps:List Nat} {xs:List TV} {vs:List Value} {e:Env} {t:Array Value},Aue c w xs vs→ps.all (· < N)=true→t.size=N→(∀ s,Rep c w (get e s) (t.getD s undef)) →
  ((ps.zip vs).foldl (fun t (p,v)=>t.setIfInBounds p v) t).size=N∧∀ s,Rep c w (get (ASy ps xs e) s) (((ps.zip vs).foldl (fun t (p,v)=>t.setIfInBounds p v) t).getD s undef)
 | [],xs,vs,e,t,_,_,ht,h=>by rw [List.zip_nil_left,List.foldl_nil]; simp only [ASy]; exact ⟨ht,h⟩
 | p::ps,[],vs,e,t,hv,_,ht,h=>by rw [Aue.nil] at hv; subst hv; rw [List.zip_nil_right,List.foldl_nil]; simp only [ASy]; exact ⟨ht,h⟩
 | p::ps,x::xs,vs,e,t,hv,hp,ht,h=>by
  obtain ⟨u,us,rfl,h1,h2⟩:=Aue.cons.1 hv
  rw [List.all_cons,Bool.and_eq_true,decide_eq_true_eq] at hp
  rw [ASy,List.zip_cons_cons,List.foldl_cons]
  refine AU2 h2 hp.2 (by simp [ht]) fun s => ?_
  rw [Auz]
  by_cases hs:p=s
  ·subst hs
   have:(t.setIfInBounds p u).getD p undef=u:=by simp [Array.getD,ht,hp.1]
   rw [if_pos rfl,this]; exact .inl h1
  ·have:(t.setIfInBounds p u).getD s undef=t.getD s undef:=by simp [Array.getElem?_setIfInBounds_ne hs]
   rw [if_neg hs,this]; exact h s
theorem ARW {id fn N:Nat} {e:Env} {ps:List Nat} {ca cb:Code} {aS bd:Atc} {args:List TV} {H:List Ob} {R:TV→List Ob→Prop} (ho:H[id]?=some (.lp .ready none fn N e ps ca cb)) (hc:AU9 P N ps ca cb aS bd) (hl:args.length=ps.length) (ha:AL5 aS=true) (hb:AL5 bd=true)
  (h:vwp P aS (fun x e1 H1=>x = .nor∧H1[id]?=some (.lp .ready none fn N e ps ca cb)∧vwp P bd (AVK id H.length R) e1 (H1.set id (.lp .busy none fn N e ps ca cb))) (ASy ps args e) H):AFu P id 0 args H R:=by
 intro β F w vs b o hs hv hbo n
 obtain ⟨b',r,r1,r2,r3,r4,r5,r6,r7,r8,r9,r10,-,-⟩:=hs.loopTurn (st' := .busy) (pe':=none) ho
 rw [hbo] at r1
 obtain ⟨rfl,rfl⟩:b=b'∧o=0:=by simpa using r1
 have hlv:vs.length=args.length:=(Aue.get hv).1.symm
 have hy:=run_yield (P:=P) (args:=vs.toArray) r2 (by rw [r7]; simp [hlv,hl])
 refine ⟨_,_,_,_,hy,?_⟩
 rw [r8,r9,r7]
 refine roundIn_of_wpIn trivial ?_
 have hz:(ps.toArray.zip vs.toArray).foldl (fun tmps (t,a)=>tmps.setIfInBounds t a) r.tmps=(ps.zip vs).foldl (fun t (p,v)=>t.setIfInBounds p v) r.tmps:=by simp
 rw [hz]
 obtain ⟨z1,z2⟩:=AU2 hv hc.p r6 r10
 refine AOp (ro:=some b) (nn:=n) (B:=0) (D:=[]) (D0:=[]) aS (.inr ha) hc.a h hs ⟨⟨z2,hs.glob⟩,z1,rfl⟩ ADL.nil (Nat.zero_le _) ?_
 rintro x e1 H1 β1 F1 w1 a1 D1 ⟨rfl,h1,h2⟩ s1 f1 m1 l1
 obtain ⟨b2,q,q1,q2,q3,q4,q5,q6,q7,q8,q9,q10,q11,q12⟩:=s1.loopTurn (st' := .busy) (pe':=none) h1
 have hlt:id<H.length:=(List.getElem?_eq_some_iff.1 ho).1
 have hβ1:β1 id 0=some (b,0):=((l1.has id 0 ⟨_,ho,Nat.le_refl _⟩).2).trans hbo
 rw [hβ1] at q1
 obtain ⟨rfl,_⟩:b=b2∧True:=by simpa using q1
 have hbr:=run_beginRound (P:=P) q2 q3
 have e0:({ q with state := .busy,pending:=none }:Loop)={ q with state := .busy }:=by rw [←q4]
 rw [e0] at q11 q12
 refine ⟨_,hbr,?_⟩
 refine AOp (ro:=some b) (nn:=n) (B:=0) (D:=D1) bd (.inr hb) hc.b h2 q11 ⟨⟨fun s=>Rep.mono (q12.mono s1) (f1.env.1 s),q11.glob⟩,f1.size,f1.defers⟩ (m1.later q12) (Nat.zero_le _) ?_
 intro x e2 H2 β2 F2 w2 a2 D2 k1 k2 k3 km k4
 have hlat:=(l1.trans q12).trans k4
 have hβ2:β2 id 0=some (b,0):=((hlat.has id 0 ⟨_,ho,Nat.le_refl _⟩).2).trans hbo
 unfold AVK at k1
 split at k1
 ·rename_i fn' N' e' ps' c1 c2 hob
  have fin:∀ (pe:Option Code),∃ r:Loop,w2.heap[b]?=some (.loop r)∧Sim ⟨β2,H2.set id (.lp (if pe.isNone then .ready else .done) pe fn' N' e' ps' c1 c2),F2⟩ (w2.putObj b (.loop { r with state:=if pe.isNone then .ready else .done,pending:=pe })) ∧
    Att ⟨β2,H2,F2⟩ w2 ⟨β2,H2.set id (.lp (if pe.isNone then .ready else .done) pe fn' N' e' ps' c1 c2),F2⟩ (w2.putObj b (.loop { r with state:=if pe.isNone then .ready else .done,pending:=pe })):=by
   intro pe
   obtain ⟨b3,r,t1,t2,_,_,_,_,_,_,_,_,t3,t4⟩:=k2.loopTurn (st':=if pe.isNone then .ready else .done) (pe':=pe) hob
   rw [hβ2] at t1
   obtain ⟨rfl,_⟩:b=b3∧True:=by simpa using t1
   exact ⟨r,t2,t3,t4⟩
  cases x with
  | nor =>
   obtain ⟨g,⟨g1,g2,g3⟩,hR⟩:=k1
   obtain ⟨r,t2,t3,t4⟩:=fin none
   refine ⟨_,_,run_endRound none t2,?_⟩
   rcases g3 with g3 | g3
   ·rw [List.take_of_length_le (by simpa using g3)] at hR
    exact ⟨_,_,_,_,_,rfl,hR,t3,hlat.trans t4,Rep.of_val⟩
   ·refine ⟨_,.val (.bool true),β2,_,F2,rfl,hR,?_,?_,Rep.of_val⟩
    ·exact Sim.cut (c:=⟨β2,_,F2⟩) t3 g3
    ·exact Att.cut (c:=⟨β2,_,F2⟩) (hlat.trans t4) g1
  | ret =>
   obtain ⟨r,t2,t3,t4⟩:=fin (some .ret)
   exact ⟨_,_,run_endRound (some .ret) t2,_,_,_,_,_,rfl,k1,t3,hlat.trans t4,Rep.of_val⟩
  | exit i =>
   obtain ⟨r,t2,t3,t4⟩:=fin (some (.exit i))
   exact ⟨_,_,run_endRound (some (.exit i)) t2,_,_,_,_,_,rfl,k1,t3,hlat.trans t4,Rep.of_val⟩
  | pan u=>exact k1.elim
 ·exact k1.elim
structure AGc (F:Nat→Prop) (w:World) (F':Nat→Prop) (w':World):Prop where
 os:w'.os=w.os
 tape:w'.tape=w.tape
 output:w'.output=w.output
 size:w.heap.size≤w'.heap.size
 same:∀ b,b<w.heap.size→w'.heap[b]?=w.heap[b]?
 keepF:∀ b,F b→F' b
 oldF:∀ b,b<w.heap.size→F' b→F b
 ltF:∀ b,F' b→b<w'.heap.size
def Auk (P:Program) (f:FuncId) (args:List TV) (R:TV→Prop):Prop :=
 ∀ (β:Nat→Nat→Option (Nat×Nat)) (F:Nat→Prop) (w:World) (vs:List Value),((∀ b,F b→b<w.heap.size)∧ABr F w)→Aue ⟨β,[],F⟩ w args vs →
  Calls P f vs.toArray w fun e w'=>∃ v x F',e = .returned v∧R x∧Rep ⟨β,[],F'⟩ w' x v∧AGc F w F' w'
theorem Auk.mono {f:FuncId} {args:List TV} {R R':TV→Prop} (h:Auk P f args R) (hr:∀ x,R x→R' x):Auk P f args R' :=
 fun β F w vs hF hv=>(h β F w vs hF hv).mono fun _ _ ⟨v,x,F',h1,h2,h3⟩=>⟨v,x,F',h1,hr _ h2,h3⟩
theorem Atj.toPure {f:FuncId} {args:List TV} {R:TV→Prop} (h:Atj P f args [] fun x H'=>match frz H' x with | some y=>R y | none=>False):Auk P f args R:=by
 intro β F w vs hF hv
 have hs:Sim ⟨β,[],F⟩ w:=⟨fun id o ho=>by simp at ho,fun i j x y b o o' hx=>by simp at hx,fun b hb=>by obtain ⟨i,o,off,h1,_⟩:=hb; simp at h1,hF.1,hF.2⟩
 refine (h β F w vs hs hv).mono ?_
 rintro _ w' ⟨v,x,β',H',F',rfl,hR,hs',hl,hx⟩
 split at hR
 ·rename_i y hy
  have hno:∀ b,¬ Ctx.own ⟨β,[],F⟩ b:=fun b hb=>by obtain ⟨i,o,off,h1,_⟩:=hb; simp at h1
  have hr:=A5g hs' hy hx
  refine ⟨v,y,fun b=>F' b∨Ctx.own ⟨β',H',F'⟩ b,rfl,hR,Rep.mono (AAo.toBare [] β) hr,⟨hl.os,hl.tape,hl.output,hl.size,fun b hb=>hl.same b hb (hno b),fun b hb => .inl (hl.keepF b hb),fun b hb hF' => ?_,fun b hF'=>hF'.elim (hs'.lt b) hs'.own_lt⟩⟩
  rcases hF' with hF' | hF'
  ·exact (hl.oldF b hb hF').resolve_right (hno b)
  ·exact absurd (hl.oldOwn b hb hF') (hno b)
 ·exact hR.elim
theorem AGc.later {β:Nat→Nat→Option (Nat×Nat)} {H:List Ob} {F F':Nat→Prop} {w w':World} (h:AGc F w F' w'):Att ⟨β,H,F⟩ w ⟨β,H,F'⟩ w' :=
 ⟨h.os,h.tape,h.output,h.size,fun id v ⟨o,h1,h2⟩=>⟨⟨o,h1,h2⟩,rfl⟩,fun b hb=>Auw (h.same b hb),fun b hb _=>h.same b hb,h.keepF,fun b hb hF => .inl (h.oldF b hb hF),fun b hb ⟨i,o,off,h1,h2,h3⟩=>⟨i,o,off,h1,h2,h3⟩⟩
theorem AGc.sim {β:Nat→Nat→Option (Nat×Nat)} {H:List Ob} {F F':Nat→Prop} {w w':World} (hs:Sim ⟨β,H,F⟩ w) (h:AGc F w F' w'):Sim ⟨β,H,F'⟩ w':=by
 have hm:AAo ⟨β,H,F⟩ w ⟨β,H,F'⟩ w':=⟨fun b hb=>⟨h.keepF b hb,h.same b (hs.lt b hb)⟩,fun id v ⟨o,h1,h2⟩=>⟨⟨o,h1,h2⟩,rfl⟩,fun b hb=>Auw (h.same b hb)⟩
 refine ⟨fun id o ho=>ASe.mono hm ⟨o,ho,Nat.le_refl _⟩ (fun hl b off hb=>h.same b (hs.own_lt ⟨id,o,off,ho,hl,hb⟩)) (hs.ob id o ho),hs.inj,fun b hb hF => ?_,h.ltF,hs.glob.keep hm.stay⟩
 obtain ⟨i,o,off,h1,h2,h3⟩:=hb
 have ho:Ctx.own ⟨β,H,F⟩ b:=⟨i,o,off,h1,h2,h3⟩
 exact hs.apart b ho (h.oldF b (hs.own_lt ho) hF)
theorem Auk.calls {f:FuncId} {args:List TV} {R:TV→Prop} {H:List Ob} {K:TV→List Ob→Prop} (h:Auk P f args R) (hp:Aud args=true) (hk:∀ x,R x→K x H):Atj P f args H K:=by
 intro β F w vs hs hv
 refine (h β F w vs ⟨hs.lt,hs.glob⟩ (Aue.pure hp hv)).mono ?_
 rintro _ w' ⟨v,x,F',rfl,hR,hx,hst⟩
 exact ⟨v,x,β,H,F',rfl,hk x hR,hst.sim hs,hst.later,Rep.mono (AAo.toBare H β) hx⟩
theorem Auk.lends {f:FuncId} {args args':List TV} {R:TV→Prop} {H:List Ob} {K:TV→List Ob→Prop} (h:Auk P f args' R) (hp:Ba5 H args=some args') (hk:∀ x,R x→ARN x=true∧K x H):Atj P f args H K:=by
 intro β F w vs hs hv
 refine (h β (fun b=>F b∨Ctx.own ⟨β,H,F⟩ b) w vs ⟨fun b hb=>hb.elim (hs.lt b) hs.own_lt,hs.glob.keep fun b hb=>⟨.inl hb,rfl⟩⟩ (AVi hs hp hv)).mono ?_
 rintro _ w' ⟨v,x,F',rfl,hR,hx,hst⟩
 obtain ⟨hsc,hK⟩:=hk x hR
 have hst':AGc F w F w':=⟨hst.os,hst.tape,hst.output,hst.size,hst.same,fun _ h=>h,fun _ _ h=>h,fun b hb=>Nat.lt_of_lt_of_le (hs.lt b hb) hst.size⟩
 exact ⟨v,x,β,H,F,rfl,hK,hst'.sim hs,hst'.later,A1m hsc hx⟩
theorem AAo.ofF {β β':Nat→Nat→Option (Nat×Nat)} {H:List Ob} {F F':Nat→Prop} {w:World} (h:∀ b,F b→F' b):AAo ⟨β,[],F⟩ w ⟨β',H,F'⟩ w :=
 ⟨fun b hb=>⟨h b hb,rfl⟩,fun id v h=>by obtain ⟨o,h,_⟩:=h; simp at h,fun _ _=>rfl⟩
mutual
def frs (H:List Ob):TV→Option TV
 | .val v=>some (.val v)
 | .any=>some .any
 | .os k id ver p off n cp=>match H[id]? with
  | some (.obj v x)=>if v=ver then (match Aw6 p k off n x with
   | some cs=>if ABK cs then some (.sl k cs) else none
   | none=>none) else none
  | _=>none
 | .agg cs=>(ATs H cs).map .agg
 | .arr n k cs=>if ABK cs then some (.arr n k cs) else none
 | .tup cs=>(ATs H cs).map .tup
 | .ifc t x=>(frs H x).map (.ifc t)
 | _=>none
def ATs (H:List Ob):List TV→Option (List TV)
 | []=>some []
 | x::xs=>match frs H x,ATs H xs with
  | some x,some xs=>some (x::xs)
  | _,_=>none
end
def Ctx.mine (c:Ctx):Ctx:=⟨c.β,[],c.own⟩
theorem ARq {p:List (Nat×Nat)} {k off:Nat} {x:TV} {cs:List TV} (h:Aw6 p k off 0 x=some cs):cs=[]:=by
 unfold Aw6 at h
 split at h
 ·split at h
  ·cases h; simp
  ·cases h
 ·cases h
mutual
theorem ARx {c:Ctx} {w:World} (hs:Sim c w):∀ {x x':TV} {us:List Value},frs c.H x=some x'→Ath c w x us→Ath c.mine w x' us
 | .val y,x',us,hf,hr=>by simp only [frs,Option.some.injEq] at hf; subst hf; rw [Ath] at hr ⊢; exact hr
 | .any,x',us,hf,hr=>by simp only [frs,Option.some.injEq] at hf; subst hf; rw [Ath] at hr ⊢; exact hr
 | .mp _ _,x',us,hf,hr=>by simp [frs] at hf
 | .yl _ _,x',us,hf,hr=>by simp [frs] at hf
 | .sl k cs,x',us,hf,hr=>by simp [frs] at hf
 | .fp x,x',us,hf,hr=>by simp [frs] at hf
 | .op id ver p,x',us,hf,hr=>by simp [frs] at hf
 | .fn f a b,x',us,hf,hr=>by simp [frs] at hf
 | .os k id ver p off n cp,x',us,hf,hr=>by
  rw [Ath] at hr
  obtain ⟨hr1,hr2⟩:=hr
  rw [frs] at hf
  split at hf
  ·rename_i ver' x hid
   split at hf
   ·rename_i e; subst e
    split at hf
    ·rename_i cs hcs
     split at hf
     ·rename_i hsc
      cases hf
      rcases hr2 with ⟨rfl,a0,hr2,_⟩ | ⟨b0,o0,cap,t0,m0,hr2,hr3,hr4,hr5,hr6,hr7⟩
      ·have:=ARq hcs
       subst this
       rw [Ath]
       exact ⟨by simp,.inl ⟨rfl,a0,0,hr2,by omega⟩⟩
      rcases hs.ob id _ hid with ⟨h0,_⟩ | ⟨b,off',pre,vs,post,t,fr,h0,h1,h2,h3,h4⟩
      ·rw [h0] at hr2; cases hr2
      rw [h0] at hr2
      obtain ⟨rfl,rfl⟩:b=b0∧off'=o0:=by simpa using hr2
      obtain ⟨a,m,q,rfl,k1,k2,k3,k4⟩:=AB9 h4 hcs
      rw [Ath]
      refine ⟨k3,.inr ⟨b,off'+Axp p+off*k,cap,m,by rw [k4]; exact hr3,by omega,hr5,⟨id,_,off',hid,rfl,h0⟩,ABp hsc k2,?_⟩⟩
      have e:off'+Axp p+off*k=pre.length+a.length:=by rw [h3,k1]; omega
      rw [e]; exact AAG h1
     ·cases hf
    ·cases hf
   ·cases hf
  ·cases hf
 | .agg cs,x',us,hf,hr=>by
  simp only [frs,Option.map_eq_some_iff] at hf
  obtain ⟨ds,hds,rfl⟩:=hf
  rw [Ath] at hr ⊢
  exact ASQ hs hds hr
 | .arr n k cs,x',us,hf,hr=>by
  rw [frs] at hf
  split at hf
  ·rename_i hsc; cases hf; rw [Ath] at hr ⊢; exact ⟨hr.1,hr.2.1,ABp hsc hr.2.2⟩
  ·cases hf
 | .tup cs,x',us,hf,hr=>by rw [Ath] at hr; exact hr.elim
 | .ifc t x,x',us,hf,hr=>by
  simp only [frs,Option.map_eq_some_iff] at hf
  obtain ⟨y,hy,rfl⟩:=hf
  rw [Ath] at hr ⊢
  obtain ⟨u,h1,vs,h2,h3⟩:=hr
  exact ⟨u,h1,vs,ARx hs hy h2,by rw [h3]; exact AT3 hy vs⟩
theorem ASQ {c:Ctx} {w:World} (hs:Sim c w):∀ {xs xs':List TV} {us:List Value},ATs c.H xs=some xs'→Ati c w xs us→Ati c.mine w xs' us
 | [],xs',us,hf,hr=>by simp only [ATs,Option.some.injEq] at hf; subst hf; rw [Ati] at hr ⊢; exact hr
 | x::xs,xs',us,hf,hr=>by
  rw [ATs] at hf
  split at hf
  ·rename_i y ys hy hys
   cases hf
   rw [Ati] at hr ⊢
   obtain ⟨u,us,h1,h2,h3⟩:=hr
   exact ⟨u,us,h1,ARx hs hy h2,ASQ hs hys h3⟩
  ·cases hf
theorem AT3 {H:List Ob}:∀ {x x':TV} (hf:frs H x=some x') (us:List Value),mkV x us=mkV x' us
 | .val y,x',hf,us=>by simp only [frs,Option.some.injEq] at hf; subst hf; rfl
 | .any,x',hf,us=>by simp only [frs,Option.some.injEq] at hf; subst hf; rfl
 | .mp _ _,x',hf,us=>by simp [frs] at hf
 | .yl _ _,x',hf,us=>by simp [frs] at hf
 | .sl k cs,x',hf,us=>by simp [frs] at hf
 | .fp x,x',hf,us=>by simp [frs] at hf
 | .op id ver p,x',hf,us=>by simp [frs] at hf
 | .fn f a b,x',hf,us=>by simp [frs] at hf
 | .os k id ver p off n cp,x',hf,us=>by
  rw [frs] at hf
  split at hf
  ·split at hf
   ·split at hf
    ·split at hf
     ·cases hf; rfl
     ·cases hf
    ·cases hf
   ·cases hf
  ·cases hf
 | .agg cs,x',hf,us=>by
  simp only [frs,Option.map_eq_some_iff] at hf
  obtain ⟨ds,hds,rfl⟩:=hf; rfl
 | .arr n k cs,x',hf,us=>by
  rw [frs] at hf
  split at hf
  ·cases hf; rfl
  ·cases hf
 | .tup cs,x',hf,us=>by
  simp only [frs,Option.map_eq_some_iff] at hf
  obtain ⟨ds,hds,rfl⟩:=hf; rfl
 | .ifc t x,x',hf,us=>by
  simp only [frs,Option.map_eq_some_iff] at hf
  obtain ⟨y,hy,rfl⟩:=hf; rfl
end
theorem AUK {c:Ctx} {w:World} (hs:Sim c w):∀ {xs xs':List TV} {vs:List Value},ATs c.H xs=some xs'→Aue c w xs vs→Aue c.mine w xs' vs
 | [],xs',vs,hf,hr=>by simp only [ATs,Option.some.injEq] at hf; subst hf; rw [Aue] at hr ⊢; exact hr
 | x::xs,xs',vs,hf,hr=>by
  rw [ATs] at hf
  split at hf
  ·rename_i y ys hy hys
   cases hf
   rw [Aue] at hr ⊢
   obtain ⟨u,us,h1,h2,h3⟩:=hr
   refine ⟨u,us,h1,?_,AUK hs hys h3⟩
   rcases h2 with rfl | rfl | ⟨aS,h2,h4⟩
   ·simp only [frs,Option.some.injEq] at hy; subst hy; exact .inl rfl
   ·simp only [frs,Option.some.injEq] at hy; subst hy; exact .inr (.inl rfl)
   ·exact .inr (.inr ⟨aS,ARx hs hy h2,by rw [h4]; exact AT3 hy aS⟩)
  ·cases hf
theorem A4z {c:Ctx} {w:World} (hs:Sim c w) {x x':TV} {v:Value} (hf:frs c.H x=some x') (hr:Rep c w x v):Rep c.mine w x' v:=by
 rcases hr with (h | h | ⟨us,h,h'⟩) | ⟨xs,vs,rfl,h2,h3⟩
 ·subst h; simp only [frs,Option.some.injEq] at hf; subst hf; exact Rep.any
 ·subst h; simp only [frs,Option.some.injEq] at hf; subst hf; exact Rep.of_val
 ·exact .inl (.inr (.inr ⟨us,ARx hs hf h,by rw [h']; exact AT3 hf us⟩))
 ·simp only [frs,Option.map_eq_some_iff] at hf
  obtain ⟨ds,hds,rfl⟩:=hf
  exact .inr ⟨ds,vs,rfl,h2,AUK hs hds h3⟩
def Az5 (P:Program) (f:FuncId) (args:List TV) (R:TV→Prop):Prop :=
 ∀ (β:Nat→Nat→Option (Nat×Nat)) (F:Nat→Prop) (w:World) (vs:List Value),((∀ b,F b→b<w.heap.size)∧ABr F w)→Aue ⟨β,[],F⟩ w args vs →
  Calls P f vs.toArray w fun e w'=>∃ v x F',e = .returned v∧R x∧Rep ⟨β,[],fun b=>F' b∧w.heap.size≤b⟩ w' x v∧AGc F w F' w'
theorem Az5.mono {f:FuncId} {args:List TV} {R R':TV→Prop} (h:Az5 P f args R) (hr:∀ x,R x→R' x):Az5 P f args R' :=
 fun β F w vs hF hv=>(h β F w vs hF hv).mono fun _ _ ⟨v,x,F',h1,h2,h3⟩=>⟨v,x,F',h1,hr _ h2,h3⟩
theorem Az5.pure {f:FuncId} {args:List TV} {R:TV→Prop} (h:Az5 P f args R):Auk P f args R :=
 fun β F w vs hF hv=>(h β F w vs hF hv).mono fun _ _ ⟨v,x,F',h1,h2,h3,h4⟩=>⟨v,x,F',h1,h2,Rep.mono (AAo.ofF (F:=fun b=>F' b∧w.heap.size≤b) (F':=F') fun b hb=>hb.1) h3,h4⟩
theorem Atj.toFresh {f:FuncId} {args:List TV} {R:TV→Prop} (h:Atj P f args [] fun x H'=>match frs H' x with | some y=>R y | none=>False):Az5 P f args R:=by
 intro β F w vs hF hv
 have hs:Sim ⟨β,[],F⟩ w:=⟨fun id o ho=>by simp at ho,fun i j x y b o o' hx=>by simp at hx,fun b hb=>by obtain ⟨i,o,off,h1,_⟩:=hb; simp at h1,hF.1,hF.2⟩
 refine (h β F w vs hs hv).mono ?_
 rintro _ w' ⟨v,x,β',H',F',rfl,hR,hs',hl,hx⟩
 split at hR
 ·rename_i y hy
  have hno:∀ b,¬ Ctx.own ⟨β,[],F⟩ b:=fun b hb=>by obtain ⟨i,o,off,h1,_⟩:=hb; simp at h1
  have hr:=A4z hs' hy hx
  have hnew:∀ b,Ctx.own ⟨β',H',F'⟩ b→w.heap.size≤b:=fun b hb=>by
   rcases Nat.lt_or_ge b w.heap.size with h1 | h1
   ·exact absurd (hl.oldOwn b h1 hb) (hno b)
   ·exact h1
  refine ⟨v,y,fun b=>F b∨Ctx.own ⟨β',H',F'⟩ b,rfl,hR,?_,⟨hl.os,hl.tape,hl.output,hl.size,fun b hb=>hl.same b hb (hno b),fun b hb => .inl hb,fun b hb hF'=>hF'.elim id fun h => ?_,fun b hF'=>hF'.elim (fun h=>Nat.lt_of_lt_of_le (hF.1 b h) hl.size) hs'.own_lt⟩⟩
  ·exact Rep.mono (AAo.ofF (F:=Ctx.own ⟨β',H',F'⟩) (F':=fun b=>(F b∨Ctx.own ⟨β',H',F'⟩ b)∧w.heap.size≤b) fun b hb=>⟨.inr hb,hnew b hb⟩) hr
  ·have:=hnew b h; omega
 ·exact hR.elim
theorem Az5.lends {f:FuncId} {args args':List TV} {R:TV→Prop} {H:List Ob} {K:TV→List Ob→Prop} (h:Az5 P f args' R) (hp:Ba5 H args=some args') (hk:∀ x,R x→K x H):Atj P f args H K:=by
 intro β F w vs hs hv
 refine (h β (fun b=>F b∨Ctx.own ⟨β,H,F⟩ b) w vs ⟨fun b hb=>hb.elim (hs.lt b) hs.own_lt,hs.glob.keep fun b hb=>⟨.inl hb,rfl⟩⟩ (AVi hs hp hv)).mono ?_
 rintro _ w' ⟨v,x,F',rfl,hR,hx,hst⟩
 have hst':AGc F w (fun b=>F b∨(F' b∧w.heap.size≤b)) w':=⟨hst.os,hst.tape,hst.output,hst.size,hst.same,fun _ h => .inl h,fun b hb h=>h.elim id fun h=>by omega,fun b hb=>hb.elim (fun h=>Nat.lt_of_lt_of_le (hs.lt b h) hst.size) fun h=>hst.ltF b h.1⟩
 refine ⟨v,x,β,H,_,rfl,hk x hR,hst'.sim hs,hst'.later,Rep.mono (AAo.ofF (F:=fun b=>F' b∧w.heap.size≤b) (F':=fun b=>F b∨(F' b∧w.heap.size≤b)) fun b hb => .inr hb) hx⟩
end
end
section
open Go.RowKit
variable [AtQ]
set_option autoImplicit false
theorem As9 {α:Sort _} {a b:α} (h:a=b):a=b:=h
abbrev i64 (n:Int):TV := .val (.int .i64 n)
abbrev tb (b:Bool):TV := .val (.bool b)
abbrev ts (l:List UInt8):TV := .val (.string (str l))
abbrev slB (l:List UInt8):TV := .sl 1 (l.map by8)
abbrev slS (l:List (List UInt8)):TV := .sl 1 (l.map ts)
section
variable {P:Program} {e:Env} {H:List Ob}
theorem BdC {c:Opd} {a:Opd} {b:Opd} {K:TV→Prop}:pop (.pick c a b) e H K=(match c.ev e with
  | .val (.bool t)=>K (if t then a.ev e else b.ev e)
  | _=>False):=As9 rfl
theorem Beq {x:Opd} {K:TV→Prop}:pop (.b2s x) e H K=(match AuB H 1 (x.ev e) with
  | some cs=>(∀ y∈cs,AWy y)∧K (.val (.string (str (cs.map ANd))))
  | none=>False):=As9 rfl
theorem Bd3 {ag:Bool} {sz:Nat} {x:Opd} {K:TV→Prop}:pop (.load ag sz x) e H K=(match x.ev e with
  | .fp y=>AQx ag sz y∧K y
  | .op id ver p=>(match H[id]? with
   | some (.obj v x)=>v=ver∧(match ABl p x with | some y=>AQx ag sz y∧K y | none=>False)
   | _=>False)
  | _=>False):=As9 rfl
theorem BbF {n:Nat} {k:Nat} {x:Opd} {i:Opd} {K:TV→Prop}:pop (.idxAA n k x i) e H K=(match x.ev e,i.ev e with
  | .fp (.arr n' k' cs),.val (.int _ j)=>k'=k∧n'=n∧0≤j∧(match cs[j.toNat]? with | some y=>K (.fp y) | none=>False)
  | .op id ver p,.val (.int _ j)=>0≤j∧j<n∧K (.op id ver (p++[(j.toNat,j.toNat*k)]))
  | _,_=>False):=As9 rfl
theorem Bd6 {x:Opd} {K:TV→Prop}:pop (.lenV x) e H K=(match x.ev e with
  | .val (.slice _ n _)=>K (.val (.int .i64 n))
  | .sl _ cs=>K (.val (.int .i64 cs.length))
  | .os _ _ _ _ _ n _=>K (.val (.int .i64 n))
  | _=>False):=As9 rfl
theorem Bcq {k:Nat} {x:Opd} {lo:Option Opd} {hi:Option Opd} {K:TV→Prop}:pop (.slV k x lo hi) e H K=(match x.ev e with
  | .sl k' cs=>k'=k∧bnd e lo hi cs.length cs.length fun l h=>K (.sl k ((cs.drop l).take (h - l)))
  | .os k' id ver p off n cp=>k'=k∧bnd e lo hi n cp fun l h=>K (.os k id ver p (off+l) (h - l) (cp - l))
  | .val (.slice ad 0 0)=>bnd e lo hi 0 0 fun l h=>K (.val (.slice ad 0 0))
  | _=>False):=As9 rfl
theorem BcD {n:Nat} {k:Nat} {x:Opd} {lo:Option Opd} {hi:Option Opd} {K:TV→Prop}:pop (.slA n k x lo hi) e H K=(match x.ev e with
  | .fp (.arr n' k' cs)=>k'=k∧n'=n∧n≤9223372036854775807∧bnd e lo hi n n fun l h=>K (.sl k ((cs.drop l).take (h - l)))
  | .op id ver p=>(match H[id]? with
   | some (.obj v x)=>v=ver∧n≤9223372036854775807∧(match ABl p x with | some (.arr n' k' cs)=>k'=k∧n'=n∧bnd e lo hi n n fun l h=>K (.os k id ver p l (h - l) (n - l)) | _=>False)
   | _=>False)
  | _=>False):=As9 rfl
theorem Bc0 {f:Fn} {first:List Opd} {caps:List Opd} {K:TV→Prop}:pop (.mkf f first caps) e H K=((∀ x∈first++caps,AuM (x.ev e)=false)∧K (.fn f (first.map (·.ev e)) (caps.map (·.ev e)))):=As9 rfl
theorem BdA {x:Opd} {K:TV→Prop}:pop (.nilc x) e H K=(match x.ev e with
  | .op id ver p=>K (.op id ver p)
  | .fp y=>K (.fp y)
  | .fn (.func f) a b=>K (.fn (.func f) a b)
  | .ifc t y=>K (.ifc t y)
  | .val (.func (.func f) a b)=>K (.val (.func (.func f) a b))
  | _=>False):=As9 rfl
theorem AZK {k:Nat} {n:Nat} {z:TV} {ps:List (Nat×Opd)} {K:TV→List Ob→Prop}:sop P (.bslice k n z ps) e H K=((Aw8 e (List.replicate n k) ps∧Aum e ps∧n≤1000)∧K (.os k H.length 0 [] 0 n n) (H++[.obj 0 (.arr n k (AxX e (List.replicate n z) ps))])):=As9 rfl
theorem BcS {sz:Nat} {x:Opd} {v:Opd} {K:TV→List Ob→Prop}:sop P (.store sz x v) e H K=((lays (v.ev e)=true∧Atq (v.ev e)=sz)∧(match x.ev e with
  | .op id ver p=>(match H[id]? with
   | some (.obj vr y)=>vr=ver∧(match AI8 p y (v.ev e) with | some y'=>K .any (H.set id (.obj ver y')) | none=>False)
   | _=>False)
  | _=>False)):=As9 rfl
theorem BaC {f:FuncId} {args:List Opd} {K:TV→List Ob→Prop}:sop P (.call f args) e H K=((∀ x∈args,AuM (x.ev e)=false)∧Atj P f (args.map (·.ev e)) H K):=As9 rfl
theorem A6v {x:Opd} {args:List Opd} {K:TV→List Ob→Prop}:sop P (.callv x args) e H K=((∀ x∈args,AuM (x.ev e)=false)∧(match x.ev e with
  | .fn (.func f) first caps=>AMt P f=true∧Atj P f (first++args.map (·.ev e)++caps) H K
  | .val (.func (.func f) xs ys)=>(xs.isEmpty && ys.isEmpty)=true∧AMt P f=true∧Atj P f (args.map (·.ev e)) H K
  | .yl id ver=>AFu P id ver (args.map (·.ev e)) H K
  | _=>False)):=As9 rfl
theorem Bah  {Q:VEx→Env→List Ob→Prop}:vwp P (.skip ) Q e H=(Q .nor e H):=As9 rfl
theorem Bez {a:Atc} {b:Atc} {Q:VEx→Env→List Ob→Prop}:vwp P (.seq a b) Q e H=(vwp P a (fun x e H=>match x with | .nor=>vwp P b Q e H | .exit i=>Q (.exit i) e H | .ret=>Q .ret e H | .pan u=>Q (.pan u) e H) e H):=As9 rfl
theorem A8S {lv:List Nat} {c:Atc} {Q:VEx→Env→List Ob→Prop} {H0:List Ob}:vwp P (.loop lv c) Q e H0=(∃ (I:Nat→Env→List Ob→Prop) (n:Nat),I n (forget lv e) H0 ∧
   ∀ n e H,I n e H→vwp P c (fun x e H=>match x with | .nor=>∃ m g,m<n∧(H0.length≤g∧(H.length≤g∨(APh g (forget lv e)=true∧ANh g (H.take g)=true)))∧I m (forget lv e) (H.take g) | .exit i=>Q (.exit i) e H | .ret=>Q .ret e H | .pan u=>Q (.pan u) e H) e H):=As9 rfl
theorem A8f {id:Nat} {Q:VEx→Env→List Ob→Prop}:vwp P (.exit id) Q e H=(Q (.exit id) e H):=As9 rfl
theorem Bbn  {Q:VEx→Env→List Ob→Prop}:vwp P (.ret ) Q e H=(Q .ret e H):=As9 rfl
theorem A6w {c:Atc} {Q:VEx→Env→List Ob→Prop}:vwp P (.scope c) Q e H=(vwp P c Q e H):=As9 rfl
theorem BeD {s k:Nat} {c:Atc} {Q:VEx→Env→List Ob→Prop}:vwp P (.own s k c) Q e H=(match get e s with
  | .val (.slice none 0 0)=>vwp P c Q ((s,.os k H.length 0 [] 0 0 0)::e) (H++[.obj 0 (.arr 0 k [])])
  | _=>vwp P c Q e H):=As9 rfl
theorem A8z {s k:Nat} {p:List (Nat×Nat)} {c:Atc} {Q:VEx→Env→List Ob→Prop}:vwp P (.ownB s p k c) Q e H=(match get e s with
  | .op id ver p0=>(match H[id]? with
   | some (.obj v x)=>v=ver∧(match ABl (p0++p) x with
    | some (.val (.slice none 0 0))=>(match AI8 (p0++p) x (.os k H.length 0 [] 0 0 0) with
     | some x'=>vwp P c Q e (H.set id (.obj ver x')++[.obj 0 (.arr 0 k [])])
     | none=>False)
    | _=>vwp P c Q e H)
   | _=>False)
  | _=>False):=As9 rfl
theorem Baq {s:Nat} {t:TypeId} {p:List (Nat×Nat)} {c:Atc} {Q:VEx→Env→List Ob→Prop}:vwp P (.ownT s p t c) Q e H=(match get e s with
  | .op id ver p0=>(match H[id]? with
   | some (.obj v x)=>v=ver∧(match ABl (p0++p) x with
    | some (.val (.slice none 0 0))=>(match AI8 (p0++p) x (.os 1 H.length 0 [] 0 0 0) with
     | some x'=>vwp P c Q e (H.set id (.obj ver x')++[.bld 0 t []])
     | none=>False)
    | _=>vwp P c Q e H)
   | _=>False)
  | _=>False):=As9 rfl
theorem A1x {K:Env→List Ob→Prop}:ANH P [] K e H=K e H:=As9 rfl
theorem A75 {d:Nat} {o:POp} {r:List VO} {K:Env→List Ob→Prop}:ANH P (⟨some d,.p o,none⟩::r) K e H=pop o e H fun x=>ANH P r K ((d,x)::e) H:=As9 rfl
theorem Bad {d:Nat} {o:SOp} {r:List VO} {K:Env→List Ob→Prop}:ANH P (⟨some d,.s o,none⟩::r) K e H=sop P o e H fun x H=>ANH P r K ((d,x)::e) H:=As9 rfl
theorem A5M {o:SOp} {r:List VO} {K:Env→List Ob→Prop}:ANH P (⟨none,.s o,none⟩::r) K e H=sop P o e H fun x H=>ANH P r K e H:=As9 rfl
theorem A9Z {d s:Nat} {o:VOp} {b:Bool} {r:List VO} {K:Env→List Ob→Prop}:ANH P (⟨some d,o,some (s,b)⟩::r) K e H=APE e s fun e q=>match q with
 | some t=>if t=b then vop P o e H (fun x H=>ANH P r K ((d,x)::e) H) else ANH P r K ((d,.val undef)::e) H
 | none=>ANH P r K ((d,.val undef)::e) H:=As9 rfl
theorem Bbi {o:POp} {K:TV→List Ob→Prop}:vop P (.p o) e H K=pop o e H fun x=>K x H:=As9 rfl
theorem Bdf {o:SOp} {K:TV→List Ob→Prop}:vop P (.s o) e H K=sop P o e H K:=As9 rfl
theorem A9v {K:Env→Prop}:vq P [] K e H=K e:=As9 rfl
theorem Beu {d:Nat} {o:POp} {r:List VO} {K:Env→Prop}:vq P (⟨some d,.p o,none⟩::r) K e H=pop o e H fun x=>vq P r K ((d,x)::e) H:=As9 rfl
theorem Bei {d:Nat} {f:FuncId} {args:List Opd} {r:List VO} {K:Env→Prop}:vq P (⟨some d,.s (.call f args),none⟩::r) K e H=((∀ x∈args,AuM (x.ev e)=false)∧∃ x,Atj P f (args.map (·.ev e)) H (fun y H'=>y=x∧H'=H)∧vq P r K ((d,x)::e) H):=As9 rfl
theorem A5e {o:POp} {k:TV→Prop}:APL P (.p o) e H k=pop o e H k:=As9 rfl
theorem A6C {f:FuncId} {args:List Opd} {k:TV→Prop}:APL P (.s (.call f args)) e H k=((∀ x∈args,AuM (x.ev e)=false)∧∃ x,Atj P f (args.map (·.ev e)) H (fun y H'=>y=x∧H'=H)∧k x):=As9 rfl
variable {t:TypeId} {a b:Int} {k:IntKind}
theorem Ax7 {n:Int} (h1 : -9223372036854775808≤n) (h2:n≤9223372036854775807):IntKind.i64.wrap n=n:=by rw [IntKind.wrap_i64]; omega
theorem Bch (h1 : -9223372036854775808≤a+b) (h2:a+b≤9223372036854775807):AyH t .add (.int .i64 a) (.int .i64 b)=some (.int .i64 (a+b)):=by
 rw [show AyH t .add (.int .i64 a) (.int .i64 b)=some (.int .i64 (IntKind.i64.wrap (a+b))) from rfl,Ax7 h1 h2]
theorem BbG (h1 : -9223372036854775808≤a - b) (h2:a - b≤9223372036854775807):AyH t .sub (.int .i64 a) (.int .i64 b)=some (.int .i64 (a - b)):=by
 rw [show AyH t .sub (.int .i64 a) (.int .i64 b)=some (.int .i64 (IntKind.i64.wrap (a - b))) from rfl,Ax7 h1 h2]
theorem BcX (h1 : -9223372036854775808≤a*b) (h2:a*b≤9223372036854775807):AyH t .mul (.int .i64 a) (.int .i64 b)=some (.int .i64 (a*b)):=by
 rw [show AyH t .mul (.int .i64 a) (.int .i64 b)=some (.int .i64 (IntKind.i64.wrap (a*b))) from rfl,Ax7 h1 h2]
theorem BcH:AyH t .eql (.int k a) (.int k b)=some (.bool (decide (a=b))):=by
 rw [show AyH t .eql (.int k a) (.int k b)=some (.bool (a == b)) from by simp [AyH,binOp,Op.intCmp]; rfl]; rfl
theorem BbV:AyH t .neq (.int k a) (.int k b)=some (.bool (!decide (a=b))):=by
 rw [show AyH t .neq (.int k a) (.int k b)=some (.bool (a != b)) from by simp [AyH,binOp,Op.intCmp]; rfl]; rfl
theorem Bbw:AyH t .lss (.int k a) (.int k b)=some (.bool (decide (a<b))):=by simp [AyH,binOp,Op.intCmp]; rfl
theorem Bb4:AyH t .leq (.int k a) (.int k b)=some (.bool (decide (a≤b))):=by simp [AyH,binOp,Op.intCmp]; rfl
theorem Bbt:AyH t .gtr (.int k a) (.int k b)=some (.bool (decide (b<a))):=by simp [AyH,binOp,Op.intCmp]; rfl
theorem Bcb:AyH t .geq (.int k a) (.int k b)=some (.bool (decide (b≤a))):=by simp [AyH,binOp,Op.intCmp]; rfl
theorem AXb:Aw1 0 (.val (.pointer none))=some true:=As9 rfl
theorem AXs {i v:Nat} {p:List (Nat×Nat)}:Aw1 0 (.op i v p)=some false:=As9 rfl
theorem AWW {x:TV}:Aw1 0 (.fp x)=some false:=As9 rfl
theorem AW5:Aw1 1 (.val .nilIface)=some true:=As9 rfl
theorem AWm {t:TypeId} {x:TV}:Aw1 1 (.ifc t x)=some false:=As9 rfl
theorem AYt:Aw1 2 (.val (.map none))=some true:=As9 rfl
theorem AZu {i v:Nat}:Aw1 2 (.mp i v)=some false:=As9 rfl
theorem AYr {i v:Nat}:Aw1 3 (.yl i v)=some false:=As9 rfl
theorem AX7:Aw1 3 (.val .nilFunc)=some true:=As9 rfl
theorem AYH {f:Fn} {a b:List TV}:Aw1 3 (.fn f a b)=some false:=As9 rfl
theorem BaZ {n:Int} (h0:0≤n) (h1:n<18446744073709551616):(BitVec.ofInt 64 n).toNat=n.toNat:=by
 rw [BitVec.toNat_ofInt]
 have:n % ((2 ^ 64:Nat):Int)=n:=Int.emod_eq_of_lt h0 (by simpa using h1)
 rw [this]
theorem A8l (h1:0≤a) (h2:a≤9223372036854775807) (h3:0≤b) (h4:b≤9223372036854775807):AyH t .and (.int .i64 a) (.int .i64 b)=some (.int .i64 ((a.toNat &&& b.toNat:Nat):Int)):=by
 rw [show AyH t .and (.int .i64 a) (.int .i64 b)=some (.int .i64 (IntKind.i64.wrap ((BitVec.ofInt 64 a &&& BitVec.ofInt 64 b).toNat:Int))) from rfl,BitVec.toNat_and,BaZ h1 (by omega),BaZ h3 (by omega)]
 have:=Nat.and_le_left (n:=a.toNat) (m:=b.toNat)
 rw [Ax7 (by omega) (by omega)]
theorem BeE (h1:0≤a) (h2:a≤9223372036854775807) (h3:0≤b) (h4:b≤9223372036854775807):AyH t .or (.int .i64 a) (.int .i64 b)=some (.int .i64 ((a.toNat ||| b.toNat:Nat):Int)):=by
 rw [show AyH t .or (.int .i64 a) (.int .i64 b)=some (.int .i64 (IntKind.i64.wrap ((BitVec.ofInt 64 a ||| BitVec.ofInt 64 b).toNat:Int))) from rfl,BitVec.toNat_or,BaZ h1 (by omega),BaZ h3 (by omega)]
 have:=Nat.or_lt_two_pow (n:=63) (x:=a.toNat) (y:=b.toNat) (by omega) (by omega)
 rw [Ax7 (by omega) (by omega)]
theorem Bbe {k2:IntKind} (h1:0≤b) (h2:b≤63) (h3:0≤a*2 ^ b.toNat) (h4:a*2 ^ b.toNat≤9223372036854775807):AyH t .shl (.int .i64 a) (.int k2 b)=some (.int .i64 (a*2 ^ b.toNat)):=by
 have e:binOp .shl t (.int .i64 a) (.int k2 b)=pure (.int .i64 (a*2 ^ b.toNat)):=by
  show Op.shift .shl .i64 a k2 b=_
  unfold Op.shift
  rw [if_neg (by omega)]
  have hm:min b.toNat IntKind.i64.bits=b.toNat:=by
   have:IntKind.i64.bits=64:=rfl
   omega
  simp only [hm]
  rw [Ax7 (by omega) h4]
 unfold AyH; rw [e]; rfl
theorem Bci {k2:IntKind} (h1:0≤b) (h2:b≤63) (h3:0≤a):AyH t .shr (.int .i64 a) (.int k2 b)=some (.int .i64 (a / 2 ^ b.toNat)):=by
 have e:binOp .shr t (.int .i64 a) (.int k2 b)=pure (.int .i64 (a / 2 ^ b.toNat)):=by
  show Op.shift .shr .i64 a k2 b=_
  unfold Op.shift
  rw [if_neg (by omega)]
  have hm:min b.toNat IntKind.i64.bits=b.toNat:=by
   have:IntKind.i64.bits=64:=rfl
   omega
  simp only [hm]
  rw [Int.fdiv_eq_ediv_of_nonneg _ (by exact Int.le_of_lt (Int.pow_pos (by omega)))]
 unfold AyH; rw [e]; rfl
theorem Bcp (h1:0≤a) (h2:b≠0):AyH t .rem (.int k a) (.int k b)=some (.int k (a % b)):=by
 have e:binOp .rem t (.int k a) (.int k b)=pure (.int k (a % b)):=by
  unfold binOp
  simp only [ne_eq,not_true_eq_false,if_false,Op.intDiv,h2,Int.tmod_eq_emod_of_nonneg h1]
 unfold AyH; rw [e]; rfl
theorem BbX (h1:0≤a) (h2:0<b) (h3:a≤9223372036854775807):AyH t .quo (.int .i64 a) (.int .i64 b)=some (.int .i64 (a / b)):=by
 have e:binOp .quo t (.int .i64 a) (.int .i64 b)=pure (.int .i64 (a / b)):=by
  unfold binOp
  simp only [ne_eq,not_true_eq_false,if_false,Op.intDiv,show ¬ b=0 from by omega,Int.tdiv_eq_ediv_of_nonneg h1]
  have h4:a / b≤a:=Int.ediv_le_self _ h1
  have h5:0≤a / b:=Int.ediv_nonneg h1 (by omega)
  rw [Ax7 (by omega) (by omega)]
 unfold AyH; rw [e]; rfl
theorem A46 {x y:UInt8}:AyH t .xor (.int .u8 (x.toNat:Int)) (.int .u8 (y.toNat:Int))=some (.int .u8 ((x ^^^ y).toNat:Int)):=by
 rw [show AyH t .xor (.int .u8 (x.toNat:Int)) (.int .u8 (y.toNat:Int))=some (.int .u8 (IntKind.u8.wrap ((BitVec.ofInt 8 (x.toNat:Int) ^^^ BitVec.ofInt 8 (y.toNat:Int)).toNat:Int))) from rfl]
 rw [BitVec.ofInt_natCast,BitVec.ofInt_natCast,UInt8.toNat_xor,BitVec.toNat_xor,BitVec.toNat_ofNat,BitVec.toNat_ofNat,Nat.mod_eq_of_lt x.toNat_lt,Nat.mod_eq_of_lt y.toNat_lt]
 have:=Nat.xor_lt_two_pow (n:=8) x.toNat_lt y.toNat_lt
 rw [IntKind.wrap_u8]; congr 2; omega
theorem AH5 (l:List UInt8):(str l).toList=l:=by simp [str,ByteArray.toList_eq]
theorem AVs {l m:List UInt8}:(l == m)=decide (l=m):=by
 by_cases h:l=m<;>simp [h]
theorem Bbq {l m:List UInt8}:AyH t .eql (.string (str l)) (.string (str m))=some (.bool (decide (l=m))):=by
 rw [show AyH t .eql (.string (str l)) (.string (str m))=some (.bool ((str l).toList == (str m).toList)) from rfl,AH5,AH5,AVs]
theorem Bb2 {l m:List UInt8}:AyH t .neq (.string (str l)) (.string (str m))=some (.bool (!decide (l=m))):=by
 rw [show AyH t .neq (.string (str l)) (.string (str m))=some (.bool (!((str l).toList == (str m).toList))) from rfl,AH5,AH5,AVs]
theorem BbQ {b:Bool}:unV .not (.bool b)=some (.bool (!b)):=As9 rfl
theorem A1Q {u:Value}:A4Q (.int k a) u=true:=by cases u<;>rfl
theorem A4D {s:ByteArray} {u:Value}:A4Q (.string s) u=true:=by cases u<;>rfl
theorem A4M {v:Value}:AMC (TV.val v)=false:=As9 rfl
theorem A1g  : AMC (TV.any)=false:=As9 rfl
theorem A66 {k:Nat} {cs:List TV}:AMC (TV.sl k cs)=false:=As9 rfl
theorem A5T {x:TV}:AMC (TV.fp x)=false:=As9 rfl
theorem A7j {i:Nat} {v:Nat} {p:List (Nat×Nat)}:AMC (TV.op i v p)=false:=As9 rfl
theorem A6z {k:Nat} {i:Nat} {v:Nat} {p:List (Nat×Nat)} {o:Nat} {n:Nat} {cp:Nat}:AMC (TV.os k i v p o n cp)=false:=As9 rfl
theorem AZB {cs:List TV}:AMC (TV.agg cs)=true:=As9 rfl
theorem A0c {n:Nat} {k:Nat} {cs:List TV}:AMC (TV.arr n k cs)=true:=As9 rfl
theorem A0r {vs:List TV}:AMC (TV.tup vs)=false:=As9 rfl
theorem A4y {t:TypeId} {x:TV}:AMC (TV.ifc t x)=false:=As9 rfl
theorem A5d {f:Fn} {a:List TV} {b:List TV}:AMC (TV.fn f a b)=false:=As9 rfl
theorem A6t {i:Nat} {v:Nat}:AMC (TV.mp i v)=false:=As9 rfl
theorem A6b {i:Nat} {v:Nat}:AMC (TV.yl i v)=false:=As9 rfl
theorem AZn {v:Value}:AuM (TV.val v)=false:=As9 rfl
theorem AW8  : AuM (TV.any)=false:=As9 rfl
theorem A4t {k:Nat} {cs:List TV}:AuM (TV.sl k cs)=false:=As9 rfl
theorem AZD {x:TV}:AuM (TV.fp x)=false:=As9 rfl
theorem A0g {i:Nat} {v:Nat} {p:List (Nat×Nat)}:AuM (TV.op i v p)=false:=As9 rfl
theorem A1N {k:Nat} {i:Nat} {v:Nat} {p:List (Nat×Nat)} {o:Nat} {n:Nat} {cp:Nat}:AuM (TV.os k i v p o n cp)=false:=As9 rfl
theorem AYY {cs:List TV}:AuM (TV.agg cs)=false:=As9 rfl
theorem AX3 {n:Nat} {k:Nat} {cs:List TV}:AuM (TV.arr n k cs)=false:=As9 rfl
theorem AXV {vs:List TV}:AuM (TV.tup vs)=true:=As9 rfl
theorem AXF {t:TypeId} {x:TV}:AuM (TV.ifc t x)=false:=As9 rfl
theorem A0C {f:Fn} {a:List TV} {b:List TV}:AuM (TV.fn f a b)=false:=As9 rfl
theorem A0f {i:Nat} {v:Nat}:AuM (TV.mp i v)=false:=As9 rfl
theorem A4N {i:Nat} {v:Nat}:AuM (TV.yl i v)=false:=As9 rfl
theorem A1E  : lays (TV.any)=false:=As9 rfl
theorem A6U {k:Nat} {cs:List TV}:lays (TV.sl k cs)=true:=As9 rfl
theorem A5i {x:TV}:lays (TV.fp x)=true:=As9 rfl
theorem A6S {i:Nat} {v:Nat} {p:List (Nat×Nat)}:lays (TV.op i v p)=true:=As9 rfl
theorem A5c {k:Nat} {i:Nat} {v:Nat} {p:List (Nat×Nat)} {o:Nat} {n:Nat} {cp:Nat}:lays (TV.os k i v p o n cp)=true:=As9 rfl
theorem A1o {cs:List TV}:lays (TV.agg cs)=true:=As9 rfl
theorem AZI {n:Nat} {k:Nat} {cs:List TV}:lays (TV.arr n k cs)=true:=As9 rfl
theorem A4u {vs:List TV}:lays (TV.tup vs)=false:=As9 rfl
theorem A4G {t:TypeId} {x:TV}:lays (TV.ifc t x)=true:=As9 rfl
theorem A5H {f:Fn} {a:List TV} {b:List TV}:lays (TV.fn f a b)=true:=As9 rfl
theorem A5C {i:Nat} {v:Nat}:lays (TV.mp i v)=true:=As9 rfl
theorem A5P {i:Nat} {v:Nat}:lays (TV.yl i v)=true:=As9 rfl
theorem AYE {v:Value}:AuQ (TV.val v)=true:=As9 rfl
theorem AY0  : AuQ (TV.any)=true:=As9 rfl
theorem A1R {k:Nat} {cs:List TV}:AuQ (TV.sl k cs)=true:=As9 rfl
theorem A4S {x:TV}:AuQ (TV.fp x)=true:=As9 rfl
theorem A1i {i:Nat} {v:Nat} {p:List (Nat×Nat)}:AuQ (TV.op i v p)=false:=As9 rfl
theorem A0W {k:Nat} {i:Nat} {v:Nat} {p:List (Nat×Nat)} {o:Nat} {n:Nat} {cp:Nat}:AuQ (TV.os k i v p o n cp)=false:=As9 rfl
theorem AZe {n:Nat} {k:Nat} {cs:List TV}:AuQ (TV.arr n k cs)=true:=As9 rfl
theorem AZ6 {i:Nat} {v:Nat}:AuQ (TV.mp i v)=false:=As9 rfl
theorem A2r {i:Nat} {v:Nat}:AuQ (TV.yl i v)=false:=As9 rfl
theorem AWQ {v:Value}:Atq (TV.val v)=1:=As9 rfl
theorem AXC  : Atq (TV.any)=1:=As9 rfl
theorem A1w {k:Nat} {cs:List TV}:Atq (TV.sl k cs)=1:=As9 rfl
theorem A1P {x:TV}:Atq (TV.fp x)=1:=As9 rfl
theorem A1s {i:Nat} {v:Nat} {p:List (Nat×Nat)}:Atq (TV.op i v p)=1:=As9 rfl
theorem A1J {k:Nat} {i:Nat} {v:Nat} {p:List (Nat×Nat)} {o:Nat} {n:Nat} {cp:Nat}:Atq (TV.os k i v p o n cp)=1:=As9 rfl
theorem AXA {vs:List TV}:Atq (TV.tup vs)=1:=As9 rfl
theorem AYW {t:TypeId} {x:TV}:Atq (TV.ifc t x)=1:=As9 rfl
theorem A0u {f:Fn} {a:List TV} {b:List TV}:Atq (TV.fn f a b)=1:=As9 rfl
theorem A0U {i:Nat} {v:Nat}:Atq (TV.mp i v)=1:=As9 rfl
theorem AZM {i:Nat} {v:Nat}:Atq (TV.yl i v)=1:=As9 rfl
theorem AX4 {cs:List TV}:Atq (.agg cs)=Aut cs:=by rw [Atq]
theorem AYJ {n k:Nat} {cs:List TV}:Atq (.arr n k cs)=n*k:=by rw [Atq]
theorem AVM:Aut []=0:=As9 rfl
theorem ATB {x:TV} {xs:List TV}:Aut (x::xs)=Atq x+Aut xs:=by rw [Aut]
theorem AZx {cs:List TV}:AuQ (.agg cs)=Aud cs:=by rw [AuQ]
theorem AWF {t:TypeId} {x:TV}:AuQ (.ifc t x)=AuQ x:=by rw [AuQ]
theorem AZg {cs:List TV}:AuQ (.tup cs)=Aud cs:=by rw [AuQ]
theorem AWZ:Aud []=true:=As9 rfl
theorem AVB {x:TV} {xs:List TV}:Aud (x::xs)=(AuQ x && Aud xs):=by rw [Aud]
theorem A0e {k:IntKind} {n:Int}:lays (.val (.int k n))=true:=As9 rfl
theorem AYT {b:Bool}:lays (.val (.bool b))=true:=As9 rfl
theorem AUo {s:ByteArray}:lays (.val (.string s))=true:=As9 rfl
theorem AR7 {p:Option Addr}:lays (.val (.pointer p))=true:=As9 rfl
theorem AVx {p:Option Addr} {n c:Nat}:lays (.val (.slice p n c))=true:=As9 rfl
theorem A03 {r:Option Nat}:lays (.val (.map r))=true:=As9 rfl
theorem AZw {f:Fn} {a b:Array Value}:lays (.val (.func f a b))=true:=As9 rfl
theorem AS9:lays (.val .nilFunc)=true:=As9 rfl
theorem ART:lays (.val .nilIface)=true:=As9 rfl
theorem Beo {e:Env} {n:Nat}:(Opd.t n).ev e=get e n:=As9 rfl
theorem BeA {e:Env} {n:Nat}:(Opd.g n).ev e=(match AGF n with | some x => .fp x.tv | none => .val (.pointer (some ⟨n,0,none⟩))):=As9 rfl
theorem BeB {e:Env} {v:Value}:(Opd.c v).ev e = .val v:=As9 rfl
theorem AZ0 {x:TV}:ABl [] x=some x:=As9 rfl
theorem A0R {i d:Nat} {p:List (Nat×Nat)} {cs:List TV}:ABl ((i,d)::p) (.agg cs)=if Aut (cs.take i)=d then (cs[i]?).bind (ABl p) else none:=by rw [ABl]
theorem A4C {i d n k:Nat} {p:List (Nat×Nat)} {cs:List TV}:ABl ((i,d)::p) (.arr n k cs)=if d=i*k then (cs[i]?).bind (ABl p) else none:=by rw [ABl]
theorem AVh {x y:TV}:AI8 [] x y=if Atq y=Atq x then some y else none:=by rw [AI8]
theorem A0i {i d:Nat} {p:List (Nat×Nat)} {cs:List TV} {y:TV}:AI8 ((i,d)::p) (.agg cs) y=if Aut (cs.take i)=d then (cs[i]?).bind fun c=>(AI8 p c y).map fun c' => .agg (cs.set i c') else none:=by rw [AI8]
theorem A4x {i d n k:Nat} {p:List (Nat×Nat)} {cs:List TV} {y:TV}:AI8 ((i,d)::p) (.arr n k cs) y=if d=i*k∧AuQ y=true then (cs[i]?).bind fun c=>(AI8 p c y).map fun c' => .arr n k (cs.set i c') else none:=by rw [AI8]
theorem AVO {e:Env}:forget [] e=[]:=As9 rfl
theorem AT4 {e:Env} {s:Nat} {ks:List Nat}:forget (s::ks) e=(s,get e s)::forget ks e:=As9 rfl
theorem AZr {i:Nat}:AQX i []=[]:=As9 rfl
theorem AV4 {i:Nat} {x:TV} {xs:List TV}:AQX i (x::xs)=(i,x)::AQX (i+1) xs:=As9 rfl
theorem A1H {ag:Bool} {sz:Nat} {y:TV}:AQx ag sz y=(Atq y=sz∧AMC y=ag):=As9 rfl
theorem AWd {H:List Ob} {k k2:Nat} {cs:List TV}:AuB H k (.sl k2 cs)=if k2=k then some cs else none:=As9 rfl
theorem ATv {H:List Ob} {k:Nat} {p:Option Addr} {n c:Nat}:AuB H k (.val (.slice p n c))=if n=0∧p.isNone∧c=0 then some [] else none:=As9 rfl
theorem AVD {H:List Ob} {k k2 i v o n cp:Nat} {p:List (Nat×Nat)}:AuB H k (.os k2 i v p o n cp)=if k2=k then (match H[i]? with | some (.obj vr x)=>if vr=v then Aw6 p k o n x else none | _=>none) else none:=As9 rfl
theorem ATW {k k2 o n N:Nat} {cs:List TV}:Aw6 [] k o n (.arr N k2 cs)=if k2=k∧o+n≤cs.length then some ((cs.drop o).take n) else none:=As9 rfl
theorem AWX {e:Env} {zs:List TV}:AxX e zs []=zs:=As9 rfl
theorem AVz {e:Env} {zs:List TV} {i:Nat} {x:Opd} {ps:List (Nat×Opd)}:AxX e zs ((i,x)::ps)=AxX e (zs.set i (x.ev e)) ps:=As9 rfl
theorem ATA {e:Env} {ks:List Nat}:Aw8 e ks []=True:=As9 rfl
theorem ASj {e:Env} {ks:List Nat} {i:Nat} {x:Opd} {ps:List (Nat×Opd)}:Aw8 e ks ((i,x)::ps)=((lays (x.ev e)=true∧ks[i]?=some (Atq (x.ev e)))∧Aw8 e ks ps):=As9 rfl
theorem ARi {e:Env}:Aum e []=True:=As9 rfl
theorem AP2 {e:Env} {i:Nat} {x:Opd} {ps:List (Nat×Opd)}:Aum e ((i,x)::ps)=(AuQ (x.ev e)=true∧Aum e ps):=As9 rfl
theorem A67 {t:Nat} {e:Env} {H:List Ob} {K:TV→Prop}:res [.tmp t] e H K=K (get e t):=As9 rfl
theorem A1u {a sz:Nat} {ag:Bool} {e:Env} {H:List Ob} {K:TV→Prop}:res [.cell a ag sz] e H K=pop (.load ag sz (.t a)) e H K:=As9 rfl
theorem AXT {e:Env} {H:List Ob} {K:TV→Prop}:res [] e H K=((∀ x∈([]:List TV),AuM x=false)∧K (.tup [])):=As9 rfl
theorem Bbm {r s:VR} {e:Env} {H:List Ob} {K:TV→Prop}:res [r,s] e H K=ATr [r,s] e H fun xs=>match xs with | [x]=>K x | xs=>(∀ x∈xs,AuM x=false)∧K (.tup xs):=As9 rfl
theorem A1q {r s:VR} {l:List VR} {e:Env} {H:List Ob} {K:TV→Prop}:res (r::s::l) e H K=ATr (r::s::l) e H fun xs=>match xs with | [x]=>K x | xs=>(∀ x∈xs,AuM x=false)∧K (.tup xs):=As9 rfl
theorem AVl {e:Env} {H:List Ob} {K:List TV→Prop}:ATr [] e H K=K []:=As9 rfl
theorem A0I {t:Nat} {r:List VR} {e:Env} {H:List Ob} {K:List TV→Prop}:ATr (.tmp t::r) e H K=ATr r e H fun xs=>K (get e t::xs):=As9 rfl
theorem ASh {a sz:Nat} {ag:Bool} {r:List VR} {e:Env} {H:List Ob} {K:List TV→Prop}:ATr (.cell a ag sz::r) e H K=pop (.load ag sz (.t a)) e H fun x=>ATr r e H fun xs=>K (x::xs):=As9 rfl
theorem ASz {vr:List VR} {R:TV→List Ob→Prop} {e:Env} {H:List Ob}:ABL vr R .ret e H=res vr e H fun x=>R x H:=As9 rfl
theorem ARZ {vr:List VR} {R:TV→List Ob→Prop} {e:Env} {H:List Ob}:ABL vr R .nor e H=res vr e H fun x=>R x H:=As9 rfl
theorem A1B {H:List Ob} {g:TV→Option TV} {v:Value}:Ayp H g (TV.val v)=some (.val v):=by rw [Ayp]
theorem A0p {H:List Ob} {g:TV→Option TV}  : Ayp H g (TV.any)=some (.any):=by rw [Ayp]
theorem A63 {H:List Ob} {g:TV→Option TV} {k:Nat} {cs:List TV}:Ayp H g (TV.sl k cs)=some (.sl k cs):=by rw [Ayp]
theorem A55 {H:List Ob} {g:TV→Option TV} {x:TV}:Ayp H g (TV.fp x)=some (.fp x):=by rw [Ayp]
theorem AZT {H:List Ob} {g:TV→Option TV} {n:Nat} {k:Nat} {cs:List TV}:Ayp H g (TV.arr n k cs)=some (.arr n k cs):=by rw [Ayp]
theorem A6R {H:List Ob} {g:TV→Option TV} {k i v o n cp:Nat} {p:List (Nat×Nat)}:Ayp H g (.os k i v p o n cp)=(match H[i]? with | some (.obj vr x)=>if vr=v then (Aw6 p k o n x).map (.sl k) else none | _=>none):=by rw [Ayp]; rfl
theorem A5f {H:List Ob} {g:TV→Option TV} {i v:Nat} {p:List (Nat×Nat)}:Ayp H g (.op i v p)=(match H[i]? with | some (.obj vr x)=>if vr=v then (ABl p x).bind fun y=>(g y).map .fp else none | _=>none):=by rw [Ayp]; rfl
theorem AZ1 {H:List Ob} {g:TV→Option TV} {cs:List TV}:Ayp H g (.agg cs)=(AEn H g cs).map .agg:=by rw [Ayp]
theorem A4J {H:List Ob} {g:TV→Option TV} {cs:List TV}:Ayp H g (.tup cs)=(AEn H g cs).map .tup:=by rw [Ayp]
theorem A0E {H:List Ob} {g:TV→Option TV} {t:TypeId} {x:TV}:Ayp H g (.ifc t x)=(Ayp H g x).map (.ifc t):=by rw [Ayp]
theorem AXx {H:List Ob} {g:TV→Option TV}:AEn H g []=some []:=As9 rfl
theorem AV3 {H:List Ob} {g:TV→Option TV} {x:TV} {xs:List TV}:AEn H g (x::xs)=(match Ayp H g x,AEn H g xs with | some x,some xs=>some (x::xs) | _,_=>none):=by rw [AEn]; rfl
theorem BbO {H:List Ob} {x:TV}:frz H x=Ayp H (AU1 H 2) x:=As9 rfl
theorem A94 {H:List Ob} {x:List TV}:Ba5 H x=AEn H (AU1 H 2) x:=As9 rfl
theorem BaA {H:List Ob} {d:Nat} {x:TV}:AU1 H (d+1) x=Ayp H (AU1 H d) x:=As9 rfl
theorem A5t {H:List Ob} {v:Value}:frs H (.val v)=some (.val v):=by rw [frs]
theorem A5l {H:List Ob}:frs H .any=some .any:=by rw [frs]
theorem A80 {H:List Ob} {k i v o n cp:Nat} {p:List (Nat×Nat)}:frs H (.os k i v p o n cp)=(match H[i]? with | some (.obj vr x)=>if vr=v then (match Aw6 p k o n x with | some cs=>if ABK cs then some (.sl k cs) else none | none=>none) else none | _=>none):=by rw [frs]; try rfl
theorem A5A {H:List Ob} {cs:List TV}:frs H (.agg cs)=(ATs H cs).map .agg:=by rw [frs]
theorem A6u {H:List Ob} {n k:Nat} {cs:List TV}:frs H (.arr n k cs)=if ABK cs then some (.arr n k cs) else none:=by rw [frs]
theorem A6e {H:List Ob} {cs:List TV}:frs H (.tup cs)=(ATs H cs).map .tup:=by rw [frs]
theorem A5m {H:List Ob} {t:TypeId} {x:TV}:frs H (.ifc t x)=(frs H x).map (.ifc t):=by rw [frs]
theorem A2k {H:List Ob}:ATs H []=some []:=by rw [ATs]
theorem AX1 {H:List Ob} {x:TV} {xs:List TV}:ATs H (x::xs)=(match frs H x,ATs H xs with | some x,some xs=>some (x::xs) | _,_=>none):=by rw [ATs]; try rfl
theorem AKe {l:List UInt8}:ABK (l.map by8)=true:=by
 induction l with
 | nil=>rfl
 | cons x l ih=>rw [List.map_cons,ABK,ih]; rfl
theorem A1d {l:List (List UInt8)}:ABK (l.map ts)=true:=by
 induction l with
 | nil=>rfl
 | cons x l ih=>rw [List.map_cons,ABK,ih]; rfl
theorem A0L {l:List UInt8} {i:Nat} {b:UInt8}:(l.map by8).set i (.val (.int .u8 (b.toNat:Int)))=(l.set i b).map by8:=by rw [List.map_set]
theorem A1G {l:List UInt8}:(l.map by8).map ANd=l:=by
 rw [List.map_map]
 have:(ANd ∘ by8)=id:=by funext b; simp
 rw [this,List.map_id]
theorem A1f {l:List UInt8}:(∀ y∈l.map by8,AWy y)=True:=by simp
theorem A2s {a b:Nat}:((a:Int)+(b:Int))=((a+b:Nat):Int):=by omega
theorem A6A {a b:Nat}:((a:Int)<(b:Int))=(a<b):=by simp
theorem A7t {a b:Nat}:((a:Int)≤(b:Int))=(a≤b):=by simp
theorem A6L {a b:Nat}:((a:Int)=(b:Int))=(a=b):=propext ⟨fun h=>by omega,fun h=>by omega⟩
theorem A7k {a:Nat}:(0≤(a:Int))=True:=by simp
theorem A73 {d s:Nat} {x:TV}:get ((d,x)::e) s=if d=s then x else get e s:=As9 rfl
end
end
end Go.Proofs.YtnkpoloeifhflaaDoor
