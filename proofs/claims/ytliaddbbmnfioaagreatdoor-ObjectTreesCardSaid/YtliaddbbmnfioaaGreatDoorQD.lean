/- What the proof of ObjectTreesCard stands on (texts merged; names shortened by a program): part 4. -/
import Derived.Test.YtliaddbbmnfioaaGreatDoorQC
import Derived.RangeFuncIn
import Derived.RangeFuncRecord
import Derived.RangeFuncLeaves
import Derived.Sort.LoopGhostIn
namespace Go.Proofs.YtliaddbbmnfioaaGreatDoor
open Go.RowKit
variable [AFq]
set_option linter.unusedSectionVars false
set_option linter.unusedSimpArgs false
set_option linter.unusedVariables false
set_option autoImplicit false

inductive AE9 where
 | ops (l : List VO) (keep : List Nat)
 | draw (nA : Nat) (l : List VO) (keep : List Nat)
 | skip
 | opsZ (l : List VO) (zs : List Nat) (r : List VO) (keep : List Nat)
 | pops (l : List VO) (keep : List Nat)
 | pdraw (n : Nat) (l : List VO) (keep : List Nat)
 | sdraw (n : Nat) (l : List VO) (keep : List Nat)
 | seq (a b : AE9)
 | cond (c : Opd) (a b : AE9)
 | block (id : Nat) (c : AE9)
 | loop (live : List Nat) (c : AE9)
 | exit (id : Nat)
 | ret
 | scope (c : AE9)
 | own (s k : Nat) (c : AE9)
 | ownB (s : Nat) (p : List (Nat × Nat)) (k : Nat) (c : AE9)
 | ownT (s : Nat) (p : List (Nat × Nat)) (t : TypeId) (c : AE9)
 | frz (s : Nat) (c : AE9)
 | rfunc (f : Opd) (ps : List Nat) (aS bd : AE9)
 | dead
 deriving Inhabited
def Ba2 : List Nat → (Env → List Ob → Prop) → Env → List Ob → Prop
 | [], K, e, H => K e H
 | s :: zs, K, e, H => match get e s with
  | .os k id ver p off n _ => (match H[id]? with
   | some (.obj v x) => v = ver ∧ (match AGC p k off n x with
    | some cs => Ba2 zs K ((s, .sl k cs) :: e) (H.set id (.gone ver))
    | none => False)
   | _ => False)
  | _ => False
def er : AE9 → AE9
 | .ops l _ => .ops l []
 | .draw n l _ => .draw n l []
 | .opsZ l _ r _ => .ops (l ++ r) []
 | .pops l _ => .ops l []
 | .pdraw n l _ => .draw n l []
 | .sdraw n l _ => .sdraw n l []
 | .seq a b => .seq (er a) (er b)
 | .cond c a b => .cond c (er a) (er b)
 | .block id c => .block id (er c)
 | .loop _ c => .loop [] (er c)
 | .scope c => .scope (er c)
 | .own _ _ c => er c
 | .ownB _ _ _ c => er c
 | .ownT _ _ _ c => er c
 | .frz _ c => er c
 | .rfunc f ps aS bd => .rfunc f ps (er aS) (er bd)
 | .skip => .skip
 | .exit id => .exit id
 | .ret => .ret
 | .dead => .dead
def AWu : Code → Bool
 | .seq a b => AWu a || AWu b
 | .cond _ a b => AWu a || AWu b
 | .block _ c => AWu c
 | .loop c => AWu c
 | .scope c => AWu c
 | .region _ ops _ => ops.toList.any fun o => match o.op with | .panic _ => true | .store .. => true | _ => false
 | _ => false
def BhE : List String := ["(*gitlike/pack.reader).number", "(*gitlike/pack.reader).byte", "(*gitlike/pack.reader).head", "(*gitlike/pack.reader).distance", "(*gitlike/pack.reader).entry"]
def A3T (P : Program) (v : VO) : Bool := match v.op with
 | .s (.call f _) => (match P.funcs[f]? with | some fn => fn.body.any AWu || BhE.contains fn.name | none => false)
 | .s (.store _ _ _) => true
 | _ => false
def nOf (n : Nat) : Nat := n % 10000
def ssN (n : Nat) (l : List VO) : SsT := ⟨BaN l, A5e l, decide (10000 ≤ n)⟩
theorem Baa {n : Nat} (h : n < 10000) : nOf n = n := Nat.mod_eq_of_lt h
theorem BaE {n : Nat} (h : n < 10000) : nOf (10000 + n) = n := by unfold nOf; omega
theorem BbI {n : Nat} {l : List VO} (h : n < 10000) : ssN n l = ⟨BaN l, A5e l, false⟩ := by unfold ssN; rw [decide_eq_false (by omega)]
theorem Bby {n : Nat} {l : List VO} : ssN (10000 + n) l = ⟨BaN l, A5e l, true⟩ := by unfold ssN; rw [decide_eq_true (by omega)]
def A2h (chk : Nat → Bool) (n : Nat) : Option Nat := (List.range (n + 1)).find? fun j => chk j && decide (j < 10000)
theorem ATZ {chk : Nat → Bool} {n j : Nat} (h : A2h chk n = some j) : chk j = true ∧ j < 10000 := by
 have := List.find?_some h
 simpa using this
def BhD (v : VO) : Bool := match v.op with
 | .s (.app _ _ _ _ _) => true
 | _ => false
def AY9 (P : Program) (ops : List Oper) (l : List VO) (n : Nat) : Option AE9 := match (List.range (n + 1)).find? (AS5 ss0 ops l) with
 | some k => if (l.take k).any (A3T P) then (match A2h (AS5 ⟨BaN l, A5e l, false⟩ ops l) n with
   | some j => if (l.take j).any (A3T P) then (match A2h (AGo ⟨BaN l, A5e l, false⟩ ops l) n with
     | some j' => some (.sdraw j' l [])
     | none => some (.sdraw j l [])) else some (.sdraw j l [])
   | none => none) else some (.draw k l [])
 | none => none
theorem AZg {P : Program} {ops : List Oper} {l : List VO} {n : Nat} {c : AE9} (h : AY9 P ops l n = some c) : ∃ k, (c = .draw k l [] ∧ AGo ss0 ops l k = true) ∨ (c = .sdraw k l [] ∧ AGo (ssN k l) ops l (nOf k) = true) := by
 have low : ∀ {j}, AGo ⟨BaN l, A5e l, false⟩ ops l j = true → j < 10000 → AGo (ssN j l) ops l (nOf j) = true := fun h1 h2 => by rw [BbI h2, Baa h2]; exact h1
 unfold AY9 at h
 split at h
 ·rename_i k hk
  split at h
  ·split at h
   ·rename_i j hj
    obtain ⟨hj, hj2⟩ := ATZ hj
    split at h
    ·split at h
     ·rename_i j' hj'
      obtain ⟨hj', hj2'⟩ := ATZ hj'
      cases h; exact ⟨j', .inr ⟨rfl, low hj' hj2'⟩⟩
     ·cases h; exact ⟨j, .inr ⟨rfl, low (ANd hj) hj2⟩⟩
    ·cases h; exact ⟨j, .inr ⟨rfl, low (ANd hj) hj2⟩⟩
   ·cases h
  ·cases h; exact ⟨k, .inl ⟨rfl, ANd (List.find?_some hk)⟩⟩
 ·cases h
def A30 (ops : List Oper) (l : List VO) (n : Nat) : Option AE9 := (A2h (AS5 ⟨BaN l, A5e l, true⟩ ops l) n).map fun j => .sdraw (10000 + j) l []
theorem AZ3 {ops : List Oper} {l : List VO} {n : Nat} {c : AE9} (h : A30 ops l n = some c) : ∃ k, c = .sdraw k l [] ∧ AGo (ssN k l) ops l (nOf k) = true := by
 obtain ⟨j, hj, rfl⟩ := Option.map_eq_some_iff.1 h
 obtain ⟨hj, hj2⟩ := ATZ hj
 exact ⟨10000 + j, rfl, by rw [Bby, BaE hj2]; exact ANd hj⟩
def AYV (bz : Bool) (P : Program) (N : Nat) (ops : Array Oper) : Option AE9 := match trL bz P N ops.toList ops.toList with
 | some l => if P.follows .mixedOrders then (if l.any Bdx || l.any (A3T P) then (match trL bz P N (AFC ops.toList (A9J ops.toList l)) (AFC ops.toList (A9J ops.toList l)) with
   | some l' => if ARK (A9J ops.toList l) ops.toList.length then AY9 P (AFC ops.toList (A9J ops.toList l)) l' ops.size else none
   | none => none)
  else (match (List.range (ops.size + 1)).find? (AS5 ss0 ops.toList l) with
   | some n => if (l.take n).any BhD then (match trL bz P N (AFC ops.toList (A9J ops.toList l)) (AFC ops.toList (A9J ops.toList l)) with
     | some l' => if ARK (A9J ops.toList l) ops.toList.length then (match A30 (AFC ops.toList (A9J ops.toList l)) l' ops.size with
       | some c => some c
       | none => some (.draw n l [])) else some (.draw n l [])
     | none => some (.draw n l [])) else some (.draw n l [])
   | none => none)) else none
 | none => none
theorem ASC {bz : Bool} {P : Program} {N : Nat} {ops : Array Oper} {c : AE9} (h : AYV bz P N ops = some c) : (∃ n l, c = .draw n l [] ∧ P.follows .mixedOrders = true ∧
  ((trL bz P N ops.toList ops.toList = some l ∧ AGo ss0 ops.toList l n = true) ∨ ∃ π, ARK π ops.toList.length = true ∧ trL bz P N (AFC ops.toList π) (AFC ops.toList π) = some l ∧ AGo ss0 (AFC ops.toList π) l n = true)) ∨
  ∃ n l, c = .sdraw n l [] ∧ P.follows .mixedOrders = true ∧ ∃ π, ARK π ops.toList.length = true ∧ trL bz P N (AFC ops.toList π) (AFC ops.toList π) = some l ∧ AGo (ssN n l) (AFC ops.toList π) l (nOf n) = true := by
 unfold AYV at h
 split at h
 ·rename_i l hl
  split at h
  ·rename_i hm
   split at h
   ·split at h
    ·rename_i l' hl'
     split at h
     ·rename_i hp
      obtain ⟨k, ⟨rfl, hk⟩ | ⟨rfl, hk⟩⟩ := AZg h
      ·exact .inl ⟨k, l', rfl, hm, .inr ⟨_, hp, hl', hk⟩⟩
      ·exact .inr ⟨k, l', rfl, hm, _, hp, hl', hk⟩
     ·cases h
    ·cases h
   ·split at h
    ·rename_i n hn
     have plain : ∀ {c : AE9}, some (AE9.draw n l []) = some c → _ := fun {c} (h : some (AE9.draw n l []) = some c) => (Or.inl ⟨n, l, (Option.some.inj h).symm, hm, .inl ⟨hl, ANd (List.find?_some hn)⟩⟩ : (∃ n l, c = .draw n l [] ∧ P.follows .mixedOrders = true ∧
  ((trL bz P N ops.toList ops.toList = some l ∧ AGo ss0 ops.toList l n = true) ∨ ∃ π, ARK π ops.toList.length = true ∧ trL bz P N (AFC ops.toList π) (AFC ops.toList π) = some l ∧ AGo ss0 (AFC ops.toList π) l n = true)) ∨
  ∃ n l, c = .sdraw n l [] ∧ P.follows .mixedOrders = true ∧ ∃ π, ARK π ops.toList.length = true ∧ trL bz P N (AFC ops.toList π) (AFC ops.toList π) = some l ∧ AGo (ssN n l) (AFC ops.toList π) l (nOf n) = true)
     split at h
     ·split at h
      ·rename_i l' hl'
       split at h
       ·rename_i hp
        split at h
        ·rename_i c' hc'
         cases h
         obtain ⟨k, rfl, hk⟩ := AZ3 hc'
         exact .inr ⟨k, l', rfl, hm, _, hp, hl', hk⟩
        ·exact plain h
       ·exact plain h
      ·exact plain h
     ·exact plain h
    ·cases h
  ·cases h
 ·cases h
def BaX : AE9 → Bool
 | .draw n l _ => (l.take n).any fun v => match v.op with | .s (.bslice _ _ _ _) => true | _ => false
 | .sdraw n l _ => (l.take (nOf n)).any fun v => match v.op with | .s (.bslice _ _ _ _) => true | _ => false
 | _ => false
def A0q (P : Program) (N : Nat) (ops : Array Oper) : Option AE9 := match AYV false P N ops with
 | some c => if BaX c then (match AYV true P N ops with | some c' => some c' | none => some c) else some c
 | none => none
theorem AQT {P : Program} {N : Nat} {ops : Array Oper} {c : AE9} (h : A0q P N ops = some c) : ∃ bz : Bool, (∃ n l, c = .draw n l [] ∧ P.follows .mixedOrders = true ∧
  ((trL bz P N ops.toList ops.toList = some l ∧ AGo ss0 ops.toList l n = true) ∨ ∃ π, ARK π ops.toList.length = true ∧ trL bz P N (AFC ops.toList π) (AFC ops.toList π) = some l ∧ AGo ss0 (AFC ops.toList π) l n = true)) ∨
  ∃ n l, c = .sdraw n l [] ∧ P.follows .mixedOrders = true ∧ ∃ π, ARK π ops.toList.length = true ∧ trL bz P N (AFC ops.toList π) (AFC ops.toList π) = some l ∧ AGo (ssN n l) (AFC ops.toList π) l (nOf n) = true := by
 unfold A0q at h
 split at h
 ·rename_i c1 h1
  split at h
  ·split at h
   ·rename_i c2 h2; cases h; exact ⟨true, ASC h2⟩
   ·cases h; exact ⟨false, ASC h1⟩
  ·cases h; exact ⟨false, ASC h1⟩
 ·cases h
theorem A4n {P : Program} {N : Nat} {ops : Array Oper} {c : AE9} (h : A0q P N ops = some c) (hc : ∀ n l, c ≠ .draw n l []) (hc2 : ∀ n l, c ≠ .sdraw n l []) : False := by
 obtain ⟨bz, ⟨n, l, e, _⟩ | ⟨n, l, e, _⟩⟩ := AQT h
 ·exact hc n l e
 ·exact hc2 n l e
def trC (P : Program) (N : Nat) : Code → Option AE9
 | .skip => some .skip
 | .region _ ops false => some (match trL false P N ops.toList ops.toList with | some l => .ops l [] | none => .dead)
 | .region _ ops true => some (match A0q P N ops with | some c => c | none => .dead)
 | .seq a b => match trC P N a, trC P N b with
  | some a, some b => some (.seq a b)
  | _, _ => none
 | .cond c a b => match trC P N a, trC P N b with
  | some a, some b => some (.cond (trO c) a b)
  | _, _ => none
 | .block id c => (trC P N c).map (.block id)
 | .loop c => (trC P N c).map (.loop [])
 | .exit id => some (.exit id)
 | .scope c => (trC P N c).map .scope
 | .label _ => some .skip
 | .ret => some .ret
 | .rangeFunc f ps aS bd => if ps.toList.all (· < N) then (match trC P N aS, trC P N bd with
  | some aS, some bd => some (.rfunc (trO f) ps.toList aS bd)
  | _, _ => none) else none
 | _ => some .dead
theorem A7E {P : Program} {N id : Nat} {ops : Array Oper} {c : AE9} (h : trC P N (.region id ops false) = some c) : (∃ l, trL false P N ops.toList ops.toList = some l ∧ c = .ops l []) ∨ c = .dead := by
 simp only [trC, Option.some.injEq] at h
 split at h
 ·rename_i l hl; exact .inl ⟨l, hl, h.symm⟩
 ·exact .inr h.symm
theorem A6o {P : Program} {N id : Nat} {ops : Array Oper} {c : AE9} (h : trC P N (.region id ops true) = some c) : A0q P N ops = some c ∨ c = .dead := by
 simp only [trC, Option.some.injEq] at h
 split at h
 ·rename_i l hl; exact .inl (hl.trans (by rw [h]))
 ·exact .inr h.symm
theorem AIj {P : Program} {N id : Nat} {ops : Array Oper} {c : AE9} (h : trC P N (.region id ops false) = some c) (hc : ∀ l, c ≠ .ops l []) (hd : c ≠ .dead) : False := by
 rcases A7E h with ⟨l, _, e⟩ | e
 ·exact hc l e
 ·exact hd e
theorem AIl {P : Program} {N id : Nat} {ops : Array Oper} {c : AE9} (h : trC P N (.region id ops true) = some c) (hc : ∀ n l, c ≠ .draw n l []) (hc2 : ∀ n l, c ≠ .sdraw n l []) (hd : c ≠ .dead) : False := by
 rcases A6o h with e | e
 ·exact A4n e hc hc2
 ·exact hd e
def AXF : AE9 → Bool
 | .seq a b => AXF a && AXF b
 | .cond _ a b => AXF a && AXF b
 | .block _ c => AXF c
 | .loop _ c => AXF c
 | .scope c => AXF c
 | .own _ _ c => AXF c
 | .ownB _ _ _ c => AXF c
 | .ownT _ _ _ c => AXF c
 | .frz _ c => AXF c
 | .rfunc _ _ _ _ => false
 | _ => true

inductive VEx where
 | nor
 | exit (id : Nat)
 | ret
 | pan (u : Value)

def VEx.ex : VEx → Exit
 | .nor => .normal
 | .exit id => .exit id
 | .ret => .ret
 | .pan u => .panic [{ v := u, recovered := false }]

mutual
def AMB (g : Nat) : TV → Bool
 | .op id _ _ => decide (id < g)
 | .os _ id _ _ _ _ _ => decide (id < g)
 | .mp id _ => decide (id < g)
 | .yl id _ => decide (id < g)
 | .agg cs => APW g cs
 | .tup cs => APW g cs
 | .ifc _ x => AMB g x
 | .fn _ a b => APW g a && APW g b
 | _ => true
def APW (g : Nat) : List TV → Bool
 | [] => true
 | x :: xs => AMB g x && APW g xs
end
def AXV (g : Nat) : Env → Bool
 | [] => true
 | (_, x) :: e => AMB g x && AXV g e
def A16 (g : Nat) : Ob → Bool
 | .obj _ x => AMB g x
 | .ice _ _ x => AMB g x
 | .fact id _ _ _ => decide (id < g)
 | .lp _ _ _ _ e _ _ _ => AXV g e
 | .mpo _ es => APW g (es.map (·.2))
 | .bld _ _ _ => true
 | .sit _ _ => true
 | .mpd _ zs _ => APW g (zs.map (·.2.2))
 | .mit m _ _ => decide (m < g)
 | .gone _ => true
def AXO (g : Nat) : List Ob → Bool
 | [] => true
 | o :: H => A16 g o && AXO g H
def A2B (Q : VEx → Env → List Ob → Prop) (e : Env) (L : Nat) : TV → List Ob → Prop := fun _ H' => match H'[L]? with
 | some (.lp .ready none fn N e1 ps ca cb) => Q .nor e (H'.set L (.lp .exhausted none fn N e1 ps ca cb))
 | some (.lp .done (some .ret) fn N e1 ps ca cb) => Q .ret e (H'.set L (.lp .exhausted (some .ret) fn N e1 ps ca cb))
 | some (.lp .done (some (.exit i)) fn N e1 ps ca cb) => Q (.exit i) e (H'.set L (.lp .exhausted (some (.exit i)) fn N e1 ps ca cb))
 | _ => False
structure A9w (P : Program) (N : Nat) (ps : List Nat) (ca cb : Code) (aS bd : AE9) : Prop where
 a : trC P N ca = some (er aS)
 b : trC P N cb = some (er bd)
 p : ps.all (· < N) = true

def vwp (P : Program) : AE9 → (VEx → Env → List Ob → Prop) → Env → List Ob → Prop
 | .ops l kp, Q, e, H => AXc P l (fun e H => Q .nor (forget kp e) H) e H
 | .opsZ l zs r kp, Q, e, H => AXc P l (Ba2 zs (AXc P r (fun e H => Q .nor (forget kp e) H))) e H
 | .pops l kp, Q, e, H => ATl P (fun u H => Q (.pan u) (A1d l e) H) l (fun e H => Q .nor (forget kp e) H) e H
 | .pdraw n l kp, Q, e, H => vq P (l.take n) (fun e => ATl P (fun u H => Q (.pan u) [] H) (l.drop n) (fun e H => Q .nor (forget kp e) H) e H) e H
 | .sdraw n l kp, Q, e, H => vq P (l.take (nOf n)) (fun e => APb (pvopS P (fun u H => Q (.pan u) [] H) (ssN n l)) (l.drop (nOf n)) (fun e H => Q .nor (forget kp e) H) e H) e H
 | .draw n l kp, Q, e, H => vq P (l.take n) (fun e => AXc P (l.drop n) (fun e H => Q .nor (forget kp e) H) e H) e H
 | .skip, Q, e, H => Q .nor e H
 | .seq a b, Q, e, H => vwp P a (fun x e H => match x with | .nor => vwp P b Q e H | .exit i => Q (.exit i) e H | .ret => Q .ret e H | .pan u => Q (.pan u) e H) e H
 | .cond c a b, Q, e, H => match c.ev e with
  | .val (.bool t) => if t = true then vwp P a Q e H else vwp P b Q e H
  | _ => False
 | .block id c, Q, e, H => vwp P c (fun x e H => match x with | .nor => Q .nor e H | .exit i => if i = id then Q .nor e H else Q (.exit i) e H | .ret => Q .ret e H | .pan u => Q (.pan u) e H) e H
 | .loop lv c, Q, e, H0 => ∃ (I : Nat → Env → List Ob → Prop) (n : Nat), I n (forget lv e) H0 ∧
   ∀ n e H, I n e H → vwp P c (fun x e H => match x with | .nor => ∃ m g, m < n ∧ (H0.length ≤ g ∧ (H.length ≤ g ∨ (AXV g (forget lv e) = true ∧ AXO g (H.take g) = true))) ∧ I m (forget lv e) (H.take g) | .exit i => Q (.exit i) e H | .ret => Q .ret e H | .pan u => Q (.pan u) e H) e H
 | .exit id, Q, e, H => Q (.exit id) e H
 | .ret, Q, e, H => Q .ret e H
 | .scope c, Q, e, H => vwp P c Q e H
 | .dead, _, _, _ => False
 | .own s k c, Q, e, H => match get e s with
  | .val (.slice none 0 0) => vwp P c Q ((s, .os k H.length 0 [] 0 0 0) :: e) (H ++ [.obj 0 (.arr 0 k [])])
  | _ => vwp P c Q e H
 | .ownB s p k c, Q, e, H => match get e s with
  | .op id ver p0 => (match H[id]? with
   | some (.obj v x) => v = ver ∧ (match ANU (p0 ++ p) x with
    | some (.val (.slice none 0 0)) => (match ATJ (p0 ++ p) x (.os k H.length 0 [] 0 0 0) with
     | some x' => vwp P c Q e (H.set id (.obj ver x') ++ [.obj 0 (.arr 0 k [])])
     | none => False)
    | _ => vwp P c Q e H)
   | _ => False)
  | _ => False
 | .ownT s p t c, Q, e, H => match get e s with
  | .op id ver p0 => (match H[id]? with
   | some (.obj v x) => v = ver ∧ (match ANU (p0 ++ p) x with
    | some (.val (.slice none 0 0)) => (match ATJ (p0 ++ p) x (.os 1 H.length 0 [] 0 0 0) with
     | some x' => vwp P c Q e (H.set id (.obj ver x') ++ [.bld 0 t []])
     | none => False)
    | _ => vwp P c Q e H)
   | _ => False)
  | _ => False
 | .frz s c, Q, e, H => match get e s with
  | .os k id ver p off n _ => (match H[id]? with
   | some (.obj v x) => v = ver ∧ (match AGC p k off n x with
    | some cs => vwp P c Q ((s, .sl k cs) :: e) (H.set id (.gone ver))
    | none => False)
   | _ => False)
  | _ => False
 | .rfunc f ps aS bd, Q, e, H => AXF aS = true ∧ AXF bd = true ∧ (match f.ev e with
  | .fn (.func g) first caps => AWL P g = true ∧ ∀ (N : Nat) (fn : FuncId) (ca cb : Code), A9w P N ps ca cb aS bd → AFl P g (first ++ [.yl H.length 0] ++ caps) (H ++ [.lp .ready none fn N e ps ca cb]) (A2B Q e H.length)
  | .val (.func (.func g) xs ys) => (xs.isEmpty && ys.isEmpty) = true ∧ AWL P g = true ∧ ∀ (N : Nat) (fn : FuncId) (ca cb : Code), A9w P N ps ca cb aS bd → AFl P g [.yl H.length 0] (H ++ [.lp .ready none fn N e ps ca cb]) (A2B Q e H.length)
  | _ => False)

section sound
variable {P : Program}
theorem AVr {c : Ctx} {w : World} : ∀ {p : List (Nat × Nat)} {x y z x' : TV} {us : List Value}, AFf c w x us → ANU p x = some z → (∀ m, AFf c w z m → AFf c w y m) → ATJ p x y = some x' → AFf c w x' us := by
 intro p x y z x' us h hg hm hs
 obtain ⟨a, m, b, rfl, h1, h2⟩ := ALF h hg
 obtain ⟨a', m', b', e, h3, h4, h5, _⟩ := ASy h hs (hm m h2)
 have e1 : a = a' := by
  have := congrArg (List.take a.length) e
  rw [List.append_assoc, List.append_assoc, List.take_left] at this
  rw [this, List.take_left' (by omega)]
 subst e1
 rw [List.append_assoc, List.append_assoc] at e
 have e2 := List.append_cancel_left e
 have e3 : m = m' := by
  have := congrArg (List.take m.length) e2
  rw [List.take_left] at this
  rw [this, List.take_left' (by omega)]
 subst e3
 have e4 := List.append_cancel_left e2
 subst e4
 exact h5
theorem Sim.give {β : Nat → Nat → Option (Nat × Nat)} {H : List Ob} {F : Nat → Prop} {w : World} (hs : Sim ⟨β, H, F⟩ w) {k id ver off n cp : Nat} {p : List (Nat × Nat)} {x : TV} {cs : List TV} (hid : H[id]? = some (.obj ver x)) (hcs : AGC p k off n x = some cs) {us : List Value} (hr : AFf ⟨β, H, F⟩ w (.os k id ver p off n cp) us) :
  AFf ⟨β, H.set id (.gone ver), fun b => F b ∨ ∃ off, β id ver = some (b, off)⟩ w (.sl k cs) us := by
 have hm : AK4 (Ctx.bare ⟨β, H, F⟩) w (Ctx.bare ⟨β, H.set id (.gone ver), fun b => F b ∨ ∃ off, β id ver = some (b, off)⟩) w :=
  ⟨fun b hb => ⟨.inl hb, rfl⟩, fun _ _ k => (Ctx.bare_has k).elim, fun _ _ => rfl⟩
 rw [AFf] at hr
 obtain ⟨hr1, hr2⟩ := hr
 rcases hr2 with ⟨rfl, a0, hr2, _⟩ | ⟨b0, o0, cap, t0, m0, hr2, hr3, hr4, hr5, hr6, hr7⟩
 ·have : cs = [] := by
   unfold AGC at hcs
   split at hcs
   ·split at hcs
    ·cases hcs; simp
    ·cases hcs
   ·cases hcs
  subst this
  rw [AFf]
  exact ⟨by simp, .inl ⟨rfl, a0, 0, hr2, by omega⟩⟩
 rcases hs.ob id _ hid with ⟨h0, _⟩ | ⟨b, off', pre, vs, post, t, fr, h0, h1, h2, h3, h4⟩
 ·have h0' : β id ver = none := h0
  have hr2' : β id ver = some (b0, o0) := hr2
  rw [h0'] at hr2'; cases hr2'
 have h0' : β id ver = some (b, off') := h0
 have hr2' : β id ver = some (b0, o0) := hr2
 rw [h0'] at hr2'
 obtain ⟨rfl, rfl⟩ : b = b0 ∧ off' = o0 := by simpa using hr2'
 obtain ⟨a, m, q, rfl, k1, k2, k3, k4⟩ := AOi h4 hcs
 rw [AFf]
 refine ⟨k3, .inr ⟨b, off' + AHO p + off * k, cap, m, by rw [k4]; exact hr3, by omega, hr5, .inr ⟨off', h0'⟩, AFg.mono hm k2, ?_⟩⟩
 have e : off' + AHO p + off * k = pre.length + a.length := by rw [h3, k1]; omega
 rw [e]; exact ALk h1

theorem AYC {N : Nat} {D : List Deferred} : ∀ {zs : List Nat} {K : Env → List Ob → Prop} {e : Env} {H : List Ob} {β : Nat → Nat → Option (Nat × Nat)} {F : Nat → Prop} {w : World} {a : Act}, Ba2 zs K e H → Sim ⟨β, H, F⟩ w → Fr N D ⟨β, H, F⟩ w e a →
  ∃ e' H' F', K e' H' ∧ Sim ⟨β, H', F'⟩ w ∧ Fr N D ⟨β, H', F'⟩ w e' a ∧ AFr ⟨β, H, F⟩ w ⟨β, H', F'⟩ w
 | [], K, e, H, β, F, w, a, h, hs, hf => ⟨e, H, F, h, hs, hf, AFr.refl _ _⟩
 | s :: zs, K, e, H, β, F, w, a, h, hs, hf => by
  rw [Ba2] at h
  split at h
  ·rename_i k id ver p off n cp hg
   split at h
   ·rename_i v y hid
    obtain ⟨rfl, h⟩ := h
    split at h
    ·rename_i cs hcs
     obtain ⟨k1, k2⟩ := hs.freeze hid rfl
     have hr : Rep ⟨β, H, F⟩ w (get e s) (a.tmps.getD s undef) := hf.env.1 s
     rw [hg] at hr
     have hr' : Rep ⟨β, H.set id (.gone v), fun b => F b ∨ ∃ off, β id v = some (b, off)⟩ w (.sl k cs) (a.tmps.getD s undef) := by
      rcases hr with (hr | hr | ⟨us, hr, hr2⟩) | ⟨xs, vs, hr, _⟩
      ·cases hr
      ·cases hr
      ·exact .inl (.inr (.inr ⟨us, hs.give hid hcs hr, by rw [hr2]; rfl⟩))
      ·cases hr
     obtain ⟨e', H', F', q1, q2, q3, q4⟩ := AYC h k1 (a := a) ⟨⟨fun s' => by
      rw [AF5]
      by_cases hss : s = s'
      ·subst hss; rw [if_pos rfl]; exact hr'
      ·rw [if_neg hss]; exact Rep.mono (k2.mono hs) (hf.env.1 s'), k1.glob⟩, hf.size, hf.defers⟩
     exact ⟨e', H', F', q1, q2, q3, k2.trans q4⟩
    ·exact h.elim
   ·exact h.elim
  ·exact h.elim
theorem A3V {P : Program} {N : Nat} {all : List Oper} : ∀ {os : List Oper} {l1 l2 : List VO}, trL false P N all os = some (l1 ++ l2) → ∃ o1 o2, os = o1 ++ o2 ∧ trL false P N all o1 = some l1 ∧ trL false P N all o2 = some l2
 | os, [], l2, h => ⟨[], os, rfl, rfl, h⟩
 | [], v :: l1, l2, h => by simp [trL] at h
 | o :: os, v :: l1, l2, h => by
  rw [trL] at h
  split at h
  ·rename_i v' g r hv hg hr
   split at h
   ·rename_i hd
    simp only [List.cons_append, Option.some.injEq, List.cons.injEq] at h
    obtain ⟨rfl, rfl⟩ := h
    obtain ⟨o1, o2, rfl, h1, h2⟩ := A3V hr
    refine ⟨o :: o1, o2, rfl, ?_, h2⟩
    rw [trL, hv, hg, h1]
    simp [hd]
   ·cases h
  ·cases h
theorem A1r {N : Nat} {D : List Deferred} {ro : Option Nat} {nn : Nat} {all : Array Oper} {os : List Oper} {l1 l2 : List VO} {zs : List Nat} (ht : trL false P N all.toList os = some (l1 ++ l2)) {K : Env → List Ob → Prop} {e : Env} {H : List Ob} {β : Nat → Nat → Option (Nat × Nat)} {F : Nat → Prop} {w : World} {a : Act} {QQ : Exit → Act → World → Prop}
  (h : AXc P l1 (Ba2 zs (AXc P l2 K)) e H) (hs : Sim ⟨β, H, F⟩ w) (hf : Fr N D ⟨β, H, F⟩ w e a)
  (hk : ∀ e' H' β' F' w' a', K e' H' → Sim ⟨β', H', F'⟩ w' → Fr N D ⟨β', H', F'⟩ w' e' a' → AFr ⟨β, H, F⟩ w ⟨β', H', F'⟩ w' → QQ .normal a' w') : wpListIn (fz ro) nn P all QQ os a w := by
 obtain ⟨o1, o2, rfl, h1, h2⟩ := A3V ht
 refine AXT (APh.vop (KP := fun _ _ => False)) h1 h hs hf (fun e' H' β' F' w' a' k1 k2 k3 k4 => ?_) (fun _ _ _ _ _ _ h => h.elim)
 obtain ⟨e2, H2, F2, q1, q2, q3, q4⟩ := AYC k1 k2 k3
 exact AYQ h2 q1 q2 q3 fun e3 H3 β3 F3 w3 a3 m1 m2 m3 m4 => hk e3 H3 β3 F3 w3 a3 m1 m2 m3 ((k4.trans q4).trans m4)

theorem Sim.own {β : Nat → Nat → Option (Nat × Nat)} {H : List Ob} {F : Nat → Prop} {w : World} (hs : Sim ⟨β, H, F⟩ w) (k : Nat) :
  Sim ⟨upd β H.length 0 none, H ++ [.obj 0 (.arr 0 k [])], F⟩ w ∧ AFr ⟨β, H, F⟩ w ⟨upd β H.length 0 none, H ++ [.obj 0 (.arr 0 k [])], F⟩ w ∧
   AFf ⟨upd β H.length 0 none, H ++ [.obj 0 (.arr 0 k [])], F⟩ w (.os k H.length 0 [] 0 0 0) [.slice none 0 0] := by
 obtain ⟨k1, k2⟩ := hs.newNone (x := .arr 0 k []) (by rw [AFf]; exact ⟨rfl, by simp, by rw [AFg]⟩)
 exact ⟨k1, k2, by rw [AFf]; exact ⟨AIx _ _ _ _ _ (Nat.le_refl _), .inl ⟨rfl, none, rfl, rfl, fun _ h => by cases h⟩⟩⟩

theorem Sim.ownBld {β : Nat → Nat → Option (Nat × Nat)} {H : List Ob} {F : Nat → Prop} {w : World} (hs : Sim ⟨β, H, F⟩ w) (t : TypeId) :
  Sim ⟨upd β H.length 0 none, H ++ [.bld 0 t []], F⟩ w ∧ AFr ⟨β, H, F⟩ w ⟨upd β H.length 0 none, H ++ [.bld 0 t []], F⟩ w ∧
   AFf ⟨upd β H.length 0 none, H ++ [.bld 0 t []], F⟩ w (.os 1 H.length 0 [] 0 0 0) [.slice none 0 0] := by
 obtain ⟨k1, k2⟩ := hs.new (.bld 0 t []) rfl none (w' := w) (fun b off e => by cases e) rfl rfl rfl (Nat.le_refl _) (fun b hb => rfl) fun hm => .inl ⟨AFu, rfl⟩
 exact ⟨k1, k2, by rw [AFf]; exact ⟨AIx _ _ _ _ _ (Nat.le_refl _), .inl ⟨rfl, none, rfl, rfl, fun _ h => by cases h⟩⟩⟩
def Ctx.cut (c : Ctx) (g : Nat) : Ctx := ⟨c.β, c.H.take g, c.F⟩
theorem Ctx.cut_has {c : Ctx} {g id ver : Nat} (h : c.has id ver) (hg : id < g) : (c.cut g).has id ver := by
 obtain ⟨o, h1, h2⟩ := h
 exact ⟨o, by show (c.H.take g)[id]? = some o; rw [List.getElem?_take, if_pos hg]; exact h1, h2⟩
theorem Ctx.cut_get {c : Ctx} {g id : Nat} {o : Ob} (h : (c.cut g).H[id]? = some o) : id < g ∧ c.H[id]? = some o := by
 have h' : (c.H.take g)[id]? = some o := h
 rw [List.getElem?_take] at h'
 split at h'
 ·exact ⟨‹_›, h'⟩
 ·cases h'
mutual
theorem AFf.cut {c : Ctx} {w : World} {g : Nat} : ∀ {x : TV} {us : List Value}, AMB g x = true → AFf c w x us → AFf (c.cut g) w x us
 | .val y, us, hf, hr => by rw [AFf] at hr ⊢; exact hr
 | .any, us, hf, hr => by rw [AFf] at hr ⊢; exact hr
 | .sl k cs, us, hf, hr => by rw [AFf] at hr ⊢; exact hr
 | .fp x, us, hf, hr => by rw [AFf] at hr ⊢; exact hr
 | .arr n k cs, us, hf, hr => by rw [AFf] at hr ⊢; exact hr
 | .op id ver p, us, hf, hr => by
  rw [AMB, decide_eq_true_eq] at hf; rw [AFf] at hr ⊢; exact ⟨Ctx.cut_has hr.1 hf, hr.2⟩
 | .os k id ver p off n cp, us, hf, hr => by
  rw [AMB, decide_eq_true_eq] at hf; rw [AFf] at hr ⊢; exact ⟨Ctx.cut_has hr.1 hf, hr.2⟩
 | .mp id ver, us, hf, hr => by
  rw [AMB, decide_eq_true_eq] at hf; rw [AFf] at hr ⊢; exact ⟨Ctx.cut_has hr.1 hf, hr.2⟩
 | .yl id ver, us, hf, hr => by
  rw [AMB, decide_eq_true_eq] at hf; rw [AFf] at hr ⊢; exact ⟨Ctx.cut_has hr.1 hf, hr.2⟩
 | .agg cs, us, hf, hr => by rw [AMB] at hf; rw [AFf] at hr ⊢; exact AFg.cut hf hr
 | .tup cs, us, hf, hr => by rw [AFf] at hr; exact hr.elim
 | .ifc t x, us, hf, hr => by
  rw [AMB] at hf; rw [AFf] at hr ⊢
  obtain ⟨u, h1, vs, h2, h3⟩ := hr
  exact ⟨u, h1, vs, AFf.cut hf h2, h3⟩
 | .fn f a b, us, hf, hr => by
  rw [AMB, Bool.and_eq_true] at hf; rw [AFf] at hr ⊢
  obtain ⟨aS, bs, h1, h2, h3⟩ := hr
  exact ⟨aS, bs, h1, AFO.cut hf.1 h2, AFO.cut hf.2 h3⟩
theorem AFg.cut {c : Ctx} {w : World} {g : Nat} : ∀ {xs : List TV} {us : List Value}, APW g xs = true → AFg c w xs us → AFg (c.cut g) w xs us
 | [], us, hf, hr => by rw [AFg] at hr ⊢; exact hr
 | x :: xs, us, hf, hr => by
  rw [APW, Bool.and_eq_true] at hf; rw [AFg] at hr ⊢
  obtain ⟨a, b, h1, h2, h3⟩ := hr
  exact ⟨a, b, h1, AFf.cut hf.1 h2, AFg.cut hf.2 h3⟩
theorem AFO.cut {c : Ctx} {w : World} {g : Nat} : ∀ {xs : List TV} {us : List Value}, APW g xs = true → AFO c w xs us → AFO (c.cut g) w xs us
 | [], us, hf, hr => by rw [AFO] at hr ⊢; exact hr
 | x :: xs, us, hf, hr => by
  rw [APW, Bool.and_eq_true] at hf; rw [AFO] at hr ⊢
  obtain ⟨u, us, h1, h2, h3⟩ := hr
  refine ⟨u, us, h1, ?_, AFO.cut hf.2 h3⟩
  rcases h2 with h2 | h2 | ⟨aS, h2, h4⟩
  ·exact .inl h2
  ·exact .inr (.inl h2)
  ·exact .inr (.inr ⟨aS, AFf.cut hf.1 h2, h4⟩)
end
theorem Rep.cut {c : Ctx} {w : World} {g : Nat} {x : TV} {v : Value} (hf : AMB g x = true) (hr : Rep c w x v) : Rep (c.cut g) w x v := by
 rcases hr with (h | h | ⟨us, h, h'⟩) | ⟨xs, vs, rfl, h2, h3⟩
 ·exact .inl (.inl h)
 ·exact .inl (.inr (.inl h))
 ·exact .inl (.inr (.inr ⟨us, AFf.cut hf h, h'⟩))
 ·rw [AMB] at hf; exact .inr ⟨xs, vs, rfl, h2, AFO.cut hf h3⟩
theorem AVR {g : Nat} : ∀ {e : Env}, AXV g e = true → ∀ s, AMB g (get e s) = true
 | [], _, s => rfl
 | (k, x) :: e, h, s => by
  rw [AXV, Bool.and_eq_true] at h
  rw [AF5]
  split
  ·exact h.1
  ·exact AVR h.2 s
theorem AYJ {g : Nat} : ∀ {H : List Ob}, AXO g H = true → ∀ (i : Nat) (o : Ob), H[i]? = some o → A16 g o = true
 | [], _, i, o, h => by simp at h
 | o :: H, h, i, o', hi => by
  rw [AXO, Bool.and_eq_true] at h
  cases i with
  | zero => simp at hi; subst hi; exact h.1
  | succ i => exact AYJ h.2 i o' (by simpa using hi)
theorem AFA.cut {c : Ctx} {w : World} {g : Nat} {kk : MK} : ∀ {es : List (List UInt8 × TV)} {ms : List MapEntry}, APW g (es.map (·.2)) = true → AFA c w kk es ms → AFA (c.cut g) w kk es ms
 | [], ms, _, h => h
 | (k, x) :: es, ms, hb, h => by
  rw [List.map_cons, APW, Bool.and_eq_true] at hb
  obtain ⟨m, r, rfl, h1, h2, h3⟩ := h
  exact ⟨m, r, rfl, h1, ⟨AFf.cut hb.1 h2.1, h2.2⟩, AFA.cut hb.2 h3⟩
theorem Sim.cut {c : Ctx} {w : World} {g : Nat} (hs : Sim c w) (hg : AXO g (c.H.take g) = true) : Sim (c.cut g) w := by
 have hown : ∀ b, (c.cut g).own b → c.own b := by
  rintro b ⟨i, o, off, h1, h2, h3⟩
  exact ⟨i, o, off, (Ctx.cut_get h1).2, h2, h3⟩
 refine ⟨fun id o ho => ?_, fun i j x y b o o' hx hy hlx hly e e' => hs.inj i j x y b o o' (Ctx.cut_get hx).2 (Ctx.cut_get hy).2 hlx hly e e', fun b hb => hs.apart b (hown b hb), hs.lt, hs.glob⟩
 have h1 := hs.ob id o (Ctx.cut_get ho).2
 have hb := AYJ hg id o ho
 cases o with
 | gone v => trivial
 | ice v m x =>
  obtain ⟨b, off, pre, vs, post, t, fr, h0, h1, h2, h3, h4⟩ := h1
  exact ⟨b, off, pre, vs, post, t, fr, h0, h1, h2, h3, AFf.cut hb h4⟩
 | bld v t l => exact h1
 | fact i v t m =>
  obtain ⟨h0, h2⟩ := h1
  exact ⟨Ctx.cut_has h0 (by simpa [A16] using hb), h2⟩
 | lp st pend fn N en ps ca cb =>
  obtain ⟨b, tmps, D, h0, h1, h2, h3⟩ := h1
  exact ⟨b, tmps, D, h0, h1, h2, fun s => Rep.cut (AVR hb s) (h3 s)⟩
 | mpo kk es =>
  obtain ⟨b, ms, cl, h0, h1, h2, h3⟩ := h1
  exact ⟨b, ms, cl, h0, h1, AFA.cut hb h2, h3⟩
 | sit s pos => exact h1
 | mpd kk zs cl =>
  obtain ⟨b, ms, h0, h1, h2, h3⟩ := h1
  exact ⟨b, ms, h0, h1, AFA.cut (by rw [List.map_map]; exact hb) h2, h3⟩
 | mit m sn cl =>
  obtain ⟨r, b, h0, ⟨g0, g1⟩, h1⟩ := h1
  exact ⟨r, b, h0, ⟨Ctx.cut_has g0 (by simpa [A16] using hb), g1⟩, h1⟩
 | obj v x =>
  rcases h1 with ⟨h0, h4⟩ | ⟨b, off, pre, vs, post, t, fr, h0, h1, h2, h3, h4⟩
  ·exact .inl ⟨h0, AFf.cut hb h4⟩
  ·exact .inr ⟨b, off, pre, vs, post, t, fr, h0, h1, h2, h3, AFf.cut hb h4⟩
theorem AFr.cut {c0 c : Ctx} {w0 w : World} {g : Nat} (hl : AFr c0 w0 c w) (hg : c0.H.length ≤ g) : AFr c0 w0 (c.cut g) w :=
 ⟨hl.os, hl.tape, hl.output, hl.size, fun id ver h => by
  obtain ⟨h1, h2⟩ := hl.has id ver h
  exact ⟨Ctx.cut_has h1 (Nat.lt_of_lt_of_le (Ctx.has_lt h) hg), h2⟩, hl.shape, hl.same, hl.keepF, hl.oldF, fun b hb ⟨i, o, off, h1, h2, h3⟩ => hl.oldOwn b hb ⟨i, o, off, (Ctx.cut_get h1).2, h2, h3⟩⟩
def ARe (D0 : List Deferred) (B : Nat) (c : Ctx) (w : World) (D : List Deferred) : Prop := ∃ ds : List Nat, D = ds.map (fun r => { target := .collected r, args := #[] }) ++ D0 ∧ ds.Nodup ∧ ∀ r ∈ ds, B ≤ r ∧ r < w.heap.size ∧ ¬ c.own r ∧ ¬ c.F r ∧ w.heap[r]? = some (.deferred (some []))
theorem ARe.nil {D0 : List Deferred} {B : Nat} {c : Ctx} {w : World} : ARe D0 B c w D0 := ⟨[], rfl, List.nodup_nil, fun r h => by cases h⟩
theorem ARe.later {D0 : List Deferred} {B : Nat} {c c' : Ctx} {w w' : World} {D : List Deferred} (h : ARe D0 B c w D) (hl : AFr c w c' w') : ARe D0 B c' w' D := by
 obtain ⟨ds, h1, h2, h3⟩ := h
 refine ⟨ds, h1, h2, fun r hr => ?_⟩
 obtain ⟨k1, k2, k3, k4, k5⟩ := h3 r hr
 exact ⟨k1, Nat.lt_of_lt_of_le k2 hl.size, fun h => k3 (hl.oldOwn r k2 h), fun h => (hl.oldF r k2 h).elim k4 k3, (hl.same r k2 k3).trans k5⟩
theorem ARe.cut {D0 : List Deferred} {B g : Nat} {c : Ctx} {w : World} {D : List Deferred} (h : ARe D0 B c w D) : ARe D0 B (c.cut g) w D := by
 obtain ⟨ds, h1, h2, h3⟩ := h
 refine ⟨ds, h1, h2, fun r hr => ?_⟩
 obtain ⟨k1, k2, k3, k4, k5⟩ := h3 r hr
 exact ⟨k1, k2, fun ⟨i, o, off, h1, h2, h3⟩ => k3 ⟨i, o, off, (Ctx.cut_get h1).2, h2, h3⟩, k4, k5⟩

theorem ASp (w : World) (r : Nat) (o : Obj) : (w.putObj r o).os = w.os ∧ (w.putObj r o).tape = w.tape ∧ (w.putObj r o).output = w.output ∧ (w.putObj r o).heap.size = w.heap.size := ⟨rfl, rfl, rfl, by simp [World.putObj]⟩
theorem AYn {w : World} {b : Nat} {r : Loop} (h : w.heap[b]? = some (.loop r)) : w.shape? b = none := by simp [World.shape?, h]
theorem Sim.loopTurn {β : Nat → Nat → Option (Nat × Nat)} {H : List Ob} {F : Nat → Prop} {w : World} (hs : Sim ⟨β, H, F⟩ w) {id N : Nat} {fn : FuncId} {e : Env} {ps : List Nat} {ca cb : Code} {st st' : LoopState} {pe pe' : Option Code}
  (ho : H[id]? = some (.lp st pe fn N e ps ca cb)) : ∃ (b : Nat) (r : Loop), β id 0 = some (b, 0) ∧ w.heap[b]? = some (.loop r) ∧ r.state = st ∧ r.pending = pe ∧ r.fn = fn ∧ r.tmps.size = N ∧ r.params = ps.toArray ∧ r.assign = ca ∧ r.body = cb ∧ (∀ s, Rep ⟨β, H, F⟩ w (get e s) (r.tmps.getD s undef)) ∧
   Sim ⟨β, H.set id (.lp st' pe' fn N e ps ca cb), F⟩ (w.putObj b (.loop { r with state := st', pending := pe' })) ∧
   AFr ⟨β, H, F⟩ w ⟨β, H.set id (.lp st' pe' fn N e ps ca cb), F⟩ (w.putObj b (.loop { r with state := st', pending := pe' })) := by
 obtain ⟨b, tmps, D, h1, h2, h3, h4⟩ := hs.ob id _ ho
 have hlt : b < w.heap.size := (Array.getElem?_eq_some_iff.1 h2).1
 have hid : id < H.length := (List.getElem?_eq_some_iff.1 ho).1
 have hput := World.putObj_heap_same (w := w) (o := .loop { state := st', pending := pe', fn := fn, tmps := tmps, params := ps.toArray, assign := ca, body := cb, defers := D }) hlt
 obtain ⟨k1, k2⟩ := hs.turn (β' := β) (w' := w.putObj b (.loop { state := st', pending := pe', fn := fn, tmps := tmps, params := ps.toArray, assign := ca, body := cb, defers := D })) ho (o' := .lp st' pe' fn N e ps ca cb) rfl rfl (Nat.le_refl _) (fun _ _ _ => rfl) (fun b' off hb => .inl ⟨off, hb⟩) rfl rfl rfl
  (by rw [(ASp _ _ _).2.2.2]; exact Nat.le_refl _) (fun b' hb' => by
   by_cases hbb : b' = b
   ·subst hbb; rw [AYn h2, AYn hput]
   ·exact AFS (World.putObj_heap_other hbb)) (fun b' hb' hne => World.putObj_heap_other (fun e => hne 0 (by subst e; exact h1)))
  (fun hm => ⟨b, tmps, D, h1, hput, h3, fun s => Rep.mono hm (h4 s)⟩)
 exact ⟨b, { state := st, pending := pe, fn := fn, tmps := tmps, params := ps.toArray, assign := ca, body := cb, defers := D }, h1, h2, rfl, rfl, rfl, h3, rfl, rfl, rfl, h4, k1, k2⟩
theorem AXz {N nn : Nat} {f0 : Operand} {ps0 : Array Tmp} {ca cb : Code} {Q : VEx → Env → List Ob → Prop} {e : Env} {H : List Ob} {β : Nat → Nat → Option (Nat × Nat)} {F : Nat → Prop} {w : World} {a : Act} {QQ : Exit → Act → World → Prop} {B : Nat} {D D0 : List Deferred}
  (hs : Sim ⟨β, H, F⟩ w) (hf : Fr N D ⟨β, H, F⟩ w e a) (hm : ARe D0 B ⟨β, H, F⟩ w D) (hB : B ≤ w.heap.size) {g : FuncId} {us vs : List Value} {first caps : List TV} (hv : a.eval f0 = .func (.func g) us.toArray vs.toArray) (hgo : AWL P g = true) (hfi : AFO ⟨β, H, F⟩ w first us) (hc : AFO ⟨β, H, F⟩ w caps vs)
  (h : ∀ fn, AFl P g (first ++ [.yl H.length 0] ++ caps) (H ++ [.lp .ready none fn N e ps0.toList ca cb]) (A2B Q e H.length))
  (hk : ∀ x e' H' β' F' w' a' D', Q x e' H' → Sim ⟨β', H', F'⟩ w' → Fr N D' ⟨β', H', F'⟩ w' e' a' → ARe D0 B ⟨β', H', F'⟩ w' D' → AFr ⟨β, H, F⟩ w ⟨β', H', F'⟩ w' → QQ x.ex a' w') : (Code.rangeFunc f0 ps0 ca cb).wpIn (fz none) nn P QQ a w := by
 refine wpIn_rangeFunc ?_
 intro fn hfn
 obtain ⟨rec, hrec⟩ : ∃ rec : Loop, rec = { state := .ready, pending := none, fn := fn, tmps := a.tmps, params := ps0, assign := ca, body := cb, defers := w.heap.size } := ⟨_, rfl⟩
 obtain ⟨W1, hW1⟩ : ∃ W1, (w.alloc (.deferred (some []))).alloc (.loop rec) = W1 := ⟨_, rfl⟩
 have hL1 : W1.heap[w.heap.size + 1]? = some (.loop rec) := by
  rw [← hW1]; have := World.alloc_heap_new (w.alloc (.deferred (some []))) (.loop rec); rwa [World.size_alloc] at this
 have hK1 : W1.heap[w.heap.size]? = some (.deferred (some [])) := by
  rw [← hW1]; exact (Below.heap_alloc _ _ _ (by simp)).trans (World.alloc_heap_new w _)
 have hsz : W1.heap.size = w.heap.size + 2 := by rw [← hW1]; simp
 have hold : ∀ b, b < w.heap.size → W1.heap[b]? = w.heap[b]? := fun b hb => by
  rw [← hW1]; exact (Below.heap_alloc _ _ _ (by simp; omega)).trans (Below.heap_alloc _ _ _ hb)
 obtain ⟨k1, k2⟩ := hs.new (w' := W1) (.lp .ready none fn N e ps0.toList ca cb) rfl (some (w.heap.size + 1, 0)) (fun b off h => by simp at h; omega) (by rw [← hW1]; rfl) (by rw [← hW1]; rfl) (by rw [← hW1]; rfl) (by omega) hold
  (fun hmo => ⟨w.heap.size + 1, a.tmps, w.heap.size, AFu, by rw [hL1, hrec], hf.size, fun s => Rep.mono hmo (hf.env.1 s)⟩)
 have hmo := k2.mono hs
 have hown1 : ∀ b, Ctx.own ⟨upd β H.length 0 (some (w.heap.size + 1, 0)), H ++ [.lp .ready none fn N e ps0.toList ca cb], F⟩ b → b ≠ w.heap.size := by
  rintro b ⟨i, o, off, h1, h2, h3⟩ rfl
  by_cases hi : i < H.length
  ·rw [List.getElem?_append_left hi] at h1
   have h3' : β i o.ver = some (w.heap.size, off) := by
    have h3 : upd β H.length 0 (some (w.heap.size + 1, 0)) i o.ver = some (w.heap.size, off) := h3
    rw [AVC (fun h => by omega)] at h3; exact h3
   have := hs.own_lt ⟨i, o, off, h1, h2, h3'⟩
   omega
  ·have hil : i = H.length := by
    have := (List.getElem?_eq_some_iff.1 h1).1
    simp at this; omega
   subst hil
   simp at h1
   subst h1
   have h3 : upd β H.length 0 (some (w.heap.size + 1, 0)) H.length 0 = some (w.heap.size, off) := h3
   rw [AFu] at h3
   simp at h3
 refine ⟨w.heap.size + 1, [{ target := .collected w.heap.size, args := #[] }], W1, { target := .fn (.func g) vs.toArray, args := us.toArray ++ #[.func (.yield (w.heap.size + 1)) #[] #[]] }, W1, g,
  us.toArray ++ #[.func (.yield (w.heap.size + 1)) #[] #[]] ++ vs.toArray, W1, ?_, ?_, ?_, ?_, ?_, ?_⟩
 ·rw [← hW1, hrec]; exact run_enterLoop_outer _ _ _ _ _
 ·simp only [resolve, hv]
  simp [go_sem]
 ·intro f' hf'; trivial
 ·simp only [invoke, AK8 hgo]
 ·intro h; simp [fz, Fence.wide] at h
 ·refine (callsIn_wide (n := nn - 1)).2 ?_
  have hargs : AFO ⟨upd β H.length 0 (some (w.heap.size + 1, 0)), H ++ [.lp .ready none fn N e ps0.toList ca cb], F⟩ W1 (first ++ [.yl H.length 0] ++ caps) (us ++ [.func (.yield (w.heap.size + 1)) #[] #[]] ++ vs) := by
   refine AFO.append (AFO.append (AFO.mono hmo hfi) (AFO.cons.2 ⟨_, [], rfl, .inr (.inr ⟨[.func (.yield (w.heap.size + 1)) #[] #[]], ?_, rfl⟩), by rw [AFO]⟩)) (AFO.mono hmo hc)
   rw [AFf]
   exact ⟨AIx _ _ _ _ _ (Nat.le_refl _), _, _, AFu, rfl⟩
  have hcall := h fn _ _ W1 _ k1 hargs
  rw [show (us ++ [Value.func (.yield (w.heap.size + 1)) #[] #[]] ++ vs).toArray = us.toArray ++ #[.func (.yield (w.heap.size + 1)) #[] #[]] ++ vs.toArray from by simp] at hcall
  refine hcall.mono ?_
  rintro _ w3 ⟨v, x, β', H', F', rfl, hR, hs', hl', hx⟩
  have hmk : ARe D0 B ⟨β', H', F'⟩ w3 ({ target := .collected w.heap.size, args := #[] } :: D) := by
   have h1 : ARe D0 B ⟨upd β H.length 0 (some (w.heap.size + 1, 0)), H ++ [.lp .ready none fn N e ps0.toList ca cb], F⟩ W1 ({ target := .collected w.heap.size, args := #[] } :: D) := by
    obtain ⟨ds, d1, d2, d3⟩ := hm.later k2
    refine ⟨w.heap.size :: ds, by rw [d1]; rfl, List.nodup_cons.2 ⟨fun hin => ?_, d2⟩, fun r hr => ?_⟩
    ·obtain ⟨ds', e1, e2, e3⟩ := hm
     have : ds' = ds := by
      have : ds'.map (fun r => ({ target := .collected r, args := #[] } : Deferred)) = ds.map (fun r => { target := .collected r, args := #[] }) := List.append_cancel_right (e1.symm.trans d1)
      exact (List.map_inj_right (fun a b h => by simpa using h)).1 this
     rw [← this] at hin
     have := (e3 _ hin).2.1
     omega
    ·rcases List.mem_cons.1 hr with rfl | hr
     ·exact ⟨hB, by omega, fun ho => hown1 _ ho rfl, fun hF => absurd (hs.lt _ hF) (by omega), hK1⟩
     ·exact d3 r hr
   exact h1.later hl'
  have fin : ∀ (st : LoopState) (pe : Option Code) (fn' : FuncId) (N' : Nat) (e1 : Env) (ps1 : List Nat) (c1 c2 : Code), st ≠ .busy → H'[H.length]? = some (.lp st pe fn' N' e1 ps1 c1 c2) →
    ∃ w4, (Instr.endLoop (w.heap.size + 1)).run P w3 = .ok pe w4 ∧ Sim ⟨β', H'.set H.length (.lp .exhausted pe fn' N' e1 ps1 c1 c2), F'⟩ w4 ∧ AFr ⟨β', H', F'⟩ w3 ⟨β', H'.set H.length (.lp .exhausted pe fn' N' e1 ps1 c1 c2), F'⟩ w4 := by
   intro st pe fn' N' e1 ps1 c1 c2 hst hob
   obtain ⟨b, r, r1, r2, r3, r4, _, _, _, _, _, _, r5, r6⟩ := hs'.loopTurn (st' := .exhausted) (pe' := pe) hob
   have hβ : β' H.length 0 = some (w.heap.size + 1, 0) := ((hl'.has H.length 0 (AIx _ _ _ _ _ (Nat.le_refl _))).2).trans AFu
   rw [hβ] at r1
   obtain ⟨rfl, _⟩ : w.heap.size + 1 = b ∧ True := by simpa using r1
   subst r4
   exact ⟨_, run_endLoop (P := P) r2 (by rw [r3]; exact hst), r5, r6⟩
  have hfr : ∀ {c : Ctx} {w4 : World}, AFr ⟨β, H, F⟩ w c w4 → AMl c.F w4 → Fr N ({ target := .collected w.heap.size, args := #[] } :: D) c w4 e { a with defers := { target := .collected w.heap.size, args := #[] } :: a.defers } := fun {c w4} hl hgl =>
   ⟨⟨fun s => Rep.mono (hl.mono hs) (hf.env.1 s), hgl⟩, hf.size, by rw [hf.defers]⟩
  unfold A2B at hR
  simp only [rangePost]
  split at hR
  ·rename_i hob
   obtain ⟨w4, e1, e2, e3⟩ := fin .ready none _ _ _ _ _ _ (by simp) hob
   exact ⟨none, w4, e1, hk .nor _ _ _ _ _ _ _ hR e2 (hfr ((k2.trans hl').trans e3) e2.glob) (hmk.later e3) ((k2.trans hl').trans e3)⟩
  ·rename_i hob
   obtain ⟨w4, e1, e2, e3⟩ := fin .done (some .ret) _ _ _ _ _ _ (by simp) hob
   exact ⟨some .ret, w4, e1, wpIn_ret (hk .ret _ _ _ _ _ _ _ hR e2 (hfr ((k2.trans hl').trans e3) e2.glob) (hmk.later e3) ((k2.trans hl').trans e3))⟩
  ·rename_i i _ _ _ _ _ _ hob
   obtain ⟨w4, e1, e2, e3⟩ := fin .done (some (.exit _)) _ _ _ _ _ _ (by simp) hob
   exact ⟨some (.exit _), w4, e1, wpIn_exit (hk (.exit _) _ _ _ _ _ _ _ hR e2 (hfr ((k2.trans hl').trans e3) e2.glob) (hmk.later e3) ((k2.trans hl').trans e3))⟩
  ·exact hR.elim

theorem AIz {b : Frame} {a : Act} {k : List Item} {cs : List Frame} {w : World} {c : Code} : step P (lone (b.atR a (.code (.scope c) :: k)) cs w) = .next (lone (b.atR a (.code c :: .inScope c :: k)) cs w) :=
 step_lone_go (by simp [stepG, stepG.exec, Frame.atR])
theorem AX3 {b : Frame} {a : Act} {k : List Item} {cs : List Frame} {w : World} {c : Code} : step P (lone (b.atR a (.inScope c :: k)) cs w) = .next (lone (b.atR a k) cs w) :=
 step_lone_go (by simp [stepG, stepG.exec, Frame.atR])
theorem A1M {F : Fence} {n : Nat} {Q : Exit → Act → World → Prop} {a : Act} {w : World} {c : Code} (h : c.wpIn F n P (Exit.noGoto Q) a w) : (Code.scope c).wpIn F n P Q a w := by
 intro b k cs hro hb hr
 have h0 : (lone (b.atR a (.code (.scope c) :: k)) cs w).fenced P F := fenced_calm hb hr rfl
 obtain ⟨e, a₁, w₁, hq, harr⟩ := h b (.inScope c :: k) cs hro hb hr
 cases e with
 | normal => exact ⟨.normal, a₁, w₁, hq, .head h0 AIz (StepsIn.trans harr (.one (fenced_calm hb hr rfl) AX3))⟩
 | exit id' =>
  have hx : exitTo id' (.inScope c :: k) = exitTo id' k := by simp [exitTo]
  exact ⟨.exit id', a₁, w₁, hq, fun k' hk => .head h0 AIz (harr.1 k' (by rw [hx]; exact hk)),
   fun hr' hk => let ⟨k₁, h1, h2⟩ := harr.2 hr' (by rw [hx]; exact hk); ⟨k₁, h1, .head h0 AIz h2⟩⟩
 | goto l => exact hq.elim
 | ret => exact ⟨_, a₁, w₁, hq, .of_steps (.one h0 AIz) harr⟩
 | panic ch => exact ⟨_, a₁, w₁, hq, .of_steps (.one h0 AIz) harr⟩
 | outgrown => exact ⟨_, a₁, w₁, hq, .of_steps (.one h0 AIz) harr⟩

theorem A43 {N : Nat} {ro : Option Nat} {nn : Nat} : ∀ (vc : AE9) {code : Code}, (ro = none ∨ AXF vc = true) → trC P N code = some (er vc) → ∀ {Q : VEx → Env → List Ob → Prop} {e : Env} {H : List Ob} {β : Nat → Nat → Option (Nat × Nat)} {F : Nat → Prop} {w : World} {a : Act} {QQ : Exit → Act → World → Prop} {B : Nat} {D D0 : List Deferred},
  vwp P vc Q e H → Sim ⟨β, H, F⟩ w → Fr N D ⟨β, H, F⟩ w e a → ARe D0 B ⟨β, H, F⟩ w D → B ≤ w.heap.size →
  (∀ x e' H' β' F' w' a' D', Q x e' H' → Sim ⟨β', H', F'⟩ w' → Fr N D' ⟨β', H', F'⟩ w' e' a' → ARe D0 B ⟨β', H', F'⟩ w' D' → AFr ⟨β, H, F⟩ w ⟨β', H', F'⟩ w' → QQ x.ex a' w') → code.wpIn (fz ro) nn P QQ a w := by
 intro vc
 have inv : ∀ {code : Code} {v : AE9}, trC P N code = some v → True := fun _ => trivial
 induction vc with
 | ops l kp =>
  intro code hrf ht Q e H β F w a QQ B D D0 h hs hf hm hB hk
  rw [er] at ht
  cases code with
  | region id ops d =>
   cases d with
   | true => exact (AIl ht (by simp) (by simp) (by simp)).elim
   | false =>
    obtain ⟨l', hl, e9⟩ := (A7E ht).resolve_right (by simp)
    simp only [AE9.ops.injEq, and_true] at e9
    subst e9
    rw [vwp] at h
    exact wpIn_region_list (AYQ hl h hs hf fun e' H' β' F' w' a' k1 k2 k3 k4 => hk .nor _ _ _ _ _ _ _ k1 k2 (k3.forget kp) (hm.later k4) k4)
  | seq x y => simp only [trC] at ht; split at ht <;> simp at ht
  | cond c x y => simp only [trC] at ht; split at ht <;> simp at ht
  | rangeFunc f ps x y => simp only [trC] at ht; split at ht <;> (try split at ht) <;> simp at ht
  | _ => simp [trC] at ht
 | opsZ l zs r kp =>
  intro code hrf ht Q e H β F w a QQ B D D0 h hs hf hm hB hk
  rw [er] at ht
  cases code with
  | region id ops d =>
   cases d with
   | true => exact (AIl ht (by simp) (by simp) (by simp)).elim
   | false =>
    obtain ⟨l', hl, e9⟩ := (A7E ht).resolve_right (by simp)
    simp only [AE9.ops.injEq, and_true] at e9
    subst e9
    rw [vwp] at h
    exact wpIn_region_list (A1r hl h hs hf fun e' H' β' F' w' a' k1 k2 k3 k4 => hk .nor _ _ _ _ _ _ _ k1 k2 (k3.forget kp) (hm.later k4) k4)
  | seq x y => simp only [trC] at ht; split at ht <;> simp at ht
  | cond c x y => simp only [trC] at ht; split at ht <;> simp at ht
  | rangeFunc f ps x y => simp only [trC] at ht; split at ht <;> (try split at ht) <;> simp at ht
  | _ => simp [trC] at ht
 | pops l kp =>
  intro code hrf ht Q e H β F w a QQ B D D0 h hs hf hm hB hk
  rw [er] at ht
  cases code with
  | region id ops d =>
   cases d with
   | true => exact (AIl ht (by simp) (by simp) (by simp)).elim
   | false =>
    obtain ⟨l', hl, e9⟩ := (A7E ht).resolve_right (by simp)
    simp only [AE9.ops.injEq, and_true] at e9
    subst e9
    rw [vwp] at h
    exact wpIn_region_list (A1U hl h hs hf (fun e' H' β' F' w' a' k1 k2 k3 k4 => hk .nor _ _ _ _ _ _ _ k1 k2 (k3.forget kp) (hm.later k4) k4) fun u H' β' F' w' a' k1 k2 k3 k4 => hk (.pan u) _ _ _ _ _ _ _ k1 k2 k3 (hm.later k4) k4)
  | seq x y => simp only [trC] at ht; split at ht <;> simp at ht
  | cond c x y => simp only [trC] at ht; split at ht <;> simp at ht
  | rangeFunc f ps x y => simp only [trC] at ht; split at ht <;> (try split at ht) <;> simp at ht
  | _ => simp [trC] at ht
 | draw n l kp =>
  intro code hrf ht Q e H β F w a QQ B D D0 h hs hf hm hB hk
  rw [er] at ht
  cases code with
  | region id ops d =>
   cases d with
   | false => exact (AIj ht (by simp) (by simp)).elim
   | true =>
    obtain ⟨bz, hsp⟩ := AQT ((A6o ht).resolve_right (by simp))
    obtain ⟨n', l', e9, hmo, hh⟩ := hsp.resolve_right (by simp)
    simp only [AE9.draw.injEq, and_true] at e9
    obtain ⟨rfl, rfl⟩ := e9
    rw [vwp] at h
    rcases hh with ⟨hl, hck⟩ | ⟨π, hp, hl, hck⟩
    ·exact AYL WOk.vop hmo hl hck h hs hf ⟨fun e' H' β' F' w' a' k1 k2 k3 k4 => hk .nor _ _ _ _ _ _ _ k1 k2 (k3.forget kp) (hm.later k4) k4, fun _ _ _ _ _ _ (h : False) => h.elim⟩
    ·exact AUB WOk.vop hmo hp hl hck h hs hf ⟨fun e' H' β' F' w' a' k1 k2 k3 k4 => hk .nor _ _ _ _ _ _ _ k1 k2 (k3.forget kp) (hm.later k4) k4, fun _ _ _ _ _ _ (h : False) => h.elim⟩
  | seq x y => simp only [trC] at ht; split at ht <;> simp at ht
  | cond c x y => simp only [trC] at ht; split at ht <;> simp at ht
  | rangeFunc f ps x y => simp only [trC] at ht; split at ht <;> (try split at ht) <;> simp at ht
  | _ => simp [trC] at ht
 | pdraw n l kp =>
  intro code hrf ht Q e H β F w a QQ B D D0 h hs hf hm hB hk
  rw [er] at ht
  cases code with
  | region id ops d =>
   cases d with
   | false => exact (AIj ht (by simp) (by simp)).elim
   | true =>
    obtain ⟨bz, hsp⟩ := AQT ((A6o ht).resolve_right (by simp))
    obtain ⟨n', l', e9, hmo, hh⟩ := hsp.resolve_right (by simp)
    simp only [AE9.draw.injEq, and_true] at e9
    obtain ⟨rfl, rfl⟩ := e9
    rw [vwp] at h
    rcases hh with ⟨hl, hck⟩ | ⟨π, hp, hl, hck⟩
    ·exact AYL WOk.pvop hmo hl hck h hs hf ⟨fun e' H' β' F' w' a' k1 k2 k3 k4 => hk .nor _ _ _ _ _ _ _ k1 k2 (k3.forget kp) (hm.later k4) k4, fun u H' β' F' w' a' k1 k2 k3 k4 => hk (.pan u) _ _ _ _ _ _ _ k1 k2 k3 (hm.later k4) k4⟩
    ·exact AUB WOk.pvop hmo hp hl hck h hs hf ⟨fun e' H' β' F' w' a' k1 k2 k3 k4 => hk .nor _ _ _ _ _ _ _ k1 k2 (k3.forget kp) (hm.later k4) k4, fun u H' β' F' w' a' k1 k2 k3 k4 => hk (.pan u) _ _ _ _ _ _ _ k1 k2 k3 (hm.later k4) k4⟩
  | seq x y => simp only [trC] at ht; split at ht <;> simp at ht
  | cond c x y => simp only [trC] at ht; split at ht <;> simp at ht
  | rangeFunc f ps x y => simp only [trC] at ht; split at ht <;> (try split at ht) <;> simp at ht
  | _ => simp [trC] at ht
 | sdraw n l kp =>
  intro code hrf ht Q e H β F w a QQ B D D0 h hs hf hm hB hk
  rw [er] at ht
  cases code with
  | region id ops d =>
   cases d with
   | false => exact (AIj ht (by simp) (by simp)).elim
   | true =>
    obtain ⟨bz, hsp⟩ := AQT ((A6o ht).resolve_right (by simp))
    obtain ⟨n', l', e9, hmo, π, hp, hl, hck⟩ := hsp.resolve_left (by simp)
    simp only [AE9.sdraw.injEq, and_true] at e9
    obtain ⟨rfl, rfl⟩ := e9
    rw [vwp] at h
    exact AUB WOk.pvopS hmo hp hl hck h hs hf ⟨fun e' H' β' F' w' a' k1 k2 k3 k4 => hk .nor _ _ _ _ _ _ _ k1 k2 (k3.forget kp) (hm.later k4) k4, fun u H' β' F' w' a' k1 k2 k3 k4 => hk (.pan u) _ _ _ _ _ _ _ k1 k2 k3 (hm.later k4) k4⟩
  | seq x y => simp only [trC] at ht; split at ht <;> simp at ht
  | cond c x y => simp only [trC] at ht; split at ht <;> simp at ht
  | rangeFunc f ps x y => simp only [trC] at ht; split at ht <;> (try split at ht) <;> simp at ht
  | _ => simp [trC] at ht
 | skip =>
  intro code hrf ht Q e H β F w a QQ B D D0 h hs hf hm hB hk
  rw [er] at ht
  cases code with
  | skip => exact wpIn_skip (hk .nor _ _ _ _ _ _ _ h hs hf hm (AFr.refl _ _))
  | label l => exact wpIn_label (hk .nor _ _ _ _ _ _ _ h hs hf hm (AFr.refl _ _))
  | region id ops d =>
   cases d
   ·exact (AIj ht (by simp) (by simp)).elim
   ·exact (AIl ht (by simp) (by simp) (by simp)).elim
  | seq x y => simp only [trC] at ht; split at ht <;> simp at ht
  | cond c x y => simp only [trC] at ht; split at ht <;> simp at ht
  | rangeFunc f ps x y => simp only [trC] at ht; split at ht <;> (try split at ht) <;> simp at ht
  | _ => simp [trC] at ht
 | seq x y ihx ihy =>
  intro code hrf ht Q e H β F w a QQ B D D0 h hs hf hm hB hk
  rw [er] at ht
  cases code with
  | region id ops d =>
   cases d
   ·exact (AIj ht (by simp) (by simp)).elim
   ·exact (AIl ht (by simp) (by simp) (by simp)).elim
  | seq cx cy =>
   simp only [trC] at ht
   split at ht
   ·rename_i vx vy hx hy
    simp only [Option.some.injEq, AE9.seq.injEq] at ht
    obtain ⟨rfl, rfl⟩ := ht
    rw [vwp] at h
    have hrx : ro = none ∨ AXF x = true := hrf.imp id fun h => by simp only [AXF, Bool.and_eq_true] at h; exact h.1
    have hry : ro = none ∨ AXF y = true := hrf.imp id fun h => by simp only [AXF, Bool.and_eq_true] at h; exact h.2
    refine wpIn_seq (ihx hrx hx h hs hf hm hB ?_)
    intro x e' H' β' F' w' a' D' k1 k2 k3 km k4
    cases x with
    | nor => exact ihy hry hy k1 k2 k3 km (Nat.le_trans hB k4.size) fun x e2 H2 β2 F2 w2 a2 D2 m1 m2 m3 mm m4 => hk _ _ _ _ _ _ _ _ m1 m2 m3 mm (k4.trans m4)
    | exit i => exact hk (.exit i) _ _ _ _ _ _ _ k1 k2 k3 km k4
    | ret => exact hk .ret _ _ _ _ _ _ _ k1 k2 k3 km k4
    | pan u => exact hk (.pan u) _ _ _ _ _ _ _ k1 k2 k3 km k4
   ·simp at ht
  | cond c x y => simp only [trC] at ht; split at ht <;> simp at ht
  | rangeFunc f ps x y => simp only [trC] at ht; split at ht <;> (try split at ht) <;> simp at ht
  | _ => simp [trC] at ht
 | cond c x y ihx ihy =>
  intro code hrf ht Q e H β F w a QQ B D D0 h hs hf hm hB hk
  rw [er] at ht
  cases code with
  | region id ops d =>
   cases d
   ·exact (AIj ht (by simp) (by simp)).elim
   ·exact (AIl ht (by simp) (by simp) (by simp)).elim
  | seq x y => simp only [trC] at ht; split at ht <;> simp at ht
  | cond cc cx cy =>
   simp only [trC] at ht
   split at ht
   ·rename_i vx vy hx hy
    simp only [Option.some.injEq, AE9.cond.injEq] at ht
    obtain ⟨rfl, rfl, rfl⟩ := ht
    rw [vwp] at h
    split at h
    ·rename_i t hc
     have hrx : ro = none ∨ AXF x = true := hrf.imp id fun h => by simp only [AXF, Bool.and_eq_true] at h; exact h.1
     have hry : ro = none ∨ AXF y = true := hrf.imp id fun h => by simp only [AXF, Bool.and_eq_true] at h; exact h.2
     refine wpIn_cond_split (hf.env.val hc) (fun htt => ?_) (fun htf => ?_)
     ·rw [if_pos htt] at h; exact ihx hrx hx h hs hf hm hB hk
     ·rw [if_neg (by rw [htf]; simp)] at h; exact ihy hry hy h hs hf hm hB hk
    ·exact h.elim
   ·simp at ht
  | rangeFunc f ps x y => simp only [trC] at ht; split at ht <;> (try split at ht) <;> simp at ht
  | _ => simp [trC] at ht
 | block id x ih =>
  intro code hrf ht Q e H β F w a QQ B D D0 h hs hf hm hB hk
  rw [er] at ht
  cases code with
  | region id ops d =>
   cases d
   ·exact (AIj ht (by simp) (by simp)).elim
   ·exact (AIl ht (by simp) (by simp) (by simp)).elim
  | seq x y => simp only [trC] at ht; split at ht <;> simp at ht
  | cond c x y => simp only [trC] at ht; split at ht <;> simp at ht
  | rangeFunc f ps x y => simp only [trC] at ht; split at ht <;> (try split at ht) <;> simp at ht
  | block id' c =>
   simp only [trC, Option.map_eq_some_iff, AE9.block.injEq] at ht
   obtain ⟨vx, hx, rfl, rfl⟩ := ht
   rw [vwp] at h
   refine wpIn_block (ih hrf hx h hs hf hm hB ?_)
   intro x e' H' β' F' w' a' D' k1 k2 k3 km k4
   cases x with
   | nor => exact hk .nor _ _ _ _ _ _ _ k1 k2 k3 km k4
   | exit i =>
    show Exit.inBlock _ QQ (.exit i) a' w'
    simp only [Exit.inBlock]
    simp only at k1
    split at k1
    ·rename_i hi; rw [if_pos hi]; exact hk .nor _ _ _ _ _ _ _ k1 k2 k3 km k4
    ·rename_i hi; rw [if_neg hi]; exact hk (.exit i) _ _ _ _ _ _ _ k1 k2 k3 km k4
   | ret => exact hk .ret _ _ _ _ _ _ _ k1 k2 k3 km k4
   | pan u => exact hk (.pan u) _ _ _ _ _ _ _ k1 k2 k3 km k4
  | _ => simp [trC] at ht
 | loop lv x ih =>
  intro code hrf ht Q e H β F w a QQ B D D0 h hs hf hm hB hk
  rw [er] at ht
  cases code with
  | region id ops d =>
   cases d
   ·exact (AIj ht (by simp) (by simp)).elim
   ·exact (AIl ht (by simp) (by simp) (by simp)).elim
  | seq x y => simp only [trC] at ht; split at ht <;> simp at ht
  | cond c x y => simp only [trC] at ht; split at ht <;> simp at ht
  | rangeFunc f ps x y => simp only [trC] at ht; split at ht <;> (try split at ht) <;> simp at ht
  | loop c =>
   simp only [trC, Option.map_eq_some_iff, AE9.loop.injEq] at ht
   obtain ⟨vx, hx, _, rfl⟩ := ht
   rw [vwp] at h
   obtain ⟨I, n, h0, hstep⟩ := h
   refine wpIn_loop_ghost (fun n a' w' => ∃ e' H' β' F' D', I n e' H' ∧ Sim ⟨β', H', F'⟩ w' ∧ Fr N D' ⟨β', H', F'⟩ w' e' a' ∧ ARe D0 B ⟨β', H', F'⟩ w' D' ∧ AFr ⟨β, H, F⟩ w ⟨β', H', F'⟩ w') n ⟨_, _, _, _, _, h0, hs, hf.forget lv, hm, AFr.refl _ _⟩ ?_
   rintro n a' w' ⟨e', H', β', F', D', k1, k2, k3, km, k4⟩
   refine ih hrf hx (hstep n e' H' k1) k2 k3 km (Nat.le_trans hB k4.size) ?_
   intro x e2 H2 β2 F2 w2 a2 D2 m1 m2 m3 mm m4
   cases x with
   | nor =>
    obtain ⟨m, g, hmn, ⟨hg, hb⟩, hI⟩ := m1
    have hf3 := m3.forget lv
    rcases hb with hle | ⟨hbe, hbh⟩
    ·rw [List.take_of_length_le hle] at hI
     exact ⟨m, hmn, _, _, _, _, _, hI, m2, hf3, mm, k4.trans m4⟩
    exact ⟨m, hmn, _, _, _, _, _, hI, m2.cut hbh, ⟨⟨fun s => Rep.cut (AVR hbe s) (hf3.env.1 s), hf3.env.2⟩, hf3.size, hf3.defers⟩, mm.cut, (k4.trans m4).cut hg⟩
   | exit i => exact hk (.exit i) _ _ _ _ _ _ _ m1 m2 m3 mm (k4.trans m4)
   | ret => exact hk .ret _ _ _ _ _ _ _ m1 m2 m3 mm (k4.trans m4)
   | pan u => exact hk (.pan u) _ _ _ _ _ _ _ m1 m2 m3 mm (k4.trans m4)
  | _ => simp [trC] at ht
 | exit id =>
  intro code hrf ht Q e H β F w a QQ B D D0 h hs hf hm hB hk
  rw [er] at ht
  cases code with
  | region id ops d =>
   cases d
   ·exact (AIj ht (by simp) (by simp)).elim
   ·exact (AIl ht (by simp) (by simp) (by simp)).elim
  | seq x y => simp only [trC] at ht; split at ht <;> simp at ht
  | cond c x y => simp only [trC] at ht; split at ht <;> simp at ht
  | rangeFunc f ps x y => simp only [trC] at ht; split at ht <;> (try split at ht) <;> simp at ht
  | exit id' =>
   simp only [trC, Option.some.injEq, AE9.exit.injEq] at ht; subst ht
   exact wpIn_exit (hk (.exit _) _ _ _ _ _ _ _ h hs hf hm (AFr.refl _ _))
  | _ => simp [trC] at ht
 | ret =>
  intro code hrf ht Q e H β F w a QQ B D D0 h hs hf hm hB hk
  rw [er] at ht
  cases code with
  | region id ops d =>
   cases d
   ·exact (AIj ht (by simp) (by simp)).elim
   ·exact (AIl ht (by simp) (by simp) (by simp)).elim
  | seq x y => simp only [trC] at ht; split at ht <;> simp at ht
  | cond c x y => simp only [trC] at ht; split at ht <;> simp at ht
  | rangeFunc f ps x y => simp only [trC] at ht; split at ht <;> (try split at ht) <;> simp at ht
  | ret => exact wpIn_ret (hk .ret _ _ _ _ _ _ _ h hs hf hm (AFr.refl _ _))
  | _ => simp [trC] at ht
 | dead =>
  intro code hrf ht Q e H β F w a QQ B D D0 h
  rw [vwp] at h; exact h.elim
 | scope x ih =>
  intro code hrf ht Q e H β F w a QQ B D D0 h hs hf hm hB hk
  rw [er] at ht
  cases code with
  | region id ops d =>
   cases d
   ·exact (AIj ht (by simp) (by simp)).elim
   ·exact (AIl ht (by simp) (by simp) (by simp)).elim
  | seq x y => simp only [trC] at ht; split at ht <;> simp at ht
  | cond c x y => simp only [trC] at ht; split at ht <;> simp at ht
  | rangeFunc f ps x y => simp only [trC] at ht; split at ht <;> (try split at ht) <;> simp at ht
  | scope c =>
   simp only [trC, Option.map_eq_some_iff, AE9.scope.injEq] at ht
   obtain ⟨vx, hx, rfl⟩ := ht
   rw [vwp] at h
   refine A1M (ih hrf hx h hs hf hm hB ?_)
   intro x e' H' β' F' w' a' D' k1 k2 k3 km k4
   cases x with
   | nor => exact hk .nor _ _ _ _ _ _ _ k1 k2 k3 km k4
   | exit i => exact hk (.exit i) _ _ _ _ _ _ _ k1 k2 k3 km k4
   | ret => exact hk .ret _ _ _ _ _ _ _ k1 k2 k3 km k4
   | pan u => exact hk (.pan u) _ _ _ _ _ _ _ k1 k2 k3 km k4
  | _ => simp [trC] at ht
 | own s k x ih =>
  intro code hrf ht Q e H β F w a QQ B D D0 h hs hf hm hB hk
  rw [er] at ht
  rw [vwp] at h
  split at h
  ·rename_i hg
   obtain ⟨k1, k2, k3⟩ := hs.own k
   have hv : a.tmps.getD s undef = .slice none 0 0 := by
    have := hf.env.1 s; rw [hg, Rep.val] at this; exact this
   refine ih hrf ht h k1 ⟨⟨fun s' => ?_, k1.glob⟩, hf.size, hf.defers⟩ (hm.later k2) hB fun x' e' H' β' F' w' a' D' m1 m2 m3 mm m4 => hk x' e' H' β' F' w' a' D' m1 m2 m3 mm (k2.trans m4)
   rw [AF5]
   by_cases hss : s = s'
   ·subst hss; rw [if_pos rfl, hv]; exact Rep.of1 k3 (by simp) (by simp)
   ·rw [if_neg hss]; exact Rep.mono (k2.mono hs) (hf.env.1 s')
  ·exact ih hrf ht h hs hf hm hB hk
 | ownB s p k x ih =>
  intro code hrf ht Q e H β F w a QQ B D D0 h hs hf hm hB hk
  rw [er] at ht
  rw [vwp] at h
  split at h
  ·rename_i id ver p0 hg
   split at h
   ·rename_i v y hid
    obtain ⟨rfl, h⟩ := h
    split at h
    ·rename_i hgp
     split at h
     ·rename_i x' hsp
      obtain ⟨k1, k2, k3⟩ := hs.own k
      have hlt : id < H.length := (List.getElem?_eq_some_iff.1 hid).1
      have hid' : (H ++ [Ob.obj 0 (.arr 0 k [])])[id]? = some (.obj v y) := by rw [List.getElem?_append_left hlt]; exact hid
      obtain ⟨q1, q2⟩ := k1.turn (o' := .obj v x') (w' := w) (β' := upd β H.length 0 none) hid' rfl rfl (Nat.le_refl _) (fun _ _ _ => rfl) (fun b off e => .inl ⟨off, e⟩) rfl rfl rfl (Nat.le_refl _) (fun _ _ => rfl) (fun _ _ _ => rfl) (fun hm => by
       rcases k1.ob id _ hid' with ⟨r0, r1⟩ | ⟨b, off, pre, vs, post, t, fr, r0, r1, r2, r3, r4⟩
       ·refine .inl ⟨r0, ?_⟩
        exact AFf.mono hm (AVr r1 hgp (fun m hm' => by rw [AFf] at hm'; rw [hm'.1]; exact k3) hsp)
       ·refine .inr ⟨b, off, pre, vs, post, t, fr, r0, r1, r2, r3, ?_⟩
        exact AFf.mono hm (AVr r4 hgp (fun m hm' => by rw [AFf] at hm'; rw [hm'.1]; exact k3) hsp))
      rw [List.set_append_left _ _ hlt] at q1 q2
      exact ih hrf ht h q1 ⟨⟨fun s' => Rep.mono (q2.mono k1) (Rep.mono (k2.mono hs) (hf.env.1 s')), q1.glob⟩, hf.size, hf.defers⟩ (hm.later (k2.trans q2)) hB fun x' e' H' β' F' w' a' D' m1 m2 m3 mm m4 => hk x' e' H' β' F' w' a' D' m1 m2 m3 mm ((k2.trans q2).trans m4)
     ·exact h.elim
    ·exact ih hrf ht h hs hf hm hB hk
   ·exact h.elim
  ·exact h.elim
 | frz s x ih =>
  intro code hrf ht Q e H β F w a QQ B D D0 h hs hf hm hB hk
  rw [er] at ht
  rw [vwp] at h
  split at h
  ·rename_i k id ver p off n cp hg
   split at h
   ·rename_i v y hid
    obtain ⟨rfl, h⟩ := h
    split at h
    ·rename_i cs hcs
     obtain ⟨k1, k2⟩ := hs.freeze hid rfl
     have hr : Rep ⟨β, H, F⟩ w (get e s) (a.tmps.getD s undef) := hf.env.1 s
     rw [hg] at hr
     have hr' : Rep ⟨β, H.set id (.gone v), fun b => F b ∨ ∃ off, β id v = some (b, off)⟩ w (.sl k cs) (a.tmps.getD s undef) := by
      rcases hr with (hr | hr | ⟨us, hr, hr2⟩) | ⟨xs, vs, hr, _⟩
      ·cases hr
      ·cases hr
      ·exact .inl (.inr (.inr ⟨us, hs.give hid hcs hr, by rw [hr2]; rfl⟩))
      ·cases hr
     refine ih hrf ht h k1 ⟨⟨fun s' => ?_, k1.glob⟩, hf.size, hf.defers⟩ (hm.later k2) hB fun x' e' H' β' F' w' a' D' m1 m2 m3 mm m4 => hk x' e' H' β' F' w' a' D' m1 m2 m3 mm (k2.trans m4)
     rw [AF5]
     by_cases hss : s = s'
     ·subst hss; rw [if_pos rfl]; exact hr'
     ·rw [if_neg hss]; exact Rep.mono (k2.mono hs) (hf.env.1 s')
    ·exact h.elim
   ·exact h.elim
  ·exact h.elim
 | ownT s p t x ih =>
  intro code hrf ht Q e H β F w a QQ B D D0 h hs hf hm hB hk
  rw [er] at ht
  rw [vwp] at h
  split at h
  ·rename_i id ver p0 hg
   split at h
   ·rename_i v y hid
    obtain ⟨rfl, h⟩ := h
    split at h
    ·rename_i hgp
     split at h
     ·rename_i x' hsp
      obtain ⟨k1, k2, k3⟩ := hs.ownBld t
      have hlt : id < H.length := (List.getElem?_eq_some_iff.1 hid).1
      have hid' : (H ++ [Ob.bld 0 t []])[id]? = some (.obj v y) := by rw [List.getElem?_append_left hlt]; exact hid
      obtain ⟨q1, q2⟩ := k1.turn (o' := .obj v x') (w' := w) (β' := upd β H.length 0 none) hid' rfl rfl (Nat.le_refl _) (fun _ _ _ => rfl) (fun b off e => .inl ⟨off, e⟩) rfl rfl rfl (Nat.le_refl _) (fun _ _ => rfl) (fun _ _ _ => rfl) (fun hm => by
       rcases k1.ob id _ hid' with ⟨r0, r1⟩ | ⟨b, off, pre, vs, post, t, fr, r0, r1, r2, r3, r4⟩
       ·refine .inl ⟨r0, ?_⟩
        exact AFf.mono hm (AVr r1 hgp (fun m hm' => by rw [AFf] at hm'; rw [hm'.1]; exact k3) hsp)
       ·refine .inr ⟨b, off, pre, vs, post, t, fr, r0, r1, r2, r3, ?_⟩
        exact AFf.mono hm (AVr r4 hgp (fun m hm' => by rw [AFf] at hm'; rw [hm'.1]; exact k3) hsp))
      rw [List.set_append_left _ _ hlt] at q1 q2
      exact ih hrf ht h q1 ⟨⟨fun s' => Rep.mono (q2.mono k1) (Rep.mono (k2.mono hs) (hf.env.1 s')), q1.glob⟩, hf.size, hf.defers⟩ (hm.later (k2.trans q2)) hB fun x' e' H' β' F' w' a' D' m1 m2 m3 mm m4 => hk x' e' H' β' F' w' a' D' m1 m2 m3 mm ((k2.trans q2).trans m4)
     ·exact h.elim
    ·exact ih hrf ht h hs hf hm hB hk
   ·exact h.elim
  ·exact h.elim
 | rfunc g0 ps aS bd iha ihb =>
  intro code hrf ht Q e H β F w a QQ B D D0 h hs hf hm hB hk
  obtain rfl : ro = none := hrf.resolve_right (by simp [AXF])
  rw [er] at ht
  cases code with
  | region id ops d =>
   cases d
   ·exact (AIj ht (by simp) (by simp)).elim
   ·exact (AIl ht (by simp) (by simp) (by simp)).elim
  | seq x y => simp only [trC] at ht; split at ht <;> simp at ht
  | cond c x y => simp only [trC] at ht; split at ht <;> simp at ht
  | rangeFunc f0 ps0 ca cb =>
   simp only [trC] at ht
   split at ht
   ·rename_i hps
    split at ht
    ·rename_i va vb hca hcb
     simp only [Option.some.injEq, AE9.rfunc.injEq] at ht
     obtain ⟨rfl, rfl, rfl, rfl⟩ := ht
     rw [vwp] at h
     obtain ⟨-, -, h⟩ := h
     split at h
     ·rename_i g first caps hg
      obtain ⟨hgo, h⟩ := h
      have hr : Rep ⟨β, H, F⟩ w (.fn (.func g) first caps) (a.eval f0) := hf.env.rep (x := f0) hg
      have h1 := hr.inv1 (by simp) (by simp) (by simp) (by simp) (by simp)
      rw [AFf] at h1
      obtain ⟨us, vs, hv1, hfi, hc⟩ := h1
      have hv' : a.eval f0 = .func (.func g) us.toArray vs.toArray := by simpa using hv1
      refine AXz hs hf hm hB hv' hgo hfi hc (fun fn => h N fn ca cb ⟨hca, hcb, hps⟩) hk
     ·rename_i g xs ys hg
      obtain ⟨hxy, hgo, h⟩ := h
      rw [Bool.and_eq_true, Array.isEmpty_iff, Array.isEmpty_iff] at hxy
      obtain ⟨rfl, rfl⟩ := hxy
      have hv' : a.eval f0 = .func (.func g) #[] #[] := hf.env.val hg
      refine AXz (us := []) (vs := []) (first := []) (caps := []) hs hf hm hB hv' hgo (by rw [AFO]) (by rw [AFO]) (fun fn => by simpa using h N fn ca cb ⟨hca, hcb, hps⟩) hk
     ·exact h.elim
    ·cases ht
   ·cases ht
  | _ => simp [trC] at ht
end sound
end Go.Proofs.YtliaddbbmnfioaaGreatDoor


namespace Go.Proofs.YtliaddbbmnfioaaGreatDoor
open Go.RowKit
variable [AFq]
set_option linter.unusedSectionVars false
set_option linter.unusedSimpArgs false
set_option linter.unusedVariables false
set_option autoImplicit false

inductive VR where
 | tmp (t : Nat)
 | cell (a : Nat) (ag : Bool) (sz : Nat)
 deriving Inhabited
def trR (P : Program) : List ResultVar → Option (List VR)
 | [] => some []
 | .tmp t :: r => (trR P r).map (.tmp t :: ·)
 | .cell a t :: r => match AWM P t, ARR P t, trR P r with
  | some ag, some sz, some r => some (.cell a ag sz :: r)
  | _, _, _ => none

def A0W : List VR → Env → List Ob → (List TV → Prop) → Prop
 | [], e, H, K => K []
 | .tmp t :: r, e, H, K => A0W r e H fun xs => K (get e t :: xs)
 | .cell a ag sz :: r, e, H, K => pop (.load ag sz (.t a)) e H fun x => A0W r e H fun xs => K (x :: xs)
def res (r : List VR) (e : Env) (H : List Ob) (K : TV → Prop) : Prop := A0W r e H fun xs => match xs with
 | [x] => K x
 | xs => (∀ x ∈ xs, AGg x = false) ∧ K (.tup xs)

section
variable {P : Program}
def rv (a : Act) (r : ResultVar) : Sem Value := match r with
 | .tmp t => pure (a.tmps.getD t undef)
 | .cell x t => do loadVar t (← asAddr (a.tmps.getD x undef))

theorem AZB {c : Ctx} {w : World} {e : Env} {a : Act} (hs : Sim c w) (he : AFz c w e a) : ∀ {rs : List ResultVar} {vr : List VR} {K : List TV → Prop}, trR P rs = some vr → A0W vr e c.H K →
  ∃ (xs : List TV) (vs : List Value), (rs.mapM (rv a)).run P w = .ok vs w ∧ xs.length = vs.length ∧ (∀ (i : Nat) x v, xs[i]? = some x → vs[i]? = some v → Rep c w x v) ∧ K xs
 | [], vr, K, ht, h => by
  simp only [trR, Option.some.injEq] at ht; subst ht
  exact ⟨[], [], rfl, rfl, by simp, h⟩
 | .tmp t :: rs, vr, K, ht, h => by
  simp only [trR, Option.map_eq_some_iff] at ht
  obtain ⟨r, hr, rfl⟩ := ht
  rw [A0W] at h
  obtain ⟨xs, vs, h1, h2, h3, h4⟩ := AZB hs he hr h
  refine ⟨get e t :: xs, a.tmps.getD t undef :: vs, by rw [List.mapM_cons]; simp only [rv, Sem.run_bind, Sem.run_pure, Result.andThen_ok, h1], by simp [h2], ?_, h4⟩
  intro i x v hx hv
  cases i with
  | zero => simp at hx hv; subst hx; subst hv; simpa using he.1 t
  | succ i => exact h3 i x v (by simpa using hx) (by simpa using hv)
 | .cell b t :: rs, vr, K, ht, h => by
  simp only [trR] at ht
  split at ht
  ·rename_i ag sz r h1 h2 hr
   cases ht
   rw [A0W] at h
   have hy := A9o (P := P) (a := a) (ty := 0) hs he h1 h2 (x := .tmp b) h
   obtain ⟨x, v, hrun, hx, hK⟩ := hy ⟨none, .load t (.tmp b), 0, "", #[], none⟩ rfl rfl
   have hload : (do loadVar t (← asAddr (a.tmps.getD b undef)) : Sem Value).run P w = .ok v w := by
    simp only [execOp, Instr.loadAt, Sem.run_bind, Act.eval] at hrun
    simp only [Sem.run_bind]
    cases hp : a.tmps.getD b undef with
    | pointer p =>
     rw [hp] at hrun
     cases p with
     | none => simp [Instr.sureAddr, stuck] at hrun
     | some ad =>
      simp only [Instr.sureAddr, Sem.run_pure, Result.andThen_ok, asAddr] at hrun ⊢
      cases hl : (loadVar t ad).run P w with
      | ok u w2 => rw [hl] at hrun; simp only [Result.andThen_ok, Sem.run_pure] at hrun; cases hrun; rfl
      | halt hh w2 => rw [hl] at hrun; simp at hrun
    | _ => rw [hp] at hrun; simp [Instr.sureAddr, stuck] at hrun
   obtain ⟨xs, vs, h3, h4, h5, h6⟩ := AZB hs he hr hK
   refine ⟨x :: xs, v :: vs, by rw [List.mapM_cons, Sem.run_bind]; show Result.andThen ((rv a (.cell b t)).run P w) _ = _; rw [show (rv a (.cell b t)).run P w = .ok v w from hload]; simp only [Result.andThen_ok, Sem.run_bind, h3, Sem.run_pure], by simp [h4], ?_, h6⟩
   intro i y u hy hu
   cases i with
   | zero => simp at hy hu; subst hy; subst hu; exact hx
   | succ i => exact h5 i y u (by simpa using hy) (by simpa using hu)
  ·cases ht

theorem BbB {c : Ctx} {w : World} {e : Env} {a : Act} (hs : Sim c w) (he : AFz c w e a) {fn : Func} {vr : List VR} {K : TV → Prop} (ht : trR P fn.results.toList = some vr) (h : res vr e c.H K) :
  ∃ x v, (results fn a.tmps).run P w = .ok v w ∧ Rep c w x v ∧ K x := by
 obtain ⟨xs, vs, h1, h2, h3, h4⟩ := AZB hs he ht h
 have hrun : (fn.results.mapM (rv a)).run P w = .ok vs.toArray w := by
  rw [Array.mapM_eq_mapM_toList]
  simp only [Sem.run_map, h1, Result.andThen_ok]
 have hres : (results fn a.tmps).run P w = .ok (if h : vs.toArray.size = 1 then vs.toArray[0] else .tuple vs.toArray) w := by
  have : results fn a.tmps = (do let vs ← fn.results.mapM (rv a); pure (if h : vs.size = 1 then vs[0] else .tuple vs)) := rfl
  rw [this, Sem.run_bind, hrun]; rfl
 rcases xs with _ | ⟨x, _ | ⟨y, xs⟩⟩
 ·have hv : vs = [] := List.length_eq_zero_iff.1 (by simpa using h2.symm)
  subst hv
  exact ⟨_, _, hres, .inr ⟨[], [], rfl, rfl, by rw [AFO]⟩, h4.2⟩
 ·obtain ⟨v, rfl⟩ := List.length_eq_one_iff.1 (by simpa using h2.symm)
  exact ⟨_, _, hres, h3 0 x v rfl rfl, h4⟩
 ·rcases vs with _ | ⟨u, _ | ⟨v, vs⟩⟩
  ·simp at h2
  ·simp at h2
  ·refine ⟨_, _, hres, .inr ⟨_, u :: v :: vs, rfl, by simp, ?_⟩, h4.2⟩
   have key : ∀ (xs : List TV) (vs : List Value), xs.length = vs.length → (∀ x ∈ xs, AGg x = false) → (∀ (i : Nat) x v, xs[i]? = some x → vs[i]? = some v → Rep c w x v) → AFO c w xs vs := by
    intro xs
    induction xs with
    | nil => intro vs h _ _; rw [AFO]; exact List.length_eq_zero_iff.1 h.symm
    | cons x xs ih =>
     intro vs hl ht hr
     cases vs with
     | nil => simp at hl
     | cons v vs =>
      refine AFO.cons.2 ⟨v, vs, rfl, ?_, ih vs (by simpa using hl) (fun y hy => ht y (by simp [hy])) fun i y u hy hu => hr (i + 1) y u (by simpa using hy) (by simpa using hu)⟩
      rcases hr 0 x v rfl rfl with h | ⟨ys, us, rfl, _⟩
      ·exact h
      ·have := ht (.tup ys) (by simp); simp [AGg] at this
   exact key _ _ h2 h4.1 h3

def AZF : Nat → List TV → Env
 | _, [] => []
 | i, x :: xs => (i, x) :: AZF (i + 1) xs
theorem A0u : ∀ (xs : List TV) (i s : Nat), get (AZF i xs) s = if i ≤ s then (xs[s - i]?).getD .any else .any
 | [], i, s => by simp [AZF, get]
 | x :: xs, i, s => by
  rw [AZF, AF5, A0u xs (i + 1) s]
  by_cases h : i = s
  ·subst h; simp
  ·rw [if_neg h]
   by_cases h2 : i ≤ s
   ·rw [if_pos (by omega), if_pos h2, show s - i = (s - (i + 1)) + 1 from by omega, List.getElem?_cons_succ]
   ·rw [if_neg (by omega), if_neg h2]

theorem AFO.get {c : Ctx} {w : World} : ∀ {xs : List TV} {vs : List Value}, AFO c w xs vs → xs.length = vs.length ∧ ∀ (i : Nat) x, xs[i]? = some x → ∃ v, vs[i]? = some v ∧ Rep c w x v
 | [], vs, h => by rw [AFO] at h; subst h; simp
 | x :: xs, vs, h => by
  obtain ⟨u, us, rfl, h1, h2⟩ := AFO.cons.1 h
  obtain ⟨h3, h4⟩ := AFO.get h2
  refine ⟨by simp [h3], fun i y hy => ?_⟩
  cases i with
  | zero => simp at hy; subst hy; exact ⟨u, rfl, .inl h1⟩
  | succ i => simpa using h4 i y (by simpa using hy)
def A27 (vr : List VR) (R : TV → List Ob → Prop) : VEx → Env → List Ob → Prop
 | .nor, e, H => res vr e H fun x => R x H
 | .ret, e, H => res vr e H fun x => R x H
 | .exit _, _, _ => False
 | .pan _, _, _ => False
theorem Sim.nobody {c : Ctx} {w : World} (hs : Sim c w) {r : Nat} {o o' : Obj} (hr : w.heap[r]? = some o) (h1 : ¬ c.own r) (h2 : ¬ c.F r) (hsh : (w.putObj r o').shape? r = w.shape? r) : Sim c (w.putObj r o') ∧ AK4 c w c (w.putObj r o') := by
 have hoth : ∀ b, b ≠ r → (w.putObj r o').heap[b]? = w.heap[b]? := fun b hb => World.putObj_heap_other hb
 have hm : AK4 c w c (w.putObj r o') := ⟨fun b hb => ⟨hb, hoth b fun e => h2 (e ▸ hb)⟩, fun _ _ h => ⟨h, rfl⟩, fun b _ => by
  by_cases hb : b = r
  ·subst hb; exact hsh
  ·exact AFS (hoth b hb)⟩
 refine ⟨⟨fun id ob ho => AZ4.mono hm (Ctx.has_of ho) (fun hl b off hb => hoth b fun e => h1 (e ▸ Ctx.own_of ho hl hb)) (hs.ob id ob ho), hs.inj, hs.apart, fun b hb => ?_, hs.glob.keep hm.stay⟩, hm⟩
 rw [(ASp w r o').2.2.2]; exact hs.lt b hb
theorem AFr.nobody {c0 c : Ctx} {w0 w : World} (h : AFr c0 w0 c w) {r : Nat} {o' : Obj} (hr : w0.heap.size ≤ r) : AFr c0 w0 c (w.putObj r o') :=
 ⟨h.os, h.tape, h.output, by rw [(ASp w r o').2.2.2]; exact h.size, h.has, fun b hb => (AFS (World.putObj_heap_other (by omega))).trans (h.shape b hb), fun b hb ho => (World.putObj_heap_other (by omega)).trans (h.same b hb ho), h.keepF, h.oldF, h.oldOwn⟩
theorem ARe.shut {D0 : List Deferred} {u : FrameMode} (hu : u ≠ .run) {FF : Fence} {n : Nat} {fn : Func} {tmps : Array Value} {R : Ending → World → Prop} {B : Nat} {c : Ctx} : ∀ {D : List Deferred} {w : World}, ARe D0 B c w D → Sim c w →
  ∃ wF, (LeavesInM FF n P fn tmps R D0 u wF → LeavesInM FF n P fn tmps R D u w) ∧ Sim c wF ∧ AK4 c w c wF ∧ ∀ (c0 : Ctx) (w0 : World), w0.heap.size ≤ B → AFr c0 w0 c w → AFr c0 w0 c wF := by
 rintro D w ⟨ds, rfl, hnd, hds⟩ hs
 induction ds generalizing w with
 | nil => exact ⟨w, fun h => h, hs, AK4.heap rfl, fun c0 w0 _ h => h⟩
 | cons r ds ih =>
  obtain ⟨k1, k2, k3, k4, k5⟩ := hds r (by simp)
  rw [List.nodup_cons] at hnd
  have hput := World.putObj_heap_same (w := w) (o := .deferred none) k2
  obtain ⟨s1, s2⟩ := hs.nobody (o' := .deferred none) k5 k3 k4 (by simp [World.shape?, hput, k5])
  obtain ⟨wF, e1, e2, e3, e4⟩ := ih (w := w.putObj r (.deferred none)) hnd.2 (fun q hq => by
   obtain ⟨q1, q2, q3, q4, q5⟩ := hds q (by simp [hq])
   have hne : q ≠ r := fun e => hnd.1 (e ▸ hq)
   exact ⟨q1, by rw [(ASp w r _).2.2.2]; exact q2, q3, q4, (World.putObj_heap_other hne).trans q5⟩) s1
  refine ⟨wF, fun h => ⟨hu, .inl ⟨r, _, rfl, run_takeDeferred k5, e1 h⟩⟩, e2, ⟨fun b hb => ⟨hb, ((e3.stay b hb).2).trans (s2.stay b hb).2⟩, fun _ _ h => ⟨h, rfl⟩, fun b hb => (e3.shape b (by rw [(ASp w r _).2.2.2]; exact hb)).trans (s2.shape b hb)⟩, fun c0 w0 hB hl => e4 c0 w0 hB (hl.nobody (by omega))⟩
theorem A5W {f : FuncId} {fn : Func} {vc : AE9} {vr : List VR} {args : List TV} {H : List Ob} {R : TV → List Ob → Prop} (hf : P.funcs[f]? = some fn) (ht : fn.body.bind (trC P fn.ntmps) = some (er vc)) (hr : trR P fn.results.toList = some vr)
  (hn : args.length ≤ fn.ntmps) (h : vwp P vc (A27 vr R) (AZF 0 args) H) : AFl P f args H R := by
 obtain ⟨code, hb, ht⟩ := Option.bind_eq_some_iff.1 ht
 intro β F w vs hs hv
 obtain ⟨hl, hget⟩ := AFO.get hv
 refine (callsIn_wide (n := 0)).1 (callsIn_of_wp_marks hf hb trivial ?_)
 refine A43 (ro := none) (nn := 0) (B := w.heap.size) (D := []) (D0 := []) vc (.inl rfl) ht h hs ⟨⟨fun s => ?_, hs.glob⟩, by simp; omega, rfl⟩ ARe.nil (Nat.le_refl _) ?_
 ·rw [A0u]
  simp only [Nat.zero_le, if_true, Nat.sub_zero]
  cases hx : args[s]? with
  | none => exact Rep.any
  | some x =>
   obtain ⟨v, hv1, hv2⟩ := hget s x hx
   have hs' : s < vs.length := (List.getElem?_eq_some_iff.1 hv1).1
   have : ((vs.toArray ++ Array.replicate (fn.ntmps - vs.toArray.size) undef).getD s undef) = v := by
    rw [Array.getD_eq_getD_getElem?, Array.getElem?_append_left (by simpa using hs')]
    simp [hv1]
   rw [this]; exact hv2
 ·intro x e' H' β' F' w' a' D' k1 k2 k3 km k4
  have fin : res vr e' H' (fun x => R x H') → LeavesInM Fence.wide 0 P fn a'.tmps (fun e w' => ∃ v x β' H' F', e = .returned v ∧ R x H' ∧ Sim ⟨β', H', F'⟩ w' ∧ AFr ⟨β, H, F⟩ w ⟨β', H', F'⟩ w' ∧ Rep ⟨β', H', F'⟩ w' x v) a'.defers .returning w' := fun h => by
   rw [k3.defers]
   obtain ⟨wF, e1, e2, e3, e4⟩ := ARe.shut (D0 := []) (u := .returning) (by simp) (P := P) (FF := Fence.wide) (n := 0) (fn := fn) (tmps := a'.tmps) (R := fun e w' => ∃ v x β' H' F', e = .returned v ∧ R x H' ∧ Sim ⟨β', H', F'⟩ w' ∧ AFr ⟨β, H, F⟩ w ⟨β', H', F'⟩ w' ∧ Rep ⟨β', H', F'⟩ w' x v) km k2
   obtain ⟨y, v, r1, r2, r3⟩ := BbB (fn := fn) (a := a') e2 ⟨fun s => Rep.mono e3 (k3.env.1 s), e2.glob⟩ hr h
   exact e1 ⟨v, r1, v, y, β', H', F', rfl, r3, e2, e4 _ _ (Nat.le_refl _) k4, r2⟩
  cases x with
  | nor => exact fin k1
  | ret => exact fin k1
  | exit i => exact k1.elim
  | pan u => exact k1.elim
def A36 (vr : List VR) (R : TV → List Ob → Prop) (RP : Value → List Ob → Prop) : VEx → Env → List Ob → Prop
 | .nor, e, H => res vr e H fun x => R x H
 | .ret, e, H => res vr e H fun x => R x H
 | .exit _, _, _ => False
 | .pan u, _, H => RP u H
structure AQH (F : Nat → Prop) (w : World) (F' : Nat → Prop) (w' : World) : Prop where
 os : w'.os = w.os
 tape : w'.tape = w.tape
 output : w'.output = w.output
 size : w.heap.size ≤ w'.heap.size
 same : ∀ b, b < w.heap.size → w'.heap[b]? = w.heap[b]?
 keepF : ∀ b, F b → F' b
 oldF : ∀ b, b < w.heap.size → F' b → F b
 ltF : ∀ b, F' b → b < w'.heap.size
def AF9 (P : Program) (f : FuncId) (args : List TV) (R : TV → Prop) : Prop :=
 ∀ (β : Nat → Nat → Option (Nat × Nat)) (F : Nat → Prop) (w : World) (vs : List Value), ((∀ b, F b → b < w.heap.size) ∧ AMl F w) → AFO ⟨β, [], F⟩ w args vs →
  Calls P f vs.toArray w fun e w' => ∃ v x F', e = .returned v ∧ R x ∧ Rep ⟨β, [], F'⟩ w' x v ∧ AQH F w F' w'

theorem AF9.mono {f : FuncId} {args : List TV} {R R' : TV → Prop} (h : AF9 P f args R) (hr : ∀ x, R x → R' x) : AF9 P f args R' :=
 fun β F w vs hF hv => (h β F w vs hF hv).mono fun _ _ ⟨v, x, F', h1, h2, h3⟩ => ⟨v, x, F', h1, hr _ h2, h3⟩

theorem AFl.toPure {f : FuncId} {args : List TV} {R : TV → Prop} (h : AFl P f args [] fun x H' => match frz H' x with | some y => R y | none => False) : AF9 P f args R := by
 intro β F w vs hF hv
 have hs : Sim ⟨β, [], F⟩ w := ⟨fun id o ho => by simp at ho, fun i j x y b o o' hx => by simp at hx, fun b hb => by obtain ⟨i, o, off, h1, _⟩ := hb; simp at h1, hF.1, hF.2⟩
 refine (h β F w vs hs hv).mono ?_
 rintro _ w' ⟨v, x, β', H', F', rfl, hR, hs', hl, hx⟩
 split at hR
 ·rename_i y hy
  have hno : ∀ b, ¬ Ctx.own ⟨β, [], F⟩ b := fun b hb => by obtain ⟨i, o, off, h1, _⟩ := hb; simp at h1
  have hr := A9U hs' hy hx
  refine ⟨v, y, fun b => F' b ∨ Ctx.own ⟨β', H', F'⟩ b, rfl, hR, Rep.mono (AK4.toBare [] β) hr, ⟨hl.os, hl.tape, hl.output, hl.size, fun b hb => hl.same b hb (hno b), fun b hb => .inl (hl.keepF b hb), fun b hb hF' => ?_, fun b hF' => hF'.elim (hs'.lt b) hs'.own_lt⟩⟩
  rcases hF' with hF' | hF'
  ·exact (hl.oldF b hb hF').resolve_right (hno b)
  ·exact absurd (hl.oldOwn b hb hF') (hno b)
 ·exact hR.elim

theorem AQH.later {β : Nat → Nat → Option (Nat × Nat)} {H : List Ob} {F F' : Nat → Prop} {w w' : World} (h : AQH F w F' w') : AFr ⟨β, H, F⟩ w ⟨β, H, F'⟩ w' :=
 ⟨h.os, h.tape, h.output, h.size, fun id v ⟨o, h1, h2⟩ => ⟨⟨o, h1, h2⟩, rfl⟩, fun b hb => AFS (h.same b hb), fun b hb _ => h.same b hb, h.keepF, fun b hb hF => .inl (h.oldF b hb hF), fun b hb ⟨i, o, off, h1, h2, h3⟩ => ⟨i, o, off, h1, h2, h3⟩⟩
theorem AQH.sim {β : Nat → Nat → Option (Nat × Nat)} {H : List Ob} {F F' : Nat → Prop} {w w' : World} (hs : Sim ⟨β, H, F⟩ w) (h : AQH F w F' w') : Sim ⟨β, H, F'⟩ w' := by
 have hm : AK4 ⟨β, H, F⟩ w ⟨β, H, F'⟩ w' := ⟨fun b hb => ⟨h.keepF b hb, h.same b (hs.lt b hb)⟩, fun id v ⟨o, h1, h2⟩ => ⟨⟨o, h1, h2⟩, rfl⟩, fun b hb => AFS (h.same b hb)⟩
 refine ⟨fun id o ho => AZ4.mono hm ⟨o, ho, Nat.le_refl _⟩ (fun hl b off hb => h.same b (hs.own_lt ⟨id, o, off, ho, hl, hb⟩)) (hs.ob id o ho), hs.inj, fun b hb hF => ?_, h.ltF, hs.glob.keep hm.stay⟩
 obtain ⟨i, o, off, h1, h2, h3⟩ := hb
 have ho : Ctx.own ⟨β, H, F⟩ b := ⟨i, o, off, h1, h2, h3⟩
 exact hs.apart b ho (h.oldF b (hs.own_lt ho) hF)
theorem AF9.calls {f : FuncId} {args : List TV} {R : TV → Prop} {H : List Ob} {K : TV → List Ob → Prop} (h : AF9 P f args R) (hp : AGn args = true) (hk : ∀ x, R x → K x H) : AFl P f args H K := by
 intro β F w vs hs hv
 refine (h β F w vs ⟨hs.lt, hs.glob⟩ (AFO.pure hp hv)).mono ?_
 rintro _ w' ⟨v, x, F', rfl, hR, hx, hst⟩
 exact ⟨v, x, β, H, F', rfl, hk x hR, hst.sim hs, hst.later, Rep.mono (AK4.toBare H β) hx⟩
theorem AF9.lends {f : FuncId} {args args' : List TV} {R : TV → Prop} {H : List Ob} {K : TV → List Ob → Prop} (h : AF9 P f args' R) (hp : Bfb H args = some args') (hk : ∀ x, R x → A0V x = true ∧ K x H) : AFl P f args H K := by
 intro β F w vs hs hv
 refine (h β (fun b => F b ∨ Ctx.own ⟨β, H, F⟩ b) w vs ⟨fun b hb => hb.elim (hs.lt b) hs.own_lt, hs.glob.keep fun b hb => ⟨.inl hb, rfl⟩⟩ (A12 hs hp hv)).mono ?_
 rintro _ w' ⟨v, x, F', rfl, hR, hx, hst⟩
 obtain ⟨hsc, hK⟩ := hk x hR
 have hst' : AQH F w F w' := ⟨hst.os, hst.tape, hst.output, hst.size, hst.same, fun _ h => h, fun _ _ h => h, fun b hb => Nat.lt_of_lt_of_le (hs.lt b hb) hst.size⟩
 exact ⟨v, x, β, H, F, rfl, hK, hst'.sim hs, hst'.later, A7o hsc hx⟩

theorem AK4.ofF {β β' : Nat → Nat → Option (Nat × Nat)} {H : List Ob} {F F' : Nat → Prop} {w : World} (h : ∀ b, F b → F' b) : AK4 ⟨β, [], F⟩ w ⟨β', H, F'⟩ w :=
 ⟨fun b hb => ⟨h b hb, rfl⟩, fun id v h => by obtain ⟨o, h, _⟩ := h; simp at h, fun _ _ => rfl⟩
mutual
def frs (H : List Ob) : TV → Option TV
 | .val v => some (.val v)
 | .any => some .any
 | .os k id ver p off n cp => match H[id]? with
  | some (.obj v x) => if v = ver then (match AGC p k off n x with
   | some cs => if AKc cs then some (.sl k cs) else none
   | none => none) else none
  | _ => none
 | .agg cs => (A0X H cs).map .agg
 | .arr n k cs => if AKc cs then some (.arr n k cs) else none
 | .tup cs => (A0X H cs).map .tup
 | .ifc t x => (frs H x).map (.ifc t)
 | _ => none
def A0X (H : List Ob) : List TV → Option (List TV)
 | [] => some []
 | x :: xs => match frs H x, A0X H xs with
  | some x, some xs => some (x :: xs)
  | _, _ => none
end
def Ctx.mine (c : Ctx) : Ctx := ⟨c.β, [], c.own⟩

theorem AZz {p : List (Nat × Nat)} {k off : Nat} {x : TV} {cs : List TV} (h : AGC p k off 0 x = some cs) : cs = [] := by
 unfold AGC at h
 split at h
 ·split at h
  ·cases h; simp
  ·cases h
 ·cases h

mutual
theorem AZb {c : Ctx} {w : World} (hs : Sim c w) : ∀ {x x' : TV} {us : List Value}, frs c.H x = some x' → AFf c w x us → AFf c.mine w x' us
 | .val y, x', us, hf, hr => by simp only [frs, Option.some.injEq] at hf; subst hf; rw [AFf] at hr ⊢; exact hr
 | .any, x', us, hf, hr => by simp only [frs, Option.some.injEq] at hf; subst hf; rw [AFf] at hr ⊢; exact hr
 | .mp _ _, x', us, hf, hr => by simp [frs] at hf
 | .yl _ _, x', us, hf, hr => by simp [frs] at hf
 | .sl k cs, x', us, hf, hr => by simp [frs] at hf
 | .fp x, x', us, hf, hr => by simp [frs] at hf
 | .op id ver p, x', us, hf, hr => by simp [frs] at hf
 | .fn f a b, x', us, hf, hr => by simp [frs] at hf
 | .os k id ver p off n cp, x', us, hf, hr => by
  rw [AFf] at hr
  obtain ⟨hr1, hr2⟩ := hr
  rw [frs] at hf
  split at hf
  ·rename_i ver' x hid
   split at hf
   ·rename_i e; subst e
    split at hf
    ·rename_i cs hcs
     split at hf
     ·rename_i hsc
      cases hf
      rcases hr2 with ⟨rfl, a0, hr2, _⟩ | ⟨b0, o0, cap, t0, m0, hr2, hr3, hr4, hr5, hr6, hr7⟩
      ·have := AZz hcs
       subst this
       rw [AFf]
       exact ⟨by simp, .inl ⟨rfl, a0, 0, hr2, by omega⟩⟩
      rcases hs.ob id _ hid with ⟨h0, _⟩ | ⟨b, off', pre, vs, post, t, fr, h0, h1, h2, h3, h4⟩
      ·rw [h0] at hr2; cases hr2
      rw [h0] at hr2
      obtain ⟨rfl, rfl⟩ : b = b0 ∧ off' = o0 := by simpa using hr2
      obtain ⟨a, m, q, rfl, k1, k2, k3, k4⟩ := AOi h4 hcs
      rw [AFf]
      refine ⟨k3, .inr ⟨b, off' + AHO p + off * k, cap, m, by rw [k4]; exact hr3, by omega, hr5, ⟨id, _, off', hid, rfl, h0⟩, ANv hsc k2, ?_⟩⟩
      have e : off' + AHO p + off * k = pre.length + a.length := by rw [h3, k1]; omega
      rw [e]; exact ALk h1
     ·cases hf
    ·cases hf
   ·cases hf
  ·cases hf
 | .agg cs, x', us, hf, hr => by
  simp only [frs, Option.map_eq_some_iff] at hf
  obtain ⟨ds, hds, rfl⟩ := hf
  rw [AFf] at hr ⊢
  exact A0O hs hds hr
 | .arr n k cs, x', us, hf, hr => by
  rw [frs] at hf
  split at hf
  ·rename_i hsc; cases hf; rw [AFf] at hr ⊢; exact ⟨hr.1, hr.2.1, ANv hsc hr.2.2⟩
  ·cases hf
 | .tup cs, x', us, hf, hr => by rw [AFf] at hr; exact hr.elim
 | .ifc t x, x', us, hf, hr => by
  simp only [frs, Option.map_eq_some_iff] at hf
  obtain ⟨y, hy, rfl⟩ := hf
  rw [AFf] at hr ⊢
  obtain ⟨u, h1, vs, h2, h3⟩ := hr
  exact ⟨u, h1, vs, AZb hs hy h2, by rw [h3]; exact A01 hy vs⟩
theorem A0O {c : Ctx} {w : World} (hs : Sim c w) : ∀ {xs xs' : List TV} {us : List Value}, A0X c.H xs = some xs' → AFg c w xs us → AFg c.mine w xs' us
 | [], xs', us, hf, hr => by simp only [A0X, Option.some.injEq] at hf; subst hf; rw [AFg] at hr ⊢; exact hr
 | x :: xs, xs', us, hf, hr => by
  rw [A0X] at hf
  split at hf
  ·rename_i y ys hy hys
   cases hf
   rw [AFg] at hr ⊢
   obtain ⟨u, us, h1, h2, h3⟩ := hr
   exact ⟨u, us, h1, AZb hs hy h2, A0O hs hys h3⟩
  ·cases hf
theorem A01 {H : List Ob} : ∀ {x x' : TV} (hf : frs H x = some x') (us : List Value), mkV x us = mkV x' us
 | .val y, x', hf, us => by simp only [frs, Option.some.injEq] at hf; subst hf; rfl
 | .any, x', hf, us => by simp only [frs, Option.some.injEq] at hf; subst hf; rfl
 | .mp _ _, x', hf, us => by simp [frs] at hf
 | .yl _ _, x', hf, us => by simp [frs] at hf
 | .sl k cs, x', hf, us => by simp [frs] at hf
 | .fp x, x', hf, us => by simp [frs] at hf
 | .op id ver p, x', hf, us => by simp [frs] at hf
 | .fn f a b, x', hf, us => by simp [frs] at hf
 | .os k id ver p off n cp, x', hf, us => by
  rw [frs] at hf
  split at hf
  ·split at hf
   ·split at hf
    ·split at hf
     ·cases hf; rfl
     ·cases hf
    ·cases hf
   ·cases hf
  ·cases hf
 | .agg cs, x', hf, us => by
  simp only [frs, Option.map_eq_some_iff] at hf
  obtain ⟨ds, hds, rfl⟩ := hf; rfl
 | .arr n k cs, x', hf, us => by
  rw [frs] at hf
  split at hf
  ·cases hf; rfl
  ·cases hf
 | .tup cs, x', hf, us => by
  simp only [frs, Option.map_eq_some_iff] at hf
  obtain ⟨ds, hds, rfl⟩ := hf; rfl
 | .ifc t x, x', hf, us => by
  simp only [frs, Option.map_eq_some_iff] at hf
  obtain ⟨y, hy, rfl⟩ := hf; rfl
end
theorem A2f {c : Ctx} {w : World} (hs : Sim c w) : ∀ {xs xs' : List TV} {vs : List Value}, A0X c.H xs = some xs' → AFO c w xs vs → AFO c.mine w xs' vs
 | [], xs', vs, hf, hr => by simp only [A0X, Option.some.injEq] at hf; subst hf; rw [AFO] at hr ⊢; exact hr
 | x :: xs, xs', vs, hf, hr => by
  rw [A0X] at hf
  split at hf
  ·rename_i y ys hy hys
   cases hf
   rw [AFO] at hr ⊢
   obtain ⟨u, us, h1, h2, h3⟩ := hr
   refine ⟨u, us, h1, ?_, A2f hs hys h3⟩
   rcases h2 with rfl | rfl | ⟨aS, h2, h4⟩
   ·simp only [frs, Option.some.injEq] at hy; subst hy; exact .inl rfl
   ·simp only [frs, Option.some.injEq] at hy; subst hy; exact .inr (.inl rfl)
   ·exact .inr (.inr ⟨aS, AZb hs hy h2, by rw [h4]; exact A01 hy aS⟩)
  ·cases hf
theorem A7t {c : Ctx} {w : World} (hs : Sim c w) {x x' : TV} {v : Value} (hf : frs c.H x = some x') (hr : Rep c w x v) : Rep c.mine w x' v := by
 rcases hr with (h | h | ⟨us, h, h'⟩) | ⟨xs, vs, rfl, h2, h3⟩
 ·subst h; simp only [frs, Option.some.injEq] at hf; subst hf; exact Rep.any
 ·subst h; simp only [frs, Option.some.injEq] at hf; subst hf; exact Rep.of_val
 ·exact .inl (.inr (.inr ⟨us, AZb hs hf h, by rw [h']; exact A01 hf us⟩))
 ·simp only [frs, Option.map_eq_some_iff] at hf
  obtain ⟨ds, hds, rfl⟩ := hf
  exact .inr ⟨ds, vs, rfl, h2, A2f hs hds h3⟩
def ALr (P : Program) (f : FuncId) (args : List TV) (R : TV → Prop) : Prop :=
 ∀ (β : Nat → Nat → Option (Nat × Nat)) (F : Nat → Prop) (w : World) (vs : List Value), ((∀ b, F b → b < w.heap.size) ∧ AMl F w) → AFO ⟨β, [], F⟩ w args vs →
  Calls P f vs.toArray w fun e w' => ∃ v x F', e = .returned v ∧ R x ∧ Rep ⟨β, [], fun b => F' b ∧ w.heap.size ≤ b⟩ w' x v ∧ AQH F w F' w'

theorem ALr.mono {f : FuncId} {args : List TV} {R R' : TV → Prop} (h : ALr P f args R) (hr : ∀ x, R x → R' x) : ALr P f args R' :=
 fun β F w vs hF hv => (h β F w vs hF hv).mono fun _ _ ⟨v, x, F', h1, h2, h3⟩ => ⟨v, x, F', h1, hr _ h2, h3⟩
theorem ALr.pure {f : FuncId} {args : List TV} {R : TV → Prop} (h : ALr P f args R) : AF9 P f args R :=
 fun β F w vs hF hv => (h β F w vs hF hv).mono fun _ _ ⟨v, x, F', h1, h2, h3, h4⟩ => ⟨v, x, F', h1, h2, Rep.mono (AK4.ofF (F := fun b => F' b ∧ w.heap.size ≤ b) (F' := F') fun b hb => hb.1) h3, h4⟩

theorem AFl.toFresh {f : FuncId} {args : List TV} {R : TV → Prop} (h : AFl P f args [] fun x H' => match frs H' x with | some y => R y | none => False) : ALr P f args R := by
 intro β F w vs hF hv
 have hs : Sim ⟨β, [], F⟩ w := ⟨fun id o ho => by simp at ho, fun i j x y b o o' hx => by simp at hx, fun b hb => by obtain ⟨i, o, off, h1, _⟩ := hb; simp at h1, hF.1, hF.2⟩
 refine (h β F w vs hs hv).mono ?_
 rintro _ w' ⟨v, x, β', H', F', rfl, hR, hs', hl, hx⟩
 split at hR
 ·rename_i y hy
  have hno : ∀ b, ¬ Ctx.own ⟨β, [], F⟩ b := fun b hb => by obtain ⟨i, o, off, h1, _⟩ := hb; simp at h1
  have hr := A7t hs' hy hx
  have hnew : ∀ b, Ctx.own ⟨β', H', F'⟩ b → w.heap.size ≤ b := fun b hb => by
   rcases Nat.lt_or_ge b w.heap.size with h1 | h1
   ·exact absurd (hl.oldOwn b h1 hb) (hno b)
   ·exact h1
  refine ⟨v, y, fun b => F b ∨ Ctx.own ⟨β', H', F'⟩ b, rfl, hR, ?_, ⟨hl.os, hl.tape, hl.output, hl.size, fun b hb => hl.same b hb (hno b), fun b hb => .inl hb, fun b hb hF' => hF'.elim id fun h => ?_, fun b hF' => hF'.elim (fun h => Nat.lt_of_lt_of_le (hF.1 b h) hl.size) hs'.own_lt⟩⟩
  ·exact Rep.mono (AK4.ofF (F := Ctx.own ⟨β', H', F'⟩) (F' := fun b => (F b ∨ Ctx.own ⟨β', H', F'⟩ b) ∧ w.heap.size ≤ b) fun b hb => ⟨.inr hb, hnew b hb⟩) hr
  ·have := hnew b h; omega
 ·exact hR.elim
theorem ALr.lends {f : FuncId} {args args' : List TV} {R : TV → Prop} {H : List Ob} {K : TV → List Ob → Prop} (h : ALr P f args' R) (hp : Bfb H args = some args') (hk : ∀ x, R x → K x H) : AFl P f args H K := by
 intro β F w vs hs hv
 refine (h β (fun b => F b ∨ Ctx.own ⟨β, H, F⟩ b) w vs ⟨fun b hb => hb.elim (hs.lt b) hs.own_lt, hs.glob.keep fun b hb => ⟨.inl hb, rfl⟩⟩ (A12 hs hp hv)).mono ?_
 rintro _ w' ⟨v, x, F', rfl, hR, hx, hst⟩
 have hst' : AQH F w (fun b => F b ∨ (F' b ∧ w.heap.size ≤ b)) w' := ⟨hst.os, hst.tape, hst.output, hst.size, hst.same, fun _ h => .inl h, fun b hb h => h.elim id fun h => by omega, fun b hb => hb.elim (fun h => Nat.lt_of_lt_of_le (hs.lt b h) hst.size) fun h => hst.ltF b h.1⟩
 refine ⟨v, x, β, H, _, rfl, hk x hR, hst'.sim hs, hst'.later, Rep.mono (AK4.ofF (F := fun b => F' b ∧ w.heap.size ≤ b) (F' := fun b => F b ∨ (F' b ∧ w.heap.size ≤ b)) fun b hb => .inr hb) hx⟩
end
end Go.Proofs.YtliaddbbmnfioaaGreatDoor


namespace Go.Proofs.YtliaddbbmnfioaaGreatDoor
open Go.RowKit
variable [AFq]
set_option linter.unusedSectionVars false
set_option linter.unusedSimpArgs false
set_option linter.unusedVariables false
set_option autoImplicit false
theorem AE7 {α : Sort _} {a b : α} (h : a = b) : a = b := h
abbrev i64 (n : Int) : TV := .val (.int .i64 n)
abbrev tb (b : Bool) : TV := .val (.bool b)
abbrev ts (l : List UInt8) : TV := .val (.string (str l))
abbrev slB (l : List UInt8) : TV := .sl 1 (l.map by8)
abbrev slS (l : List (List UInt8)) : TV := .sl 1 (l.map ts)

section
variable {P : Program} {e : Env} {H : List Ob}
theorem Bia {c : Opd} {a : Opd} {b : Opd} {K : TV → Prop} : pop (.pick c a b) e H K = (match c.ev e with
  | .val (.bool t) => K (if t then a.ev e else b.ev e)
  | _ => False) := AE7 rfl
theorem BiK {x : Opd} {K : TV → Prop} : pop (.b2s x) e H K = (match AFZ H 1 (x.ev e) with
  | some cs => (∀ y ∈ cs, A3D y) ∧ K (.val (.string (str (cs.map AVO))))
  | none => False) := AE7 rfl
theorem BhP {ag : Bool} {sz : Nat} {x : Opd} {K : TV → Prop} : pop (.load ag sz x) e H K = (match x.ev e with
  | .fp y => AYH ag sz y ∧ K y
  | .op id ver p => (match H[id]? with
   | some (.obj v x) => v = ver ∧ (match ANU p x with | some y => AYH ag sz y ∧ K y | none => False)
   | _ => False)
  | _ => False) := AE7 rfl
theorem Bg4 {n : Nat} {k : Nat} {x : Opd} {i : Opd} {K : TV → Prop} : pop (.idxAA n k x i) e H K = (match x.ev e, i.ev e with
  | .fp (.arr n' k' cs), .val (.int _ j) => k' = k ∧ n' = n ∧ 0 ≤ j ∧ (match cs[j.toNat]? with | some y => K (.fp y) | none => False)
  | .op id ver p, .val (.int _ j) => 0 ≤ j ∧ j < n ∧ K (.op id ver (p ++ [(j.toNat, j.toNat * k)]))
  | _, _ => False) := AE7 rfl
theorem BhY {x : Opd} {K : TV → Prop} : pop (.lenV x) e H K = (match x.ev e with
  | .val (.slice _ n _) => K (.val (.int .i64 n))
  | .sl _ cs => K (.val (.int .i64 cs.length))
  | .os _ _ _ _ _ n _ => K (.val (.int .i64 n))
  | _ => False) := AE7 rfl
theorem Bg5 {k : Nat} {x : Opd} {lo : Option Opd} {hi : Option Opd} {K : TV → Prop} : pop (.slV k x lo hi) e H K = (match x.ev e with
  | .sl k' cs => k' = k ∧ bnd e lo hi cs.length cs.length fun l h => K (.sl k ((cs.drop l).take (h - l)))
  | .os k' id ver p off n cp => k' = k ∧ bnd e lo hi n cp fun l h => K (.os k id ver p (off + l) (h - l) (cp - l))
  | .val (.slice ad 0 0) => bnd e lo hi 0 0 fun l h => K (.val (.slice ad 0 0))
  | _ => False) := AE7 rfl
theorem Bgu {n : Nat} {k : Nat} {x : Opd} {lo : Option Opd} {hi : Option Opd} {K : TV → Prop} : pop (.slA n k x lo hi) e H K = (match x.ev e with
  | .fp (.arr n' k' cs) => k' = k ∧ n' = n ∧ n ≤ 9223372036854775807 ∧ bnd e lo hi n n fun l h => K (.sl k ((cs.drop l).take (h - l)))
  | .op id ver p => (match H[id]? with
   | some (.obj v x) => v = ver ∧ n ≤ 9223372036854775807 ∧ (match ANU p x with | some (.arr n' k' cs) => k' = k ∧ n' = n ∧ bnd e lo hi n n fun l h => K (.os k id ver p l (h - l) (n - l)) | _ => False)
   | _ => False)
  | _ => False) := AE7 rfl
theorem Bhf {f : Fn} {first : List Opd} {caps : List Opd} {K : TV → Prop} : pop (.mkf f first caps) e H K = ((∀ x ∈ first ++ caps, AGg (x.ev e) = false) ∧ K (.fn f (first.map (·.ev e)) (caps.map (·.ev e)))) := AE7 rfl
theorem Bik {x : Opd} {K : TV → Prop} : pop (.nilc x) e H K = (match x.ev e with
  | .op id ver p => K (.op id ver p)
  | .fp y => K (.fp y)
  | .fn (.func f) a b => K (.fn (.func f) a b)
  | .ifc t y => K (.ifc t y)
  | .val (.func (.func f) a b) => K (.val (.func (.func f) a b))
  | _ => False) := AE7 rfl
theorem A6R {k : Nat} {n : Nat} {z : TV} {ps : List (Nat × Opd)} {K : TV → List Ob → Prop} : sop P (.bslice k n z ps) e H K = ((AHC e (List.replicate n k) ps ∧ AFT e ps ∧ n ≤ 1000) ∧ K (.os k H.length 0 [] 0 n n) (H ++ [.obj 0 (.arr n k (AId e (List.replicate n z) ps))])) := AE7 rfl
theorem Bg6 {sz : Nat} {x : Opd} {v : Opd} {K : TV → List Ob → Prop} : sop P (.store sz x v) e H K = ((lays (v.ev e) = true ∧ AFo (v.ev e) = sz) ∧ (match x.ev e with
  | .op id ver p => (match H[id]? with
   | some (.obj vr y) => vr = ver ∧ (match ATJ p y (v.ev e) with | some y' => K .any (H.set id (.obj ver y')) | none => False)
   | _ => False)
  | _ => False)) := AE7 rfl
theorem BdO {f : FuncId} {args : List Opd} {K : TV → List Ob → Prop} : sop P (.call f args) e H K = ((∀ x ∈ args, AGg (x.ev e) = false) ∧ AFl P f (args.map (·.ev e)) H K) := AE7 rfl
theorem BaW {x : Opd} {args : List Opd} {K : TV → List Ob → Prop} : sop P (.callv x args) e H K = ((∀ x ∈ args, AGg (x.ev e) = false) ∧ (match x.ev e with
  | .fn (.func f) first caps => AWL P f = true ∧ AFl P f (first ++ args.map (·.ev e) ++ caps) H K
  | .val (.func (.func f) xs ys) => (xs.isEmpty && ys.isEmpty) = true ∧ AWL P f = true ∧ AFl P f (args.map (·.ev e)) H K
  | .yl id ver => AXR P id ver (args.map (·.ev e)) H K
  | _ => False)) := AE7 rfl
theorem Bds  {Q : VEx → Env → List Ob → Prop} : vwp P (.skip ) Q e H = (Q .nor e H) := AE7 rfl
theorem BiA {a : AE9} {b : AE9} {Q : VEx → Env → List Ob → Prop} : vwp P (.seq a b) Q e H = (vwp P a (fun x e H => match x with | .nor => vwp P b Q e H | .exit i => Q (.exit i) e H | .ret => Q .ret e H | .pan u => Q (.pan u) e H) e H) := AE7 rfl
theorem BcF {lv : List Nat} {c : AE9} {Q : VEx → Env → List Ob → Prop} {H0 : List Ob} : vwp P (.loop lv c) Q e H0 = (∃ (I : Nat → Env → List Ob → Prop) (n : Nat), I n (forget lv e) H0 ∧
   ∀ n e H, I n e H → vwp P c (fun x e H => match x with | .nor => ∃ m g, m < n ∧ (H0.length ≤ g ∧ (H.length ≤ g ∨ (AXV g (forget lv e) = true ∧ AXO g (H.take g) = true))) ∧ I m (forget lv e) (H.take g) | .exit i => Q (.exit i) e H | .ret => Q .ret e H | .pan u => Q (.pan u) e H) e H) := AE7 rfl
theorem Bdy {id : Nat} {Q : VEx → Env → List Ob → Prop} : vwp P (.exit id) Q e H = (Q (.exit id) e H) := AE7 rfl
theorem Bgi  {Q : VEx → Env → List Ob → Prop} : vwp P (.ret ) Q e H = (Q .ret e H) := AE7 rfl
theorem Ba5 {c : AE9} {Q : VEx → Env → List Ob → Prop} : vwp P (.scope c) Q e H = (vwp P c Q e H) := AE7 rfl
theorem Bir {s k : Nat} {c : AE9} {Q : VEx → Env → List Ob → Prop} : vwp P (.own s k c) Q e H = (match get e s with
  | .val (.slice none 0 0) => vwp P c Q ((s, .os k H.length 0 [] 0 0 0) :: e) (H ++ [.obj 0 (.arr 0 k [])])
  | _ => vwp P c Q e H) := AE7 rfl
theorem Bem {s k : Nat} {p : List (Nat × Nat)} {c : AE9} {Q : VEx → Env → List Ob → Prop} : vwp P (.ownB s p k c) Q e H = (match get e s with
  | .op id ver p0 => (match H[id]? with
   | some (.obj v x) => v = ver ∧ (match ANU (p0 ++ p) x with
    | some (.val (.slice none 0 0)) => (match ATJ (p0 ++ p) x (.os k H.length 0 [] 0 0 0) with
     | some x' => vwp P c Q e (H.set id (.obj ver x') ++ [.obj 0 (.arr 0 k [])])
     | none => False)
    | _ => vwp P c Q e H)
   | _ => False)
  | _ => False) := AE7 rfl
theorem BcG {s : Nat} {t : TypeId} {p : List (Nat × Nat)} {c : AE9} {Q : VEx → Env → List Ob → Prop} : vwp P (.ownT s p t c) Q e H = (match get e s with
  | .op id ver p0 => (match H[id]? with
   | some (.obj v x) => v = ver ∧ (match ANU (p0 ++ p) x with
    | some (.val (.slice none 0 0)) => (match ATJ (p0 ++ p) x (.os 1 H.length 0 [] 0 0 0) with
     | some x' => vwp P c Q e (H.set id (.obj ver x') ++ [.bld 0 t []])
     | none => False)
    | _ => vwp P c Q e H)
   | _ => False)
  | _ => False) := AE7 rfl
theorem A8u {K : Env → List Ob → Prop} : AXc P [] K e H = K e H := AE7 rfl
theorem BcT {d : Nat} {o : POp} {r : List VO} {K : Env → List Ob → Prop} : AXc P (⟨some d, .p o, none⟩ :: r) K e H = pop o e H fun x => AXc P r K ((d, x) :: e) H := AE7 rfl
theorem BcQ {d : Nat} {o : SOp} {r : List VO} {K : Env → List Ob → Prop} : AXc P (⟨some d, .s o, none⟩ :: r) K e H = sop P o e H fun x H => AXc P r K ((d, x) :: e) H := AE7 rfl
theorem A9Q {o : SOp} {r : List VO} {K : Env → List Ob → Prop} : AXc P (⟨none, .s o, none⟩ :: r) K e H = sop P o e H fun x H => AXc P r K e H := AE7 rfl
theorem Bek {d s : Nat} {o : VOp} {b : Bool} {r : List VO} {K : Env → List Ob → Prop} : AXc P (⟨some d, o, some (s, b)⟩ :: r) K e H = AX2 e s fun e q => match q with
 | some t => if t = b then vop P o e H (fun x H => AXc P r K ((d, x) :: e) H) else AXc P r K ((d, .val undef) :: e) H
 | none => AXc P r K ((d, .val undef) :: e) H := AE7 rfl
theorem BhB {o : POp} {K : TV → List Ob → Prop} : vop P (.p o) e H K = pop o e H fun x => K x H := AE7 rfl
theorem Bf1 {o : SOp} {K : TV → List Ob → Prop} : vop P (.s o) e H K = sop P o e H K := AE7 rfl
theorem BcC {K : Env → Prop} : vq P [] K e H = K e := AE7 rfl
theorem Bix {d : Nat} {o : POp} {r : List VO} {K : Env → Prop} : vq P (⟨some d, .p o, none⟩ :: r) K e H = pop o e H fun x => vq P r K ((d, x) :: e) H := AE7 rfl
theorem Bis {d : Nat} {f : FuncId} {args : List Opd} {r : List VO} {K : Env → Prop} : vq P (⟨some d, .s (.call f args), none⟩ :: r) K e H = ((∀ x ∈ args, AGg (x.ev e) = false) ∧ ∃ x, AFl P f (args.map (·.ev e)) H (fun y H' => y = x ∧ H' = H) ∧ vq P r K ((d, x) :: e) H) := AE7 rfl
theorem BaL {o : POp} {k : TV → Prop} : quiet P (.p o) e H k = pop o e H k := AE7 rfl
theorem Ba8 {f : FuncId} {args : List Opd} {k : TV → Prop} : quiet P (.s (.call f args)) e H k = ((∀ x ∈ args, AGg (x.ev e) = false) ∧ ∃ x, AFl P f (args.map (·.ev e)) H (fun y H' => y = x ∧ H' = H) ∧ k x) := AE7 rfl
variable {t : TypeId} {a b : Int} {k : IntKind}
theorem AJI {n : Int} (h1 : -9223372036854775808 ≤ n) (h2 : n ≤ 9223372036854775807) : IntKind.i64.wrap n = n := by rw [IntKind.wrap_i64]; omega
theorem Bg3 (h1 : -9223372036854775808 ≤ a + b) (h2 : a + b ≤ 9223372036854775807) : AHJ t .add (.int .i64 a) (.int .i64 b) = some (.int .i64 (a + b)) := by
 rw [show AHJ t .add (.int .i64 a) (.int .i64 b) = some (.int .i64 (IntKind.i64.wrap (a + b))) from rfl, AJI h1 h2]
theorem Bfw (h1 : -9223372036854775808 ≤ a - b) (h2 : a - b ≤ 9223372036854775807) : AHJ t .sub (.int .i64 a) (.int .i64 b) = some (.int .i64 (a - b)) := by
 rw [show AHJ t .sub (.int .i64 a) (.int .i64 b) = some (.int .i64 (IntKind.i64.wrap (a - b))) from rfl, AJI h1 h2]
theorem BhG (h1 : -9223372036854775808 ≤ a * b) (h2 : a * b ≤ 9223372036854775807) : AHJ t .mul (.int .i64 a) (.int .i64 b) = some (.int .i64 (a * b)) := by
 rw [show AHJ t .mul (.int .i64 a) (.int .i64 b) = some (.int .i64 (IntKind.i64.wrap (a * b))) from rfl, AJI h1 h2]
theorem BfP : AHJ t .eql (.int k a) (.int k b) = some (.bool (decide (a = b))) := by
 rw [show AHJ t .eql (.int k a) (.int k b) = some (.bool (a == b)) from by simp [AHJ, binOp, Op.intCmp]; rfl]; rfl
theorem Bhs : AHJ t .neq (.int k a) (.int k b) = some (.bool (!decide (a = b))) := by
 rw [show AHJ t .neq (.int k a) (.int k b) = some (.bool (a != b)) from by simp [AHJ, binOp, Op.intCmp]; rfl]; rfl
theorem Bhb : AHJ t .lss (.int k a) (.int k b) = some (.bool (decide (a < b))) := by simp [AHJ, binOp, Op.intCmp]; rfl
theorem Bgr : AHJ t .leq (.int k a) (.int k b) = some (.bool (decide (a ≤ b))) := by simp [AHJ, binOp, Op.intCmp]; rfl
theorem BgP : AHJ t .gtr (.int k a) (.int k b) = some (.bool (decide (b < a))) := by simp [AHJ, binOp, Op.intCmp]; rfl
theorem Bg9 : AHJ t .geq (.int k a) (.int k b) = some (.bool (decide (b ≤ a))) := by simp [AHJ, binOp, Op.intCmp]; rfl
theorem A31 : AHy 0 (.val (.pointer none)) = some true := AE7 rfl
theorem A4R {i v : Nat} {p : List (Nat × Nat)} : AHy 0 (.op i v p) = some false := AE7 rfl
theorem A3L {x : TV} : AHy 0 (.fp x) = some false := AE7 rfl
theorem A4o : AHy 1 (.val .nilIface) = some true := AE7 rfl
theorem A2Y {t : TypeId} {x : TV} : AHy 1 (.ifc t x) = some false := AE7 rfl
theorem A3M : AHy 2 (.val (.map none)) = some true := AE7 rfl
theorem A5g {i v : Nat} : AHy 2 (.mp i v) = some false := AE7 rfl
theorem A5U {i v : Nat} : AHy 3 (.yl i v) = some false := AE7 rfl
theorem A3H : AHy 3 (.val .nilFunc) = some true := AE7 rfl
theorem A5x {f : Fn} {a b : List TV} : AHy 3 (.fn f a b) = some false := AE7 rfl
theorem Bfh {n : Int} (h0 : 0 ≤ n) (h1 : n < 18446744073709551616) : (BitVec.ofInt 64 n).toNat = n.toNat := by
 rw [BitVec.toNat_ofInt]
 have : n % ((2 ^ 64 : Nat) : Int) = n := Int.emod_eq_of_lt h0 (by simpa using h1)
 rw [this]
theorem BgA (h1 : 0 ≤ a) (h2 : a ≤ 9223372036854775807) (h3 : 0 ≤ b) (h4 : b ≤ 9223372036854775807) : AHJ t .and (.int .i64 a) (.int .i64 b) = some (.int .i64 ((a.toNat &&& b.toNat : Nat) : Int)) := by
 rw [show AHJ t .and (.int .i64 a) (.int .i64 b) = some (.int .i64 (IntKind.i64.wrap ((BitVec.ofInt 64 a &&& BitVec.ofInt 64 b).toNat : Int))) from rfl, BitVec.toNat_and, Bfh h1 (by omega), Bfh h3 (by omega)]
 have := Nat.and_le_left (n := a.toNat) (m := b.toNat)
 rw [AJI (by omega) (by omega)]
theorem BiB (h1 : 0 ≤ a) (h2 : a ≤ 9223372036854775807) (h3 : 0 ≤ b) (h4 : b ≤ 9223372036854775807) : AHJ t .or (.int .i64 a) (.int .i64 b) = some (.int .i64 ((a.toNat ||| b.toNat : Nat) : Int)) := by
 rw [show AHJ t .or (.int .i64 a) (.int .i64 b) = some (.int .i64 (IntKind.i64.wrap ((BitVec.ofInt 64 a ||| BitVec.ofInt 64 b).toNat : Int))) from rfl, BitVec.toNat_or, Bfh h1 (by omega), Bfh h3 (by omega)]
 have := Nat.or_lt_two_pow (n := 63) (x := a.toNat) (y := b.toNat) (by omega) (by omega)
 rw [AJI (by omega) (by omega)]
theorem Bho {k2 : IntKind} (h1 : 0 ≤ b) (h2 : b ≤ 63) (h3 : 0 ≤ a * 2 ^ b.toNat) (h4 : a * 2 ^ b.toNat ≤ 9223372036854775807) : AHJ t .shl (.int .i64 a) (.int k2 b) = some (.int .i64 (a * 2 ^ b.toNat)) := by
 have e : binOp .shl t (.int .i64 a) (.int k2 b) = pure (.int .i64 (a * 2 ^ b.toNat)) := by
  show Op.shift .shl .i64 a k2 b = _
  unfold Op.shift
  rw [if_neg (by omega)]
  have hm : min b.toNat IntKind.i64.bits = b.toNat := by
   have : IntKind.i64.bits = 64 := rfl
   omega
  simp only [hm]
  rw [AJI (by omega) h4]
 unfold AHJ; rw [e]; rfl
theorem Bfv {k2 : IntKind} (h1 : 0 ≤ b) (h2 : b ≤ 63) (h3 : 0 ≤ a) : AHJ t .shr (.int .i64 a) (.int k2 b) = some (.int .i64 (a / 2 ^ b.toNat)) := by
 have e : binOp .shr t (.int .i64 a) (.int k2 b) = pure (.int .i64 (a / 2 ^ b.toNat)) := by
  show Op.shift .shr .i64 a k2 b = _
  unfold Op.shift
  rw [if_neg (by omega)]
  have hm : min b.toNat IntKind.i64.bits = b.toNat := by
   have : IntKind.i64.bits = 64 := rfl
   omega
  simp only [hm]
  rw [Int.fdiv_eq_ediv_of_nonneg _ (by exact Int.le_of_lt (Int.pow_pos (by omega)))]
 unfold AHJ; rw [e]; rfl
theorem Bg8 (h1 : 0 ≤ a) (h2 : b ≠ 0) : AHJ t .rem (.int k a) (.int k b) = some (.int k (a % b)) := by
 have e : binOp .rem t (.int k a) (.int k b) = pure (.int k (a % b)) := by
  unfold binOp
  simp only [ne_eq, not_true_eq_false, if_false, Op.intDiv, h2, Int.tmod_eq_emod_of_nonneg h1]
 unfold AHJ; rw [e]; rfl
theorem Bhw (h1 : 0 ≤ a) (h2 : 0 < b) (h3 : a ≤ 9223372036854775807) : AHJ t .quo (.int .i64 a) (.int .i64 b) = some (.int .i64 (a / b)) := by
 have e : binOp .quo t (.int .i64 a) (.int .i64 b) = pure (.int .i64 (a / b)) := by
  unfold binOp
  simp only [ne_eq, not_true_eq_false, if_false, Op.intDiv, show ¬ b = 0 from by omega, Int.tdiv_eq_ediv_of_nonneg h1]
  have h4 : a / b ≤ a := Int.ediv_le_self _ h1
  have h5 : 0 ≤ a / b := Int.ediv_nonneg h1 (by omega)
  rw [AJI (by omega) (by omega)]
 unfold AHJ; rw [e]; rfl
theorem A9K {x y : UInt8} : AHJ t .xor (.int .u8 (x.toNat : Int)) (.int .u8 (y.toNat : Int)) = some (.int .u8 ((x ^^^ y).toNat : Int)) := by
 rw [show AHJ t .xor (.int .u8 (x.toNat : Int)) (.int .u8 (y.toNat : Int)) = some (.int .u8 (IntKind.u8.wrap ((BitVec.ofInt 8 (x.toNat : Int) ^^^ BitVec.ofInt 8 (y.toNat : Int)).toNat : Int))) from rfl]
 rw [BitVec.ofInt_natCast, BitVec.ofInt_natCast, UInt8.toNat_xor, BitVec.toNat_xor, BitVec.toNat_ofNat, BitVec.toNat_ofNat, Nat.mod_eq_of_lt x.toNat_lt, Nat.mod_eq_of_lt y.toNat_lt]
 have := Nat.xor_lt_two_pow (n := 8) x.toNat_lt y.toNat_lt
 rw [IntKind.wrap_u8]; congr 2; omega
theorem AS6 (l : List UInt8) : (str l).toList = l := by simp [str, ByteArray.toList_eq]
theorem A2c {l m : List UInt8} : (l == m) = decide (l = m) := by
 by_cases h : l = m <;> simp [h]
theorem Bfu {l m : List UInt8} : AHJ t .eql (.string (str l)) (.string (str m)) = some (.bool (decide (l = m))) := by
 rw [show AHJ t .eql (.string (str l)) (.string (str m)) = some (.bool ((str l).toList == (str m).toList)) from rfl, AS6, AS6, A2c]
theorem Bgv {l m : List UInt8} : AHJ t .neq (.string (str l)) (.string (str m)) = some (.bool (!decide (l = m))) := by
 rw [show AHJ t .neq (.string (str l)) (.string (str m)) = some (.bool (!((str l).toList == (str m).toList))) from rfl, AS6, AS6, A2c]
theorem BhJ {b : Bool} : unV .not (.bool b) = some (.bool (!b)) := AE7 rfl
theorem A7Z {u : Value} : A6n (.int k a) u = true := by cases u <;> rfl
theorem A6W {s : ByteArray} {u : Value} : A6n (.string s) u = true := by cases u <;> rfl

theorem A8O {v : Value} : AWE (TV.val v) = false := AE7 rfl
theorem A6w  : AWE (TV.any) = false := AE7 rfl
theorem Baz {k : Nat} {cs : List TV} : AWE (TV.sl k cs) = false := AE7 rfl
theorem BaS {x : TV} : AWE (TV.fp x) = false := AE7 rfl
theorem A9T {i : Nat} {v : Nat} {p : List (Nat × Nat)} : AWE (TV.op i v p) = false := AE7 rfl
theorem Bbp {k : Nat} {i : Nat} {v : Nat} {p : List (Nat × Nat)} {o : Nat} {n : Nat} {cp : Nat} : AWE (TV.os k i v p o n cp) = false := AE7 rfl
theorem A7H {cs : List TV} : AWE (TV.agg cs) = true := AE7 rfl
theorem A7O {n : Nat} {k : Nat} {cs : List TV} : AWE (TV.arr n k cs) = true := AE7 rfl
theorem A6I {vs : List TV} : AWE (TV.tup vs) = false := AE7 rfl
theorem A8R {t : TypeId} {x : TV} : AWE (TV.ifc t x) = false := AE7 rfl
theorem BbT {f : Fn} {a : List TV} {b : List TV} : AWE (TV.fn f a b) = false := AE7 rfl
theorem Bas {i : Nat} {v : Nat} : AWE (TV.mp i v) = false := AE7 rfl
theorem Bac {i : Nat} {v : Nat} : AWE (TV.yl i v) = false := AE7 rfl
theorem A5v {v : Value} : AGg (TV.val v) = false := AE7 rfl
theorem A4L  : AGg (TV.any) = false := AE7 rfl
theorem A7U {k : Nat} {cs : List TV} : AGg (TV.sl k cs) = false := AE7 rfl
theorem A6V {x : TV} : AGg (TV.fp x) = false := AE7 rfl
theorem A8J {i : Nat} {v : Nat} {p : List (Nat × Nat)} : AGg (TV.op i v p) = false := AE7 rfl
theorem A9b {k : Nat} {i : Nat} {v : Nat} {p : List (Nat × Nat)} {o : Nat} {n : Nat} {cp : Nat} : AGg (TV.os k i v p o n cp) = false := AE7 rfl
theorem A5B {cs : List TV} : AGg (TV.agg cs) = false := AE7 rfl
theorem A49 {n : Nat} {k : Nat} {cs : List TV} : AGg (TV.arr n k cs) = false := AE7 rfl
theorem A4K {vs : List TV} : AGg (TV.tup vs) = true := AE7 rfl
theorem A5r {t : TypeId} {x : TV} : AGg (TV.ifc t x) = false := AE7 rfl
theorem A80 {f : Fn} {a : List TV} {b : List TV} : AGg (TV.fn f a b) = false := AE7 rfl
theorem A7M {i : Nat} {v : Nat} : AGg (TV.mp i v) = false := AE7 rfl
theorem A8F {i : Nat} {v : Nat} : AGg (TV.yl i v) = false := AE7 rfl
theorem A7N  : lays (TV.any) = false := AE7 rfl
theorem BbX {k : Nat} {cs : List TV} : lays (TV.sl k cs) = true := AE7 rfl
theorem A9X {x : TV} : lays (TV.fp x) = true := AE7 rfl
theorem A9N {i : Nat} {v : Nat} {p : List (Nat × Nat)} : lays (TV.op i v p) = true := AE7 rfl
theorem BbZ {k : Nat} {i : Nat} {v : Nat} {p : List (Nat × Nat)} {o : Nat} {n : Nat} {cp : Nat} : lays (TV.os k i v p o n cp) = true := AE7 rfl
theorem A8L {cs : List TV} : lays (TV.agg cs) = true := AE7 rfl
theorem A7y {n : Nat} {k : Nat} {cs : List TV} : lays (TV.arr n k cs) = true := AE7 rfl
theorem A8c {vs : List TV} : lays (TV.tup vs) = false := AE7 rfl
theorem A7L {t : TypeId} {x : TV} : lays (TV.ifc t x) = true := AE7 rfl
theorem Bau {f : Fn} {a : List TV} {b : List TV} : lays (TV.fn f a b) = true := AE7 rfl
theorem BbW {i : Nat} {v : Nat} : lays (TV.mp i v) = true := AE7 rfl
theorem BbO {i : Nat} {v : Nat} : lays (TV.yl i v) = true := AE7 rfl
theorem A4m {v : Value} : AHY (TV.val v) = true := AE7 rfl
theorem A3J  : AHY (TV.any) = true := AE7 rfl
theorem A8k {k : Nat} {cs : List TV} : AHY (TV.sl k cs) = true := AE7 rfl
theorem A71 {x : TV} : AHY (TV.fp x) = true := AE7 rfl
theorem A7r {i : Nat} {v : Nat} {p : List (Nat × Nat)} : AHY (TV.op i v p) = false := AE7 rfl
theorem A6g {k : Nat} {i : Nat} {v : Nat} {p : List (Nat × Nat)} {o : Nat} {n : Nat} {cp : Nat} : AHY (TV.os k i v p o n cp) = false := AE7 rfl
theorem A5u {n : Nat} {k : Nat} {cs : List TV} : AHY (TV.arr n k cs) = true := AE7 rfl
theorem A8C {i : Nat} {v : Nat} : AHY (TV.mp i v) = false := AE7 rfl
theorem A8y {i : Nat} {v : Nat} : AHY (TV.yl i v) = false := AE7 rfl
theorem A53 {v : Value} : AFo (TV.val v) = 1 := AE7 rfl
theorem A5O  : AFo (TV.any) = 1 := AE7 rfl
theorem A69 {k : Nat} {cs : List TV} : AFo (TV.sl k cs) = 1 := AE7 rfl
theorem A8Z {x : TV} : AFo (TV.fp x) = 1 := AE7 rfl
theorem A82 {i : Nat} {v : Nat} {p : List (Nat × Nat)} : AFo (TV.op i v p) = 1 := AE7 rfl
theorem A76 {k : Nat} {i : Nat} {v : Nat} {p : List (Nat × Nat)} {o : Nat} {n : Nat} {cp : Nat} : AFo (TV.os k i v p o n cp) = 1 := AE7 rfl
theorem A5H {vs : List TV} : AFo (TV.tup vs) = 1 := AE7 rfl
theorem A4E {t : TypeId} {x : TV} : AFo (TV.ifc t x) = 1 := AE7 rfl
theorem A7h {f : Fn} {a : List TV} {b : List TV} : AFo (TV.fn f a b) = 1 := AE7 rfl
theorem A8X {i : Nat} {v : Nat} : AFo (TV.mp i v) = 1 := AE7 rfl
theorem A8j {i : Nat} {v : Nat} : AFo (TV.yl i v) = 1 := AE7 rfl
theorem A4w {cs : List TV} : AFo (.agg cs) = AF0 cs := by rw [AFo]
theorem A5o {n k : Nat} {cs : List TV} : AFo (.arr n k cs) = n * k := by rw [AFo]
theorem A3d : AF0 [] = 0 := AE7 rfl
theorem A1s {x : TV} {xs : List TV} : AF0 (x :: xs) = AFo x + AF0 xs := by rw [AF0]
theorem A32 {cs : List TV} : AHY (.agg cs) = AGn cs := by rw [AHY]
theorem A5z {t : TypeId} {x : TV} : AHY (.ifc t x) = AHY x := by rw [AHY]
theorem A55 {cs : List TV} : AHY (.tup cs) = AGn cs := by rw [AHY]
theorem A58 : AGn [] = true := AE7 rfl
theorem A2I {x : TV} {xs : List TV} : AGn (x :: xs) = (AHY x && AGn xs) := by rw [AGn]
theorem A7K {k : IntKind} {n : Int} : lays (.val (.int k n)) = true := AE7 rfl
theorem A5D {b : Bool} : lays (.val (.bool b)) = true := AE7 rfl
theorem A1S {s : ByteArray} : lays (.val (.string s)) = true := AE7 rfl
theorem A0o {p : Option Addr} : lays (.val (.pointer p)) = true := AE7 rfl
theorem A3y {p : Option Addr} {n c : Nat} : lays (.val (.slice p n c)) = true := AE7 rfl
theorem A79 {r : Option Nat} : lays (.val (.map r)) = true := AE7 rfl
theorem A51 {f : Fn} {a b : Array Value} : lays (.val (.func f a b)) = true := AE7 rfl
theorem AZQ : lays (.val .nilFunc) = true := AE7 rfl
theorem AY6 : lays (.val .nilIface) = true := AE7 rfl
theorem BiC {e : Env} {n : Nat} : (Opd.t n).ev e = get e n := AE7 rfl
theorem BiD {e : Env} {n : Nat} : (Opd.g n).ev e = (match AJf n with | some x => .fp x.tv | none => .val (.pointer (some ⟨n, 0, none⟩))) := AE7 rfl
theorem Biy {e : Env} {v : Value} : (Opd.c v).ev e = .val v := AE7 rfl
theorem A6z {x : TV} : ANU [] x = some x := AE7 rfl
theorem A6d {i d : Nat} {p : List (Nat × Nat)} {cs : List TV} : ANU ((i, d) :: p) (.agg cs) = if AF0 (cs.take i) = d then (cs[i]?).bind (ANU p) else none := by rw [ANU]
theorem A6J {i d n k : Nat} {p : List (Nat × Nat)} {cs : List TV} : ANU ((i, d) :: p) (.arr n k cs) = if d = i * k then (cs[i]?).bind (ANU p) else none := by rw [ANU]
theorem A2a {x y : TV} : ATJ [] x y = if AFo y = AFo x then some y else none := by rw [ATJ]
theorem A6O {i d : Nat} {p : List (Nat × Nat)} {cs : List TV} {y : TV} : ATJ ((i, d) :: p) (.agg cs) y = if AF0 (cs.take i) = d then (cs[i]?).bind fun c => (ATJ p c y).map fun c' => .agg (cs.set i c') else none := by rw [ATJ]
theorem A73 {i d n k : Nat} {p : List (Nat × Nat)} {cs : List TV} {y : TV} : ATJ ((i, d) :: p) (.arr n k cs) y = if d = i * k ∧ AHY y = true then (cs[i]?).bind fun c => (ATJ p c y).map fun c' => .arr n k (cs.set i c') else none := by rw [ATJ]
theorem A3i {e : Env} : forget [] e = [] := AE7 rfl
theorem A1f {e : Env} {s : Nat} {ks : List Nat} : forget (s :: ks) e = (s, get e s) :: forget ks e := AE7 rfl
theorem A4X {i : Nat} : AZF i [] = [] := AE7 rfl
theorem A2J {i : Nat} {x : TV} {xs : List TV} : AZF i (x :: xs) = (i, x) :: AZF (i + 1) xs := AE7 rfl
theorem A9i {ag : Bool} {sz : Nat} {y : TV} : AYH ag sz y = (AFo y = sz ∧ AWE y = ag) := AE7 rfl
theorem A3u {H : List Ob} {k k2 : Nat} {cs : List TV} : AFZ H k (.sl k2 cs) = if k2 = k then some cs else none := AE7 rfl
theorem A1J {H : List Ob} {k : Nat} {p : Option Addr} {n c : Nat} : AFZ H k (.val (.slice p n c)) = if n = 0 ∧ p.isNone ∧ c = 0 then some [] else none := AE7 rfl
theorem A2H {H : List Ob} {k k2 i v o n cp : Nat} {p : List (Nat × Nat)} : AFZ H k (.os k2 i v p o n cp) = if k2 = k then (match H[i]? with | some (.obj vr x) => if vr = v then AGC p k o n x else none | _ => none) else none := AE7 rfl
theorem A00 {k k2 o n N : Nat} {cs : List TV} : AGC [] k o n (.arr N k2 cs) = if k2 = k ∧ o + n ≤ cs.length then some ((cs.drop o).take n) else none := AE7 rfl
theorem A48 {e : Env} {zs : List TV} : AId e zs [] = zs := AE7 rfl
theorem A2N {e : Env} {zs : List TV} {i : Nat} {x : Opd} {ps : List (Nat × Opd)} : AId e zs ((i, x) :: ps) = AId e (zs.set i (x.ev e)) ps := AE7 rfl
theorem A1Q {e : Env} {ks : List Nat} : AHC e ks [] = True := AE7 rfl
theorem A0s {e : Env} {ks : List Nat} {i : Nat} {x : Opd} {ps : List (Nat × Opd)} : AHC e ks ((i, x) :: ps) = ((lays (x.ev e) = true ∧ ks[i]? = some (AFo (x.ev e))) ∧ AHC e ks ps) := AE7 rfl
theorem AZe {e : Env} : AFT e [] = True := AE7 rfl
theorem AYa {e : Env} {i : Nat} {x : Opd} {ps : List (Nat × Opd)} : AFT e ((i, x) :: ps) = (AHY (x.ev e) = true ∧ AFT e ps) := AE7 rfl
theorem BaO {t : Nat} {e : Env} {H : List Ob} {K : TV → Prop} : res [.tmp t] e H K = K (get e t) := AE7 rfl
theorem A72 {a sz : Nat} {ag : Bool} {e : Env} {H : List Ob} {K : TV → Prop} : res [.cell a ag sz] e H K = pop (.load ag sz (.t a)) e H K := AE7 rfl
theorem A35 {e : Env} {H : List Ob} {K : TV → Prop} : res [] e H K = ((∀ x ∈ ([] : List TV), AGg x = false) ∧ K (.tup [])) := AE7 rfl
theorem Bg1 {r s : VR} {e : Env} {H : List Ob} {K : TV → Prop} : res [r, s] e H K = A0W [r, s] e H fun xs => match xs with | [x] => K x | xs => (∀ x ∈ xs, AGg x = false) ∧ K (.tup xs) := AE7 rfl
theorem A8U {r s : VR} {l : List VR} {e : Env} {H : List Ob} {K : TV → Prop} : res (r :: s :: l) e H K = A0W (r :: s :: l) e H fun xs => match xs with | [x] => K x | xs => (∀ x ∈ xs, AGg x = false) ∧ K (.tup xs) := AE7 rfl
theorem A15 {e : Env} {H : List Ob} {K : List TV → Prop} : A0W [] e H K = K [] := AE7 rfl
theorem A7S {t : Nat} {r : List VR} {e : Env} {H : List Ob} {K : List TV → Prop} : A0W (.tmp t :: r) e H K = A0W r e H fun xs => K (get e t :: xs) := AE7 rfl
theorem A0m {a sz : Nat} {ag : Bool} {r : List VR} {e : Env} {H : List Ob} {K : List TV → Prop} : A0W (.cell a ag sz :: r) e H K = pop (.load ag sz (.t a)) e H fun x => A0W r e H fun xs => K (x :: xs) := AE7 rfl
theorem AZS {vr : List VR} {R : TV → List Ob → Prop} {e : Env} {H : List Ob} : A27 vr R .ret e H = res vr e H fun x => R x H := AE7 rfl
theorem A0i {vr : List VR} {R : TV → List Ob → Prop} {e : Env} {H : List Ob} : A27 vr R .nor e H = res vr e H fun x => R x H := AE7 rfl
theorem A6r {H : List Ob} {g : TV → Option TV} {v : Value} : AJc H g (TV.val v) = some (.val v) := by rw [AJc]
theorem A7a {H : List Ob} {g : TV → Option TV}  : AJc H g (TV.any) = some (.any) := by rw [AJc]
theorem BbP {H : List Ob} {g : TV → Option TV} {k : Nat} {cs : List TV} : AJc H g (TV.sl k cs) = some (.sl k cs) := by rw [AJc]
theorem BaH {H : List Ob} {g : TV → Option TV} {x : TV} : AJc H g (TV.fp x) = some (.fp x) := by rw [AJc]
theorem A8B {H : List Ob} {g : TV → Option TV} {n : Nat} {k : Nat} {cs : List TV} : AJc H g (TV.arr n k cs) = some (.arr n k cs) := by rw [AJc]
theorem Bah {H : List Ob} {g : TV → Option TV} {k i v o n cp : Nat} {p : List (Nat × Nat)} : AJc H g (.os k i v p o n cp) = (match H[i]? with | some (.obj vr x) => if vr = v then (AGC p k o n x).map (.sl k) else none | _ => none) := by rw [AJc]; rfl
theorem BbL {H : List Ob} {g : TV → Option TV} {i v : Nat} {p : List (Nat × Nat)} : AJc H g (.op i v p) = (match H[i]? with | some (.obj vr x) => if vr = v then (ANU p x).bind fun y => (g y).map .fp else none | _ => none) := by rw [AJc]; rfl
theorem A6y {H : List Ob} {g : TV → Option TV} {cs : List TV} : AJc H g (.agg cs) = (AQQ H g cs).map .agg := by rw [AJc]
theorem A6S {H : List Ob} {g : TV → Option TV} {cs : List TV} : AJc H g (.tup cs) = (AQQ H g cs).map .tup := by rw [AJc]
theorem A8n {H : List Ob} {g : TV → Option TV} {t : TypeId} {x : TV} : AJc H g (.ifc t x) = (AJc H g x).map (.ifc t) := by rw [AJc]
theorem A5K {H : List Ob} {g : TV → Option TV} : AQQ H g [] = some [] := AE7 rfl
theorem A26 {H : List Ob} {g : TV → Option TV} {x : TV} {xs : List TV} : AQQ H g (x :: xs) = (match AJc H g x, AQQ H g xs with | some x, some xs => some (x :: xs) | _, _ => none) := by rw [AQQ]; rfl
theorem BgJ {H : List Ob} {x : TV} : frz H x = AJc H (A3E H 2) x := AE7 rfl
theorem BcS {H : List Ob} {x : List TV} : Bfb H x = AQQ H (A3E H 2) x := AE7 rfl
theorem Beb {H : List Ob} {d : Nat} {x : TV} : A3E H (d + 1) x = AJc H (A3E H d) x := AE7 rfl
theorem BbU {H : List Ob} {v : Value} : frs H (.val v) = some (.val v) := by rw [frs]
theorem Bad {H : List Ob} : frs H .any = some .any := by rw [frs]
theorem Bdq {H : List Ob} {k i v o n cp : Nat} {p : List (Nat × Nat)} : frs H (.os k i v p o n cp) = (match H[i]? with | some (.obj vr x) => if vr = v then (match AGC p k o n x with | some cs => if AKc cs then some (.sl k cs) else none | none => none) else none | _ => none) := by rw [frs]; try rfl
theorem Bb4 {H : List Ob} {cs : List TV} : frs H (.agg cs) = (A0X H cs).map .agg := by rw [frs]
theorem Bav {H : List Ob} {n k : Nat} {cs : List TV} : frs H (.arr n k cs) = if AKc cs then some (.arr n k cs) else none := by rw [frs]
theorem Bbg {H : List Ob} {cs : List TV} : frs H (.tup cs) = (A0X H cs).map .tup := by rw [frs]
theorem BaZ {H : List Ob} {t : TypeId} {x : TV} : frs H (.ifc t x) = (frs H x).map (.ifc t) := by rw [frs]
theorem A7e {H : List Ob} : A0X H [] = some [] := by rw [A0X]
theorem A4C {H : List Ob} {x : TV} {xs : List TV} : A0X H (x :: xs) = (match frs H x, A0X H xs with | some x, some xs => some (x :: xs) | _, _ => none) := by rw [A0X]; try rfl
theorem A4Y {l : List UInt8} : AKc (l.map by8) = true := by
 induction l with
 | nil => rfl
 | cons x l ih => rw [List.map_cons, AKc, ih]; rfl
theorem A6f {l : List (List UInt8)} : AKc (l.map ts) = true := by
 induction l with
 | nil => rfl
 | cons x l ih => rw [List.map_cons, AKc, ih]; rfl
theorem A6i {l : List UInt8} {i : Nat} {b : UInt8} : (l.map by8).set i (.val (.int .u8 (b.toNat : Int))) = (l.set i b).map by8 := by rw [List.map_set]
theorem A8H {l : List UInt8} : (l.map by8).map AVO = l := by
 rw [List.map_map]
 have : (AVO ∘ by8) = id := by funext b; simp
 rw [this, List.map_id]
theorem A6U {l : List UInt8} : (∀ y ∈ l.map by8, A3D y) = True := by simp
theorem A7C {a b : Nat} : ((a : Int) + (b : Int)) = ((a + b : Nat) : Int) := by omega
theorem BbY {a b : Nat} : ((a : Int) < (b : Int)) = (a < b) := by simp
theorem BaK {a b : Nat} : ((a : Int) ≤ (b : Int)) = (a ≤ b) := by simp
theorem BaT {a b : Nat} : ((a : Int) = (b : Int)) = (a = b) := propext ⟨fun h => by omega, fun h => by omega⟩
theorem Bcd {a : Nat} : (0 ≤ (a : Int)) = True := by simp

theorem Bez {d s : Nat} {x : TV} : get ((d, x) :: e) s = if d = s then x else get e s := AE7 rfl
end
end Go.Proofs.YtliaddbbmnfioaaGreatDoor


namespace Go.Proofs.YtliaddbbmnfioaaGreatDoor
open Go.RowKit
variable [AFq]
set_option linter.unusedSectionVars false
set_option linter.unusedSimpArgs false
set_option linter.unusedVariables false
set_option autoImplicit false
universe u
set_option linter.defProp false
class Tg {α : Sort u} (a : α) : Type where
instance tg {α : Sort u} (a : α) : Tg a := {}
def vif (t : Bool) (A B : Prop) [Tg A] [Tg B] : Prop := if t = true then A else B
def AFQ {α : Type} (o : Option α) (K : α → Prop) [Tg K] : Prop := match o with | some y => K y | none => False
def AGZ (A K : Prop) [Tg K] : Prop := A ∧ K
def AFP {α : Type} (x : α) (K : α → Prop) [Tg K] : Prop := K x
def vex (K : TV → Prop) [Tg K] : Prop := ∃ x, K x
def VC (P : Program) (f : FuncId) (xs : List TV) (H : List Ob) (K : TV → List Ob → Prop) [Tg K] : Prop := AFl P f xs H K
def VY (P : Program) (id ver : Nat) (xs : List TV) (H : List Ob) (K : TV → List Ob → Prop) [Tg K] : Prop := AXR P id ver xs H K
theorem AYc {P : Program} {f : FuncId} {xs : List TV} {H : List Ob} {K : TV → List Ob → Prop} (h : AFl P f xs H K) : VC P f xs H K := h
section
variable {A A' B K : Prop} {α : Type}
@[congr] theorem BeL {t t' : Bool} (h : t = t') : vif t A B = vif t' A B := by rw [h]
@[congr] theorem Bco {o o' : Option α} {K : α → Prop} (h : o = o') : AFQ o K = AFQ o' K := by rw [h]
@[congr] theorem Bce (h : A = A') : AGZ A K = AGZ A' K := by rw [h]
@[congr] theorem Bch {x x' : α} {K : α → Prop} (h : x = x') : AFP x K = AFP x' K := by rw [h]
@[congr] theorem BdR {P : Program} {c : AE9} {Q : VEx → Env → List Ob → Prop} {e e' : Env} {H H' : List Ob} (he : e = e') (hH : H = H') : vwp P c Q e H = vwp P c Q e' H' := by rw [he, hH]
@[congr] theorem Bff {P : Program} {f : FuncId} {xs xs' : List TV} {H H' : List Ob} {K : TV → List Ob → Prop} (he : xs = xs') (hH : H = H') : VC P f xs H K = VC P f xs' H' K := by rw [he, hH]
@[congr] theorem Bfa {P : Program} {id ver : Nat} {xs xs' : List TV} {H H' : List Ob} {K : TV → List Ob → Prop} (he : xs = xs') (hH : H = H') : VY P id ver xs H K = VY P id ver xs' H' K := by rw [he, hH]
theorem A8l : vif true A B = A := by simp [vif]
theorem A5X : vif false A B = B := by simp [vif]
theorem Bd8 {p : Prop} [Decidable p] (h : p) : vif (decide p) A B = A := by simp [vif, h]
theorem BdW {p : Prop} [Decidable p] (h : ¬ p) : vif (decide p) A B = B := by simp [vif, h]
theorem Bbm {t : Bool} : vif (!t) A B = vif t B A := by cases t <;> simp [vif]
theorem A4D {p : Prop} [Decidable p] (h1 : p → A) (h2 : ¬ p → B) : vif (decide p) A B := by by_cases h : p <;> simp [vif, h, h1, h2]
theorem A99 {s t : Bool} : vif (s && t) A B = vif s (vif t A B) B := by cases s <;> simp [vif]
theorem BcV {s t : Bool} : vif (s || t) A B = vif s A (vif t A B) := by cases s <;> simp [vif]
theorem A5E {y : α} {K : α → Prop} : AFQ (some y) K = K y := rfl
theorem A85 {β : Type} {f : α → β} {o : Option α} {K : β → Prop} : AFQ (o.map f) K = AFQ o fun y => K (f y) := by cases o <;> rfl
theorem BaM {cs : List α} {i : Nat} {K : α → Prop} (h : i < cs.length) : AFQ cs[i]? K = K cs[i] := by rw [List.getElem?_eq_getElem h]; rfl
theorem A5m (h : A) : AGZ A K = K := by simp [AGZ, h]
theorem Bcv : AGZ True K = K := by simp [AGZ]
theorem A7i : AGZ (A ∧ B) K = AGZ A (AGZ B K) := by simp [AGZ, and_assoc]
theorem BbH {x : α} {K : α → Prop} : AFP x K = K x := rfl
end

def AJx : Option Ob → Nat → Option TV
 | some (.obj v x), ver => if v = ver then some x else none
 | _, _ => none
theorem A6Q {v : Nat} {x : TV} : AJx (some (.obj v x)) v = some x := by simp [AJx]
section
variable {H l : List Ob} {o : Ob} {n k : Nat}
theorem BeR (h : H.length = n) : (H ++ l)[n]? = l[0]? := by rw [List.getElem?_append_right (by omega), h, Nat.sub_self]
theorem BbA (h : H.length = n) : (H ++ l)[n + k]? = l[k]? := by rw [List.getElem?_append_right (by omega)]; congr 1; omega
theorem BdX (h : n < H.length) : (H ++ l)[n]? = H[n]? := List.getElem?_append_left h
theorem Bdr (h : n < H.length) : (H.set n o)[n]? = some o := by simp [h]
theorem A5h {m : Nat} (h : m ≠ n) : (H.set m o)[n]? = H[n]? := by rw [List.getElem?_set_ne h]
theorem Ba4 (h : H.length = n) : (H ++ l).set n o = H ++ l.set 0 o := by rw [List.set_append_right _ _ (by omega), h, Nat.sub_self]
theorem A7w (h : H.length = n) : (H ++ l).set (n + k) o = H ++ l.set k o := by rw [List.set_append_right _ _ (by omega)]; congr 2; omega
theorem Bb0 (h : n < H.length) : (H ++ l).set n o = H.set n o ++ l := List.set_append_left _ _ h
end

section
variable {P : Program} {e : Env} {H : List Ob}
def A50 (c a b : TV) (K : TV → Prop) [Tg K] : Prop := match c with | .val (.bool t) => K (if t then a else b) | _ => False
def Bfr (t : TypeId) (op : BinOp) (x y : TV) (K : TV → Prop) [Tg K] : Prop := match x, y with
  | .val u, .val v => A6n u v = true ∧ (match AHJ t op u v with | some r => K (.val r) | none => False)
  | _, _ => False
def Pun (op : UnOp) (x : TV) (K : TV → Prop) [Tg K] : Prop := match x with
  | .val u => (match unV op u with | some r => K (.val r) | none => False)
  | _ => False
def A6B (k : IntKind) (x : TV) (K : TV → Prop) [Tg K] : Prop := match x with
  | .val (.int _ n) => K (.val (.int k (k.wrap n)))
  | _ => False
def Bfs (x : TV) (K : TV → Prop) [Tg K] : Prop := match x with
  | .val (.string s) => K (.val (.string s))
  | _ => False
def Be2 (x : Option (List TV)) (K : TV → Prop) [Tg K] : Prop := match x with
  | some cs => (∀ y ∈ cs, A3D y) ∧ K (.val (.string (str (cs.map AVO))))
  | none => False
def A1i (H : List Ob) (ag : Bool) (sz : Nat) (x : TV) (K : TV → Prop) [Tg K] : Prop := match x with
  | .fp y => AYH ag sz y ∧ K y
  | .op id ver p => (match H[id]? with
   | some (.obj v x) => v = ver ∧ (match ANU p x with | some y => AYH ag sz y ∧ K y | none => False)
   | _ => False)
  | _ => False
def AVX (i off : Nat) (x : TV) (K : TV → Prop) [Tg K] : Prop := match x with
  | .op id ver p => K (.op id ver (p ++ [(i, off)]))
  | .fp (.agg cs) => AF0 (cs.take i) = off ∧ (match cs[i]? with | some y => K (.fp y) | none => False)
  | _ => False
def AZL (ag : Bool) (sz i off : Nat) (x : TV) (K : TV → Prop) [Tg K] : Prop := match x with
  | .agg cs => AF0 (cs.take i) = off ∧ (match cs[i]? with | some y => AYH ag sz y ∧ K y | none => False)
  | _ => False
def A3A (k : Nat) (x i : TV) (K : TV → Prop) [Tg K] : Prop := match x, i with
  | .sl k' cs, .val (.int _ j) => k' = k ∧ 0 ≤ j ∧ (match cs[j.toNat]? with | some y => K (.fp y) | none => False)
  | .os k' id ver p off n cp, .val (.int _ j) => k' = k ∧ 0 ≤ j ∧ j < n ∧ K (.op id ver (p ++ [(off + j.toNat, (off + j.toNat) * k)]))
  | _, _ => False
def AYs (n k : Nat) (x i : TV) (K : TV → Prop) [Tg K] : Prop := match x, i with
  | .fp (.arr n' k' cs), .val (.int _ j) => k' = k ∧ n' = n ∧ 0 ≤ j ∧ (match cs[j.toNat]? with | some y => K (.fp y) | none => False)
  | .op id ver p, .val (.int _ j) => 0 ≤ j ∧ j < n ∧ K (.op id ver (p ++ [(j.toNat, j.toNat * k)]))
  | _, _ => False
def Bev (ag : Bool) (n k : Nat) (x i : TV) (K : TV → Prop) [Tg K] : Prop := match x, i with
  | .arr n' k' cs, .val (.int _ j) => k' = k ∧ n' = n ∧ 0 ≤ j ∧ (match cs[j.toNat]? with | some y => AYH ag k y ∧ K y | none => False)
  | _, _ => False
def A45 (x i : TV) (K : TV → Prop) [Tg K] : Prop := match x, i with
  | .val (.string s), .val (.int _ j) => 0 ≤ j ∧ (match (bl s)[j.toNat]? with | some b => K (by8 b) | none => False)
  | _, _ => False
def BcP (i : Nat) (x : TV) (K : TV → Prop) [Tg K] : Prop := match x with
  | .tup xs => (match xs[i]? with | some y => K y | none => False)
  | _ => False
def A7f (x : TV) (K : TV → Prop) [Tg K] : Prop := match x with
  | .val (.string s) => K (.val (.int .i64 (bl s).length))
  | _ => False
def A3p (x : TV) (K : TV → Prop) [Tg K] : Prop := match x with
  | .val (.slice _ n _) => K (.val (.int .i64 n))
  | .sl _ cs => K (.val (.int .i64 cs.length))
  | .os _ _ _ _ _ n _ => K (.val (.int .i64 n))
  | _ => False
def AY0 (lo hi : Option TV) (len lim : Nat) (K : Nat → Nat → Prop) [Tg K] : Prop :=
 match (match lo with | none => some 0 | some x => (match x with | .val (.int _ i) => some i | _ => none)), (match hi with | none => some (len : Int) | some x => (match x with | .val (.int _ i) => some i | _ => none)) with
 | some l, some h => (0 ≤ l ∧ l ≤ h ∧ h ≤ lim) ∧ K l.toNat h.toNat
 | _, _ => False
def evO (e : Env) : Option Opd → Option TV
 | none => none
 | some x => some (x.ev e)
theorem A86 : evO e none = none := AE7 rfl
theorem A8d {x : Opd} : evO e (some x) = some (x.ev e) := AE7 rfl
theorem A5q {lo hi : Option Opd} {len lim : Nat} {K : Nat → Nat → Prop} : bnd e lo hi len lim K = AY0 (evO e lo) (evO e hi) len lim K := by
 cases lo <;> cases hi <;> rfl
def Be6 (x : TV) (lo hi : Option TV) (K : TV → Prop) [Tg K] : Prop := match x with
  | .val (.string s) => AY0 lo hi (bl s).length (bl s).length fun l h => K (.val (.string (str (((bl s).drop l).take (h - l)))))
  | _ => False
def Bcn (k : Nat) (x : TV) (lo hi : Option TV) (K : TV → Prop) [Tg K] : Prop := match x with
  | .sl k' cs => k' = k ∧ AY0 lo hi cs.length cs.length fun l h => K (.sl k ((cs.drop l).take (h - l)))
  | .os k' id ver p off n cp => k' = k ∧ AY0 lo hi n cp fun l h => K (.os k id ver p (off + l) (h - l) (cp - l))
  | .val (.slice ad 0 0) => AY0 lo hi 0 0 fun l h => K (.val (.slice ad 0 0))
  | _ => False
def Bcg (H : List Ob) (n k : Nat) (x : TV) (lo hi : Option TV) (K : TV → Prop) [Tg K] : Prop := match x with
  | .fp (.arr n' k' cs) => k' = k ∧ n' = n ∧ n ≤ 9223372036854775807 ∧ AY0 lo hi n n fun l h => K (.sl k ((cs.drop l).take (h - l)))
  | .op id ver p => (match H[id]? with
   | some (.obj v x) => v = ver ∧ n ≤ 9223372036854775807 ∧ (match ANU p x with | some (.arr n' k' cs) => k' = k ∧ n' = n ∧ AY0 lo hi n n fun l h => K (.os k id ver p l (h - l) (n - l)) | _ => False)
   | _ => False)
  | _ => False
def A2A (t : TypeId) (x : TV) (K : TV → Prop) [Tg K] : Prop := lays x = true ∧ K (.ifc t x)
def BeH (f : Fn) (first caps : List TV) (K : TV → Prop) [Tg K] : Prop := (∀ x ∈ first ++ caps, AGg x = false) ∧ K (.fn f first caps)
def A0a (x : TV) (K : TV → Prop) [Tg K] : Prop := match x with
  | .op id ver p => K (.op id ver p)
  | .fp y => K (.fp y)
  | .fn (.func f) a b => K (.fn (.func f) a b)
  | .ifc t y => K (.ifc t y)
  | .val (.func (.func f) a b) => K (.val (.func (.func f) a b))
  | _ => False
def Bfj (x y : TV) (K : TV → Prop) [Tg K] : Prop := match x, y with
  | .val (.int k a), .val (.int _ b) => K (.val (.int k (if b < a then b else a)))
  | _, _ => False
def Bfq (x y : TV) (K : TV → Prop) [Tg K] : Prop := match x, y with
  | .val (.int k a), .val (.int _ b) => K (.val (.int k (if b > a then b else a)))
  | _, _ => False
def AXo (g : GOp) (H : List Ob) (xs : List TV) (K : TV → Prop) [Tg K] : Prop := match gev g H xs with
  | some y => K y
  | none => False
def Bdj (neg : Bool) (x y : TV) (K : TV → Prop) [Tg K] : Prop := match x, y with
  | .val (.bool a), .val (.bool b) => K (.val (.bool (xor neg (a == b))))
  | _, _ => False
def Beq (neg : Bool) (x y : Option Bool) (K : TV → Prop) [Tg K] : Prop := match x, y with
  | some true, some b => K (.val (.bool (xor neg b)))
  | some false, some true => K (.val (.bool (xor neg false)))
  | _, _ => False
def A0z (H : List Ob) (sz : Nat) (x v : TV) (K : TV → List Ob → Prop) [Tg K] : Prop := (lays v = true ∧ AFo v = sz) ∧ (match x with
  | .op id ver p => (match H[id]? with
   | some (.obj vr y) => vr = ver ∧ (match ATJ p y v with | some y' => K .any (H.set id (.obj ver y')) | none => False)
   | _ => False)
  | _ => False)
def Bfd (H : List Ob) (k bytes : Nat) (z l c : TV) (K : TV → List Ob → Prop) [Tg K] : Prop := match l, c with
  | .val (.int _ l), .val (.int _ c) => (0 ≤ l ∧ l ≤ c ∧ (bytes : Int) * c ≤ 281474976710656 ∧ c ≤ 9223372036854775807) ∧ K (.os k H.length 0 [] 0 l.toNat c.toNat) (H ++ [.obj 0 (.arr c.toNat k (List.replicate c.toNat z))])
  | _, _ => False
def Bb7 (k bytes : Nat) (et : TypeId) (x : TV) (y : Option (List TV)) (H : List Ob) (K : TV → List Ob → Prop) [Tg K] : Prop := match y with
  | some ys => A0n k bytes et x ys H K
  | none => False
def A1F (k : Nat) (x : TV) (y : Option (List TV)) (H : List Ob) (K : TV → List Ob → Prop) [Tg K] : Prop := match y with
  | some ys => ATw k x ys H K
  | none => False
def A7B (et : TypeId) (x y : TV) (H : List Ob) (K : TV → List Ob → Prop) [Tg K] : Prop := match y with
  | .val (.string s) => A0n 1 1 et x ((bl s).map by8) H K
  | _ => False
def A2v (x y : TV) (H : List Ob) (K : TV → List Ob → Prop) [Tg K] : Prop := match y with
  | .val (.string s) => ATw 1 x ((bl s).map by8) H K
  | _ => False
def A7k (P : Program) (f : FuncId) (x : Option (Nat × Nat × List UInt8)) (H : List Ob) (K : TV → List Ob → Prop) [Tg K] : Prop := Bga P f ∧ (match x with
  | some (j, v, l) => l.length ≤ 9223372036854775807 ∧ K (.val (.string (str l))) (H.set j (.gone v))
  | none => False)
def Be4 (H : List Ob) (x : TV) (K : TV → List Ob → Prop) [Tg K] : Prop := match x with
  | .val (.string s) => (bl s).length ≤ 9223372036854775807 ∧ K (.os 1 H.length 0 [] 0 (bl s).length (bl s).length) (H ++ [.obj 0 (.arr (bl s).length 1 ((bl s).map by8))])
  | _ => False
def A6u (k bytes : Nat) (z x n : TV) (H : List Ob) (K : TV → List Ob → Prop) [Tg K] : Prop := match x, n with
  | .val (.slice none 0 0), .val (.int .i64 j) => (0 ≤ j ∧ (bytes : Int) * j ≤ 140737488355328 ∧ j ≤ 9223372036854775807) ∧ K (.os k H.length 0 [] 0 j.toNat j.toNat) (H ++ [.obj 0 (.arr j.toNat k (List.replicate j.toNat z))])
  | _, _ => False
def A05 (H : List Ob) (K : TV → List Ob → Prop) [Tg K] : Prop := K (.val (.bool true)) H ∧ K (.val (.bool false)) H
def A9s (neg : Bool) (x : TV) (H : List Ob) (K : TV → List Ob → Prop) [Tg K] : Prop := match x with
  | .val (.slice a _ _) => K (.val (.bool (xor neg a.isNone))) H
  | .sl _ cs => (cs = [] → K (.val (.bool true)) H ∧ K (.val (.bool false)) H) ∧ (cs ≠ [] → K (.val (.bool neg)) H)
  | .os _ _ _ _ _ n _ => (n = 0 → K (.val (.bool true)) H ∧ K (.val (.bool false)) H) ∧ (n ≠ 0 → K (.val (.bool neg)) H)
  | _ => False
def AYy (P : Program) (x : TV) (args : List TV) (H : List Ob) (K : TV → List Ob → Prop) [Tg K] : Prop := match x with
  | .fn (.func f) first caps => AWL P f = true ∧ AFl P f (first ++ args ++ caps) H K
  | .val (.func (.func f) xs ys) => (xs.isEmpty && ys.isEmpty) = true ∧ AWL P f = true ∧ AFl P f args H K
  | .yl id ver => AXR P id ver args H K
  | _ => False
def Bdf (P : Program) (nm : String) (x : TV) (args : List TV) (H : List Ob) (K : TV → List Ob → Prop) [Tg K] : Prop := Bfl P nm H x fun f r => AFl P f (r :: args) H K
def Bcf (P : Program) (q : Option (FuncId × Option (Bool × Nat))) (r : TV) (args : List TV) (H : List Ob) (K : TV → List Ob → Prop) [Tg K] : Prop := match q with
 | some (f, none) => AWL P f = true ∧ AFl P f (r :: args) H K
 | some (f, some (ag, sz)) => AWL P f = true ∧ ldT H ag sz r fun y => AFl P f (y :: args) H K
 | none => False
def Gd (q : Option Bool) (b : Bool) (A B : Prop) [Tg A] [Tg B] : Prop := match q with
 | some t => if t = b then A else B
 | none => B
def evs (e : Env) (xs : List Opd) : List TV := xs.map (·.ev e)
theorem Bap : evs e [] = [] := AE7 rfl
theorem A7z {x : Opd} {xs : List Opd} : evs e (x :: xs) = x.ev e :: evs e xs := AE7 rfl
def ATc (xs : List TV) : Prop := ∀ x ∈ xs, AGg x = false
theorem A5f : ATc [] = True := by simp [ATc]
theorem A2S {x : TV} {xs : List TV} : ATc (x :: xs) = (AGg x = false ∧ ATc xs) := by simp [ATc]
theorem AQ3 {args : List Opd} : (∀ x ∈ args, AGg (x.ev e) = false) = ATc (evs e args) := by simp [ATc, evs]

section
variable {c c' a a' b b' x x' y y' : TV} {K : TV → Prop} {KK : TV → List Ob → Prop} {lo lo' hi hi' : Option TV} {ox ox' : Option (List TV)} {q q' q2 q2' : Option Bool} {xs xs' : List TV} {A B : Prop} {H' : List Ob}
@[congr] theorem BfY (h1 : c = c') (h2 : a = a') (h3 : b = b') : A50 c a b K = A50 c' a' b' K := by rw [h1, h2, h3]
@[congr] theorem Bh1 {t : TypeId} {op : BinOp} (h1 : x = x') (h2 : y = y') : Bfr t op x y K = Bfr t op x' y' K := by rw [h1, h2]
@[congr] theorem Bio {op : UnOp} (h1 : x = x') : Pun op x K = Pun op x' K := by rw [h1]
@[congr] theorem Bhi {k : IntKind} (h1 : x = x') : A6B k x K = A6B k x' K := by rw [h1]
@[congr] theorem BhO (h1 : x = x') : Bfs x K = Bfs x' K := by rw [h1]
@[congr] theorem BhX (h1 : ox = ox') : Be2 ox K = Be2 ox' K := by rw [h1]
@[congr] theorem Bgh {ag : Bool} {sz : Nat} (h1 : x = x') (h2 : H = H') : A1i H ag sz x K = A1i H' ag sz x' K := by rw [h1, h2]
@[congr] theorem BeE {i o : Nat} (h1 : x = x') : AVX i o x K = AVX i o x' K := by rw [h1]
@[congr] theorem Bfk {ag : Bool} {sz i o : Nat} (h1 : x = x') : AZL ag sz i o x K = AZL ag sz i o x' K := by rw [h1]
@[congr] theorem BfB {k : Nat} (h1 : x = x') (h2 : y = y') : A3A k x y K = A3A k x' y' K := by rw [h1, h2]
@[congr] theorem Be7 {n k : Nat} (h1 : x = x') (h2 : y = y') : AYs n k x y K = AYs n k x' y' K := by rw [h1, h2]
@[congr] theorem Bij {ag : Bool} {n k : Nat} (h1 : x = x') (h2 : y = y') : Bev ag n k x y K = Bev ag n k x' y' K := by rw [h1, h2]
@[congr] theorem BfM (h1 : x = x') (h2 : y = y') : A45 x y K = A45 x' y' K := by rw [h1, h2]
@[congr] theorem BhS {i : Nat} (h1 : x = x') : BcP i x K = BcP i x' K := by rw [h1]
@[congr] theorem Bhy (h1 : x = x') : A7f x K = A7f x' K := by rw [h1]
@[congr] theorem BgU (h1 : x = x') : A3p x K = A3p x' K := by rw [h1]
@[congr] theorem Bh2 {n m : Nat} {K : Nat → Nat → Prop} {n' m' : Nat} (h1 : lo = lo') (h2 : hi = hi') (h3 : n = n') (h4 : m = m') : AY0 lo hi n m K = AY0 lo' hi' n' m' K := by rw [h1, h2, h3, h4]
@[congr] theorem BhL (h1 : x = x') (h2 : lo = lo') (h3 : hi = hi') : Be6 x lo hi K = Be6 x' lo' hi' K := by rw [h1, h2, h3]
@[congr] theorem Bh0 {k : Nat} (h1 : x = x') (h2 : lo = lo') (h3 : hi = hi') : Bcn k x lo hi K = Bcn k x' lo' hi' K := by rw [h1, h2, h3]
@[congr] theorem Bie {n k : Nat} (h0 : H = H') (h1 : x = x') (h2 : lo = lo') (h3 : hi = hi') : Bcg H n k x lo hi K = Bcg H' n k x' lo' hi' K := by rw [h0, h1, h2, h3]
@[congr] theorem Bfn {t : TypeId} (h1 : x = x') : A2A t x K = A2A t x' K := by rw [h1]
@[congr] theorem BhU {f : Fn} {ys ys' : List TV} (h1 : xs = xs') (h2 : ys = ys') : BeH f xs ys K = BeH f xs' ys' K := by rw [h1, h2]
@[congr] theorem BgD (h1 : x = x') : A0a x K = A0a x' K := by rw [h1]
@[congr] theorem BhM (h1 : x = x') (h2 : y = y') : Bfj x y K = Bfj x' y' K := by rw [h1, h2]
@[congr] theorem Bh3 (h1 : x = x') (h2 : y = y') : Bfq x y K = Bfq x' y' K := by rw [h1, h2]
@[congr] theorem Bh7 {g : GOp} {xs xs' : List TV} (h1 : H = H') (h2 : xs = xs') : AXo g H xs K = AXo g H' xs' K := by rw [h1, h2]
@[congr] theorem BhZ {n : Bool} (h1 : x = x') (h2 : y = y') : Bdj n x y K = Bdj n x' y' K := by rw [h1, h2]
@[congr] theorem Bh5 {n : Bool} (h1 : q = q') (h2 : q2 = q2') : Beq n q q2 K = Beq n q' q2' K := by rw [h1, h2]
@[congr] theorem Bfo {sz : Nat} (h0 : H = H') (h1 : x = x') (h2 : y = y') : A0z H sz x y KK = A0z H' sz x' y' KK := by rw [h0, h1, h2]
@[congr] theorem Bii {k n : Nat} {z : TV} (h0 : H = H') (h1 : x = x') (h2 : y = y') : Bfd H k n z x y KK = Bfd H' k n z x' y' KK := by rw [h0, h1, h2]
@[congr] theorem Bh9 {k n : Nat} {et : TypeId} (h0 : H = H') (h1 : x = x') (h2 : ox = ox') : Bb7 k n et x ox H KK = Bb7 k n et x' ox' H' KK := by rw [h0, h1, h2]
@[congr] theorem Bgp {k : Nat} (h0 : H = H') (h1 : x = x') (h2 : ox = ox') : A1F k x ox H KK = A1F k x' ox' H' KK := by rw [h0, h1, h2]
@[congr] theorem BfZ {et : TypeId} (h0 : H = H') (h1 : x = x') (h2 : y = y') : A7B et x y H KK = A7B et x' y' H' KK := by rw [h0, h1, h2]
@[congr] theorem Be5 (h0 : H = H') (h1 : x = x') (h2 : y = y') : A2v x y H KK = A2v x' y' H' KK := by rw [h0, h1, h2]
@[congr] theorem BfI {P : Program} {f : FuncId} {r r' : Option (Nat × Nat × List UInt8)} (h0 : H = H') (h1 : r = r') : A7k P f r H KK = A7k P f r' H' KK := by rw [h0, h1]
@[congr] theorem Bhk {k n : Nat} {z : TV} (h0 : H = H') (h1 : x = x') (h2 : y = y') : A6u k n z x y H KK = A6u k n z x' y' H' KK := by rw [h0, h1, h2]
@[congr] theorem Bih {n : Bool} (h0 : H = H') (h1 : x = x') : A9s n x H KK = A9s n x' H' KK := by rw [h0, h1]
@[congr] theorem Bf5 (h0 : H = H') : A05 H KK = A05 H' KK := by rw [h0]
@[congr] theorem Bh4 (h0 : H = H') (h1 : x = x') : Be4 H x KK = Be4 H' x' KK := by rw [h0, h1]
@[congr] theorem Be9 (h0 : H = H') (h1 : x = x') (h2 : xs = xs') : AYy P x xs H KK = AYy P x' xs' H' KK := by rw [h0, h1, h2]
@[congr] theorem Bil {P : Program} {nm : String} (h0 : H = H') (h1 : x = x') (h2 : xs = xs') : Bdf P nm x xs H KK = Bdf P nm x' xs' H' KK := by rw [h0, h1, h2]
@[congr] theorem BhV {P : Program} {g g' : Option (FuncId × Option (Bool × Nat))} (h : g = g') (h0 : H = H') (h1 : x = x') (h2 : xs = xs') : Bcf P g x xs H KK = Bcf P g' x' xs' H' KK := by rw [h, h0, h1, h2]
@[congr] theorem BiM {b : Bool} (h1 : q = q') : Gd q b A B = Gd q' b A B := by rw [h1]
end

section
variable {K : TV → Prop} {KK : TV → List Ob → Prop} {x y i a b c : Opd} {lo hi : Option Opd}
theorem BgW : pop (.mov x) e H K = AFP (x.ev e) K := AE7 rfl
theorem BeP : pop (.pick c a b) e H K = A50 (c.ev e) (a.ev e) (b.ev e) K := AE7 rfl
theorem Bhz {t : TypeId} {op : BinOp} : pop (.bin t op x y) e H K = Bfr t op (x.ev e) (y.ev e) K := AE7 rfl
theorem BiE {op : UnOp} : pop (.un op x) e H K = Pun op (x.ev e) K := AE7 rfl
theorem Bdz {k : IntKind} : pop (.conv k x) e H K = A6B k (x.ev e) K := AE7 rfl
theorem Bhj : pop (.s2s x) e H K = Bfs (x.ev e) K := AE7 rfl
theorem Bhl : pop (.b2s x) e H K = Be2 (AFZ H 1 (x.ev e)) K := AE7 rfl
theorem Bdo {ag : Bool} {sz : Nat} : pop (.load ag sz x) e H K = A1i H ag sz (x.ev e) K := AE7 rfl
theorem A7F {n o : Nat} : pop (.fieldA n o x) e H K = AVX n o (x.ev e) K := AE7 rfl
theorem BaD {ag : Bool} {sz n o : Nat} : pop (.field ag sz n o x) e H K = AZL ag sz n o (x.ev e) K := AE7 rfl
theorem Bet {k : Nat} : pop (.idxA k x i) e H K = A3A k (x.ev e) (i.ev e) K := AE7 rfl
theorem Bag {n k : Nat} : pop (.idxAA n k x i) e H K = AYs n k (x.ev e) (i.ev e) K := AE7 rfl
theorem BgO {ag : Bool} {n k : Nat} : pop (.idx ag n k x i) e H K = Bev ag n k (x.ev e) (i.ev e) K := AE7 rfl
theorem Bdu : pop (.idxS x i) e H K = A45 (x.ev e) (i.ev e) K := AE7 rfl
theorem Bgt {n : Nat} : pop (.ext n x) e H K = BcP n (x.ev e) K := AE7 rfl
theorem BdY : pop (.lenS x) e H K = A7f (x.ev e) K := AE7 rfl
theorem BdJ : pop (.lenV x) e H K = A3p (x.ev e) K := AE7 rfl
theorem Bg2 : pop (.slS x lo hi) e H K = Be6 (x.ev e) (evO e lo) (evO e hi) K := by
 show (match x.ev e with | .val (.string s) => bnd e lo hi (bl s).length (bl s).length fun l h => K (.val (.string (str (((bl s).drop l).take (h - l))))) | _ => False) = _
 simp only [A5q]; rfl
theorem BgR {k : Nat} : pop (.slV k x lo hi) e H K = Bcn k (x.ev e) (evO e lo) (evO e hi) K := by
 rw [Bg5]; simp only [A5q]; rfl
theorem BhH {n k : Nat} : pop (.slA n k x lo hi) e H K = Bcg H n k (x.ev e) (evO e lo) (evO e hi) K := by
 rw [Bgu]; simp only [A5q]; rfl
theorem Bbd {t : TypeId} : pop (.iface t x) e H K = A2A t (x.ev e) K := AE7 rfl
theorem Bht {f : Fn} {xs ys : List Opd} : pop (.mkf f xs ys) e H K = BeH f (evs e xs) (evs e ys) K := by
 rw [Bhf]; unfold BeH evs; rw [← List.map_append]
 refine congrArg (· ∧ _) (propext ⟨fun h y hy => ?_, fun h y hy => h _ (List.mem_map.2 ⟨y, hy, rfl⟩)⟩)
 obtain ⟨z, hz, rfl⟩ := List.mem_map.1 hy; exact h z hz
theorem BdQ : pop (.nilc x) e H K = A0a (x.ev e) K := AE7 rfl
theorem Bg0 : pop (.min x y) e H K = Bfj (x.ev e) (y.ev e) K := AE7 rfl
theorem Bgl : pop (.max x y) e H K = Bfq (x.ev e) (y.ev e) K := AE7 rfl
theorem Bhq {g : GOp} {xs : List Opd} : pop (.gen g xs) e H K = AXo g H (evs e xs) K := AE7 rfl
theorem BgY {n : Bool} : pop (.eqB x y n) e H K = Bdj n (x.ev e) (y.ev e) K := AE7 rfl
theorem BfH {kd : Nat} {n : Bool} : pop (.eqN kd x y n) e H K = Beq n (AHy kd (x.ev e)) (AHy kd (y.ev e)) K := AE7 rfl
theorem BbR {zs : List TV} {szs : List Nat} {ps : List (Nat × Opd)} : pop (.build zs szs ps) e H K = AGZ (AHC e szs ps) (AFP (TV.agg (AId e zs ps)) K) := AE7 rfl
theorem A8I {n k : Nat} {zs : List TV} {ps : List (Nat × Opd)} : pop (.buildA n k zs ps) e H K = AGZ (AHC e (List.replicate n k) ps) (AGZ (AFT e ps) (AFP (TV.arr n k (AId e zs ps)) K)) := AE7 rfl
theorem BgI {k n : Nat} {z : TV} {ps : List (Nat × Opd)} : pop (.bsl k n z ps) e H K = AGZ (AHC e (List.replicate n k) ps) (AGZ (AFT e ps ∧ n ≤ 1000) (AFP (TV.sl k (AId e (List.replicate n z) ps)) K)) := by
 show ((_ ∧ _ ∧ _) ∧ _) = _
 simp only [AGZ, AFP, and_assoc]
theorem Bba {z : TV} : sop P (.alloc z) e H KK = AFP (H.length) fun n => AFP (H ++ [.obj 0 z]) fun H' => KK (.op n 0 []) H' := AE7 rfl
theorem A68 {z : TV} {t : TypeId} : sop P (.allocT z t) e H KK = AFP (H.length) fun n => AFP (AFo z) fun m => AFP (H ++ [.obj 0 z, .fact n 0 t m]) fun H' => KK (.op n 0 []) H' := AE7 rfl
theorem Bc2 {t : TypeId} : sop P (.boxT x t) e H KK = AFP (x.ev e) fun v => AGZ (lays v = true) (AFP (H.length) fun n => AFP (AFo v) fun m => AFP (H ++ [.obj 0 v, .fact n 0 t m]) fun H' => KK (.op n 0 []) H') := AE7 rfl
theorem Bdp {f : FuncId} : sop P (.bstr f x) e H KK = A7k P f (A2W H (x.ev e)) H KK := AE7 rfl
def A8v (x : TV) (H : List Ob) (K : TV → List Ob → Prop) [Tg K] : Prop := match x with
 | .val (.string s) => K (.op H.length 0 []) (H ++ [.sit (bl s) 0])
 | _ => False
@[congr] theorem Bhh {x x' : TV} {H' : List Ob} (h1 : x = x') (h2 : H = H') : A8v x H KK = A8v x' H' KK := by rw [h1, h2]
theorem Bef : sop P (.rngS x) e H KK = A8v (x.ev e) H KK := AE7 rfl
theorem A6p {s : ByteArray} : A8v (.val (.string s)) H KK = AFP H.length fun n => AFP (H ++ [.sit (bl s) 0]) fun H' => KK (.op n 0 []) H' := AE7 rfl
def A5J : Option Ob → Option (List UInt8 × Nat)
 | some (.sit s pos) => some (s, pos)
 | _ => none
theorem A9c {s : List UInt8} {pos : Nat} : A5J (some (.sit s pos)) = some (s, pos) := AE7 rfl
def A4T (x : TV) (H : List Ob) (K : TV → List Ob → Prop) [Tg K] : Prop := match x with
 | .op id 0 [] => (match H[id]? with
  | some (.sit s pos) => if pos < s.length then K (.tup [.val (.bool true), .val (.int .i64 (pos : Int)), .val (.int .i32 ((Utf8.decode (str s) pos).1 : Int))]) (H.set id (.sit s (pos + (Utf8.decode (str s) pos).2))) else K (.tup [.val (.bool false)]) H
  | _ => False)
 | _ => False
@[congr] theorem BfD {x x' : TV} {H' : List Ob} (h1 : x = x') (h2 : H = H') : A4T x H KK = A4T x' H' KK := by rw [h1, h2]
theorem BeM : sop P (.nxtS x) e H KK = A4T (x.ev e) H KK := AE7 rfl
theorem A8q {id : Nat} : A4T (.op id 0 []) H KK = AFQ (A5J H[id]?) fun p => vif (decide (p.2 < p.1.length))
  (AFP (H.set id (.sit p.1 (p.2 + (Utf8.decode (str p.1) p.2).2))) fun H' => KK (.tup [.val (.bool true), .val (.int .i64 (p.2 : Int)), .val (.int .i32 ((Utf8.decode (str p.1) p.2).1 : Int))]) H') (KK (.tup [.val (.bool false)]) H) := by
 unfold A4T
 cases h : H[id]? with
 | none => simp [A5J, AFQ, h]
 | some o =>
  cases o with
  | sit s pos => simp only [h, A5J, AFQ, AFP]; by_cases hp : pos < s.length <;> simp [vif, hp]
  | _ => simp [A5J, AFQ, h]
theorem Bha : sop P (.box x) e H KK = AFP (x.ev e) fun v => AGZ (lays v = true) (AFP (H.length) fun n => AFP (H ++ [.obj 0 v]) fun H' => KK (.op n 0 []) H') := AE7 rfl
theorem A7I {k n : Nat} {z : TV} {ps : List (Nat × Opd)} : sop P (.bslice k n z ps) e H KK = AGZ (AHC e (List.replicate n k) ps) (AGZ (AFT e ps ∧ n ≤ 1000) (AFP H.length fun m => AFP (H ++ [.obj 0 (.arr n k (AId e (List.replicate n z) ps))]) fun H' => KK (.os k m 0 [] 0 n n) H')) := by
 rw [A6R]; simp only [AGZ, AFP, and_assoc]
def AWS (kk : MK) : Option Ob → Option (List (List UInt8 × TV))
 | some (.mpo kk' es) => if kk' = kk then some es else none
 | _ => none
def AXB (kk : MK) : Option Ob → Option (List (List UInt8 × TV))
 | some (.mpo kk' es) => if kk' = kk then some es else none
 | some (.mpd kk' zs _) => if kk' = kk then some (zs.map (·.2)) else none
 | _ => none
theorem A6C {kk : MK} {es : List (List UInt8 × TV)} : AXB kk (some (.mpo kk es)) = some es := by simp [AXB]
theorem Ba7 {kk : MK} {zs : List (Nat × List UInt8 × TV)} {cl : Nat} : AXB kk (some (.mpd kk zs cl)) = some (zs.map (·.2)) := by simp [AXB]
def A1C : Option Ob → Option (List (List UInt8 × TV))
 | some (.mpo _ es) => some es
 | some (.mpd _ zs _) => some (zs.map (·.2))
 | _ => none
theorem A8m {kk : MK} {es : List (List UInt8 × TV)} : A1C (some (.mpo kk es)) = some es := by simp [A1C]
theorem Bbq {kk : MK} {zs : List (Nat × List UInt8 × TV)} {cl : Nat} : A1C (some (.mpd kk zs cl)) = some (zs.map (·.2)) := by simp [A1C]
theorem Bbi {kk : MK} {es : List (List UInt8 × TV)} : stO (some (.mpo kk es)) = some (kk, AWt 0 es, es.length) := AE7 rfl
theorem Bb5 {kk : MK} {zs : List (Nat × List UInt8 × TV)} {cl : Nat} : stO (some (.mpd kk zs cl)) = some (kk, zs, cl) := AE7 rfl
def A4p (x : TV) (H : List Ob) (K : TV → List Ob → Prop) [Tg K] : Prop := match x with
 | .mp id 0 => (match stO H[id]? with
  | some (_, _, cl) => K (.op H.length 0 []) (H ++ [.mit id [] cl])
  | none => False)
 | _ => False
@[congr] theorem Bgn {x x' : TV} {H' : List Ob} (h1 : x = x') (h2 : H = H') : A4p x H KK = A4p x' H' KK := by rw [h1, h2]
theorem BdC : sop P (.rngM x) e H KK = A4p (x.ev e) H KK := AE7 rfl
theorem A6s {id : Nat} : A4p (.mp id 0) H KK = AFQ (stO H[id]?) fun p => AFP H.length fun n => AFP (H ++ [.mit id [] p.2.2]) fun H' => KK (.op n 0 []) H' := by
 unfold A4p
 cases h : stO H[id]? with
 | none => simp [AFQ, h]
 | some o => obtain ⟨a, b, c⟩ := o; simp [AFQ, AFP, h]
def AZu : Option Ob → Option (Nat × List Nat × Nat)
 | some (.mit m sn cl) => some (m, sn, cl)
 | _ => none
theorem A9j {m cl : Nat} {sn : List Nat} : AZu (some (.mit m sn cl)) = some (m, sn, cl) := AE7 rfl
def A5F (x : TV) (H : List Ob) (K : TV → List Ob → Prop) [Tg K] : Prop := match x with
 | .op id 0 [] => (match H[id]? with
  | some (.mit m sn cl) => (match stO H[m]? with
   | some (kk, zs, cl') => (cl' = cl ∧ ∀ z ∈ zs, z.1 < cl) ∧ (∀ z ∈ zs, z.1 ∉ sn → K (.tup [.val (.bool true), kTV kk z.2.1, z.2.2]) (H.set id (.mit m (sn ++ [z.1]) cl))) ∧ ((∀ z ∈ zs, z.1 ∈ sn) → K (.tup [.val (.bool false)]) H)
   | none => False)
  | _ => False)
 | _ => False
@[congr] theorem BfC {x x' : TV} {H' : List Ob} (h1 : x = x') (h2 : H = H') : A5F x H KK = A5F x' H' KK := by rw [h1, h2]
theorem BdG : sop P (.nxtM x) e H KK = A5F (x.ev e) H KK := AE7 rfl
def Bfg (id m : Nat) (sn : List Nat) (cl : Nat) (kk : MK) (zs : List (Nat × List UInt8 × TV)) (cl' : Nat) (H : List Ob) (K : TV → List Ob → Prop) [Tg K] : Prop :=
 (cl' = cl ∧ ∀ z ∈ zs, z.1 < cl) ∧ (∀ z ∈ zs, z.1 ∉ sn → K (.tup [.val (.bool true), kTV kk z.2.1, z.2.2]) (H.set id (.mit m (sn ++ [z.1]) cl))) ∧ ((∀ z ∈ zs, z.1 ∈ sn) → K (.tup [.val (.bool false)]) H)
@[congr] theorem BhQ {id m : Nat} {sn sn' : List Nat} {cl c2 : Nat} {kk : MK} {zs zs' : List (Nat × List UInt8 × TV)} {cl' c2' : Nat} {H' : List Ob} (h1 : sn = sn') (h2 : cl = c2) (h3 : zs = zs') (h4 : cl' = c2') (h5 : H = H') : Bfg id m sn cl kk zs cl' H KK = Bfg id m sn' c2 kk zs' c2' H' KK := by rw [h1, h2, h3, h4, h5]
theorem A89 {id : Nat} : A5F (.op id 0 []) H KK = AFQ (AZu H[id]?) fun p => AFQ (stO H[p.1]?) fun q => Bfg id p.1 p.2.1 p.2.2 q.1 q.2.1 q.2.2 H KK := by
 unfold A5F
 cases h : H[id]? with
 | none => simp [AZu, AFQ, h]
 | some o =>
  cases o with
  | mit m sn cl =>
   simp only [h, AZu, AFQ]
   cases h2 : stO H[m]? with
   | none => simp
   | some q => obtain ⟨a, b, c⟩ := q; simp only [Bfg]
  | _ => simp [AZu, AFQ, h]
def Bdg (p : Nat × List Nat × Nat) (q : MK × List (Nat × List UInt8 × TV) × Nat) : Option TV := match p.2.1.getLast? with
 | some s => if q.2.2 = p.2.2 then (match q.2.1.find? (·.1 == s) with
  | some z => some (.tup [kTV q.1 z.2.1, z.2.2])
  | none => none) else none
 | none => none
def Bcm (kk : MK) (o : Option Ob) : Option (List (Nat × List UInt8 × TV) × Nat) := match stO o with
 | some (kk', zs, cl) => if kk' = kk then some (zs, cl) else none
 | none => none
theorem A6D {kk : MK} {es : List (List UInt8 × TV)} : Bcm kk (some (.mpo kk es)) = some (AWt 0 es, es.length) := by simp [Bcm, stO]
theorem A8V {kk : MK} {zs : List (Nat × List UInt8 × TV)} {cl : Nat} : Bcm kk (some (.mpd kk zs cl)) = some (zs, cl) := by simp [Bcm, stO]
def A4M (kk : MK) (m k : TV) (H : List Ob) (K : TV → List Ob → Prop) [Tg K] : Prop := match m, AFY kk k with
 | .mp id 0, some kb => (match stO H[id]? with
  | some (kk', zs, cl) => kk' = kk ∧ K .any (H.set id (.mpd kk (zs.eraseIdx (AX1 kb (zs.map (·.2)))) cl))
  | none => False)
 | _, _ => False
@[congr] theorem BgX {kk : MK} {H' : List Ob} {m m' k k' : TV} (h1 : m = m') (h2 : k = k') (h4 : H = H') : A4M kk m k H KK = A4M kk m' k' H' KK := by rw [h1, h2, h4]
theorem BcU {kk : MK} {m k : Opd} : sop P (.delM kk m k) e H KK = A4M kk (m.ev e) (k.ev e) H KK := AE7 rfl
theorem A7b {kk : MK} {id : Nat} {kx : TV} : A4M kk (.mp id 0) kx H KK = AFQ (Bcm kk H[id]?) fun p => AFQ (AFY kk kx) fun kb => AFP (p.1.eraseIdx (AX1 kb (p.1.map (·.2)))) fun zs => AFP (H.set id (.mpd kk zs p.2)) fun H' => KK .any H' := by
 unfold A4M Bcm
 cases h : stO H[id]? with
 | none => cases AFY kk kx <;> simp [h, AFQ]
 | some q =>
  obtain ⟨kk', zs, cl⟩ := q
  by_cases hk : kk' = kk
  ·subst hk; cases AFY kk' kx <;> simp [h, AFQ, AFP]
  ·cases AFY kk kx <;> simp [h, AFQ, hk]
def Bfm (H : List Ob) (x : TV) (K : TV → List Ob → Prop) [Tg K] : Prop := match x with
 | .os k id ver [] off n cp => n ≠ 0 ∧ obV H[id]? = some ver ∧ K (.os k id ver [] off n cp) H
 | _ => False
@[congr] theorem Bid {H' : List Ob} {x x' : TV} (h0 : H = H') (h1 : x = x') : Bfm H x KK = Bfm H' x' KK := by rw [h0, h1]
theorem Bfx {x : Opd} : sop P (.cvS x) e H KK = Bfm H (x.ev e) KK := AE7 rfl
theorem BaG {k id ver off n cp : Nat} : Bfm H (.os k id ver [] off n cp) KK = AGZ (n ≠ 0) (AGZ (obV H[id]? = some ver) (KK (.os k id ver [] off n cp) H)) := AE7 rfl
theorem Beg {v : Nat} {y : TV} : obV (some (.obj v y)) = some v := AE7 rfl
def A4Z (k : Nat) (z x : TV) (H : List Ob) (K : TV → List Ob → Prop) [Tg K] : Prop := match x with
 | .os k' id ver p off n cp => ATw k (.os k' id ver p off n cp) (List.replicate n z) H fun _ H' => K .any H'
 | .val (.slice none 0 0) => K .any H
 | _ => False
@[congr] theorem Bf2 {k : Nat} {z x x' : TV} {H' : List Ob} (h1 : x = x') (h2 : H = H') : A4Z k z x H KK = A4Z k z x' H' KK := by rw [h1, h2]
theorem BdM {k : Nat} {z : TV} : sop P (.clrS k z x) e H KK = A4Z k z (x.ev e) H KK := AE7 rfl
theorem A5Y {k : Nat} {z : TV} : A4Z k z (.val (.slice none 0 0)) H KK = KK .any H := AE7 rfl
theorem A7D {k id ver off n cp : Nat} {p : List (Nat × Nat)} {z : TV} : A4Z k z (.os k id ver p off n cp) H KK = AFP (List.replicate n z) fun ys => A1F k (.os k id ver p off n cp) (some ys) H fun _ H' => KK .any H' := AE7 rfl
theorem A7c {kk : MK} {es : List (List UInt8 × TV)} : AWS kk (some (.mpo kk es)) = some es := by simp [AWS]
theorem Beu {l : List UInt8} : AFY .str (.val (.string (str l))) = some l := by simp [AFY, bl, str]
theorem Bd7 {n : Nat} {l : List UInt8} : AFY (.arr n) (.arr n 1 (l.map by8)) = some l := by
 unfold AFY; simp only [AU0, AQ5, and_self, if_true]
theorem BaP {z : TV} {r : Option TV} : AW8 z false r = r.getD z := by simp [AW8]
theorem A9S {z : TV} {r : Option TV} : AW8 z true r = .tup [r.getD z, .val (.bool r.isSome)] := by simp [AW8]
def Bck (x : TV) (A : Prop) [Tg A] : Prop := match x with
 | .val (.int _ _) => A
 | _ => False
@[congr] theorem Bif {x x' : TV} {A : Prop} (h : x = x') : Bck x A = Bck x' A := by rw [h]
theorem A96 {q : IntKind} {n : Int} {A : Prop} : Bck (.val (.int q n)) A = A := by simp [Bck]
theorem Bed {kk : MK} : sop P (.mkm kk none) e H KK = AFP H.length fun n => AFP (H ++ [.mpo kk []]) fun H' => KK (.mp n 0) H' := by simp [sop, AFP]
theorem Bd3 {kk : MK} : sop P (.mkm kk (some x)) e H KK = Bck (x.ev e) (AFP H.length fun n => AFP (H ++ [.mpo kk []]) fun H' => KK (.mp n 0) H') := by
 simp only [sop, AFP, Bck]
 cases x.ev e with
 | val v => cases v <;> simp
 | _ => simp
def A4g (kk : MK) (m k v : TV) (H : List Ob) (K : TV → List Ob → Prop) [Tg K] : Prop := match m, AFY kk k with
 | .mp id 0, some kb => (match H[id]? with
  | some (.mpo kk' es) => (kk' = kk ∧ lays v = true) ∧ K .any (H.set id (.mpo kk (AVv kb v es)))
  | _ => False)
 | _, _ => False
@[congr] theorem Bgz {kk : MK} {H' : List Ob} {m m' k k' v v' : TV} (h1 : m = m') (h2 : k = k') (h3 : v = v') (h4 : H = H') : A4g kk m k v H KK = A4g kk m' k' v' H' KK := by rw [h1, h2, h3, h4]
theorem BcR {kk : MK} {m k : Opd} : sop P (.mupd kk m k x) e H KK = A4g kk (m.ev e) (k.ev e) (x.ev e) H KK := AE7 rfl
def A5j (kk : MK) (z m k : TV) (H : List Ob) (K : TV → List Ob → Prop) [Tg K] : Prop := match m, AFY kk k with
 | .mp id 0, some kb => (match H[id]? with
  | some (.mpo kk' es) => kk' = kk ∧ K (.tup [(ASm kb es).getD z, .val (.int .i64 (AX1 kb es))]) (H.set id (.mpo kk (AVv kb ((ASm kb es).getD z) es)))
  | _ => False)
 | _, _ => False
@[congr] theorem Bgg {kk : MK} {H' : List Ob} {z m m' k k' : TV} (h1 : m = m') (h2 : k = k') (h4 : H = H') : A5j kk z m k H KK = A5j kk z m' k' H' KK := by rw [h1, h2, h4]
theorem BdB {kk : MK} {z : TV} {m k : Opd} : sop P (.ment kk z m k) e H KK = A5j kk z (m.ev e) (k.ev e) H KK := AE7 rfl
def A4z (m st v : TV) (H : List Ob) (K : TV → List Ob → Prop) [Tg K] : Prop := match m, st with
 | .mp id 0, .val (.int _ j) => (match H[id]? with
  | some (.mpo kk es) => (0 ≤ j ∧ lays v = true) ∧ (match es[j.toNat]? with
   | some (k, _) => K .any (H.set id (.mpo kk (es.set j.toNat (k, v))))
   | none => False)
  | _ => False)
 | _, _ => False
@[congr] theorem Bgj {H' : List Ob} {m m' st st' v v' : TV} (h1 : m = m') (h2 : st = st') (h3 : v = v') (h4 : H = H') : A4z m st v H KK = A4z m' st' v' H' KK := by rw [h1, h2, h3, h4]
theorem BcJ {m st : Opd} : sop P (.mest m st x) e H KK = A4z (m.ev e) (st.ev e) (x.ev e) H KK := AE7 rfl
theorem Bay {sz : Nat} : sop P (.store sz x y) e H KK = A0z H sz (x.ev e) (y.ev e) KK := AE7 rfl
theorem BhK {k n : Nat} {z : TV} : sop P (.mks k n z x y) e H KK = Bfd H k n z (x.ev e) (y.ev e) KK := AE7 rfl
theorem Bf4 {k n : Nat} {et : TypeId} : sop P (.app k n et x y) e H KK = Bb7 k n et (x.ev e) (AFZ H k (y.ev e)) H KK := AE7 rfl
theorem Bdh {et : TypeId} : sop P (.appS et x y) e H KK = A7B et (x.ev e) (y.ev e) H KK := AE7 rfl
theorem BcD {k : Nat} : sop P (.copy k x y) e H KK = A1F k (x.ev e) (AFZ H k (y.ev e)) H KK := AE7 rfl
theorem BaV : sop P (.copyS x y) e H KK = A2v (x.ev e) (y.ev e) H KK := AE7 rfl
theorem BdS {k n : Nat} {z : TV} : sop P (.appZ k n z x y) e H KK = A6u k n z (x.ev e) (y.ev e) H KK := AE7 rfl
theorem Bf0 {n : Bool} : sop P (.eqS x n) e H KK = A9s n (x.ev e) H KK := AE7 rfl
theorem Bgk : sop P (.s2b x) e H KK = Be4 H (x.ev e) KK := AE7 rfl
theorem BeU {f : FuncId} {args : List Opd} : sop P (.call f args) e H KK = AFP (evs e args) fun xs => AGZ (ATc xs) (VC P f xs H KK) := by
 rw [BdO, AQ3]; rfl
theorem Bgw {nm : String} {args : List Opd} : sop P (.inv x nm args) e H KK = AFP (evs e args) fun xs => AGZ (ATc xs) (Bdf P nm (x.ev e) xs H KK) := by
 show ((∀ y ∈ args, AGg (y.ev e) = false) ∧ _) = _
 rw [AQ3]; rfl
theorem Baf {args : List Opd} : sop P (.callv x args) e H KK = AFP (evs e args) fun xs => AGZ (ATc xs) (AYy P (x.ev e) xs H KK) := by
 rw [BaW, AQ3]; rfl
end

section
variable {K : TV → Prop} {KK : TV → List Ob → Prop} {x y : TV} {cs ys : List TV} {n n' k k' : Nat} {id ver off cp : Nat} {p : List (Nat × Nat)} {j : Int} {q : IntKind} {lo hi : Option TV}
theorem A6e {t : Bool} : A50 (.val (.bool t)) x y K = vif t (K x) (K y) := by cases t <;> simp [A50, vif]
theorem BbS {t : TypeId} {op : BinOp} {u v : Value} : Bfr t op (.val u) (.val v) K = AGZ (A6n u v = true) (AFQ (AHJ t op u v) fun r => AFP (TV.val r) K) := by
 show (_ ∧ _) = _; cases AHJ t op u v <;> rfl
theorem BeZ {op : UnOp} {u : Value} : Pun op (.val u) K = AFQ (unV op u) fun r => AFP (TV.val r) K := by
 unfold Pun; simp only; cases unV op u <;> rfl
theorem A8W {k : IntKind} : A6B k (.val (.int q j)) K = AFP (TV.val (.int k (k.wrap j))) K := AE7 rfl
theorem BbD {s : ByteArray} : Bfs (.val (.string s)) K = K (.val (.string s)) := AE7 rfl
theorem A9V : Be2 (some cs) K = AGZ (∀ y ∈ cs, A3D y) (AFP (TV.val (.string (str (cs.map AVO)))) K) := AE7 rfl
theorem A7l {ag : Bool} {sz : Nat} : A1i H ag sz (.fp y) K = AGZ (AYH ag sz y) (K y) := AE7 rfl
theorem A8Q {ag : Bool} {sz : Nat} : A1i H ag sz (.op id ver p) K = AFQ (AJx H[id]? ver) fun x => AFQ (ANU p x) fun y => AGZ (AYH ag sz y) (K y) := by
 unfold A1i
 simp only
 cases h : H[id]? with
 | none => simp [AJx, AFQ]
 | some o =>
  cases o with
  | gone v => simp [AJx, AFQ]
  | ice v m y => simp [AJx, AFQ]
  | fact i v t m => simp [AJx, AFQ]
  | bld v t l => simp [AJx, AFQ]
  | lp st pe fn N en ps ca cb => simp [AJx, AFQ]
  | mpo kk es => simp [AJx, AFQ]
  | mpd kk zs cl => simp [AJx, AFQ]
  | mit m sn cl => simp [AJx, AFQ]
  | sit s pos => simp [AJx, AFQ]
  | obj v x =>
   by_cases hv : v = ver
   ·subst hv; simp only [AJx, AFQ, AGZ, if_true, true_and]; cases ANU p x <;> rfl
   ·simp [AJx, AFQ, hv]
theorem A3k {i o : Nat} : AVX i o (.op id ver p) K = AFP (p ++ [(i, o)]) fun p => K (.op id ver p) := AE7 rfl
theorem A25 {i o : Nat} : AVX i o (.fp (.agg cs)) K = AGZ (AF0 (cs.take i) = o) (AFQ cs[i]? fun y => K (.fp y)) := by
 unfold AVX; simp only; cases cs[i]? <;> rfl
theorem A4b {ag : Bool} {sz i o : Nat} : AZL ag sz i o (.agg cs) K = AGZ (AF0 (cs.take i) = o) (AFQ cs[i]? fun y => AGZ (AYH ag sz y) (K y)) := by
 unfold AZL; simp only; cases cs[i]? <;> rfl
theorem A8M : A3A k (.sl k cs) (.val (.int q j)) K = AGZ (0 ≤ j) (AFQ cs[j.toNat]? fun y => K (.fp y)) := by
 unfold A3A; simp only [true_and]; cases cs[j.toNat]? <;> rfl
theorem A8E : A3A k (.os k id ver p off n cp) (.val (.int q j)) K = AGZ (0 ≤ j ∧ j < n) (AFP (off + j.toNat) fun m => AFP (p ++ [(m, m * k)]) fun p => K (.op id ver p)) := by
 show (k = k ∧ _) = _; simp [AGZ, AFP, and_assoc]
theorem A5s : AYs n k (.fp (.arr n k cs)) (.val (.int q j)) K = AGZ (0 ≤ j) (AFQ cs[j.toNat]? fun y => K (.fp y)) := by
 unfold AYs; simp only [true_and]; cases cs[j.toNat]? <;> rfl
theorem A4j : AYs n k (.op id ver p) (.val (.int q j)) K = AGZ (0 ≤ j ∧ j < n) (AFP j.toNat fun m => AFP (p ++ [(m, m * k)]) fun p => K (.op id ver p)) := by
 show (_ ∧ _) = _; simp [AGZ, AFP, and_assoc]
theorem A93 {ag : Bool} : Bev ag n k (.arr n k cs) (.val (.int q j)) K = AGZ (0 ≤ j) (AFQ cs[j.toNat]? fun y => AGZ (AYH ag k y) (K y)) := by
 unfold Bev; simp only [true_and]; cases cs[j.toNat]? <;> rfl
theorem A66 {s : ByteArray} : A45 (.val (.string s)) (.val (.int q j)) K = AGZ (0 ≤ j) (AFQ (bl s)[j.toNat]? fun b => K (by8 b)) := by
 unfold A45; simp only; cases (bl s)[j.toNat]? <;> rfl
theorem Bak {i : Nat} : BcP i (.tup cs) K = AFQ cs[i]? K := by
 unfold BcP; simp only; cases cs[i]? <;> rfl
theorem A6T {s : ByteArray} : A7f (.val (.string s)) K = AFP (TV.val (.int .i64 (bl s).length)) K := AE7 rfl
theorem A7G : A3p (.sl k cs) K = AFP (TV.val (.int .i64 cs.length)) K := AE7 rfl
theorem A88 : A3p (.os k id ver p off n cp) K = K (.val (.int .i64 n)) := AE7 rfl
theorem A4d {ad : Option Addr} {c : Nat} : A3p (.val (.slice ad n c)) K = K (.val (.int .i64 n)) := AE7 rfl
section
variable {len lim : Nat} {KN : Nat → Nat → Prop} {l h : Int} {q2 : IntKind}
theorem A9Z : AY0 none none len lim KN = AGZ (len ≤ lim) (KN 0 len) := by
 show ((0 ≤ (0:Int) ∧ (0:Int) ≤ (len : Int) ∧ (len : Int) ≤ lim) ∧ KN (Int.toNat 0) (Int.toNat len)) = _
 simp [AGZ]
theorem BbE : AY0 (some (.val (.int q l))) none len lim KN = AGZ (0 ≤ l ∧ l ≤ len ∧ (len : Int) ≤ lim) (AFP l.toNat fun l => KN l len) := by
 show ((0 ≤ l ∧ l ≤ (len : Int) ∧ (len : Int) ≤ lim) ∧ KN l.toNat (Int.toNat len)) = _
 simp [AGZ, AFP]
theorem BbN : AY0 none (some (.val (.int q h))) len lim KN = AGZ (0 ≤ h ∧ h ≤ lim) (AFP h.toNat fun h => KN 0 h) := by
 show ((0 ≤ (0:Int) ∧ 0 ≤ h ∧ h ≤ lim) ∧ KN (Int.toNat 0) h.toNat) = _
 simp [AGZ, AFP]
theorem Baq : AY0 (some (.val (.int q l))) (some (.val (.int q2 h))) len lim KN = AGZ (0 ≤ l ∧ l ≤ h ∧ h ≤ lim) (AFP l.toNat fun l => AFP h.toNat fun h => KN l h) := AE7 rfl
end
theorem Bb9 {s : ByteArray} : Be6 (.val (.string s)) lo hi K = AY0 lo hi (bl s).length (bl s).length fun l h => AFP (((bl s).drop l).take (h - l)) fun r => K (.val (.string (str r))) := AE7 rfl
theorem A9L : Bcn k (.sl k cs) lo hi K = AY0 lo hi cs.length cs.length fun l h => AFP ((cs.drop l).take (h - l)) fun r => K (.sl k r) := by
 exact propext ⟨fun h => h.2, fun h => ⟨rfl, h⟩⟩
theorem BaC : Bcn k (.os k id ver p off n cp) lo hi K = AY0 lo hi n cp fun l h => AFP (off + l) fun o => AFP (h - l) fun m => AFP (cp - l) fun c => K (.os k id ver p o m c) := by
 exact propext ⟨fun h => h.2, fun h => ⟨rfl, h⟩⟩
theorem A8x {ad : Option Addr} : Bcn k (.val (.slice ad 0 0)) lo hi K = AY0 lo hi 0 0 fun l h => K (.val (.slice ad 0 0)) := AE7 rfl
theorem Bab : Bcg H n k (.fp (.arr n k cs)) lo hi K = AGZ (n ≤ 9223372036854775807) (AY0 lo hi n n fun l h => AFP ((cs.drop l).take (h - l)) fun r => K (.sl k r)) := by
 exact propext ⟨fun h => ⟨h.2.2.1, h.2.2.2⟩, fun h => ⟨rfl, rfl, h.1, h.2⟩⟩
def A0F : Option TV → Nat → Nat → Option (List TV)
 | some (.arr n' k' cs), n, k => if n' = n ∧ k' = k then some cs else none
 | _, _, _ => none
theorem A6m : A0F (some (.arr n k cs)) n k = some cs := by simp [A0F]
theorem BaY : Bcg H n k (.op id ver p) lo hi K = AFQ (AJx H[id]? ver) fun x => AGZ (n ≤ 9223372036854775807) (AFQ (A0F (ANU p x) n k) fun _ => AY0 lo hi n n fun l h => AFP (h - l) fun m => AFP (n - l) fun c => K (.os k id ver p l m c)) := by
 unfold Bcg
 simp only
 cases h : H[id]? with
 | none => simp [AJx, AFQ]
 | some o =>
  cases o with
  | gone v => simp [AJx, AFQ]
  | ice v m y => simp [AJx, AFQ]
  | fact i v t m => simp [AJx, AFQ]
  | bld v t l => simp [AJx, AFQ]
  | lp st pe fn N en ps ca cb => simp [AJx, AFQ]
  | mpo kk es => simp [AJx, AFQ]
  | mpd kk zs cl => simp [AJx, AFQ]
  | mit m sn cl => simp [AJx, AFQ]
  | sit s pos => simp [AJx, AFQ]
  | obj v x =>
   by_cases hv : v = ver
   ·simp only [AJx, AFQ, hv, AGZ, AFP, if_true, true_and]
    congr 1
    cases hg : ANU p x with
    | none => simp [A0F]
    | some y =>
     cases y with
     | arr n2 k2 ds =>
      by_cases h1 : n2 = n
      ·by_cases h2 : k2 = k
       ·simp [A0F, h1, h2]; exact Iff.rfl
       ·simp [A0F, h1, h2]
      ·simp [A0F, h1]
     | _ => simp [A0F]
   ·simp [AJx, AFQ, hv]
theorem A5l {t : TypeId} : A2A t x K = AGZ (lays x = true) (K (.ifc t x)) := AE7 rfl
theorem A98 {f : Fn} : BeH f cs ys K = AGZ (ATc (cs ++ ys)) (K (.fn f cs ys)) := AE7 rfl
theorem A60 : A0a (.op id ver p) K = K (.op id ver p) := AE7 rfl
theorem A7m : A0a (.fp y) K = K (.fp y) := AE7 rfl
theorem A84 {f : FuncId} {a b : List TV} : A0a (.fn (.func f) a b) K = K (.fn (.func f) a b) := AE7 rfl
theorem A3K {t : TypeId} : A0a (.ifc t y) K = K (.ifc t y) := AE7 rfl
theorem A3r {f : FuncId} {a b : Array Value} : A0a (.val (.func (.func f) a b)) K = K (.val (.func (.func f) a b)) := AE7 rfl
section
variable {a b : Int} {q2 : IntKind}
theorem Bbc : Bfj (.val (.int q a)) (.val (.int q2 b)) K = vif (decide (b < a)) (K (.val (.int q b))) (K (.val (.int q a))) := by
 show K _ = _
 by_cases h : b < a <;> simp [vif, h]
theorem Bb1 : Bfq (.val (.int q a)) (.val (.int q2 b)) K = vif (decide (a < b)) (K (.val (.int q b))) (K (.val (.int q a))) := by
 show K _ = _
 by_cases h : a < b <;> simp [vif, h]
theorem A8Y {q1 q2 q3 : IntKind} {l h m : Int} : AXo (.sl3 k) H [.sl k cs, .val (.int q1 l), .val (.int q2 h), .val (.int q3 m)] K = AGZ (0 ≤ l ∧ l ≤ h ∧ h ≤ m ∧ m ≤ cs.length) (AFP ((cs.drop l.toNat).take (h.toNat - l.toNat)) fun r => K (.sl k r)) := by
 unfold AXo gev AGZ AFP
 simp only [true_and]
 by_cases hc : 0 ≤ l ∧ l ≤ h ∧ h ≤ m ∧ m ≤ cs.length
 ·rw [if_pos hc]; simp [hc]
 ·rw [if_neg hc]; simp only [hc, false_and]
theorem A83 {sh : List EL} {b : Bool} {xs ys : List TV} : AXo (.eqR sh b) H [.agg xs, .agg ys] K = AFQ (AZl sh xs ys) fun r => AFP (TV.val (.bool (xor b r))) K := by
 have hg : gev (.eqR sh b) H [.agg xs, .agg ys] = (AZl sh xs ys).map fun r => .val (.bool (xor b r)) := by unfold gev; rfl
 unfold AXo AFQ AFP
 rw [hg]
 cases AZl sh xs ys <;> rfl
theorem A6N : AZl [] [] [] = some true := AE7 rfl
theorem BdE {l : List EL} {k : IntKind} {a b : Int} {xs ys : List TV} : AZl (.i :: l) (.val (.int k a) :: xs) (.val (.int k b) :: ys) = (AZl l xs ys).map fun r => (a == b) && r := by rw [AZl, if_pos rfl]
theorem Bc6 {l : List EL} {a b : ByteArray} {xs ys : List TV} : AZl (.s :: l) (.val (.string a) :: xs) (.val (.string b) :: ys) = (AZl l xs ys).map fun r => (a == b) && r := AE7 rfl
theorem Bda {l : List EL} {n : Nat} {a b : List UInt8} {xs ys : List TV} : AZl (.b n :: l) (.arr n 1 (a.map by8) :: xs) (.arr n 1 (b.map by8) :: ys) = (AZl l xs ys).map fun r => (a == b) && r := by
 rw [AZl]
 simp only [AU0, AQ5, and_self, if_true]
theorem A6k {n : Nat} {b : Bool} {xs ys : List UInt8} : AXo (.eqA n b) H [.arr n 1 (xs.map by8), .arr n 1 (ys.map by8)] K = AFP (TV.val (.bool (xor b (xs == ys)))) K := by
 unfold AXo gev AFP
 simp only [AU0, AQ5, and_self, if_true]
theorem A6E {q : IntKind} {n : Int} : AXo .r2s H [.val (.int q n)] K = AFP (TV.val (.string (Utf8.encode n))) K := AE7 rfl
theorem A6v {t t' : TypeId} : AXo (.tas t) H [.ifc t' x] K = AGZ (t' = t) (K x) := by
 unfold AXo gev AGZ
 by_cases h : t' = t <;> simp [h]
theorem A5k {a : Option Addr} {l n : Nat} : AXo .capV H [.val (.slice a l n)] K = AFP (TV.val (.int .i64 (n : Int))) K := AE7 rfl
theorem A7g {n : Nat} : AXo (.s2a n k) H [.sl k cs] K = AGZ (0 < n ∧ n ≤ cs.length) (AFP (cs.take n) fun r => K (.fp (.arr n k r))) := by
 unfold AXo gev AGZ AFP
 simp only [true_and]
 by_cases hc : 0 < n ∧ n ≤ cs.length
 ·rw [if_pos hc]; simp [hc]
 ·rw [if_neg hc]; simp only [hc, false_and]
theorem Bde {s t : Bool} : Bdj false (.val (.bool s)) (.val (.bool t)) K = AFP (TV.val (.bool (s == t))) K := by
 show K _ = _; simp [AFP]
theorem Bc9 {s t : Bool} : Bdj true (.val (.bool s)) (.val (.bool t)) K = AFP (TV.val (.bool (!(s == t)))) K := by
 show K _ = _; simp [AFP]
theorem BeJ {m b : Bool} : Beq m (some true) (some b) K = AFP (TV.val (.bool (xor m b))) K := AE7 rfl
theorem Bcq {m : Bool} : Beq m (some false) (some true) K = AFP (TV.val (.bool (xor m false))) K := AE7 rfl
end
theorem A6l {kk : MK} {m : Nat} {kx v : TV} : A4g kk (.mp m 0) kx v H KK = AFQ (AWS kk H[m]?) fun es => AFQ (AFY kk kx) fun kb => AGZ (lays v = true) (AFP (AVv kb v es) fun es' => AFP (H.set m (.mpo kk es')) fun H' => KK .any H') := by
 unfold A4g
 cases hh : H[m]? with
 | none => cases AFY kk kx <;> simp [hh, AWS, AFQ]
 | some o =>
  cases o with
  | mpo kk' es =>
   by_cases hk : kk' = kk
   ·subst hk; cases AFY kk' kx <;> simp [hh, AWS, AFQ, AGZ, AFP]
   ·cases AFY kk kx <;> simp [hh, AWS, AFQ, hk]
  | _ => cases AFY kk kx <;> simp [hh, AWS, AFQ]
theorem A7x {kk : MK} {m : Nat} {kx z : TV} : A5j kk z (.mp m 0) kx H KK = AFQ (AWS kk H[m]?) fun es => AFQ (AFY kk kx) fun kb => AFP ((ASm kb es).getD z) fun y => AFP (AX1 kb es) fun p => AFP (AVv kb y es) fun es' => AFP (H.set m (.mpo kk es')) fun H' => KK (.tup [y, .val (.int .i64 (p : Int))]) H' := by
 unfold A5j
 cases hh : H[m]? with
 | none => cases AFY kk kx <;> simp [hh, AWS, AFQ]
 | some o =>
  cases o with
  | mpo kk' es =>
   by_cases hk : kk' = kk
   ·subst hk; cases AFY kk' kx <;> simp [hh, AWS, AFQ, AFP]
   ·cases AFY kk kx <;> simp [hh, AWS, AFQ, hk]
  | _ => cases AFY kk kx <;> simp [hh, AWS, AFQ]
def AYz : Option Ob → Option (MK × List (List UInt8 × TV))
 | some (.mpo kk es) => some (kk, es)
 | _ => none
theorem A4O {kk : MK} {es : List (List UInt8 × TV)} : AYz (some (.mpo kk es)) = some (kk, es) := by simp [AYz]
theorem A8i {m j : Nat} {q : IntKind} {v : TV} : A4z (.mp m 0) (.val (.int q (j : Int))) v H KK = AFQ (AYz H[m]?) fun p => AGZ (lays v = true) (AFQ p.2[j]? fun y => AFP (p.2.set j (y.1, v)) fun es' => AFP (H.set m (.mpo p.1 es')) fun H' => KK .any H') := by
 unfold A4z
 cases hh : H[m]? with
 | none => simp [hh, AYz, AFQ]
 | some o =>
  cases o with
  | mpo kk' es =>
   simp only [hh, AYz, AFQ, AGZ, AFP, Int.natCast_nonneg, true_and, Int.toNat_natCast]
   cases es[j]? <;> simp
  | _ => simp [hh, AYz, AFQ]
theorem A4y {kk : MK} {z kx : TV} {ok : Bool} {m : Nat} : AXo (.look kk z ok) H [.mp m 0, kx] K = AFQ (AXB kk H[m]?) fun es => AFQ (AFY kk kx) fun kb => AFP (AW8 z ok (ASm kb es)) K := by
 unfold AXo gev AZx
 cases hh : H[m]? with
 | none => cases hb : AFY kk kx <;> simp [hh, hb, AXB, AFQ]
 | some o =>
  cases o with
  | mpo kk' es =>
   by_cases hk : kk' = kk
   ·subst hk; cases hb : AFY kk' kx <;> simp [hh, hb, AXB, AFQ, AFP]
   ·cases hb : AFY kk kx <;> simp [hh, hb, AXB, AFQ, hk]
  | mpd kk' zs cl =>
   by_cases hk : kk' = kk
   ·subst hk; cases hb : AFY kk' kx <;> simp [hh, hb, AXB, AFQ, AFP]
   ·cases hb : AFY kk kx <;> simp [hh, hb, AXB, AFQ, hk]
  | _ => cases hb : AFY kk kx <;> simp [hh, hb, AXB, AFQ]
theorem A21 {kk : MK} {z kx : TV} {ok : Bool} : AXo (.look kk z ok) H [.val (.map none), kx] K = AFQ (AFY kk kx) fun kb => AFP (AW8 z ok none) K := by
 unfold AXo gev AZx
 cases hb : AFY kk kx <;> simp [hb, AFQ, AFP]
theorem A5N {m : Nat} : AXo .lenM H [.mp m 0] K = AFQ (A1C H[m]?) fun p => AFP p.length fun n => AFP (TV.val (.int .i64 (n : Int))) K := by
 unfold AXo gev A7j
 cases hh : H[m]? with
 | none => simp [hh, A1C, AFQ]
 | some o => cases o <;> simp [hh, A1C, AFQ, AFP]
theorem A4l {id : Nat} : AXo .entM H [.op id 0 []] K = AFQ (AZu H[id]?) fun p => AFQ (stO H[p.1]?) fun q => AFQ (Bdg p q) K := by
 unfold AXo gev Bfc
 cases hh : H[id]? with
 | none => simp [hh, AZu, AFQ]
 | some o =>
  cases o with
  | mit m sn cl =>
   simp only [hh, AZu, AFQ, Bdg]
   cases h2 : stO H[m]? with
   | none => simp
   | some q =>
    obtain ⟨kk, zs, cl'⟩ := q
    cases h3 : sn.getLast? with
    | none => simp
    | some s =>
     by_cases hc : cl' = cl
     ·subst hc; cases hf : zs.find? (·.1 == s) <;> simp [hf]
     ·simp [hc]
  | _ => simp [hh, AZu, AFQ]
theorem A5d {sz : Nat} : A0z H sz (.op id ver p) y KK = AGZ (lays y = true ∧ AFo y = sz) (AFQ (AJx H[id]? ver) fun z => AFQ (ATJ p z y) fun z' => AFP (H.set id (.obj ver z')) fun H' => KK .any H') := by
 unfold A0z
 simp only [AGZ]
 congr 1
 cases h : H[id]? with
 | none => simp [AJx, AFQ]
 | some o =>
  cases o with
  | gone v => simp [AJx, AFQ]
  | ice v m y => simp [AJx, AFQ]
  | fact i v t m => simp [AJx, AFQ]
  | bld v t l => simp [AJx, AFQ]
  | lp st pe fn N en ps ca cb => simp [AJx, AFQ]
  | mpo kk es => simp [AJx, AFQ]
  | mpd kk zs cl => simp [AJx, AFQ]
  | mit m sn cl => simp [AJx, AFQ]
  | sit s pos => simp [AJx, AFQ]
  | obj v x =>
   by_cases hv : v = ver
   ·subst hv; simp only [AJx, AFQ, AFP, if_true, true_and]; cases ATJ p x y <;> rfl
   ·simp [AJx, AFQ, hv]
theorem Bbl {z : TV} {l c : Int} {q2 : IntKind} {bytes : Nat} : Bfd H k bytes z (.val (.int q l)) (.val (.int q2 c)) KK = AGZ (0 ≤ l ∧ l ≤ c ∧ (bytes : Int) * c ≤ 281474976710656 ∧ c ≤ 9223372036854775807) (AFP l.toNat fun l => AFP c.toNat fun c => AFP H.length fun m => AFP (H ++ [.obj 0 (.arr c k (List.replicate c z))]) fun H' => KK (.os k m 0 [] 0 l c) H') := AE7 rfl
theorem A6K {bytes : Nat} {et : TypeId} : Bb7 k bytes et (.val (.slice none 0 0)) (some ys) H KK = AGZ (ys.length * bytes ≤ 140737488355328 ∧ ys.length ≤ 9223372036854775807) (AFP ys.length fun n => AFP H.length fun m => AFP (H ++ [.obj 1 (.arr n k ys)]) fun H' => KK (.os k m 1 [] 0 n n) H') := AE7 rfl
def A1G : Option TV → Nat → Option (List TV)
 | some (.arr _ k' cs), k => if k' = k then some cs else none
 | _, _ => none
theorem A7T : A1G (some (.arr n k cs)) k = some cs := by simp [A1G]
theorem A7q {v n2 : Nat} {et : TypeId} : A75 (some (.obj v (.arr n2 k cs))) v k et off n ys = some (.obj (v + 1) (.arr (n + ys.length) k ((cs.drop off).take n ++ ys))) := by simp [A75]
theorem A2g {v : Nat} {et : TypeId} {l m : List UInt8} : A75 (some (.bld v et l)) v 1 et 0 n (m.map by8) = some (.bld (v + 1) et (l.take n ++ m)) := by
 simp only [A75, AU0, AQ5, and_self, if_true]
theorem A3Z {v : Nat} {et : TypeId} {l : List UInt8} {b : UInt8} : A75 (some (.bld v et l)) v 1 et 0 n [by8 b] = some (.bld (v + 1) et (l.take n ++ [b])) := A2g (m := [b])
theorem A6t {v n2 : Nat} : Bcj (some (.obj v (.arr n2 k cs))) = cs.length := by simp [Bcj]
theorem A6j {v : Nat} {et : TypeId} {l : List UInt8} : Bcj (some (.bld v et l)) = l.length := by simp [Bcj]
theorem Ba6 {bytes : Nat} {et : TypeId} : Bb7 k bytes et (.os k id ver [] off n cp) (some ys) H KK = AFQ (A75 H[id]? ver k et off n ys) fun o => AGZ (off + n ≤ Bcj H[id]? ∧ (n + ys.length) * bytes ≤ 140737488355328 ∧ n + ys.length ≤ 9223372036854775807)
   (AFP (n + ys.length) fun m => AFP (H.set id o) fun H' => KK (.os k id (ver + 1) [] 0 m m) H') := by
 unfold Bb7 A0n
 simp only [true_and]
 cases h : A75 H[id]? ver k et off n ys with
 | none => simp [AFQ]
 | some o => simp [AFQ, AGZ, AFP]
theorem A6q {s : ByteArray} {et : TypeId} : A7B et x (.val (.string s)) H KK = AFP ((bl s).map by8) fun ys => Bb7 1 1 et x (some ys) H KK := AE7 rfl
def BfQ : Option TV → Option Nat
 | some (.arr n _ _) => some n
 | _ => none
theorem Bbj : BfQ (some (.arr n k cs)) = some n := AE7 rfl
theorem A6L : A1F k (.os k id ver p off n cp) (some ys) H KK = AFQ (AJx H[id]? ver) fun z => AFQ (A1G (ANU p z) k) fun cs => AFQ (BfQ (ANU p z)) fun N => AGZ (off + n ≤ cs.length) (AFQ (ATJ p z (.arr N k (cs.take off ++ (ys.take n ++ cs.drop (off + min ys.length n))))) fun z' =>
  AFP (H.set id (.obj ver z')) fun H' => AFP (TV.val (.int .i64 (min ys.length n : Nat))) fun r => KK r H') := by
 unfold A1F ATw
 simp only [true_and]
 cases h : H[id]? with
 | none => simp [AJx, AFQ]
 | some o =>
  cases o with
  | gone v => simp [AJx, AFQ]
  | ice v m y => simp [AJx, AFQ]
  | fact i v t m => simp [AJx, AFQ]
  | bld v t l => simp [AJx, AFQ]
  | lp st pe fn N en ps ca cb => simp [AJx, AFQ]
  | mpo kk es => simp [AJx, AFQ]
  | mpd kk zs cl => simp [AJx, AFQ]
  | mit m sn cl => simp [AJx, AFQ]
  | sit s pos => simp [AJx, AFQ]
  | obj v x =>
   by_cases hv : v = ver
   ·simp only [AJx, AFQ, hv, if_true, true_and]
    cases hg : ANU p x with
    | none => simp [A1G]
    | some y =>
     cases y with
     | arr n2 k2 ds =>
      by_cases h1 : k2 = k
      ·subst h1; simp only [A1G, BfQ, AGZ, AFP, if_true, true_and]; refine congrArg (_ ∧ ·) ?_; cases ATJ p x (.arr n2 k2 (ds.take off ++ (ys.take n ++ ds.drop (off + min ys.length n)))) <;> rfl
      ·simp [A1G, h1]
     | _ => simp [A1G]
   ·simp [AJx, AFQ, hv]
theorem A4x {s : ByteArray} : A2v x (.val (.string s)) H KK = AFP ((bl s).map by8) fun ys => A1F 1 x (some ys) H KK := AE7 rfl
theorem A62 {f : FuncId} {j v : Nat} {l : List UInt8} : A7k P f (some (j, v, l)) H KK = AGZ (Bga P f) (AGZ (l.length ≤ 9223372036854775807) (AFP (H.set j (.gone v)) fun H' => KK (.val (.string (str l))) H')) := AE7 rfl
def BcI (o : Option Ob) (j v n : Nat) (a : TV) : Option (Nat × Nat × List UInt8) := match o with
 | some (.bld v3 t l) => if v3 = v ∧ t = A0b ∧ n = l.length ∧ AFo a = 1 then some (j, v, l) else none
 | _ => none
def A8a (H : List Ob) (j v n : Nat) (a : TV) : Option (Nat × Nat × List UInt8) := BcI H[j]? j v n a
def A24 (H : List Ob) (q : Option TV) : Option (Nat × Nat × List UInt8) := match q with
 | some (.agg [a, .os 1 j v2 [] 0 n cp]) => A8a H j v2 n a
 | _ => none
theorem A8N {id ver : Nat} {p : List (Nat × Nat)} : A2W H (.op id ver p) = A24 H ((AJx H[id]? ver).bind (ANU p)) := by
 unfold A2W
 simp only []
 cases h : H[id]? with
 | none => simp [AJx, A24]
 | some o =>
  cases o with
  | obj v y =>
   by_cases hv : v = ver
   ·simp only [AJx, hv, if_true, Option.bind_some]
    unfold A24 A8a BcI
    rfl
   ·simp [AJx, A24, hv]
  | _ => simp [AJx, A24]
theorem A61 {a : TV} {j v n cp : Nat} : A24 H (some (.agg [a, .os 1 j v [] 0 n cp])) = A8a H j v n a := AE7 rfl
theorem A65 {a : TV} {j v n : Nat} : A8a H j v n a = BcI H[j]? j v n a := AE7 rfl
theorem BbG {a : TV} {j v n : Nat} {l : List UInt8} (hn : n = l.length) (ha : AFo a = 1) : BcI (some (.bld v 5 l)) j v n a = some (j, v, l) := by
 simp [BcI, hn, ha, A0b]
theorem A92 {s : ByteArray} : Be4 H (.val (.string s)) KK = AGZ ((bl s).length ≤ 9223372036854775807) (AFP (bl s).length fun n => AFP ((bl s).map by8) fun r => AFP H.length fun m => AFP (H ++ [.obj 0 (.arr n 1 r)]) fun H' => KK (.os 1 m 0 [] 0 n n) H') := AE7 rfl
theorem A6H {z : TV} {j : Int} {bytes : Nat} : A6u k bytes z (.val (.slice none 0 0)) (.val (.int .i64 j)) H KK = AGZ (0 ≤ j ∧ (bytes : Int) * j ≤ 140737488355328 ∧ j ≤ 9223372036854775807) (AFP j.toNat fun n => AFP H.length fun m => AFP (H ++ [.obj 0 (.arr n k (List.replicate n z))]) fun H' => KK (.os k m 0 [] 0 n n) H') := AE7 rfl
theorem A6F {n : Bool} {a : Option Addr} {l c : Nat} : A9s n (.val (.slice a l c)) H KK = KK (.val (.bool (xor n a.isNone))) H := AE7 rfl
theorem A9M {n : Bool} : A9s n (.sl k cs) H KK = vif (decide (cs.length = 0)) (A05 H KK) (KK (.val (.bool n)) H) := by
 unfold A9s vif A05
 by_cases h : cs = []
 ·subst h; simp
 ·have h2 : ¬ cs.length = 0 := fun e => h (List.length_eq_zero_iff.1 e)
  simp [h, h2]
theorem A9O {n : Bool} {m off l cp : Nat} {p : List (Nat × Nat)} : A9s n (.os k m ver p off l cp) H KK = vif (decide (l = 0)) (A05 H KK) (KK (.val (.bool n)) H) := by
 unfold A9s vif A05
 by_cases h : l = 0
 ·subst h; simp
 ·simp [h]
theorem A1k (h1 : KK (.val (.bool true)) H) (h2 : KK (.val (.bool false)) H) : A05 H KK := ⟨h1, h2⟩
theorem A33 {f : FuncId} {a b : List TV} : AYy P (.fn (.func f) a b) cs H KK = AGZ (AWL P f = true) (AFP (a ++ cs ++ b) fun xs => VC P f xs H KK) := AE7 rfl
theorem A3w {f : FuncId} : AYy P (.val (.func (.func f) #[] #[])) cs H KK = AGZ (AWL P f = true) (VC P f cs H KK) := by
 exact propext ⟨fun h => ⟨h.2.1, h.2.2⟩, fun h => ⟨rfl, h.1, h.2⟩⟩
theorem A6b : AYy P (.yl id ver) cs H KK = VY P id ver cs H KK := AE7 rfl
theorem BaA {nm : String} {t : TypeId} : Bdf P nm (.ifc t x) cs H KK = Bcf P (A6h P t nm) x cs H KK := by
 unfold Bdf Bfl Bcf
 show (match A6h P t nm with | some (f, none) => _ | some (f, some (ag, sz)) => _ | none => False) = _
 rcases A6h P t nm with _ | ⟨f, _ | ⟨ag, sz⟩⟩ <;> rfl
theorem BeG {f : FuncId} : Bcf P (some (f, none)) x cs H KK = AGZ (AWL P f = true) (AFP (x :: cs) fun xs => VC P f xs H KK) := AE7 rfl
theorem Bc4 {f : FuncId} {ag : Bool} {sz : Nat} : Bcf P (some (f, some (ag, sz))) x cs H KK = AGZ (AWL P f = true) (A1i H ag sz x fun y => AFP (y :: cs) fun xs => VC P f xs H KK) := AE7 rfl
theorem Bf6 {t : Bool} {A B : Prop} : Gd (some t) true A B = vif t A B := AE7 rfl
theorem BfO {t : Bool} {A B : Prop} : Gd (some t) false A B = vif t B A := by cases t <;> simp [Gd, vif]
theorem BiH {b : Bool} {A B : Prop} : Gd none b A B = B := AE7 rfl
end

section
variable {Q : VEx → Env → List Ob → Prop} {l : List VO} {kp : List Nat} {a b : AE9}
def A9m (x : TV) (A B : Prop) [Tg A] [Tg B] : Prop := match x with
  | .val (.bool t) => if t = true then A else B
  | _ => False
@[congr] theorem Bgs {x x' : TV} {A B : Prop} (h : x = x') : A9m x A B = A9m x' A B := by rw [h]
theorem A8g {t : Bool} {A B : Prop} : A9m (.val (.bool t)) A B = vif t A B := AE7 rfl
theorem Bge : vwp P (.ops l kp) Q e H = AXc P l (fun e H => AFP (forget kp e) fun e => Q .nor e H) e H := AE7 rfl
def A03 (zs : List Nat) (e : Env) (H : List Ob) (K : Env → List Ob → Prop) [Tg K] : Prop := Ba2 zs K e H
@[congr] theorem Bhg {zs : List Nat} {e e' : Env} {H H' : List Ob} {K : Env → List Ob → Prop} (h1 : e = e') (h2 : H = H') : A03 zs e H K = A03 zs e' H' K := by rw [h1, h2]
theorem BgN {K : Env → List Ob → Prop} : A03 [] e H K = K e H := AE7 rfl
theorem A4u {s k id ver off n cp m : Nat} {zs : List Nat} {xs : List TV} {K : Env → List Ob → Prop} (hg : get e s = .os k id ver [] off n cp) (ho : H[id]? = some (.obj ver (.arr m k xs))) (hn : off + n ≤ xs.length) (h : A03 zs ((s, .sl k ((xs.drop off).take n)) :: e) (H.set id (.gone ver)) K) : A03 (s :: zs) e H K := by
 unfold A03 at h ⊢
 rw [Ba2, hg]
 simp only [ho]
 refine ⟨trivial, ?_⟩
 have : AGC [] k off n (.arr m k xs) = some ((xs.drop off).take n) := by unfold AGC; simp [ANU, hn]
 rw [this]; exact h
theorem BcX {l r : List VO} {zs kp : List Nat} : vwp P (.opsZ l zs r kp) Q e H = AXc P l (fun e H => A03 zs e H fun e H => AXc P r (fun e H => AFP (forget kp e) fun e => Q .nor e H) e H) e H := AE7 rfl
theorem BeX {n : Nat} : vwp P (.draw n l kp) Q e H = (vq P (l.take n) (fun e => AXc P (l.drop n) (fun e H => AFP (forget kp e) fun e => Q .nor e H) e H) e H) := AE7 rfl
def Thn (P : Program) (b : AE9) (Q : VEx → Env → List Ob → Prop) : VEx → Env → List Ob → Prop := fun x e H => match x with | .nor => vwp P b Q e H | .exit i => Q (.exit i) e H | .ret => Q .ret e H | .pan u => Q (.pan u) e H
theorem BbV : Thn P b Q .nor e H = vwp P b Q e H := AE7 rfl
theorem A8z {i : Nat} : Thn P b Q (.exit i) e H = Q (.exit i) e H := AE7 rfl
theorem Bao : Thn P b Q .ret e H = Q .ret e H := AE7 rfl
theorem BgQ : vwp P (.seq a b) Q e H = vwp P a (Thn P b Q) e H := AE7 rfl
def Blk (id : Nat) (Q : VEx → Env → List Ob → Prop) : VEx → Env → List Ob → Prop := fun x e H => match x with | .nor => Q .nor e H | .exit i => if i = id then Q .nor e H else Q (.exit i) e H | .ret => Q .ret e H | .pan u => Q (.pan u) e H
theorem BaR {id : Nat} : Blk id Q .nor e H = Q .nor e H := AE7 rfl
theorem A8s {id : Nat} : Blk id Q (.exit id) e H = Q .nor e H := by simp [Blk]
theorem A02 {id i : Nat} (h : i ≠ id) : Blk id Q (.exit i) e H = Q (.exit i) e H := by simp [Blk, h]
theorem BaF {id : Nat} : Blk id Q .ret e H = Q .ret e H := AE7 rfl
theorem Bbk {id : Nat} : vwp P (.block id a) Q e H = vwp P a (Blk id Q) e H := AE7 rfl
theorem BeV {c : Opd} : vwp P (.cond c a b) Q e H = A9m (c.ev e) (vwp P a Q e H) (vwp P b Q e H) := AE7 rfl
def Rnd (n0 : Nat) (lv : List Nat) (Q : VEx → Env → List Ob → Prop) (I : Nat → Env → List Ob → Prop) (n : Nat) : VEx → Env → List Ob → Prop := fun x e H => match x with
 | .nor => ∃ m g, m < n ∧ (n0 ≤ g ∧ (H.length ≤ g ∨ (AXV g (forget lv e) = true ∧ AXO g (H.take g) = true))) ∧ I m (forget lv e) (H.take g)
 | .exit i => Q (.exit i) e H | .ret => Q .ret e H | .pan u => Q (.pan u) e H
section
variable {n0 : Nat} {lv : List Nat} {I : Nat → Env → List Ob → Prop} {n : Nat}
theorem A78 {i : Nat} : Rnd n0 lv Q I n (.exit i) e H = Q (.exit i) e H := AE7 rfl
theorem Baw : Rnd n0 lv Q I n .ret e H = Q .ret e H := AE7 rfl
theorem AFW (m : Nat) (hm : m < n) (h : n0 ≤ H.length) (hR : I m (forget lv e) H) : Rnd n0 lv Q I n .nor e H := by
 refine ⟨m, H.length, hm, ⟨h, .inl (Nat.le_refl _)⟩, ?_⟩
 rw [List.take_length]; exact hR
end
theorem AIa {lv : List Nat} {H0 : List Ob} (I : Nat → Env → List Ob → Prop) (n : Nat) (h0 : I n (forget lv e) H0)
  (hs : ∀ n e H, I n e H → vwp P a (Rnd H0.length lv Q I n) e H) : vwp P (.loop lv a) Q e H0 := by
 rw [BcF]
 exact ⟨I, n, h0, hs⟩
theorem o_g {d s : Nat} {o : VOp} {b : Bool} {r : List VO} {K : Env → List Ob → Prop} : AXc P (⟨some d, o, some (s, b)⟩ :: r) K e H = AX2 e s fun e q => Gd q b (vop P o e H (fun x H => AXc P r K ((d, x) :: e) H)) (AXc P r K ((d, .val undef) :: e) H) := by
 rw [Bek]; refine congrArg (AX2 e s) ?_; funext e q; cases q <;> rfl
def A39 (x : TV) (e : Env) (s : Nat) (Q : Env → Option Bool → Prop) [Tg Q] : Prop := match x with
 | .val v => Q e (isB v)
 | .any => (∀ t, Q ((s, .val (.bool t)) :: e) (some t)) ∧ ∀ v, isB v = none → Q ((s, .val v) :: e) none
 | _ => False
@[congr] theorem Bhc {x x' : TV} {s : Nat} {Q : Env → Option Bool → Prop} (h : x = x') : A39 x e s Q = A39 x' e s Q := by rw [h]
theorem Bd2 {s : Nat} {Q : Env → Option Bool → Prop} : AX2 e s Q = A39 (get e s) e s Q := AE7 rfl
theorem BaJ {b : Bool} {s : Nat} {Q : Env → Option Bool → Prop} : A39 (.val (.bool b)) e s Q = Q e (some b) := AE7 rfl
theorem Baj {s : Nat} {Q : Env → Option Bool → Prop} : A39 (.val undef) e s Q = Q e none := AE7 rfl
theorem u_c {d : Nat} {f : FuncId} {args : List Opd} {r : List VO} {K : Env → Prop} : vq P (⟨some d, .s (.call f args), none⟩ :: r) K e H = AFP (evs e args) fun xs => AGZ (ATc xs) (vex fun x => VC P f xs H (fun y H' => y = x ∧ H' = H) ∧ vq P r K ((d, x) :: e) H) := by
 rw [Bis, AQ3]; rfl
def Gq (x : TV) (b : Bool) (A B : Prop) [Tg A] [Tg B] : Prop := match x with
 | .val v => if isB v = some b then A else B
 | _ => False
@[congr] theorem BiN {x x' : TV} {b : Bool} {A B : Prop} (h : x = x') : Gq x b A B = Gq x' b A B := by rw [h]
theorem BiL {t : Bool} {A B : Prop} : Gq (.val (.bool t)) true A B = vif t A B := by cases t <;> simp [Gq, vif, isB]
theorem BiF {b : Bool} {A B : Prop} : Gq (.val undef) b A B = B := by simp [Gq, isB, undef]
theorem Biz {t : Bool} {A B : Prop} : Gq (.val (.bool t)) false A B = vif t B A := by cases t <;> simp [Gq, vif, isB]
theorem u_g {d s : Nat} {o : VOp} {b : Bool} {r : List VO} {K : Env → Prop} : vq P (⟨some d, o, some (s, b)⟩ :: r) K e H = Gq (get e s) b (quiet P o e H fun x => vq P r K ((d, x) :: e) H) (vq P r K ((d, .val undef) :: e) H) := AE7 rfl
theorem Biq {f : FuncId} {args : List Opd} {k : TV → Prop} : quiet P (.s (.call f args)) e H k = AFP (evs e args) fun xs => AGZ (ATc xs) (vex fun x => VC P f xs H (fun y H' => y = x ∧ H' = H) ∧ k x) := by
 rw [Ba8, AQ3]; rfl
def BdA (P : Program) (x : TV) (s k : Nat) (c : AE9) (Q : VEx → Env → List Ob → Prop) (e : Env) (H : List Ob) : Prop := match x with
  | .val (.slice none 0 0) => vwp P c Q ((s, .os k H.length 0 [] 0 0 0) :: e) (H ++ [.obj 0 (.arr 0 k [])])
  | _ => vwp P c Q e H
@[congr] theorem BhN {x x' : TV} {s k : Nat} (h : x = x') : BdA P x s k a Q e H = BdA P x' s k a Q e H := by rw [h]
theorem Bf7 {s k : Nat} : vwp P (.own s k a) Q e H = BdA P (get e s) s k a Q e H := AE7 rfl
theorem A7n {s k : Nat} : BdA P (.val (.slice none 0 0)) s k a Q e H = vwp P a Q ((s, .os k H.length 0 [] 0 0 0) :: e) (H ++ [.obj 0 (.arr 0 k [])]) := AE7 rfl
theorem Bbu {s k k' id ver off n cp : Nat} {p : List (Nat × Nat)} : BdA P (.os k' id ver p off n cp) s k a Q e H = vwp P a Q e H := AE7 rfl
end
theorem BfE {t : Nat} {K : TV → Prop} : res [.tmp t] e H K = AFP (get e t) K := AE7 rfl
theorem BdL {t : Nat} {r : List VR} {K : List TV → Prop} : A0W (.tmp t :: r) e H K = AFP (get e t) fun x => A0W r e H fun xs => K (x :: xs) := AE7 rfl
def Bh6 (K : TV → Prop) (xs : List TV) : Prop := match xs with
 | [x] => K x
 | xs => (∀ x ∈ xs, AGg x = false) ∧ K (.tup xs)
theorem A74 {x y : TV} {l : List TV} {K : TV → Prop} : Bh6 K (x :: y :: l) = AGZ (ATc (x :: y :: l)) (AFP (TV.tup (x :: y :: l)) K) := AE7 rfl
theorem BeB {r s : VR} {l : List VR} {K : TV → Prop} : res (r :: s :: l) e H K = A0W (r :: s :: l) e H (Bh6 K) := AE7 rfl
theorem Bc5 {a sz : Nat} {ag : Bool} {K : TV → Prop} : res [.cell a ag sz] e H K = pop (.load ag sz (.t a)) e H K := AE7 rfl
theorem Bfy {K : TV → Prop} : res [] e H K = K (.tup []) := by rw [A35]; simp
end

def VCP (P : Program) (f : FuncId) (xs : List TV) (H : List Ob) (K : TV → List Ob → Prop) (KP : Value → List Ob → Prop) [Tg K] [Tg KP] : Prop := AV8 P f xs H K KP
@[congr] theorem Bc3 {P : Program} {f : FuncId} {xs xs' : List TV} {H H' : List Ob} {K : TV → List Ob → Prop} {KP : Value → List Ob → Prop} (he : xs = xs') (hH : H = H') : VCP P f xs H K KP = VCP P f xs' H' K KP := by rw [he, hH]
def Bcl (x : TV) (K : Value → Prop) [Tg K] : Prop := match x with
 | .val (.iface t v) => K (.iface t v)
 | .ifc t (.val v) => K (.iface t v)
 | _ => False
@[congr] theorem Bh8 {x x' : TV} {K : Value → Prop} (h : x = x') : Bcl x K = Bcl x' K := by rw [h]
theorem A6Y {t : TypeId} {v : Value} {K : Value → Prop} : Bcl (.ifc t (.val v)) K = K (.iface t v) := AE7 rfl
theorem A9Y {t : TypeId} {v : Value} {K : Value → Prop} : Bcl (.val (.iface t v)) K = K (.iface t v) := AE7 rfl
section
variable {P : Program} {e : Env} {H : List Ob} {r : List VO} {K : Env → List Ob → Prop} {PP : Value → List Ob → Prop} {Q : VEx → Env → List Ob → Prop}
@[congr] theorem A91 {l : List VO} {e' : Env} {H' : List Ob} (he : e = e') (hH : H = H') : ATl P PP l K e H = ATl P PP l K e' H' := by rw [he, hH]
@[congr] theorem Bbb {o : VOp} {e' : Env} {H' : List Ob} {KK : TV → List Ob → Prop} (he : e = e') (hH : H = H') : pvop P PP o e H KK = pvop P PP o e' H' KK := by rw [he, hH]
theorem Bdt {l : List VO} {kp : List Nat} : vwp P (.pops l kp) Q e H = ATl P (fun u H => Q (.pan u) (A1d l e) H) l (fun e H => AFP (forget kp e) fun e => Q .nor e H) e H := AE7 rfl
theorem BaI {n : Nat} {l : List VO} {kp : List Nat} : vwp P (.pdraw n l kp) Q e H = (vq P (l.take n) (fun e => ATl P (fun u H => Q (.pan u) [] H) (l.drop n) (fun e H => AFP (forget kp e) fun e => Q .nor e H) e H) e H) := AE7 rfl
theorem BeN : ATl P PP [] K e H = K e H := AE7 rfl
theorem BiI {d : Nat} {o : VOp} : ATl P PP (⟨some d, o, none⟩ :: r) K e H = pvop P PP o e H (fun x H => ATl P PP r K ((d, x) :: e) H) := AE7 rfl
theorem Bgc {o : VOp} : ATl P PP (⟨none, o, none⟩ :: r) K e H = pvop P PP o e H (fun x H => ATl P PP r K e H) := AE7 rfl
theorem BiG {d s : Nat} {o : VOp} {b : Bool} : ATl P PP (⟨some d, o, some (s, b)⟩ :: r) K e H = AX2 e s fun e q => Gd q b (pvop P PP o e H (fun x H => ATl P PP r K ((d, x) :: e) H)) (ATl P PP r K ((d, .val undef) :: e) H) := by
 show APb (pvop P PP) _ K e H = _
 rw [APb]
 refine congrArg (AX2 e s) ?_; funext e q; cases q <;> rfl
theorem Bdc {o : POp} {KK : TV → List Ob → Prop} : pvop P PP (.p o) e H KK = pop o e H fun x => KK x H := AE7 rfl
theorem A4Q {f : FuncId} {args : List Opd} {KK : TV → List Ob → Prop} : pvop P PP (.s (.call f args)) e H KK = AFP (evs e args) fun xs => AGZ (ATc xs) (VCP P f xs H KK PP) := by
 show ((∀ x ∈ args, AGg (x.ev e) = false) ∧ _) = _
 rw [AQ3]; rfl
theorem A6Z {x : Opd} {KK : TV → List Ob → Prop} : pvop P PP (.s (.pan x)) e H KK = Bcl (x.ev e) (fun u => PP u H) := by
 show (match x.ev e with | .val (.iface t v) => PP (.iface t v) H | .ifc t (.val v) => PP (.iface t v) H | _ => False) = _
 unfold Bcl
 split <;> simp_all
theorem A2L {z : TV} {KK : TV → List Ob → Prop} : pvop P PP (.s (.alloc z)) e H KK = sop P (.alloc z) e H KK := AE7 rfl
theorem A6x {x : Opd} {KK : TV → List Ob → Prop} : pvop P PP (.s (.box x)) e H KK = sop P (.box x) e H KK := AE7 rfl
theorem A1v {k n : Nat} {z : TV} {ps : List (Nat × Opd)} {KK : TV → List Ob → Prop} : pvop P PP (.s (.bslice k n z ps)) e H KK = sop P (.bslice k n z ps) e H KK := AE7 rfl
theorem A2V {sz : Nat} {x v : Opd} {KK : TV → List Ob → Prop} : pvop P PP (.s (.store sz x v)) e H KK = sop P (.store sz x v) e H KK := AE7 rfl
theorem A8t {k bytes : Nat} {z : TV} {l c : Opd} {KK : TV → List Ob → Prop} : pvop P PP (.s (.mks k bytes z l c)) e H KK = sop P (.mks k bytes z l c) e H KK := AE7 rfl
theorem A8K {k bytes : Nat} {et : TypeId} {x y : Opd} {KK : TV → List Ob → Prop} : pvop P PP (.s (.app k bytes et x y)) e H KK = sop P (.app k bytes et x y) e H KK := AE7 rfl
theorem A4F {et : TypeId} {x y : Opd} {KK : TV → List Ob → Prop} : pvop P PP (.s (.appS et x y)) e H KK = sop P (.appS et x y) e H KK := AE7 rfl
theorem A3I {k n : Nat} {z : TV} {x y : Opd} {KK : TV → List Ob → Prop} : pvop P PP (.s (.appZ k n z x y)) e H KK = sop P (.appZ k n z x y) e H KK := AE7 rfl
theorem A8G {x : Opd} {n : Bool} {KK : TV → List Ob → Prop} : pvop P PP (.s (.eqS x n)) e H KK = sop P (.eqS x n) e H KK := AE7 rfl
theorem A6M {x : Opd} {KK : TV → List Ob → Prop} : pvop P PP (.s (.s2b x)) e H KK = sop P (.s2b x) e H KK := AE7 rfl
theorem A4B {k : Nat} {x y : Opd} {KK : TV → List Ob → Prop} : pvop P PP (.s (.copy k x y)) e H KK = sop P (.copy k x y) e H KK := AE7 rfl
theorem A2P {x y : Opd} {KK : TV → List Ob → Prop} : pvop P PP (.s (.copyS x y)) e H KK = sop P (.copyS x y) e H KK := AE7 rfl
theorem A20 {x : Opd} {args : List Opd} {KK : TV → List Ob → Prop} : pvop P PP (.s (.callv x args)) e H KK = sop P (.callv x args) e H KK := AE7 rfl
theorem A7J {x : Opd} {nm : String} {args : List Opd} {KK : TV → List Ob → Prop} : pvop P PP (.s (.inv x nm args)) e H KK = sop P (.inv x nm args) e H KK := AE7 rfl
theorem A9l {kk : MK} {h : Option Opd} {KK : TV → List Ob → Prop} : pvop P PP (.s (.mkm kk h)) e H KK = sop P (.mkm kk h) e H KK := AE7 rfl
theorem A4J {kk : MK} {m k x : Opd} {KK : TV → List Ob → Prop} : pvop P PP (.s (.mupd kk m k x)) e H KK = sop P (.mupd kk m k x) e H KK := AE7 rfl
theorem A5S {kk : MK} {z : TV} {m k : Opd} {KK : TV → List Ob → Prop} : pvop P PP (.s (.ment kk z m k)) e H KK = sop P (.ment kk z m k) e H KK := AE7 rfl
theorem A34 {m st x : Opd} {KK : TV → List Ob → Prop} : pvop P PP (.s (.mest m st x)) e H KK = sop P (.mest m st x) e H KK := AE7 rfl
theorem A1c {z : TV} {t : TypeId} {KK : TV → List Ob → Prop} : pvop P PP (.s (.allocT z t)) e H KK = sop P (.allocT z t) e H KK := AE7 rfl
theorem A5I {x : Opd} {t : TypeId} {KK : TV → List Ob → Prop} : pvop P PP (.s (.boxT x t)) e H KK = sop P (.boxT x t) e H KK := AE7 rfl
theorem A5Q {x : Opd} {KK : TV → List Ob → Prop} : pvop P PP (.s (.rngS x)) e H KK = sop P (.rngS x) e H KK := AE7 rfl
theorem A5L {x : Opd} {KK : TV → List Ob → Prop} : pvop P PP (.s (.nxtS x)) e H KK = sop P (.nxtS x) e H KK := AE7 rfl
theorem A5y {x : Opd} {KK : TV → List Ob → Prop} : pvop P PP (.s (.rngM x)) e H KK = sop P (.rngM x) e H KK := AE7 rfl
theorem A5p {x : Opd} {KK : TV → List Ob → Prop} : pvop P PP (.s (.nxtM x)) e H KK = sop P (.nxtM x) e H KK := AE7 rfl
theorem A4k {kk : MK} {m k : Opd} {KK : TV → List Ob → Prop} : pvop P PP (.s (.delM kk m k)) e H KK = sop P (.delM kk m k) e H KK := AE7 rfl
theorem A9f {x : Opd} {KK : TV → List Ob → Prop} : pvop P PP (.s (.cvS x)) e H KK = sop P (.cvS x) e H KK := AE7 rfl
theorem A5M {k : Nat} {z : TV} {x : Opd} {KK : TV → List Ob → Prop} : pvop P PP (.s (.clrS k z x)) e H KK = sop P (.clrS k z x) e H KK := AE7 rfl
theorem A4P {f : FuncId} {x : Opd} {KK : TV → List Ob → Prop} : pvop P PP (.s (.bstr f x)) e H KK = sop P (.bstr f x) e H KK := AE7 rfl
theorem A95 {b : AE9} {u : Value} : Thn P b Q (.pan u) e H = Q (.pan u) e H := AE7 rfl
theorem Bb2 {id : Nat} {u : Value} : Blk id Q (.pan u) e H = Q (.pan u) e H := AE7 rfl
theorem Bbf {n0 : Nat} {lv : List Nat} {I : Nat → Env → List Ob → Prop} {n : Nat} {u : Value} : Rnd n0 lv Q I n (.pan u) e H = Q (.pan u) e H := AE7 rfl
theorem A2O {vr : List VR} {R : TV → List Ob → Prop} {RP : Value → List Ob → Prop} : A36 vr R RP .ret e H = res vr e H fun x => R x H := AE7 rfl
theorem A2X {vr : List VR} {R : TV → List Ob → Prop} {RP : Value → List Ob → Prop} : A36 vr R RP .nor e H = res vr e H fun x => R x H := AE7 rfl
theorem A2E {vr : List VR} {R : TV → List Ob → Prop} {RP : Value → List Ob → Prop} {u : Value} : A36 vr R RP (.pan u) e H = RP u H := AE7 rfl
def AZ6 (P : Program) (PP : Value → List Ob → Prop) (Ss : SsT) (l : List VO) (K : Env → List Ob → Prop) (e : Env) (H : List Ob) : Prop := APb (pvopS P PP Ss) l K e H
@[congr] theorem BbJ {Ss : SsT} {l : List VO} {e' : Env} {H' : List Ob} (he : e = e') (hH : H = H') : AZ6 P PP Ss l K e H = AZ6 P PP Ss l K e' H' := by rw [he, hH]
@[congr] theorem A9p {Ss : SsT} {o : VOp} {e' : Env} {H' : List Ob} {KK : TV → List Ob → Prop} (he : e = e') (hH : H = H') : pvopS P PP Ss o e H KK = pvopS P PP Ss o e' H' KK := by rw [he, hH]
theorem A9P {n : Nat} {l : List VO} {kp : List Nat} : vwp P (.sdraw n l kp) Q e H = (vq P (l.take (nOf n)) (fun e => AZ6 P (fun u H => Q (.pan u) [] H) (ssN n l) (l.drop (nOf n)) (fun e H => AFP (forget kp e) fun e => Q .nor e H) e H) e H) := AE7 rfl
section
variable {Ss : SsT}
theorem BdK : AZ6 P PP Ss [] K e H = K e H := AE7 rfl
theorem Biv {d : Nat} {o : VOp} : AZ6 P PP Ss (⟨some d, o, none⟩ :: r) K e H = pvopS P PP Ss o e H (fun x H => AZ6 P PP Ss r K ((d, x) :: e) H) := AE7 rfl
theorem BfK {o : VOp} : AZ6 P PP Ss (⟨none, o, none⟩ :: r) K e H = pvopS P PP Ss o e H (fun x H => AZ6 P PP Ss r K e H) := AE7 rfl
theorem Bdd {o : POp} {KK : TV → List Ob → Prop} : pvopS P PP Ss (.p o) e H KK = pop o e H fun x => KK x H := AE7 rfl
theorem A52 {f : FuncId} {args : List Opd} {KK : TV → List Ob → Prop} : pvopS P PP Ss (.s (.call f args)) e H KK = AFP (evs e args) fun xs => AGZ (ATc xs) (VCP P f xs H (fun x H' => KK x H' ∧ AR8 Ss.l e H H') PP) := by
 show ((∀ x ∈ args, AGg (x.ev e) = false) ∧ _) = _
 rw [AQ3]; rfl
theorem A3z {sz : Nat} {x v : Opd} {KK : TV → List Ob → Prop} : pvopS P PP Ss (.s (.store sz x v)) e H KK = sop P (.store sz x v) e H fun x H' => KK x H' ∧ AR8 Ss.st e H H' := AE7 rfl
theorem A23 {z : TV} {KK : TV → List Ob → Prop} : pvopS P PP Ss (.s (.alloc z)) e H KK = sop P (.alloc z) e H KK := AE7 rfl
theorem A7Q {k bytes : Nat} {z : TV} {l c : Opd} {KK : TV → List Ob → Prop} : pvopS P PP Ss (.s (.mks k bytes z l c)) e H KK = sop P (.mks k bytes z l c) e H KK := AE7 rfl
theorem A9g {k bytes : Nat} {et : TypeId} {x y : Opd} {KK : TV → List Ob → Prop} : pvopS P PP Ss (.s (.app k bytes et x y)) e H KK = vif Ss.ap (sop P (.app k bytes et x y) e H fun x H' => KK x H' ∧ AR8 Ss.l e H H') (sop P (.app k bytes et x y) e H KK) := by
 show sop P (.app k bytes et x y) e H (fun x H' => KK x H' ∧ (Ss.ap = true → AR8 Ss.l e H H')) = _
 unfold vif
 split
 ·rename_i h
  congr 1; funext x H'; simp [h]
 ·rename_i h
  congr 1; funext x H'; simp [h]
theorem A4e {et : TypeId} {x y : Opd} {KK : TV → List Ob → Prop} : pvopS P PP Ss (.s (.appS et x y)) e H KK = sop P (.appS et x y) e H KK := AE7 rfl
theorem Bdi {n : Nat} : nOf n = n % 10000 := AE7 rfl
theorem BcE {n : Nat} {l : List VO} : (ssN n l).ap = decide (10000 ≤ n) := AE7 rfl
theorem A1e {k n : Nat} {z : TV} {ps : List (Nat × Opd)} {KK : TV → List Ob → Prop} : pvopS P PP Ss (.s (.bslice k n z ps)) e H KK = sop P (.bslice k n z ps) e H KK := AE7 rfl
end
theorem AZm {e : Env} {H H' : List Ob} : AR8 [] e H H' := AR8.nil
theorem A0Y {s : Nat} {Ss : List Nat} {e : Env} {H H' : List Ob} {id ver : Nat} {p : List (Nat × Nat)} (h : get e s = .op id ver p) (h1 : H'[id]? = H[id]?) (h2 : AR8 Ss e H H') : AR8 (s :: Ss) e H H' := fun t ht id' hg => by
 rcases List.mem_cons.1 ht with rfl | ht
 ·rw [h] at hg; cases hg; exact h1
 ·exact h2 t ht id' hg
end
def AFe := (And.intro (And.intro (And.intro (And.intro (And.intro (And.intro (And.intro (And.intro @BgW @BeP) (And.intro @Bhz @BiE)) (And.intro (And.intro @Bdz @Bhj) (And.intro @Bhl @Bdo))) (And.intro (And.intro (And.intro @A7F @BaD) (And.intro @Bet @Bag)) (And.intro (And.intro @BgO @Bdu) (And.intro @Bgt @BdY)))) (And.intro (And.intro (And.intro (And.intro @BdJ @Bg2) (And.intro @BgR @BhH)) (And.intro (And.intro @Bbd @Bht) (And.intro @BdQ @Bg0))) (And.intro (And.intro (And.intro @Bgl @BgY) (And.intro @BfH @Bhq)) (And.intro (And.intro @BbR @A8I) (And.intro @BgI @Bba))))) (And.intro (And.intro (And.intro (And.intro (And.intro @A68 @Bha) (And.intro @Bc2 @Bdp)) (And.intro (And.intro @Bef @BeM) (And.intro @BdC @BdG))) (And.intro (And.intro (And.intro @BcU @BdM) (And.intro @Bfx @A7I)) (And.intro (And.intro @Bay @BhK) (And.intro @Bf4 @Bdh)))) (And.intro (And.intro (And.intro (And.intro @BcD @BaV) (And.intro @Bgk @BdS)) (And.intro (And.intro @Bf0 @Bed) (And.intro @Bd3 @BcR))) (And.intro (And.intro (And.intro @BdB @BcJ) (And.intro @BeU @Baf)) (And.intro (And.intro @Bgw @Bge) (And.intro @BcX @BgN)))))) (And.intro (And.intro (And.intro (And.intro (And.intro (And.intro @BeX @Bds) (And.intro @BgQ @Bbk)) (And.intro (And.intro @BeV @Bdy) (And.intro @Bgi @Ba5))) (And.intro (And.intro (And.intro @Bf7 @Bem) (And.intro @BcG @A8u)) (And.intro (And.intro @BcT @BcQ) (And.intro @A9Q @o_g)))) (And.intro (And.intro (And.intro (And.intro @Bd2 @BhB) (And.intro @Bf1 @BcC)) (And.intro (And.intro @Bix @u_c) (And.intro @u_g @BaL))) (And.intro (And.intro (And.intro @Biq @AZS) (And.intro @A0i @BfE)) (And.intro (And.intro @Bc5 @Bfy) (And.intro @BeB @A15))))) (And.intro (And.intro (And.intro (And.intro (And.intro @BdL @A0m) (And.intro @A74 @BbV)) (And.intro (And.intro @A8z @Bao) (And.intro @BaR @A8s))) (And.intro (And.intro (And.intro @A02 @BaF) (And.intro @A78 @Baw)) (And.intro (And.intro @Bdt @BaI) (And.intro @A9P @BdK)))) (And.intro (And.intro (And.intro (And.intro @Biv @BfK) (And.intro @Bdd @A52)) (And.intro (And.intro @A3z @A23) (And.intro @A7Q @A9g))) (And.intro (And.intro (And.intro @A4e @A1e) (And.intro @BeN @BiI)) (And.intro (And.intro @Bgc @BiG) (And.intro @Bdc @A4Q))))))) (And.intro (And.intro (And.intro (And.intro (And.intro (And.intro @A6Z @A2L) (And.intro @A6x @A1v)) (And.intro (And.intro @A2V @A8t) (And.intro @A8K @A4F))) (And.intro (And.intro (And.intro @A6M @A3I) (And.intro @A8G @A4B)) (And.intro (And.intro @A2P @A20) (And.intro @A7J @A9l)))) (And.intro (And.intro (And.intro (And.intro @A4J @A5S) (And.intro @A34 @A1c)) (And.intro (And.intro @A5I @A5Q) (And.intro @A5L @A5y))) (And.intro (And.intro (And.intro @A5p @A4k) (And.intro @A5M @A9f)) (And.intro (And.intro @A4P @A95) (And.intro @Bb2 @Bbf))))) (And.intro (And.intro @A2O @A2X) @A2E)))
def AFb := (And.intro (And.intro (And.intro (And.intro (And.intro (And.intro (And.intro (And.intro @Bdi @BcE) (And.intro @A9Y @A6Y)) (And.intro (And.intro @A8l @A5X) (And.intro @Bbm @A99))) (And.intro (And.intro (And.intro @BcV @Bd8) (And.intro @BdW @A5E)) (And.intro (And.intro @A85 @BaM) (And.intro @A7i @Bcv)))) (And.intro (And.intro (And.intro (And.intro @A5m @BbH) (And.intro @A6Q @BeR)) (And.intro (And.intro @BbA @BdX) (And.intro @Bdr @A5h))) (And.intro (And.intro (And.intro @Ba4 @A7w) (And.intro @Bb0 @A6e)) (And.intro (And.intro @BbS @BeZ) (And.intro @A8W @BbD))))) (And.intro (And.intro (And.intro (And.intro (And.intro @A9V @A7l) (And.intro @A8Q @A3k)) (And.intro (And.intro @A25 @A4b) (And.intro @A8M @A8E))) (And.intro (And.intro (And.intro @A5s @A4j) (And.intro @A93 @A66)) (And.intro (And.intro @Bak @A6T) (And.intro @A7G @A88)))) (And.intro (And.intro (And.intro (And.intro @A4d @A9Z) (And.intro @BbE @BbN)) (And.intro (And.intro @Baq @Bb9) (And.intro @A9L @BaC))) (And.intro (And.intro (And.intro @A8x @Bab) (And.intro @A6m @BaY)) (And.intro (And.intro @A5l @A98) (And.intro @A60 @A7m)))))) (And.intro (And.intro (And.intro (And.intro (And.intro (And.intro @A84 @A3K) (And.intro @A3r @Bbc)) (And.intro (And.intro @Bb1 @Bde) (And.intro @Bc9 @BeJ))) (And.intro (And.intro (And.intro @Bcq @A8Y) (And.intro @A6k @A83)) (And.intro (And.intro @A6N @BdE) (And.intro @Bc6 @Bda)))) (And.intro (And.intro (And.intro (And.intro @A4y @A21) (And.intro @A5N @A6E)) (And.intro (And.intro @A7g @A5k) (And.intro @A6v @A6H))) (And.intro (And.intro (And.intro @A6F @A9M) (And.intro @A9O @A7c)) (And.intro (And.intro @A4O @A6C) (And.intro @Ba7 @A8m))))) (And.intro (And.intro (And.intro (And.intro (And.intro @Bbq @Bbi) (And.intro @Bb5 @A6s)) (And.intro (And.intro @A89 @A9j) (And.intro @A7b @A6D))) (And.intro (And.intro (And.intro @A8V @A5Y) (And.intro @A7D @BaG)) (And.intro (And.intro @Beg @A4l) (And.intro @Beu @Bd7)))) (And.intro (And.intro (And.intro (And.intro @BaP @A9S) (And.intro @A96 @A6l)) (And.intro (And.intro @A7x @A8i) (And.intro @Option.getD_none.{0} @Option.getD_some.{0}))) (And.intro (And.intro (And.intro @A5d @Bbl) (And.intro @A6K @A7T)) (And.intro (And.intro @A7q @A2g) (And.intro @A3Z @A6t))))))) (And.intro (And.intro (And.intro (And.intro (And.intro (And.intro @A6j @Ba6) (And.intro @A6q @Bbj)) (And.intro (And.intro @A6L @A4x) (And.intro @A92 @A62))) (And.intro (And.intro (And.intro @A6p @A8q) (And.intro @A9c @A8N)) (And.intro (And.intro @A61 @A65) (And.intro @BbG @A33)))) (And.intro (And.intro (And.intro (And.intro @BaA @BeG) (And.intro @Bc4 @A3w)) (And.intro (And.intro @A6b @Bf6) (And.intro @BfO @BiH))) (And.intro (And.intro (And.intro @A8g @BaJ) (And.intro @Baj @BiL)) (And.intro (And.intro @Biz @BiF) (And.intro @A7n @Bbu))))) (And.intro (And.intro (And.intro @A86 @A8d) (And.intro @Bap @A7z)) (And.intro @A5f @A2S))))
def AFd := (And.intro (And.intro (And.intro (And.intro (And.intro (And.intro (And.intro (And.intro @A8O @A6w) (And.intro @Baz @BaS)) (And.intro (And.intro @A9T @Bbp) (And.intro @A7H @A7O))) (And.intro (And.intro (And.intro @A6I @A8R) (And.intro @BbT @Bas)) (And.intro (And.intro @Bac @A5v) (And.intro @A4L @A7U)))) (And.intro (And.intro (And.intro (And.intro @A6V @A8J) (And.intro @A9b @A5B)) (And.intro (And.intro @A49 @A4K) (And.intro @A5r @A80))) (And.intro (And.intro (And.intro @A7M @A8F) (And.intro @A7N @BbX)) (And.intro (And.intro @A9X @A9N) (And.intro @BbZ @A8L))))) (And.intro (And.intro (And.intro (And.intro (And.intro @A7y @A8c) (And.intro @A7L @Bau)) (And.intro (And.intro @BbW @BbO) (And.intro @A4m @A3J))) (And.intro (And.intro (And.intro @A8k @A71) (And.intro @A7r @A6g)) (And.intro (And.intro @A5u @A8C) (And.intro @A8y @A53)))) (And.intro (And.intro (And.intro (And.intro @A5O @A69) (And.intro @A8Z @A82)) (And.intro (And.intro @A76 @A5H) (And.intro @A4E @A7h))) (And.intro (And.intro (And.intro @A8X @A8j) (And.intro @A4w @A5o)) (And.intro (And.intro @A3d @A1s) (And.intro @A32 @A5z)))))) (And.intro (And.intro (And.intro (And.intro (And.intro (And.intro @A55 @A58) (And.intro @A2I @A7K)) (And.intro (And.intro @A5D @A1S) (And.intro @A0o @A3y))) (And.intro (And.intro (And.intro @A79 @A51) (And.intro @AZQ @AY6)) (And.intro (And.intro @BiC @Biy) (And.intro @BiD @A6z)))) (And.intro (And.intro (And.intro (And.intro @A6d @A6J) (And.intro @A2a @A6O)) (And.intro (And.intro @A73 @A3i) (And.intro @A1f @A4X))) (And.intro (And.intro (And.intro @A2J @A9i) (And.intro @A3u @A1J)) (And.intro (And.intro @A2H @A00) (And.intro @A48 @A2N))))) (And.intro (And.intro (And.intro (And.intro (And.intro @A1Q @A0s) (And.intro @AZe @AYa)) (And.intro (And.intro @BaO @A72) (And.intro @A35 @A8U))) (And.intro (And.intro (And.intro @A15 @A7S) (And.intro @A0m @AZS)) (And.intro (And.intro @A0i @A6r) (And.intro @A7a @BbP)))) (And.intro (And.intro (And.intro (And.intro @BaH @A8B) (And.intro @Bah @BbL)) (And.intro (And.intro @A6y @A6S) (And.intro @A8n @A5K))) (And.intro (And.intro (And.intro @A26 @BbU) (And.intro @Bad @Bdq)) (And.intro (And.intro @Bb4 @Bav) (And.intro @Bbg @BaZ))))))) (And.intro (And.intro (And.intro @A7e @A4C) (And.intro @A4Y @A6f)) (And.intro (And.intro @BgJ @BcS) @Beb)))
theorem A29 {α β : Type} {f : α → β} {l : List α} {i : Nat} : (l.map f).drop i = (l.drop i).map f := List.map_drop.symm
theorem A3g {α β : Type} {f : α → β} {l : List α} {i : Nat} : (l.map f).take i = (l.take i).map f := List.map_take.symm
theorem BeK {b : UInt8} : IntKind.i64.wrap (b.toNat : Int) = b.toNat := AJI (by omega) (by have := b.toNat_lt; omega)
theorem Bex {n : Nat} : IntKind.u8.wrap (n : Int) = ((UInt8.ofNat n).toNat : Int) := by
 rw [IntKind.wrap_u8, UInt8.toNat_ofNat']; omega
theorem BdH {α : Type} {n i : Nat} {a : α} (h : i < n) : (List.replicate n a)[i]? = some a := by simp [h]
section
variable {a b c : Nat}
theorem A70 : (a : Int) * (b : Int) = ((a * b : Nat) : Int) := AE7 rfl
theorem A9h (h : b ≤ a) : (a : Int) - (b : Int) = ((a - b : Nat) : Int) := by omega
theorem A8A : (a : Int) / (b : Int) = ((a / b : Nat) : Int) := AE7 rfl
theorem A7Y : (a : Int) % (b : Int) = ((a % b : Nat) : Int) := AE7 rfl
variable {t : TypeId} {k2 : IntKind}
theorem Bcu (h1 : b ≤ 63) (h2 : a * 2 ^ b ≤ 9223372036854775807) : AHJ t .shl (.int .i64 (a : Int)) (.int k2 (b : Int)) = some (.int .i64 ((a * 2 ^ b : Nat) : Int)) := by
 have e : (a : Int) * 2 ^ ((b : Int).toNat) = ((a * 2 ^ b : Nat) : Int) := by rw [Int.toNat_natCast, Int.natCast_mul, Int.natCast_pow]; rfl
 rw [Bho (by omega) (by omega) (by rw [e]; omega) (by rw [e]; omega), e]
theorem Bc1 (h1 : b ≤ 63) : AHJ t .shr (.int .i64 (a : Int)) (.int k2 (b : Int)) = some (.int .i64 ((a / 2 ^ b : Nat) : Int)) := by
 have e : (a : Int) / 2 ^ ((b : Int).toNat) = ((a / 2 ^ b : Nat) : Int) := by rw [Int.toNat_natCast, Int.natCast_ediv, Int.natCast_pow]; rfl
 rw [Bfv (by omega) (by omega) (by omega), e]
variable {k : IntKind}
theorem BcZ (h : b ≠ 0) : AHJ t .rem (.int k (a : Int)) (.int k (b : Int)) = some (.int k ((a % b : Nat) : Int)) := by rw [Bg8 (by omega) (by omega), Int.natCast_emod]
theorem BeF (h : b ≠ 0) (h2 : a ≤ 9223372036854775807) : AHJ t .quo (.int .i64 (a : Int)) (.int .i64 (b : Int)) = some (.int .i64 ((a / b : Nat) : Int)) := by rw [Bhw (by omega) (by omega) (by omega), Int.natCast_ediv]
end
theorem AFl.toPureV {P : Program} {f : FuncId} {args : List TV} {R : TV → Prop} (h : AFl P f args [] fun x H' => AFQ (frz H' x) R) : AF9 P f args R :=
 AFl.toPure (h.mono fun x H' hx => by
  cases hf : frz H' x with
  | none => rw [hf] at hx; exact hx
  | some y => rw [hf] at hx; exact hx)
abbrev mv_ (d s : Nat) : VO := ⟨some d, .p (.mov (.t s)), none⟩
abbrev po_ (d : Nat) (p : POp) : VO := ⟨some d, .p p, none⟩
abbrev so_ (d : Nat) (q : SOp) : VO := ⟨some d, .s q, none⟩
abbrev ci_ (n : Nat) : Opd := .c (.int .i64 (n : Int))
theorem AH5 {P : Program} {f : FuncId} {fn : Func} {vc : AE9} {vr : List VR} (n : Nat) (hf : P.funcs[f]? = some fn) (ht : fn.body.bind (trC P fn.ntmps) = some (er vc)) (hr : trR P fn.results.toList = some vr) (hn : fn.ntmps = n) :
  ∀ ⦃args : List TV⦄ ⦃H : List Ob⦄ ⦃R : TV → List Ob → Prop⦄, args.length ≤ n → vwp P vc (A27 vr R) (AZF 0 args) H → AFl P f args H R := fun _ _ _ h1 h2 => A5W hf ht hr (hn ▸ h1) h2
theorem AE8 {c c' : AE9} (h : c = c') : ∀ (P : Program) (Q : VEx → Env → List Ob → Prop) (e : Env) (H : List Ob), vwp P c Q e H = vwp P c' Q e H := fun _ _ _ _ => by rw [h]
theorem AFa {α : Type} : (∀ {l : List α} {i : Nat} {a : α}, (l.set i a).length = l.length) ∧ (∀ {l m : List α}, (l ++ m).length = l.length + m.length) ∧ (∀ {a : α} {l : List α}, (a :: l).length = l.length + 1) ∧ ([] : List α).length = 0 := ⟨List.length_set, List.length_append, List.length_cons, List.length_nil⟩
theorem AFl.toFreshV {P : Program} {f : FuncId} {args : List TV} {R : TV → Prop} (h : AFl P f args [] fun x H' => AFQ (frs H' x) R) : ALr P f args R :=
 AFl.toFresh (h.mono fun x H' hx => by
  cases hf : frs H' x with
  | none => rw [hf] at hx; exact hx
  | some y => rw [hf] at hx; exact hx)
theorem A8h {α : Type} {l : List α} {n : Nat} (h : l.length ≤ n) : l.take n = l := List.take_of_length_le h
theorem BfT {α : Type} {c : Prop} [Decidable c] {a b : α} (h : c) : (if c then a else b) = a := if_pos h
theorem BgF {α : Type} {c : Prop} [Decidable c] {a b : α} (h : ¬ c) : (if c then a else b) = b := if_neg h
theorem A08 {α : Type} {l : List α} {n : Nat} (h : n ≤ l.length) : (l.take n).length = n := by simp [h]
theorem AZp {α : Type} {l : List α} {i : Nat} : (l.drop i).take (l.length - i) = l.drop i := List.take_of_length_le (by simp)
theorem A87 {a b : Nat} : a + b - a = b := Nat.add_sub_cancel_left a b
theorem A7W {α : Type} {l m : List α} : (l ++ m).take l.length = l := List.take_left
theorem A7u {α : Type} {l m : List α} : (l ++ m).drop l.length = m := List.drop_left
theorem A67 {a b : Nat} : a + b - b = a := Nat.add_sub_cancel a b
def AFc := (And.intro (And.intro (And.intro (And.intro (And.intro (And.intro (And.intro @A7W @A7u) (And.intro @A87 @AZp)) (And.intro (And.intro @A08 @List.length_drop.{0}) (And.intro @BfT @BgF))) (And.intro (And.intro (And.intro @A8h @A67) (And.intro @Nat.zero_le @Bez)) (And.intro (And.intro @List.nil_append.{0} @List.length_nil.{0}) (And.intro @List.length_cons.{0} @List.cons_append.{0})))) (And.intro (And.intro (And.intro (And.intro @List.getElem?_cons_zero.{0} @List.getElem?_cons_succ.{0}) (And.intro @List.set_cons_zero.{0} @List.set_cons_succ.{0})) (And.intro (And.intro @List.map_cons.{0,0} @List.map_nil.{0,0}) (And.intro @A7Z @A6W))) (And.intro (And.intro (And.intro @true_and @and_true) (And.intro @List.take_zero.{0} @List.take_succ_cons.{0})) (And.intro (And.intro @List.drop_succ_cons.{0} @List.take_nil.{0}) (And.intro @List.drop_nil.{0} @Nat.zero_add))))) (And.intro (And.intro (And.intro (And.intro (And.intro @Bg3 @BhG) (And.intro @Bfw @BfP)) (And.intro (And.intro @Bhs @Bhb) (And.intro @Bgr @BgP))) (And.intro (And.intro (And.intro @Bg9 @BgA) (And.intro @BiB @BcZ)) (And.intro (And.intro @BeF @A9K) (And.intro @A31 @A4R)))) (And.intro (And.intro (And.intro (And.intro @A3L @A4o) (And.intro @A2Y @A3M)) (And.intro (And.intro @A5g @A3H) (And.intro @A5x @A5U))) (And.intro (And.intro (And.intro @Bool.false_xor @Bool.true_xor) (And.intro @Bfu @Bgv)) (And.intro (And.intro @BhJ @decide_true) (And.intro @decide_false @Bool.not_true)))))) (And.intro (And.intro (And.intro (And.intro (And.intro (And.intro @Bool.not_false @not_true_eq_false) (And.intro @not_false_eq_true @Bool.false_eq_true)) (And.intro (And.intro @Bool.true_eq_false @Option.bind_some.{0,0}) (And.intro @Option.map_some.{0,0} @Bool.and_self))) (And.intro (And.intro (And.intro @and_self @Nat.sub_zero) (And.intro @Nat.mul_one @List.length_map.{0,0})) (And.intro (And.intro @Int.toNat_natCast @List.getElem?_map.{0,0}) (And.intro @Int.natCast_nonneg @List.length_append.{0})))) (And.intro (And.intro (And.intro (And.intro @List.drop_zero.{0} @A29) (And.intro @A3g @A8H)) (And.intro (And.intro @A6U @A7C) (And.intro @BbY @BaK))) (And.intro (And.intro (And.intro @BaT @Bcd) (And.intro @List.replicate_zero.{0} @List.take_length.{0})) (And.intro (And.intro @List.length_set.{0} @List.length_replicate.{0}) (And.intro @BeK @AJI))))) (And.intro (And.intro (And.intro (And.intro @Bex @List.set_set.{0}) (And.intro @List.getElem?_nil.{0} @BdH)) (And.intro (And.intro @A70 @A9h) (And.intro @A8A @A7Y))) (And.intro @Bcu @Bc1))))
end Go.Proofs.YtliaddbbmnfioaaGreatDoor

