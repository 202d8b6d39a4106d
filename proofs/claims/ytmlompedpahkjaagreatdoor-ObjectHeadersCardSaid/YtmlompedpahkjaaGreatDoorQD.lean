/- What the proof of ObjectHeadersCard stands on (texts merged; names shortened by a program): part 4. -/
import Derived.Test.YtmlompedpahkjaaGreatDoorQC
import Derived.RangeFuncIn
import Derived.RangeFuncRecord
import Derived.RangeFuncLeaves
import Derived.Sort.LoopGhostIn
namespace Go.Proofs.YtmlompedpahkjaaGreatDoor
open Go.RowKit
variable [AtN]
set_option linter.unusedSectionVars false
set_option linter.unusedSimpArgs false
set_option linter.unusedVariables false
set_option autoImplicit false

inductive AsF where
 | ops (l : List VO) (keep : List Nat)
 /-- the order is open; the first nA change no object, and the others wait for all -/
 | draw (nA : Nat) (l : List VO) (keep : List Nat)
 | skip
 /-- operations; behind the first of them rows in some slots are given away -/
 | opsZ (l : List VO) (zs : List Nat) (r : List VO) (keep : List Nat)
 /-- operations of which one may end in a panic -/
 | pops (l : List VO) (keep : List Nat)
 | pdraw (n : Nat) (l : List VO) (keep : List Nat)
 /-- the same; what is looked at while a call goes on is left aS it is by that call -/
 | sdraw (n : Nat) (l : List VO) (keep : List Nat)
 | seq (a b : AsF)
 | cond (c : Opd) (a b : AsF)
 | block (id : Nat) (c : AsF)
 | loop (live : List Nat) (c : AsF)
 | exit (id : Nat)
 | ret
 | scope (c : AsF)
 /-- (nothing is done) a nil slice in a slot is looked at aS an object of one's own that has no cells yet -/
 | own (s k : Nat) (c : AsF)
 /-- (nothing is done) the same of a nil slice within an object -/
 | ownB (s : Nat) (p : List (Nat × Nat)) (k : Nat) (c : AsF)
 /-- (nothing is done) the same of a nil slice of one-cell elements within an object; what type its Atv will have is kept in mind -/
 | ownT (s : Nat) (p : List (Nat × Nat)) (t : TypeId) (c : AsF)
 /-- (nothing is done) a row of one's own in a slot is given away: it stays aS it is from now on -/
 | frz (s : Nat) (c : AsF)
 /-- a loop over a function: the parameters' slots; the assignments to the left sides; the body -/
 | rfunc (f : Opd) (ps : List Nat) (aS bd : AsF)
 /-- what this machine does not know: nothing is said of it -/
 | dead
 deriving Inhabited

/-- Rows of one's own, in these slots, are given away. -/
def AV9 : List Nat → (Env → List Ob → Prop) → Env → List Ob → Prop
 | [], K, e, H => K e H
 | s :: zs, K, e, H => match get e s with
  | .os k id ver p off n _ => (match H[id]? with
   | some (.obj v x) => v = ver ∧ (match Avz p k off n x with
    | some cs => AV9 zs K ((s, .sl k cs) :: e) (H.set id (.gone ver))
    | none => False)
   | _ => False)
  | _ => False
/-- Without what was laid beside it. -/
def er : AsF → AsF
 | .ops l _ => .ops l []
 | .draw n l _ => .draw n l []
 | .opsZ l _ r _ => .ops (l ++ r) []
 | .pops l _ => .ops l []
 | .pdraw n l _ => .draw n l []
 | .sdraw n l _ => .sdraw n l []
 | .seq a b => .seq (er a) (er b)
 | .cond c a b => .cond c (er a) (er b)
 | .block id c => .block id (er c)
 | .loop _ c => .loop [] (er c)
 | .scope c => .scope (er c)
 | .own _ _ c => er c
 | .ownB _ _ _ c => er c
 | .ownT _ _ _ c => er c
 | .frz _ c => er c
 | .rfunc f ps aS bd => .rfunc f ps (er aS) (er bd)
 | .skip => .skip
 | .exit id => .exit id
 | .ret => .ret
 | .dead => .dead

/-- A panic of the text's own stands in it, or it writes. -/
def AGb : Code → Bool
 | .seq a b => AGb a || AGb b
 | .cond _ a b => AGb a || AGb b
 | .block _ c => AGb c
 | .loop c => AGb c
 | .scope c => AGb c
 | .region _ ops _ => ops.toList.any fun o => match o.op with | .panic _ => true | .store .. => true | _ => false
 | _ => false
/-- Functions that write through others. -/
def A0u : List String := ["(*gitlike/pack.reader).number", "(*gitlike/pack.reader).byte", "(*gitlike/pack.reader).head", "(*gitlike/pack.reader).distance", "(*gitlike/pack.reader).entry"]
/-- A call of a function that panics, or writes. -/
def AOB (P : Program) (v : VO) : Bool := match v.op with
 | .s (.call f _) => (match P.funcs[f]? with | some fn => fn.body.any AGb || A0u.contains fn.name | none => false)
 | .s (.store _ _ _) => true
 | _ => false
/-- How many (from 10000 on: so many more; there may be appends in between). -/
def nOf (n : Nat) : Nat := n % 10000
def ssN (n : Nat) (l : List VO) : SsT := ⟨AU3 l, decide (10000 ≤ n)⟩
theorem AT6 {n : Nat} (h : n < 10000) : nOf n = n := Nat.mod_eq_of_lt h
theorem AUh {n : Nat} (h : n < 10000) : nOf (10000 + n) = n := by unfold nOf; omega
theorem AUc {n : Nat} {l : List VO} (h : n < 10000) : ssN n l = ⟨AU3 l, false⟩ := by unfold ssN; rw [decide_eq_false (by omega)]
theorem AVb {n : Nat} {l : List VO} : ssN (10000 + n) l = ⟨AU3 l, true⟩ := by unfold ssN; rw [decide_eq_true (by omega)]
/-- The first number of operations at which the checks pass. -/
def AMa (chk : Nat → Bool) (n : Nat) : Option Nat := (List.range (n + 1)).find? fun j => chk j && decide (j < 10000)
theorem AEh {chk : Nat → Bool} {n j : Nat} (h : AMa chk n = some j) : chk j = true ∧ j < 10000 := by
 have := List.find?_some h
 simpa using this
def AZT (v : VO) : Bool := match v.op with
 | .s (.app _ _ _ _ _) => true
 | _ => false
/-- Which operations are to be AHY: none that panics, if what they look at may be looked at later on. -/
def AIG (P : Program) (ops : List Oper) (l : List VO) (n : Nat) : Option AsF := match (List.range (n + 1)).find? (ACx ss0 ops l) with
 | some k => if (l.take k).any (AOB P) then (match AMa (ACx ⟨AU3 l, false⟩ ops l) n with
   | some j => if (l.take j).any (AOB P) then (match AMa (AuD ⟨AU3 l, false⟩ ops l) n with
     | some j' => some (.sdraw j' l [])
     | none => some (.sdraw j l [])) else some (.sdraw j l [])
   | none => none) else some (.draw k l [])
 | none => none
theorem AJG {P : Program} {ops : List Oper} {l : List VO} {n : Nat} {c : AsF} (h : AIG P ops l n = some c) : ∃ k, (c = .draw k l [] ∧ AuD ss0 ops l k = true) ∨ (c = .sdraw k l [] ∧ AuD (ssN k l) ops l (nOf k) = true) := by
 have low : ∀ {j}, AuD ⟨AU3 l, false⟩ ops l j = true → j < 10000 → AuD (ssN j l) ops l (nOf j) = true := fun h1 h2 => by rw [AUc h2, AT6 h2]; exact h1
 unfold AIG at h
 split at h
 ·rename_i k hk
  split at h
  ·split at h
   ·rename_i j hj
    obtain ⟨hj, hj2⟩ := AEh hj
    split at h
    ·split at h
     ·rename_i j' hj'
      obtain ⟨hj', hj2'⟩ := AEh hj'
      cases h; exact ⟨j', .inr ⟨rfl, low hj' hj2'⟩⟩
     ·cases h; exact ⟨j, .inr ⟨rfl, low (AyT hj) hj2⟩⟩
    ·cases h; exact ⟨j, .inr ⟨rfl, low (AyT hj) hj2⟩⟩
   ·cases h
  ·cases h; exact ⟨k, .inl ⟨rfl, AyT (List.find?_some hk)⟩⟩
 ·cases h
/-- Appends among what is to be AHY: what is loaded may be loaded while they go on. -/
def AQf (ops : List Oper) (l : List VO) (n : Nat) : Option AsF := (AMa (ACx ⟨AU3 l, true⟩ ops l) n).map fun j => .sdraw (10000 + j) l []
theorem AJK {ops : List Oper} {l : List VO} {n : Nat} {c : AsF} (h : AQf ops l n = some c) : ∃ k, c = .sdraw k l [] ∧ AuD (ssN k l) ops l (nOf k) = true := by
 obtain ⟨j, hj, rfl⟩ := Option.map_eq_some_iff.1 h
 obtain ⟨hj, hj2⟩ := AEh hj
 exact ⟨10000 + j, rfl, by rw [AVb, AUh hj2]; exact AyT hj⟩
def AIR (bz : Bool) (P : Program) (N : Nat) (ops : Array Oper) : Option AsF := match trL bz P N ops.toList ops.toList with
 | some l => if P.follows .mixedOrders then (if l.any AX4 || l.any (AOB P) then (match trL bz P N (As2 ops.toList (ATU ops.toList l)) (As2 ops.toList (ATU ops.toList l)) with
   | some l' => if ABm (ATU ops.toList l) ops.toList.length then AIG P (As2 ops.toList (ATU ops.toList l)) l' ops.size else none
   | none => none)
  else (match (List.range (ops.size + 1)).find? (ACx ss0 ops.toList l) with
   | some n => if (l.take n).any AZT then (match trL bz P N (As2 ops.toList (ATU ops.toList l)) (As2 ops.toList (ATU ops.toList l)) with
     | some l' => if ABm (ATU ops.toList l) ops.toList.length then (match AQf (As2 ops.toList (ATU ops.toList l)) l' ops.size with
       | some c => some c
       | none => some (.draw n l [])) else some (.draw n l [])
     | none => some (.draw n l [])) else some (.draw n l [])
   | none => none)) else none
 | none => none
theorem ACf {bz : Bool} {P : Program} {N : Nat} {ops : Array Oper} {c : AsF} (h : AIR bz P N ops = some c) : (∃ n l, c = .draw n l [] ∧ P.follows .mixedOrders = true ∧
  ((trL bz P N ops.toList ops.toList = some l ∧ AuD ss0 ops.toList l n = true) ∨ ∃ π, ABm π ops.toList.length = true ∧ trL bz P N (As2 ops.toList π) (As2 ops.toList π) = some l ∧ AuD ss0 (As2 ops.toList π) l n = true)) ∨
  ∃ n l, c = .sdraw n l [] ∧ P.follows .mixedOrders = true ∧ ∃ π, ABm π ops.toList.length = true ∧ trL bz P N (As2 ops.toList π) (As2 ops.toList π) = some l ∧ AuD (ssN n l) (As2 ops.toList π) l (nOf n) = true := by
 unfold AIR at h
 split at h
 ·rename_i l hl
  split at h
  ·rename_i hm
   split at h
   ·split at h
    ·rename_i l' hl'
     split at h
     ·rename_i hp
      obtain ⟨k, ⟨rfl, hk⟩ | ⟨rfl, hk⟩⟩ := AJG h
      ·exact .inl ⟨k, l', rfl, hm, .inr ⟨_, hp, hl', hk⟩⟩
      ·exact .inr ⟨k, l', rfl, hm, _, hp, hl', hk⟩
     ·cases h
    ·cases h
   ·split at h
    ·rename_i n hn
     have plain : ∀ {c : AsF}, some (AsF.draw n l []) = some c → _ := fun {c} (h : some (AsF.draw n l []) = some c) => (Or.inl ⟨n, l, (Option.some.inj h).symm, hm, .inl ⟨hl, AyT (List.find?_some hn)⟩⟩ : (∃ n l, c = .draw n l [] ∧ P.follows .mixedOrders = true ∧
  ((trL bz P N ops.toList ops.toList = some l ∧ AuD ss0 ops.toList l n = true) ∨ ∃ π, ABm π ops.toList.length = true ∧ trL bz P N (As2 ops.toList π) (As2 ops.toList π) = some l ∧ AuD ss0 (As2 ops.toList π) l n = true)) ∨
  ∃ n l, c = .sdraw n l [] ∧ P.follows .mixedOrders = true ∧ ∃ π, ABm π ops.toList.length = true ∧ trL bz P N (As2 ops.toList π) (As2 ops.toList π) = some l ∧ AuD (ssN n l) (As2 ops.toList π) l (nOf n) = true)
     split at h
     ·split at h
      ·rename_i l' hl'
       split at h
       ·rename_i hp
        split at h
        ·rename_i c' hc'
         cases h
         obtain ⟨k, rfl, hk⟩ := AJK hc'
         exact .inr ⟨k, l', rfl, hm, _, hp, hl', hk⟩
        ·exact plain h
       ·exact plain h
      ·exact plain h
     ·exact plain h
    ·cases h
  ·cases h
 ·cases h
/-- A slice is made where all is to be AHY: it cannot be shown so. -/
def AUa : AsF → Bool
 | .draw n l _ => (l.take n).any fun v => match v.op with | .s (.bslice _ _ _ _) => true | _ => false
 | .sdraw n l _ => (l.take (nOf n)).any fun v => match v.op with | .s (.bslice _ _ _ _) => true | _ => false
 | _ => false
def AKp (P : Program) (N : Nat) (ops : Array Oper) : Option AsF := match AIR false P N ops with
 | some c => if AUa c then (match AIR true P N ops with | some c' => some c' | none => some c) else some c
 | none => none
theorem AA5 {P : Program} {N : Nat} {ops : Array Oper} {c : AsF} (h : AKp P N ops = some c) : ∃ bz : Bool, (∃ n l, c = .draw n l [] ∧ P.follows .mixedOrders = true ∧
  ((trL bz P N ops.toList ops.toList = some l ∧ AuD ss0 ops.toList l n = true) ∨ ∃ π, ABm π ops.toList.length = true ∧ trL bz P N (As2 ops.toList π) (As2 ops.toList π) = some l ∧ AuD ss0 (As2 ops.toList π) l n = true)) ∨
  ∃ n l, c = .sdraw n l [] ∧ P.follows .mixedOrders = true ∧ ∃ π, ABm π ops.toList.length = true ∧ trL bz P N (As2 ops.toList π) (As2 ops.toList π) = some l ∧ AuD (ssN n l) (As2 ops.toList π) l (nOf n) = true := by
 unfold AKp at h
 split at h
 ·rename_i c1 h1
  split at h
  ·split at h
   ·rename_i c2 h2; cases h; exact ⟨true, ACf h2⟩
   ·cases h; exact ⟨false, ACf h1⟩
  ·cases h; exact ⟨false, ACf h1⟩
 ·cases h
theorem AOq {P : Program} {N : Nat} {ops : Array Oper} {c : AsF} (h : AKp P N ops = some c) (hc : ∀ n l, c ≠ .draw n l []) (hc2 : ∀ n l, c ≠ .sdraw n l []) : False := by
 obtain ⟨bz, ⟨n, l, e, _⟩ | ⟨n, l, e, _⟩⟩ := AA5 h
 ·exact hc n l e
 ·exact hc2 n l e
def trC (P : Program) (N : Nat) : Code → Option AsF
 | .skip => some .skip
 | .region _ ops false => some (match trL false P N ops.toList ops.toList with | some l => .ops l [] | none => .dead)
 | .region _ ops true => some (match AKp P N ops with | some c => c | none => .dead)
 | .seq a b => match trC P N a, trC P N b with
  | some a, some b => some (.seq a b)
  | _, _ => none
 | .cond c a b => match trC P N a, trC P N b with
  | some a, some b => some (.cond (trO c) a b)
  | _, _ => none
 | .block id c => (trC P N c).map (.block id)
 | .loop c => (trC P N c).map (.loop [])
 | .exit id => some (.exit id)
 | .scope c => (trC P N c).map .scope
 | .label _ => some .skip
 | .ret => some .ret
 | .rangeFunc f ps aS bd => if ps.toList.all (· < N) then (match trC P N aS, trC P N bd with
  | some aS, some bd => some (.rfunc (trO f) ps.toList aS bd)
  | _, _ => none) else none
 | _ => some .dead
theorem AQB {P : Program} {N id : Nat} {ops : Array Oper} {c : AsF} (h : trC P N (.region id ops false) = some c) : (∃ l, trL false P N ops.toList ops.toList = some l ∧ c = .ops l []) ∨ c = .dead := by
 simp only [trC, Option.some.injEq] at h
 split at h
 ·rename_i l hl; exact .inl ⟨l, hl, h.symm⟩
 ·exact .inr h.symm
theorem AQI {P : Program} {N id : Nat} {ops : Array Oper} {c : AsF} (h : trC P N (.region id ops true) = some c) : AKp P N ops = some c ∨ c = .dead := by
 simp only [trC, Option.some.injEq] at h
 split at h
 ·rename_i l hl; exact .inl (hl.trans (by rw [h]))
 ·exact .inr h.symm
theorem Aws {P : Program} {N id : Nat} {ops : Array Oper} {c : AsF} (h : trC P N (.region id ops false) = some c) (hc : ∀ l, c ≠ .ops l []) (hd : c ≠ .dead) : False := by
 rcases AQB h with ⟨l, _, e⟩ | e
 ·exact hc l e
 ·exact hd e
theorem Awq {P : Program} {N id : Nat} {ops : Array Oper} {c : AsF} (h : trC P N (.region id ops true) = some c) (hc : ∀ n l, c ≠ .draw n l []) (hc2 : ∀ n l, c ≠ .sdraw n l []) (hd : c ≠ .dead) : False := by
 rcases AQI h with e | e
 ·exact AOq e hc hc2
 ·exact hd e

/-- No loop over a function in it. -/
def AGZ : AsF → Bool
 | .seq a b => AGZ a && AGZ b
 | .cond _ a b => AGZ a && AGZ b
 | .block _ c => AGZ c
 | .loop _ c => AGZ c
 | .scope c => AGZ c
 | .own _ _ c => AGZ c
 | .ownB _ _ _ c => AGZ c
 | .ownT _ _ _ c => AGZ c
 | .frz _ c => AGZ c
 | .rfunc _ _ _ _ => false
 | _ => true

inductive VEx where
 | nor
 | exit (id : Nat)
 | ret
 | pan (u : Value)

def VEx.ex : VEx → Exit
 | .nor => .normal
 | .exit id => .exit id
 | .ret => .ret
 | .pan u => .panic [{ v := u, recovered := false }]

mutual
/-- It refers to no object from g on. -/
def Ayv (g : Nat) : TV → Bool
 | .op id _ _ => decide (id < g)
 | .os _ id _ _ _ _ _ => decide (id < g)
 | .mp id _ => decide (id < g)
 | .yl id _ => decide (id < g)
 | .agg cs => AzZ g cs
 | .tup cs => AzZ g cs
 | .ifc _ x => Ayv g x
 | .fn _ a b => AzZ g a && AzZ g b
 | _ => true
def AzZ (g : Nat) : List TV → Bool
 | [] => true
 | x :: xs => Ayv g x && AzZ g xs
end
def AF3 (g : Nat) : Env → Bool
 | [] => true
 | (_, x) :: e => Ayv g x && AF3 g e
def AMu (g : Nat) : Ob → Bool
 | .obj _ x => Ayv g x
 | .ice _ _ x => Ayv g x
 | .fact id _ _ _ => decide (id < g)
 | .lp _ _ _ _ e _ _ _ => AF3 g e
 | .mpo _ es => AzZ g (es.map (·.2))
 | .bld _ _ _ => true
 | .sit _ _ => true
 | .mpd _ zs _ => AzZ g (zs.map (·.2.2))
 | .mit m _ _ => decide (m < g)
 | .gone _ => true
def AGa (g : Nat) : List Ob → Bool
 | [] => true
 | o :: H => AMu g o && AGa g H
/-- How a loop over a function is left. -/
def AMl (Q : VEx → Env → List Ob → Prop) (e : Env) (L : Nat) : TV → List Ob → Prop := fun _ H' => match H'[L]? with
 | some (.lp .ready none fn N e1 ps ca cb) => Q .nor e (H'.set L (.lp .exhausted none fn N e1 ps ca cb))
 | some (.lp .done (some .ret) fn N e1 ps ca cb) => Q .ret e (H'.set L (.lp .exhausted (some .ret) fn N e1 ps ca cb))
 | some (.lp .done (some (.exit i)) fn N e1 ps ca cb) => Q (.exit i) e (H'.set L (.lp .exhausted (some (.exit i)) fn N e1 ps ca cb))
 | _ => False
/-- The code of a loop's record is this. -/
structure ATF (P : Program) (N : Nat) (ps : List Nat) (ca cb : Code) (aS bd : AsF) : Prop where
 a : trC P N ca = some (er aS)
 b : trC P N cb = some (er bd)
 p : ps.all (· < N) = true

def vwp (P : Program) : AsF → (VEx → Env → List Ob → Prop) → Env → List Ob → Prop
 | .ops l kp, Q, e, H => AGz P l (fun e H => Q .nor (forget kp e) H) e H
 | .opsZ l zs r kp, Q, e, H => AGz P l (AV9 zs (AGz P r (fun e H => Q .nor (forget kp e) H))) e H
 | .pops l kp, Q, e, H => ACZ P (fun u H => Q (.pan u) (ALc l e) H) l (fun e H => Q .nor (forget kp e) H) e H
 | .pdraw n l kp, Q, e, H => vq P (l.take n) (fun e => ACZ P (fun u H => Q (.pan u) [] H) (l.drop n) (fun e H => Q .nor (forget kp e) H) e H) e H
 | .sdraw n l kp, Q, e, H => vq P (l.take (nOf n)) (fun e => AzN (pvopS P (fun u H => Q (.pan u) [] H) (ssN n l)) (l.drop (nOf n)) (fun e H => Q .nor (forget kp e) H) e H) e H
 | .draw n l kp, Q, e, H => vq P (l.take n) (fun e => AGz P (l.drop n) (fun e H => Q .nor (forget kp e) H) e H) e H
 | .skip, Q, e, H => Q .nor e H
 | .seq a b, Q, e, H => vwp P a (fun x e H => match x with | .nor => vwp P b Q e H | .exit i => Q (.exit i) e H | .ret => Q .ret e H | .pan u => Q (.pan u) e H) e H
 | .cond c a b, Q, e, H => match c.ev e with
  | .val (.bool t) => if t = true then vwp P a Q e H else vwp P b Q e H
  | _ => False
 | .block id c, Q, e, H => vwp P c (fun x e H => match x with | .nor => Q .nor e H | .exit i => if i = id then Q .nor e H else Q (.exit i) e H | .ret => Q .ret e H | .pan u => Q (.pan u) e H) e H
 | .loop lv c, Q, e, H0 => ∃ (I : Nat → Env → List Ob → Prop) (n : Nat), I n (forget lv e) H0 ∧
   ∀ n e H, I n e H → vwp P c (fun x e H => match x with | .nor => ∃ m g, m < n ∧ (H0.length ≤ g ∧ (H.length ≤ g ∨ (AF3 g (forget lv e) = true ∧ AGa g (H.take g) = true))) ∧ I m (forget lv e) (H.take g) | .exit i => Q (.exit i) e H | .ret => Q .ret e H | .pan u => Q (.pan u) e H) e H
 | .exit id, Q, e, H => Q (.exit id) e H
 | .ret, Q, e, H => Q .ret e H
 | .scope c, Q, e, H => vwp P c Q e H
 | .dead, _, _, _ => False
 | .own s k c, Q, e, H => match get e s with
  | .val (.slice none 0 0) => vwp P c Q ((s, .os k H.length 0 [] 0 0 0) :: e) (H ++ [.obj 0 (.arr 0 k [])])
  | _ => vwp P c Q e H
 | .ownB s p k c, Q, e, H => match get e s with
  | .op id ver p0 => (match H[id]? with
   | some (.obj v x) => v = ver ∧ (match Azr (p0 ++ p) x with
    | some (.val (.slice none 0 0)) => (match ADH (p0 ++ p) x (.os k H.length 0 [] 0 0 0) with
     | some x' => vwp P c Q e (H.set id (.obj ver x') ++ [.obj 0 (.arr 0 k [])])
     | none => False)
    | _ => vwp P c Q e H)
   | _ => False)
  | _ => False
 | .ownT s p t c, Q, e, H => match get e s with
  | .op id ver p0 => (match H[id]? with
   | some (.obj v x) => v = ver ∧ (match Azr (p0 ++ p) x with
    | some (.val (.slice none 0 0)) => (match ADH (p0 ++ p) x (.os 1 H.length 0 [] 0 0 0) with
     | some x' => vwp P c Q e (H.set id (.obj ver x') ++ [.bld 0 t []])
     | none => False)
    | _ => vwp P c Q e H)
   | _ => False)
  | _ => False
 | .frz s c, Q, e, H => match get e s with
  | .os k id ver p off n _ => (match H[id]? with
   | some (.obj v x) => v = ver ∧ (match Avz p k off n x with
    | some cs => vwp P c Q ((s, .sl k cs) :: e) (H.set id (.gone ver))
    | none => False)
   | _ => False)
  | _ => False
 | .rfunc f ps aS bd, Q, e, H => AGZ aS = true ∧ AGZ bd = true ∧ (match f.ev e with
  | .fn (.func g) first caps => AGI P g = true ∧ ∀ (N : Nat) (fn : FuncId) (ca cb : Code), ATF P N ps ca cb aS bd → AsR P g (first ++ [.yl H.length 0] ++ caps) (H ++ [.lp .ready none fn N e ps ca cb]) (AMl Q e H.length)
  | .val (.func (.func g) xs ys) => (xs.isEmpty && ys.isEmpty) = true ∧ AGI P g = true ∧ ∀ (N : Nat) (fn : FuncId) (ca cb : Code), ATF P N ps ca cb aS bd → AsR P g [.yl H.length 0] (H ++ [.lp .ready none fn N e ps ca cb]) (AMl Q e H.length)
  | _ => False)

section sound
variable {P : Program}
/-- The same cells, read otherwise. -/
theorem AFi {c : Ctx} {w : World} : ∀ {p : List (Nat × Nat)} {x y z x' : TV} {us : List Value}, AsK c w x us → Azr p x = some z → (∀ m, AsK c w z m → AsK c w y m) → ADH p x y = some x' → AsK c w x' us := by
 intro p x y z x' us h hg hm hs
 obtain ⟨a, m, b, rfl, h1, h2⟩ := Ax8 h hg
 obtain ⟨a', m', b', e, h3, h4, h5, _⟩ := ABU h hs (hm m h2)
 have e1 : a = a' := by
  have := congrArg (List.take a.length) e
  rw [List.append_assoc, List.append_assoc, List.take_left] at this
  rw [this, List.take_left' (by omega)]
 subst e1
 rw [List.append_assoc, List.append_assoc] at e
 have e2 := List.append_cancel_left e
 have e3 : m = m' := by
  have := congrArg (List.take m.length) e2
  rw [List.take_left] at this
  rw [this, List.take_left' (by omega)]
 subst e3
 have e4 := List.append_cancel_left e2
 subst e4
 exact h5

/-- A row that is given away, read aS it stays. -/
theorem Sim.give {β : Nat → Nat → Option (Nat × Nat)} {H : List Ob} {F : Nat → Prop} {w : World} (hs : Sim ⟨β, H, F⟩ w) {k id ver off n cp : Nat} {p : List (Nat × Nat)} {x : TV} {cs : List TV} (hid : H[id]? = some (.obj ver x)) (hcs : Avz p k off n x = some cs) {us : List Value} (hr : AsK ⟨β, H, F⟩ w (.os k id ver p off n cp) us) :
  AsK ⟨β, H.set id (.gone ver), fun b => F b ∨ ∃ off, β id ver = some (b, off)⟩ w (.sl k cs) us := by
 have hm : Ax4 (Ctx.bare ⟨β, H, F⟩) w (Ctx.bare ⟨β, H.set id (.gone ver), fun b => F b ∨ ∃ off, β id ver = some (b, off)⟩) w :=
  ⟨fun b hb => ⟨.inl hb, rfl⟩, fun _ _ k => (Ctx.bare_has k).elim, fun _ _ => rfl⟩
 rw [AsK] at hr
 obtain ⟨hr1, hr2⟩ := hr
 rcases hr2 with ⟨rfl, a0, hr2, _⟩ | ⟨b0, o0, cap, t0, m0, hr2, hr3, hr4, hr5, hr6, hr7⟩
 ·have : cs = [] := by
   unfold Avz at hcs
   split at hcs
   ·split at hcs
    ·cases hcs; simp
    ·cases hcs
   ·cases hcs
  subst this
  rw [AsK]
  exact ⟨by simp, .inl ⟨rfl, a0, 0, hr2, by omega⟩⟩
 rcases hs.ob id _ hid with ⟨h0, _⟩ | ⟨b, off', pre, vs, post, t, fr, h0, h1, h2, h3, h4⟩
 ·have h0' : β id ver = none := h0
  have hr2' : β id ver = some (b0, o0) := hr2
  rw [h0'] at hr2'; cases hr2'
 have h0' : β id ver = some (b, off') := h0
 have hr2' : β id ver = some (b0, o0) := hr2
 rw [h0'] at hr2'
 obtain ⟨rfl, rfl⟩ : b = b0 ∧ off' = o0 := by simpa using hr2'
 obtain ⟨a, m, q, rfl, k1, k2, k3, k4⟩ := Azz h4 hcs
 rw [AsK]
 refine ⟨k3, .inr ⟨b, off' + AvR p + off * k, cap, m, by rw [k4]; exact hr3, by omega, hr5, .inr ⟨off', h0'⟩, AsL.mono hm k2, ?_⟩⟩
 have e : off' + AvR p + off * k = pre.length + a.length := by rw [h3, k1]; omega
 rw [e]; exact Ayd h1

theorem AH7 {N : Nat} {D : List Deferred} : ∀ {zs : List Nat} {K : Env → List Ob → Prop} {e : Env} {H : List Ob} {β : Nat → Nat → Option (Nat × Nat)} {F : Nat → Prop} {w : World} {a : Act}, AV9 zs K e H → Sim ⟨β, H, F⟩ w → Fr N D ⟨β, H, F⟩ w e a →
  ∃ e' H' F', K e' H' ∧ Sim ⟨β, H', F'⟩ w ∧ Fr N D ⟨β, H', F'⟩ w e' a ∧ AsV ⟨β, H, F⟩ w ⟨β, H', F'⟩ w
 | [], K, e, H, β, F, w, a, h, hs, hf => ⟨e, H, F, h, hs, hf, AsV.refl _ _⟩
 | s :: zs, K, e, H, β, F, w, a, h, hs, hf => by
  rw [AV9] at h
  split at h
  ·rename_i k id ver p off n cp hg
   split at h
   ·rename_i v y hid
    obtain ⟨rfl, h⟩ := h
    split at h
    ·rename_i cs hcs
     obtain ⟨k1, k2⟩ := hs.freeze hid rfl
     have hr : Rep ⟨β, H, F⟩ w (get e s) (a.tmps.getD s undef) := hf.env.1 s
     rw [hg] at hr
     have hr' : Rep ⟨β, H.set id (.gone v), fun b => F b ∨ ∃ off, β id v = some (b, off)⟩ w (.sl k cs) (a.tmps.getD s undef) := by
      rcases hr with (hr | hr | ⟨us, hr, hr2⟩) | ⟨xs, vs, hr, _⟩
      ·cases hr
      ·cases hr
      ·exact .inl (.inr (.inr ⟨us, hs.give hid hcs hr, by rw [hr2]; rfl⟩))
      ·cases hr
     obtain ⟨e', H', F', q1, q2, q3, q4⟩ := AH7 h k1 (a := a) ⟨⟨fun s' => by
      rw [AtU]
      by_cases hss : s = s'
      ·subst hss; rw [if_pos rfl]; exact hr'
      ·rw [if_neg hss]; exact Rep.mono (k2.mono hs) (hf.env.1 s'), k1.glob⟩, hf.size, hf.defers⟩
     exact ⟨e', H', F', q1, q2, q3, k2.trans q4⟩
    ·exact h.elim
   ·exact h.elim
  ·exact h.elim
theorem APn {P : Program} {N : Nat} {all : List Oper} : ∀ {os : List Oper} {l1 l2 : List VO}, trL false P N all os = some (l1 ++ l2) → ∃ o1 o2, os = o1 ++ o2 ∧ trL false P N all o1 = some l1 ∧ trL false P N all o2 = some l2
 | os, [], l2, h => ⟨[], os, rfl, rfl, h⟩
 | [], v :: l1, l2, h => by simp [trL] at h
 | o :: os, v :: l1, l2, h => by
  rw [trL] at h
  split at h
  ·rename_i v' g r hv hg hr
   split at h
   ·rename_i hd
    simp only [List.cons_append, Option.some.injEq, List.cons.injEq] at h
    obtain ⟨rfl, rfl⟩ := h
    obtain ⟨o1, o2, rfl, h1, h2⟩ := APn hr
    refine ⟨o :: o1, o2, rfl, ?_, h2⟩
    rw [trL, hv, hg, h1]
    simp [hd]
   ·cases h
  ·cases h
theorem ALF {N : Nat} {D : List Deferred} {ro : Option Nat} {nn : Nat} {all : Array Oper} {os : List Oper} {l1 l2 : List VO} {zs : List Nat} (ht : trL false P N all.toList os = some (l1 ++ l2)) {K : Env → List Ob → Prop} {e : Env} {H : List Ob} {β : Nat → Nat → Option (Nat × Nat)} {F : Nat → Prop} {w : World} {a : Act} {QQ : Exit → Act → World → Prop}
  (h : AGz P l1 (AV9 zs (AGz P l2 K)) e H) (hs : Sim ⟨β, H, F⟩ w) (hf : Fr N D ⟨β, H, F⟩ w e a)
  (hk : ∀ e' H' β' F' w' a', K e' H' → Sim ⟨β', H', F'⟩ w' → Fr N D ⟨β', H', F'⟩ w' e' a' → AsV ⟨β, H, F⟩ w ⟨β', H', F'⟩ w' → QQ .normal a' w') : wpListIn (fz ro) nn P all QQ os a w := by
 obtain ⟨o1, o2, rfl, h1, h2⟩ := APn ht
 refine AHm (AAd.vop (KP := fun _ _ => False)) h1 h hs hf (fun e' H' β' F' w' a' k1 k2 k3 k4 => ?_) (fun _ _ _ _ _ _ h => h.elim)
 obtain ⟨e2, H2, F2, q1, q2, q3, q4⟩ := AH7 k1 k2 k3
 exact AH4 h2 q1 q2 q3 fun e3 H3 β3 F3 w3 a3 m1 m2 m3 m4 => hk e3 H3 β3 F3 w3 a3 m1 m2 m3 ((k4.trans q4).trans m4)

theorem Sim.own {β : Nat → Nat → Option (Nat × Nat)} {H : List Ob} {F : Nat → Prop} {w : World} (hs : Sim ⟨β, H, F⟩ w) (k : Nat) :
  Sim ⟨upd β H.length 0 none, H ++ [.obj 0 (.arr 0 k [])], F⟩ w ∧ AsV ⟨β, H, F⟩ w ⟨upd β H.length 0 none, H ++ [.obj 0 (.arr 0 k [])], F⟩ w ∧
   AsK ⟨upd β H.length 0 none, H ++ [.obj 0 (.arr 0 k [])], F⟩ w (.os k H.length 0 [] 0 0 0) [.slice none 0 0] := by
 obtain ⟨k1, k2⟩ := hs.newNone (x := .arr 0 k []) (by rw [AsK]; exact ⟨rfl, by simp, by rw [AsL]⟩)
 exact ⟨k1, k2, by rw [AsK]; exact ⟨Awt _ _ _ _ _ (Nat.le_refl _), .inl ⟨rfl, none, rfl, rfl, fun _ h => by cases h⟩⟩⟩

theorem Sim.ownBld {β : Nat → Nat → Option (Nat × Nat)} {H : List Ob} {F : Nat → Prop} {w : World} (hs : Sim ⟨β, H, F⟩ w) (t : TypeId) :
  Sim ⟨upd β H.length 0 none, H ++ [.bld 0 t []], F⟩ w ∧ AsV ⟨β, H, F⟩ w ⟨upd β H.length 0 none, H ++ [.bld 0 t []], F⟩ w ∧
   AsK ⟨upd β H.length 0 none, H ++ [.bld 0 t []], F⟩ w (.os 1 H.length 0 [] 0 0 0) [.slice none 0 0] := by
 obtain ⟨k1, k2⟩ := hs.new (.bld 0 t []) rfl none (w' := w) (fun b off e => by cases e) rfl rfl rfl (Nat.le_refl _) (fun b hb => rfl) fun hm => .inl ⟨AsW, rfl⟩
 exact ⟨k1, k2, by rw [AsK]; exact ⟨Awt _ _ _ _ _ (Nat.le_refl _), .inl ⟨rfl, none, rfl, rfl, fun _ h => by cases h⟩⟩⟩

/-- Objects that nobody knows any more are forgotten. -/
def Ctx.cut (c : Ctx) (g : Nat) : Ctx := ⟨c.β, c.H.take g, c.F⟩
theorem Ctx.cut_has {c : Ctx} {g id ver : Nat} (h : c.has id ver) (hg : id < g) : (c.cut g).has id ver := by
 obtain ⟨o, h1, h2⟩ := h
 exact ⟨o, by show (c.H.take g)[id]? = some o; rw [List.getElem?_take, if_pos hg]; exact h1, h2⟩
theorem Ctx.cut_get {c : Ctx} {g id : Nat} {o : Ob} (h : (c.cut g).H[id]? = some o) : id < g ∧ c.H[id]? = some o := by
 have h' : (c.H.take g)[id]? = some o := h
 rw [List.getElem?_take] at h'
 split at h'
 ·exact ⟨‹_›, h'⟩
 ·cases h'
mutual
theorem AsK.cut {c : Ctx} {w : World} {g : Nat} : ∀ {x : TV} {us : List Value}, Ayv g x = true → AsK c w x us → AsK (c.cut g) w x us
 | .val y, us, hf, hr => by rw [AsK] at hr ⊢; exact hr
 | .any, us, hf, hr => by rw [AsK] at hr ⊢; exact hr
 | .sl k cs, us, hf, hr => by rw [AsK] at hr ⊢; exact hr
 | .fp x, us, hf, hr => by rw [AsK] at hr ⊢; exact hr
 | .arr n k cs, us, hf, hr => by rw [AsK] at hr ⊢; exact hr
 | .op id ver p, us, hf, hr => by
  rw [Ayv, decide_eq_true_eq] at hf; rw [AsK] at hr ⊢; exact ⟨Ctx.cut_has hr.1 hf, hr.2⟩
 | .os k id ver p off n cp, us, hf, hr => by
  rw [Ayv, decide_eq_true_eq] at hf; rw [AsK] at hr ⊢; exact ⟨Ctx.cut_has hr.1 hf, hr.2⟩
 | .mp id ver, us, hf, hr => by
  rw [Ayv, decide_eq_true_eq] at hf; rw [AsK] at hr ⊢; exact ⟨Ctx.cut_has hr.1 hf, hr.2⟩
 | .yl id ver, us, hf, hr => by
  rw [Ayv, decide_eq_true_eq] at hf; rw [AsK] at hr ⊢; exact ⟨Ctx.cut_has hr.1 hf, hr.2⟩
 | .agg cs, us, hf, hr => by rw [Ayv] at hf; rw [AsK] at hr ⊢; exact AsL.cut hf hr
 | .tup cs, us, hf, hr => by rw [AsK] at hr; exact hr.elim
 | .ifc t x, us, hf, hr => by
  rw [Ayv] at hf; rw [AsK] at hr ⊢
  obtain ⟨u, h1, vs, h2, h3⟩ := hr
  exact ⟨u, h1, vs, AsK.cut hf h2, h3⟩
 | .fn f a b, us, hf, hr => by
  rw [Ayv, Bool.and_eq_true] at hf; rw [AsK] at hr ⊢
  obtain ⟨aS, bs, h1, h2, h3⟩ := hr
  exact ⟨aS, bs, h1, Ato.cut hf.1 h2, Ato.cut hf.2 h3⟩
theorem AsL.cut {c : Ctx} {w : World} {g : Nat} : ∀ {xs : List TV} {us : List Value}, AzZ g xs = true → AsL c w xs us → AsL (c.cut g) w xs us
 | [], us, hf, hr => by rw [AsL] at hr ⊢; exact hr
 | x :: xs, us, hf, hr => by
  rw [AzZ, Bool.and_eq_true] at hf; rw [AsL] at hr ⊢
  obtain ⟨a, b, h1, h2, h3⟩ := hr
  exact ⟨a, b, h1, AsK.cut hf.1 h2, AsL.cut hf.2 h3⟩
theorem Ato.cut {c : Ctx} {w : World} {g : Nat} : ∀ {xs : List TV} {us : List Value}, AzZ g xs = true → Ato c w xs us → Ato (c.cut g) w xs us
 | [], us, hf, hr => by rw [Ato] at hr ⊢; exact hr
 | x :: xs, us, hf, hr => by
  rw [AzZ, Bool.and_eq_true] at hf; rw [Ato] at hr ⊢
  obtain ⟨u, us, h1, h2, h3⟩ := hr
  refine ⟨u, us, h1, ?_, Ato.cut hf.2 h3⟩
  rcases h2 with h2 | h2 | ⟨aS, h2, h4⟩
  ·exact .inl h2
  ·exact .inr (.inl h2)
  ·exact .inr (.inr ⟨aS, AsK.cut hf.1 h2, h4⟩)
end
theorem Rep.cut {c : Ctx} {w : World} {g : Nat} {x : TV} {v : Value} (hf : Ayv g x = true) (hr : Rep c w x v) : Rep (c.cut g) w x v := by
 rcases hr with (h | h | ⟨us, h, h'⟩) | ⟨xs, vs, rfl, h2, h3⟩
 ·exact .inl (.inl h)
 ·exact .inl (.inr (.inl h))
 ·exact .inl (.inr (.inr ⟨us, AsK.cut hf h, h'⟩))
 ·rw [Ayv] at hf; exact .inr ⟨xs, vs, rfl, h2, Ato.cut hf h3⟩
theorem AFr {g : Nat} : ∀ {e : Env}, AF3 g e = true → ∀ s, Ayv g (get e s) = true
 | [], _, s => rfl
 | (k, x) :: e, h, s => by
  rw [AF3, Bool.and_eq_true] at h
  rw [AtU]
  split
  ·exact h.1
  ·exact AFr h.2 s
theorem AIk {g : Nat} : ∀ {H : List Ob}, AGa g H = true → ∀ (i : Nat) (o : Ob), H[i]? = some o → AMu g o = true
 | [], _, i, o, h => by simp at h
 | o :: H, h, i, o', hi => by
  rw [AGa, Bool.and_eq_true] at h
  cases i with
  | zero => simp at hi; subst hi; exact h.1
  | succ i => exact AIk h.2 i o' (by simpa using hi)
theorem As1.cut {c : Ctx} {w : World} {g : Nat} {kk : MK} : ∀ {es : List (List UInt8 × TV)} {ms : List MapEntry}, AzZ g (es.map (·.2)) = true → As1 c w kk es ms → As1 (c.cut g) w kk es ms
 | [], ms, _, h => h
 | (k, x) :: es, ms, hb, h => by
  rw [List.map_cons, AzZ, Bool.and_eq_true] at hb
  obtain ⟨m, r, rfl, h1, h2, h3⟩ := h
  exact ⟨m, r, rfl, h1, ⟨AsK.cut hb.1 h2.1, h2.2⟩, As1.cut hb.2 h3⟩
theorem Sim.cut {c : Ctx} {w : World} {g : Nat} (hs : Sim c w) (hg : AGa g (c.H.take g) = true) : Sim (c.cut g) w := by
 have hown : ∀ b, (c.cut g).own b → c.own b := by
  rintro b ⟨i, o, off, h1, h2, h3⟩
  exact ⟨i, o, off, (Ctx.cut_get h1).2, h2, h3⟩
 refine ⟨fun id o ho => ?_, fun i j x y b o o' hx hy hlx hly e e' => hs.inj i j x y b o o' (Ctx.cut_get hx).2 (Ctx.cut_get hy).2 hlx hly e e', fun b hb => hs.apart b (hown b hb), hs.lt, hs.glob⟩
 have h1 := hs.ob id o (Ctx.cut_get ho).2
 have hb := AIk hg id o ho
 cases o with
 | gone v => trivial
 | ice v m x =>
  obtain ⟨b, off, pre, vs, post, t, fr, h0, h1, h2, h3, h4⟩ := h1
  exact ⟨b, off, pre, vs, post, t, fr, h0, h1, h2, h3, AsK.cut hb h4⟩
 | bld v t l => exact h1
 | fact i v t m =>
  obtain ⟨h0, h2⟩ := h1
  exact ⟨Ctx.cut_has h0 (by simpa [AMu] using hb), h2⟩
 | lp st pend fn N en ps ca cb =>
  obtain ⟨b, tmps, D, h0, h1, h2, h3⟩ := h1
  exact ⟨b, tmps, D, h0, h1, h2, fun s => Rep.cut (AFr hb s) (h3 s)⟩
 | mpo kk es =>
  obtain ⟨b, ms, cl, h0, h1, h2, h3⟩ := h1
  exact ⟨b, ms, cl, h0, h1, As1.cut hb h2, h3⟩
 | sit s pos => exact h1
 | mpd kk zs cl =>
  obtain ⟨b, ms, h0, h1, h2, h3⟩ := h1
  exact ⟨b, ms, h0, h1, As1.cut (by rw [List.map_map]; exact hb) h2, h3⟩
 | mit m sn cl =>
  obtain ⟨r, b, h0, ⟨g0, g1⟩, h1⟩ := h1
  exact ⟨r, b, h0, ⟨Ctx.cut_has g0 (by simpa [AMu] using hb), g1⟩, h1⟩
 | obj v x =>
  rcases h1 with ⟨h0, h4⟩ | ⟨b, off, pre, vs, post, t, fr, h0, h1, h2, h3, h4⟩
  ·exact .inl ⟨h0, AsK.cut hb h4⟩
  ·exact .inr ⟨b, off, pre, vs, post, t, fr, h0, h1, h2, h3, AsK.cut hb h4⟩
theorem AsV.cut {c0 c : Ctx} {w0 w : World} {g : Nat} (hl : AsV c0 w0 c w) (hg : c0.H.length ≤ g) : AsV c0 w0 (c.cut g) w :=
 ⟨hl.os, hl.tape, hl.output, hl.size, fun id ver h => by
  obtain ⟨h1, h2⟩ := hl.has id ver h
  exact ⟨Ctx.cut_has h1 (Nat.lt_of_lt_of_le (Ctx.has_lt h) hg), h2⟩, hl.shape, hl.same, hl.keepF, hl.oldF, fun b hb ⟨i, o, off, h1, h2, h3⟩ => hl.oldOwn b hb ⟨i, o, off, (Ctx.cut_get h1).2, h2, h3⟩⟩

/-- The Atv for the calls that rounds defer: each holds none. -/
def ABa (D0 : List Deferred) (B : Nat) (c : Ctx) (w : World) (D : List Deferred) : Prop := ∃ ds : List Nat, D = ds.map (fun r => { target := .collected r, args := #[] }) ++ D0 ∧ ds.Nodup ∧ ∀ r ∈ ds, B ≤ r ∧ r < w.heap.size ∧ ¬ c.own r ∧ ¬ c.F r ∧ w.heap[r]? = some (.deferred (some []))
theorem ABa.nil {D0 : List Deferred} {B : Nat} {c : Ctx} {w : World} : ABa D0 B c w D0 := ⟨[], rfl, List.nodup_nil, fun r h => by cases h⟩
theorem ABa.later {D0 : List Deferred} {B : Nat} {c c' : Ctx} {w w' : World} {D : List Deferred} (h : ABa D0 B c w D) (hl : AsV c w c' w') : ABa D0 B c' w' D := by
 obtain ⟨ds, h1, h2, h3⟩ := h
 refine ⟨ds, h1, h2, fun r hr => ?_⟩
 obtain ⟨k1, k2, k3, k4, k5⟩ := h3 r hr
 exact ⟨k1, Nat.lt_of_lt_of_le k2 hl.size, fun h => k3 (hl.oldOwn r k2 h), fun h => (hl.oldF r k2 h).elim k4 k3, (hl.same r k2 k3).trans k5⟩
theorem ABa.cut {D0 : List Deferred} {B g : Nat} {c : Ctx} {w : World} {D : List Deferred} (h : ABa D0 B c w D) : ABa D0 B (c.cut g) w D := by
 obtain ⟨ds, h1, h2, h3⟩ := h
 refine ⟨ds, h1, h2, fun r hr => ?_⟩
 obtain ⟨k1, k2, k3, k4, k5⟩ := h3 r hr
 exact ⟨k1, k2, fun ⟨i, o, off, h1, h2, h3⟩ => k3 ⟨i, o, off, (Ctx.cut_get h1).2, h2, h3⟩, k4, k5⟩

theorem ACk (w : World) (r : Nat) (o : Obj) : (w.putObj r o).os = w.os ∧ (w.putObj r o).tape = w.tape ∧ (w.putObj r o).output = w.output ∧ (w.putObj r o).heap.size = w.heap.size := ⟨rfl, rfl, rfl, by simp [World.putObj]⟩
theorem AIm {w : World} {b : Nat} {r : Loop} (h : w.heap[b]? = some (.loop r)) : w.shape? b = none := by simp [World.shape?, h]

/-- A loop's record turns. -/
theorem Sim.loopTurn {β : Nat → Nat → Option (Nat × Nat)} {H : List Ob} {F : Nat → Prop} {w : World} (hs : Sim ⟨β, H, F⟩ w) {id N : Nat} {fn : FuncId} {e : Env} {ps : List Nat} {ca cb : Code} {st st' : LoopState} {pe pe' : Option Code}
  (ho : H[id]? = some (.lp st pe fn N e ps ca cb)) : ∃ (b : Nat) (r : Loop), β id 0 = some (b, 0) ∧ w.heap[b]? = some (.loop r) ∧ r.state = st ∧ r.pending = pe ∧ r.fn = fn ∧ r.tmps.size = N ∧ r.params = ps.toArray ∧ r.assign = ca ∧ r.body = cb ∧ (∀ s, Rep ⟨β, H, F⟩ w (get e s) (r.tmps.getD s undef)) ∧
   Sim ⟨β, H.set id (.lp st' pe' fn N e ps ca cb), F⟩ (w.putObj b (.loop { r with state := st', pending := pe' })) ∧
   AsV ⟨β, H, F⟩ w ⟨β, H.set id (.lp st' pe' fn N e ps ca cb), F⟩ (w.putObj b (.loop { r with state := st', pending := pe' })) := by
 obtain ⟨b, tmps, D, h1, h2, h3, h4⟩ := hs.ob id _ ho
 have hlt : b < w.heap.size := (Array.getElem?_eq_some_iff.1 h2).1
 have hid : id < H.length := (List.getElem?_eq_some_iff.1 ho).1
 have hput := World.putObj_heap_same (w := w) (o := .loop { state := st', pending := pe', fn := fn, tmps := tmps, params := ps.toArray, assign := ca, body := cb, defers := D }) hlt
 obtain ⟨k1, k2⟩ := hs.turn (β' := β) (w' := w.putObj b (.loop { state := st', pending := pe', fn := fn, tmps := tmps, params := ps.toArray, assign := ca, body := cb, defers := D })) ho (o' := .lp st' pe' fn N e ps ca cb) rfl rfl (Nat.le_refl _) (fun _ _ _ => rfl) (fun b' off hb => .inl ⟨off, hb⟩) rfl rfl rfl
  (by rw [(ACk _ _ _).2.2.2]; exact Nat.le_refl _) (fun b' hb' => by
   by_cases hbb : b' = b
   ·subst hbb; rw [AIm h2, AIm hput]
   ·exact AtJ (World.putObj_heap_other hbb)) (fun b' hb' hne => World.putObj_heap_other (fun e => hne 0 (by subst e; exact h1)))
  (fun hm => ⟨b, tmps, D, h1, hput, h3, fun s => Rep.mono hm (h4 s)⟩)
 exact ⟨b, { state := st, pending := pe, fn := fn, tmps := tmps, params := ps.toArray, assign := ca, body := cb, defers := D }, h1, h2, rfl, rfl, rfl, h3, rfl, rfl, rfl, h4, k1, k2⟩


/-- THE STATEMENT 'for .. := range g'. -/
theorem AG1 {N nn : Nat} {f0 : Operand} {ps0 : Array Tmp} {ca cb : Code} {Q : VEx → Env → List Ob → Prop} {e : Env} {H : List Ob} {β : Nat → Nat → Option (Nat × Nat)} {F : Nat → Prop} {w : World} {a : Act} {QQ : Exit → Act → World → Prop} {B : Nat} {D D0 : List Deferred}
  (hs : Sim ⟨β, H, F⟩ w) (hf : Fr N D ⟨β, H, F⟩ w e a) (hm : ABa D0 B ⟨β, H, F⟩ w D) (hB : B ≤ w.heap.size) {g : FuncId} {us vs : List Value} {first caps : List TV} (hv : a.eval f0 = .func (.func g) us.toArray vs.toArray) (hgo : AGI P g = true) (hfi : Ato ⟨β, H, F⟩ w first us) (hc : Ato ⟨β, H, F⟩ w caps vs)
  (h : ∀ fn, AsR P g (first ++ [.yl H.length 0] ++ caps) (H ++ [.lp .ready none fn N e ps0.toList ca cb]) (AMl Q e H.length))
  (hk : ∀ x e' H' β' F' w' a' D', Q x e' H' → Sim ⟨β', H', F'⟩ w' → Fr N D' ⟨β', H', F'⟩ w' e' a' → ABa D0 B ⟨β', H', F'⟩ w' D' → AsV ⟨β, H, F⟩ w ⟨β', H', F'⟩ w' → QQ x.ex a' w') : (Code.rangeFunc f0 ps0 ca cb).wpIn (fz none) nn P QQ a w := by
 refine wpIn_rangeFunc ?_
 intro fn hfn
 obtain ⟨rec, hrec⟩ : ∃ rec : Loop, rec = { state := .ready, pending := none, fn := fn, tmps := a.tmps, params := ps0, assign := ca, body := cb, defers := w.heap.size } := ⟨_, rfl⟩
 obtain ⟨W1, hW1⟩ : ∃ W1, (w.alloc (.deferred (some []))).alloc (.loop rec) = W1 := ⟨_, rfl⟩
 have hL1 : W1.heap[w.heap.size + 1]? = some (.loop rec) := by
  rw [← hW1]; have := World.alloc_heap_new (w.alloc (.deferred (some []))) (.loop rec); rwa [World.size_alloc] at this
 have hK1 : W1.heap[w.heap.size]? = some (.deferred (some [])) := by
  rw [← hW1]; exact (Below.heap_alloc _ _ _ (by simp)).trans (World.alloc_heap_new w _)
 have hsz : W1.heap.size = w.heap.size + 2 := by rw [← hW1]; simp
 have hold : ∀ b, b < w.heap.size → W1.heap[b]? = w.heap[b]? := fun b hb => by
  rw [← hW1]; exact (Below.heap_alloc _ _ _ (by simp; omega)).trans (Below.heap_alloc _ _ _ hb)
 obtain ⟨k1, k2⟩ := hs.new (w' := W1) (.lp .ready none fn N e ps0.toList ca cb) rfl (some (w.heap.size + 1, 0)) (fun b off h => by simp at h; omega) (by rw [← hW1]; rfl) (by rw [← hW1]; rfl) (by rw [← hW1]; rfl) (by omega) hold
  (fun hmo => ⟨w.heap.size + 1, a.tmps, w.heap.size, AsW, by rw [hL1, hrec], hf.size, fun s => Rep.mono hmo (hf.env.1 s)⟩)
 have hmo := k2.mono hs
 have hown1 : ∀ b, Ctx.own ⟨upd β H.length 0 (some (w.heap.size + 1, 0)), H ++ [.lp .ready none fn N e ps0.toList ca cb], F⟩ b → b ≠ w.heap.size := by
  rintro b ⟨i, o, off, h1, h2, h3⟩ rfl
  by_cases hi : i < H.length
  ·rw [List.getElem?_append_left hi] at h1
   have h3' : β i o.ver = some (w.heap.size, off) := by
    have h3 : upd β H.length 0 (some (w.heap.size + 1, 0)) i o.ver = some (w.heap.size, off) := h3
    rw [AFf (fun h => by omega)] at h3; exact h3
   have := hs.own_lt ⟨i, o, off, h1, h2, h3'⟩
   omega
  ·have hil : i = H.length := by
    have := (List.getElem?_eq_some_iff.1 h1).1
    simp at this; omega
   subst hil
   simp at h1
   subst h1
   have h3 : upd β H.length 0 (some (w.heap.size + 1, 0)) H.length 0 = some (w.heap.size, off) := h3
   rw [AsW] at h3
   simp at h3
 refine ⟨w.heap.size + 1, [{ target := .collected w.heap.size, args := #[] }], W1, { target := .fn (.func g) vs.toArray, args := us.toArray ++ #[.func (.yield (w.heap.size + 1)) #[] #[]] }, W1, g,
  us.toArray ++ #[.func (.yield (w.heap.size + 1)) #[] #[]] ++ vs.toArray, W1, ?_, ?_, ?_, ?_, ?_, ?_⟩
 ·rw [← hW1, hrec]; exact run_enterLoop_outer _ _ _ _ _
 ·simp only [resolve, hv]
  simp [go_sem]
 ·intro f' hf'; trivial
 ·simp only [invoke, AxT hgo]
 ·intro h; simp [fz, Fence.wide] at h
 ·refine (callsIn_wide (n := nn - 1)).2 ?_
  have hargs : Ato ⟨upd β H.length 0 (some (w.heap.size + 1, 0)), H ++ [.lp .ready none fn N e ps0.toList ca cb], F⟩ W1 (first ++ [.yl H.length 0] ++ caps) (us ++ [.func (.yield (w.heap.size + 1)) #[] #[]] ++ vs) := by
   refine Ato.append (Ato.append (Ato.mono hmo hfi) (Ato.cons.2 ⟨_, [], rfl, .inr (.inr ⟨[.func (.yield (w.heap.size + 1)) #[] #[]], ?_, rfl⟩), by rw [Ato]⟩)) (Ato.mono hmo hc)
   rw [AsK]
   exact ⟨Awt _ _ _ _ _ (Nat.le_refl _), _, _, AsW, rfl⟩
  have hcall := h fn _ _ W1 _ k1 hargs
  rw [show (us ++ [Value.func (.yield (w.heap.size + 1)) #[] #[]] ++ vs).toArray = us.toArray ++ #[.func (.yield (w.heap.size + 1)) #[] #[]] ++ vs.toArray from by simp] at hcall
  refine hcall.mono ?_
  rintro _ w3 ⟨v, x, β', H', F', rfl, hR, hs', hl', hx⟩
  have hmk : ABa D0 B ⟨β', H', F'⟩ w3 ({ target := .collected w.heap.size, args := #[] } :: D) := by
   have h1 : ABa D0 B ⟨upd β H.length 0 (some (w.heap.size + 1, 0)), H ++ [.lp .ready none fn N e ps0.toList ca cb], F⟩ W1 ({ target := .collected w.heap.size, args := #[] } :: D) := by
    obtain ⟨ds, d1, d2, d3⟩ := hm.later k2
    refine ⟨w.heap.size :: ds, by rw [d1]; rfl, List.nodup_cons.2 ⟨fun hin => ?_, d2⟩, fun r hr => ?_⟩
    ·obtain ⟨ds', e1, e2, e3⟩ := hm
     have : ds' = ds := by
      have : ds'.map (fun r => ({ target := .collected r, args := #[] } : Deferred)) = ds.map (fun r => { target := .collected r, args := #[] }) := List.append_cancel_right (e1.symm.trans d1)
      exact (List.map_inj_right (fun a b h => by simpa using h)).1 this
     rw [← this] at hin
     have := (e3 _ hin).2.1
     omega
    ·rcases List.mem_cons.1 hr with rfl | hr
     ·exact ⟨hB, by omega, fun ho => hown1 _ ho rfl, fun hF => absurd (hs.lt _ hF) (by omega), hK1⟩
     ·exact d3 r hr
   exact h1.later hl'
  have fin : ∀ (st : LoopState) (pe : Option Code) (fn' : FuncId) (N' : Nat) (e1 : Env) (ps1 : List Nat) (c1 c2 : Code), st ≠ .busy → H'[H.length]? = some (.lp st pe fn' N' e1 ps1 c1 c2) →
    ∃ w4, (Instr.endLoop (w.heap.size + 1)).run P w3 = .ok pe w4 ∧ Sim ⟨β', H'.set H.length (.lp .exhausted pe fn' N' e1 ps1 c1 c2), F'⟩ w4 ∧ AsV ⟨β', H', F'⟩ w3 ⟨β', H'.set H.length (.lp .exhausted pe fn' N' e1 ps1 c1 c2), F'⟩ w4 := by
   intro st pe fn' N' e1 ps1 c1 c2 hst hob
   obtain ⟨b, r, r1, r2, r3, r4, _, _, _, _, _, _, r5, r6⟩ := hs'.loopTurn (st' := .exhausted) (pe' := pe) hob
   have hβ : β' H.length 0 = some (w.heap.size + 1, 0) := ((hl'.has H.length 0 (Awt _ _ _ _ _ (Nat.le_refl _))).2).trans AsW
   rw [hβ] at r1
   obtain ⟨rfl, _⟩ : w.heap.size + 1 = b ∧ True := by simpa using r1
   subst r4
   exact ⟨_, run_endLoop (P := P) r2 (by rw [r3]; exact hst), r5, r6⟩
  have hfr : ∀ {c : Ctx} {w4 : World}, AsV ⟨β, H, F⟩ w c w4 → Aye c.F w4 → Fr N ({ target := .collected w.heap.size, args := #[] } :: D) c w4 e { a with defers := { target := .collected w.heap.size, args := #[] } :: a.defers } := fun {c w4} hl hgl =>
   ⟨⟨fun s => Rep.mono (hl.mono hs) (hf.env.1 s), hgl⟩, hf.size, by rw [hf.defers]⟩
  unfold AMl at hR
  simp only [rangePost]
  split at hR
  ·rename_i hob
   obtain ⟨w4, e1, e2, e3⟩ := fin .ready none _ _ _ _ _ _ (by simp) hob
   exact ⟨none, w4, e1, hk .nor _ _ _ _ _ _ _ hR e2 (hfr ((k2.trans hl').trans e3) e2.glob) (hmk.later e3) ((k2.trans hl').trans e3)⟩
  ·rename_i hob
   obtain ⟨w4, e1, e2, e3⟩ := fin .done (some .ret) _ _ _ _ _ _ (by simp) hob
   exact ⟨some .ret, w4, e1, wpIn_ret (hk .ret _ _ _ _ _ _ _ hR e2 (hfr ((k2.trans hl').trans e3) e2.glob) (hmk.later e3) ((k2.trans hl').trans e3))⟩
  ·rename_i i _ _ _ _ _ _ hob
   obtain ⟨w4, e1, e2, e3⟩ := fin .done (some (.exit _)) _ _ _ _ _ _ (by simp) hob
   exact ⟨some (.exit _), w4, e1, wpIn_exit (hk (.exit _) _ _ _ _ _ _ _ hR e2 (hfr ((k2.trans hl').trans e3) e2.glob) (hmk.later e3) ((k2.trans hl').trans e3))⟩
  ·exact hR.elim

theorem AwD {b : Frame} {a : Act} {k : List Item} {cs : List Frame} {w : World} {c : Code} : step P (lone (b.atR a (.code (.scope c) :: k)) cs w) = .next (lone (b.atR a (.code c :: .inScope c :: k)) cs w) :=
 step_lone_go (by simp [stepG, stepG.exec, Frame.atR])
theorem AHK {b : Frame} {a : Act} {k : List Item} {cs : List Frame} {w : World} {c : Code} : step P (lone (b.atR a (.inScope c :: k)) cs w) = .next (lone (b.atR a k) cs w) :=
 step_lone_go (by simp [stepG, stepG.exec, Frame.atR])
/-- A scope through which the run goes without a jump. -/
theorem AK6 {F : Fence} {n : Nat} {Q : Exit → Act → World → Prop} {a : Act} {w : World} {c : Code} (h : c.wpIn F n P (Exit.noGoto Q) a w) : (Code.scope c).wpIn F n P Q a w := by
 intro b k cs hro hb hr
 have h0 : (lone (b.atR a (.code (.scope c) :: k)) cs w).fenced P F := fenced_calm hb hr rfl
 obtain ⟨e, a₁, w₁, hq, harr⟩ := h b (.inScope c :: k) cs hro hb hr
 cases e with
 | normal => exact ⟨.normal, a₁, w₁, hq, .head h0 AwD (StepsIn.trans harr (.one (fenced_calm hb hr rfl) AHK))⟩
 | exit id' =>
  have hx : exitTo id' (.inScope c :: k) = exitTo id' k := by simp [exitTo]
  exact ⟨.exit id', a₁, w₁, hq, fun k' hk => .head h0 AwD (harr.1 k' (by rw [hx]; exact hk)),
   fun hr' hk => let ⟨k₁, h1, h2⟩ := harr.2 hr' (by rw [hx]; exact hk); ⟨k₁, h1, .head h0 AwD h2⟩⟩
 | goto l => exact hq.elim
 | ret => exact ⟨_, a₁, w₁, hq, .of_steps (.one h0 AwD) harr⟩
 | panic ch => exact ⟨_, a₁, w₁, hq, .of_steps (.one h0 AwD) harr⟩
 | outgrown => exact ⟨_, a₁, w₁, hq, .of_steps (.one h0 AwD) harr⟩

theorem APA {N : Nat} {ro : Option Nat} {nn : Nat} : ∀ (vc : AsF) {code : Code}, (ro = none ∨ AGZ vc = true) → trC P N code = some (er vc) → ∀ {Q : VEx → Env → List Ob → Prop} {e : Env} {H : List Ob} {β : Nat → Nat → Option (Nat × Nat)} {F : Nat → Prop} {w : World} {a : Act} {QQ : Exit → Act → World → Prop} {B : Nat} {D D0 : List Deferred},
  vwp P vc Q e H → Sim ⟨β, H, F⟩ w → Fr N D ⟨β, H, F⟩ w e a → ABa D0 B ⟨β, H, F⟩ w D → B ≤ w.heap.size →
  (∀ x e' H' β' F' w' a' D', Q x e' H' → Sim ⟨β', H', F'⟩ w' → Fr N D' ⟨β', H', F'⟩ w' e' a' → ABa D0 B ⟨β', H', F'⟩ w' D' → AsV ⟨β, H, F⟩ w ⟨β', H', F'⟩ w' → QQ x.ex a' w') → code.wpIn (fz ro) nn P QQ a w := by
 intro vc
 have inv : ∀ {code : Code} {v : AsF}, trC P N code = some v → True := fun _ => trivial
 induction vc with
 | ops l kp =>
  intro code hrf ht Q e H β F w a QQ B D D0 h hs hf hm hB hk
  rw [er] at ht
  cases code with
  | region id ops d =>
   cases d with
   | true => exact (Awq ht (by simp) (by simp) (by simp)).elim
   | false =>
    obtain ⟨l', hl, e9⟩ := (AQB ht).resolve_right (by simp)
    simp only [AsF.ops.injEq, and_true] at e9
    subst e9
    rw [vwp] at h
    exact wpIn_region_list (AH4 hl h hs hf fun e' H' β' F' w' a' k1 k2 k3 k4 => hk .nor _ _ _ _ _ _ _ k1 k2 (k3.forget kp) (hm.later k4) k4)
  | seq x y => simp only [trC] at ht; split at ht <;> simp at ht
  | cond c x y => simp only [trC] at ht; split at ht <;> simp at ht
  | rangeFunc f ps x y => simp only [trC] at ht; split at ht <;> (try split at ht) <;> simp at ht
  | _ => simp [trC] at ht
 | opsZ l zs r kp =>
  intro code hrf ht Q e H β F w a QQ B D D0 h hs hf hm hB hk
  rw [er] at ht
  cases code with
  | region id ops d =>
   cases d with
   | true => exact (Awq ht (by simp) (by simp) (by simp)).elim
   | false =>
    obtain ⟨l', hl, e9⟩ := (AQB ht).resolve_right (by simp)
    simp only [AsF.ops.injEq, and_true] at e9
    subst e9
    rw [vwp] at h
    exact wpIn_region_list (ALF hl h hs hf fun e' H' β' F' w' a' k1 k2 k3 k4 => hk .nor _ _ _ _ _ _ _ k1 k2 (k3.forget kp) (hm.later k4) k4)
  | seq x y => simp only [trC] at ht; split at ht <;> simp at ht
  | cond c x y => simp only [trC] at ht; split at ht <;> simp at ht
  | rangeFunc f ps x y => simp only [trC] at ht; split at ht <;> (try split at ht) <;> simp at ht
  | _ => simp [trC] at ht
 | pops l kp =>
  intro code hrf ht Q e H β F w a QQ B D D0 h hs hf hm hB hk
  rw [er] at ht
  cases code with
  | region id ops d =>
   cases d with
   | true => exact (Awq ht (by simp) (by simp) (by simp)).elim
   | false =>
    obtain ⟨l', hl, e9⟩ := (AQB ht).resolve_right (by simp)
    simp only [AsF.ops.injEq, and_true] at e9
    subst e9
    rw [vwp] at h
    exact wpIn_region_list (ALy hl h hs hf (fun e' H' β' F' w' a' k1 k2 k3 k4 => hk .nor _ _ _ _ _ _ _ k1 k2 (k3.forget kp) (hm.later k4) k4) fun u H' β' F' w' a' k1 k2 k3 k4 => hk (.pan u) _ _ _ _ _ _ _ k1 k2 k3 (hm.later k4) k4)
  | seq x y => simp only [trC] at ht; split at ht <;> simp at ht
  | cond c x y => simp only [trC] at ht; split at ht <;> simp at ht
  | rangeFunc f ps x y => simp only [trC] at ht; split at ht <;> (try split at ht) <;> simp at ht
  | _ => simp [trC] at ht
 | draw n l kp =>
  intro code hrf ht Q e H β F w a QQ B D D0 h hs hf hm hB hk
  rw [er] at ht
  cases code with
  | region id ops d =>
   cases d with
   | false => exact (Aws ht (by simp) (by simp)).elim
   | true =>
    obtain ⟨bz, hsp⟩ := AA5 ((AQI ht).resolve_right (by simp))
    obtain ⟨n', l', e9, hmo, hh⟩ := hsp.resolve_right (by simp)
    simp only [AsF.draw.injEq, and_true] at e9
    obtain ⟨rfl, rfl⟩ := e9
    rw [vwp] at h
    rcases hh with ⟨hl, hck⟩ | ⟨π, hp, hl, hck⟩
    ·exact AIo WOk.vop hmo hl hck h hs hf ⟨fun e' H' β' F' w' a' k1 k2 k3 k4 => hk .nor _ _ _ _ _ _ _ k1 k2 (k3.forget kp) (hm.later k4) k4, fun _ _ _ _ _ _ (h : False) => h.elim⟩
    ·exact ADT WOk.vop hmo hp hl hck h hs hf ⟨fun e' H' β' F' w' a' k1 k2 k3 k4 => hk .nor _ _ _ _ _ _ _ k1 k2 (k3.forget kp) (hm.later k4) k4, fun _ _ _ _ _ _ (h : False) => h.elim⟩
  | seq x y => simp only [trC] at ht; split at ht <;> simp at ht
  | cond c x y => simp only [trC] at ht; split at ht <;> simp at ht
  | rangeFunc f ps x y => simp only [trC] at ht; split at ht <;> (try split at ht) <;> simp at ht
  | _ => simp [trC] at ht
 | pdraw n l kp =>
  intro code hrf ht Q e H β F w a QQ B D D0 h hs hf hm hB hk
  rw [er] at ht
  cases code with
  | region id ops d =>
   cases d with
   | false => exact (Aws ht (by simp) (by simp)).elim
   | true =>
    obtain ⟨bz, hsp⟩ := AA5 ((AQI ht).resolve_right (by simp))
    obtain ⟨n', l', e9, hmo, hh⟩ := hsp.resolve_right (by simp)
    simp only [AsF.draw.injEq, and_true] at e9
    obtain ⟨rfl, rfl⟩ := e9
    rw [vwp] at h
    rcases hh with ⟨hl, hck⟩ | ⟨π, hp, hl, hck⟩
    ·exact AIo WOk.pvop hmo hl hck h hs hf ⟨fun e' H' β' F' w' a' k1 k2 k3 k4 => hk .nor _ _ _ _ _ _ _ k1 k2 (k3.forget kp) (hm.later k4) k4, fun u H' β' F' w' a' k1 k2 k3 k4 => hk (.pan u) _ _ _ _ _ _ _ k1 k2 k3 (hm.later k4) k4⟩
    ·exact ADT WOk.pvop hmo hp hl hck h hs hf ⟨fun e' H' β' F' w' a' k1 k2 k3 k4 => hk .nor _ _ _ _ _ _ _ k1 k2 (k3.forget kp) (hm.later k4) k4, fun u H' β' F' w' a' k1 k2 k3 k4 => hk (.pan u) _ _ _ _ _ _ _ k1 k2 k3 (hm.later k4) k4⟩
  | seq x y => simp only [trC] at ht; split at ht <;> simp at ht
  | cond c x y => simp only [trC] at ht; split at ht <;> simp at ht
  | rangeFunc f ps x y => simp only [trC] at ht; split at ht <;> (try split at ht) <;> simp at ht
  | _ => simp [trC] at ht
 | sdraw n l kp =>
  intro code hrf ht Q e H β F w a QQ B D D0 h hs hf hm hB hk
  rw [er] at ht
  cases code with
  | region id ops d =>
   cases d with
   | false => exact (Aws ht (by simp) (by simp)).elim
   | true =>
    obtain ⟨bz, hsp⟩ := AA5 ((AQI ht).resolve_right (by simp))
    obtain ⟨n', l', e9, hmo, π, hp, hl, hck⟩ := hsp.resolve_left (by simp)
    simp only [AsF.sdraw.injEq, and_true] at e9
    obtain ⟨rfl, rfl⟩ := e9
    rw [vwp] at h
    exact ADT WOk.pvopS hmo hp hl hck h hs hf ⟨fun e' H' β' F' w' a' k1 k2 k3 k4 => hk .nor _ _ _ _ _ _ _ k1 k2 (k3.forget kp) (hm.later k4) k4, fun u H' β' F' w' a' k1 k2 k3 k4 => hk (.pan u) _ _ _ _ _ _ _ k1 k2 k3 (hm.later k4) k4⟩
  | seq x y => simp only [trC] at ht; split at ht <;> simp at ht
  | cond c x y => simp only [trC] at ht; split at ht <;> simp at ht
  | rangeFunc f ps x y => simp only [trC] at ht; split at ht <;> (try split at ht) <;> simp at ht
  | _ => simp [trC] at ht
 | skip =>
  intro code hrf ht Q e H β F w a QQ B D D0 h hs hf hm hB hk
  rw [er] at ht
  cases code with
  | skip => exact wpIn_skip (hk .nor _ _ _ _ _ _ _ h hs hf hm (AsV.refl _ _))
  | label l => exact wpIn_label (hk .nor _ _ _ _ _ _ _ h hs hf hm (AsV.refl _ _))
  | region id ops d =>
   cases d
   ·exact (Aws ht (by simp) (by simp)).elim
   ·exact (Awq ht (by simp) (by simp) (by simp)).elim
  | seq x y => simp only [trC] at ht; split at ht <;> simp at ht
  | cond c x y => simp only [trC] at ht; split at ht <;> simp at ht
  | rangeFunc f ps x y => simp only [trC] at ht; split at ht <;> (try split at ht) <;> simp at ht
  | _ => simp [trC] at ht
 | seq x y ihx ihy =>
  intro code hrf ht Q e H β F w a QQ B D D0 h hs hf hm hB hk
  rw [er] at ht
  cases code with
  | region id ops d =>
   cases d
   ·exact (Aws ht (by simp) (by simp)).elim
   ·exact (Awq ht (by simp) (by simp) (by simp)).elim
  | seq cx cy =>
   simp only [trC] at ht
   split at ht
   ·rename_i vx vy hx hy
    simp only [Option.some.injEq, AsF.seq.injEq] at ht
    obtain ⟨rfl, rfl⟩ := ht
    rw [vwp] at h
    have hrx : ro = none ∨ AGZ x = true := hrf.imp id fun h => by simp only [AGZ, Bool.and_eq_true] at h; exact h.1
    have hry : ro = none ∨ AGZ y = true := hrf.imp id fun h => by simp only [AGZ, Bool.and_eq_true] at h; exact h.2
    refine wpIn_seq (ihx hrx hx h hs hf hm hB ?_)
    intro x e' H' β' F' w' a' D' k1 k2 k3 km k4
    cases x with
    | nor => exact ihy hry hy k1 k2 k3 km (Nat.le_trans hB k4.size) fun x e2 H2 β2 F2 w2 a2 D2 m1 m2 m3 mm m4 => hk _ _ _ _ _ _ _ _ m1 m2 m3 mm (k4.trans m4)
    | exit i => exact hk (.exit i) _ _ _ _ _ _ _ k1 k2 k3 km k4
    | ret => exact hk .ret _ _ _ _ _ _ _ k1 k2 k3 km k4
    | pan u => exact hk (.pan u) _ _ _ _ _ _ _ k1 k2 k3 km k4
   ·simp at ht
  | cond c x y => simp only [trC] at ht; split at ht <;> simp at ht
  | rangeFunc f ps x y => simp only [trC] at ht; split at ht <;> (try split at ht) <;> simp at ht
  | _ => simp [trC] at ht
 | cond c x y ihx ihy =>
  intro code hrf ht Q e H β F w a QQ B D D0 h hs hf hm hB hk
  rw [er] at ht
  cases code with
  | region id ops d =>
   cases d
   ·exact (Aws ht (by simp) (by simp)).elim
   ·exact (Awq ht (by simp) (by simp) (by simp)).elim
  | seq x y => simp only [trC] at ht; split at ht <;> simp at ht
  | cond cc cx cy =>
   simp only [trC] at ht
   split at ht
   ·rename_i vx vy hx hy
    simp only [Option.some.injEq, AsF.cond.injEq] at ht
    obtain ⟨rfl, rfl, rfl⟩ := ht
    rw [vwp] at h
    split at h
    ·rename_i t hc
     have hrx : ro = none ∨ AGZ x = true := hrf.imp id fun h => by simp only [AGZ, Bool.and_eq_true] at h; exact h.1
     have hry : ro = none ∨ AGZ y = true := hrf.imp id fun h => by simp only [AGZ, Bool.and_eq_true] at h; exact h.2
     refine wpIn_cond_split (hf.env.val hc) (fun htt => ?_) (fun htf => ?_)
     ·rw [if_pos htt] at h; exact ihx hrx hx h hs hf hm hB hk
     ·rw [if_neg (by rw [htf]; simp)] at h; exact ihy hry hy h hs hf hm hB hk
    ·exact h.elim
   ·simp at ht
  | rangeFunc f ps x y => simp only [trC] at ht; split at ht <;> (try split at ht) <;> simp at ht
  | _ => simp [trC] at ht
 | block id x ih =>
  intro code hrf ht Q e H β F w a QQ B D D0 h hs hf hm hB hk
  rw [er] at ht
  cases code with
  | region id ops d =>
   cases d
   ·exact (Aws ht (by simp) (by simp)).elim
   ·exact (Awq ht (by simp) (by simp) (by simp)).elim
  | seq x y => simp only [trC] at ht; split at ht <;> simp at ht
  | cond c x y => simp only [trC] at ht; split at ht <;> simp at ht
  | rangeFunc f ps x y => simp only [trC] at ht; split at ht <;> (try split at ht) <;> simp at ht
  | block id' c =>
   simp only [trC, Option.map_eq_some_iff, AsF.block.injEq] at ht
   obtain ⟨vx, hx, rfl, rfl⟩ := ht
   rw [vwp] at h
   refine wpIn_block (ih hrf hx h hs hf hm hB ?_)
   intro x e' H' β' F' w' a' D' k1 k2 k3 km k4
   cases x with
   | nor => exact hk .nor _ _ _ _ _ _ _ k1 k2 k3 km k4
   | exit i =>
    show Exit.inBlock _ QQ (.exit i) a' w'
    simp only [Exit.inBlock]
    simp only at k1
    split at k1
    ·rename_i hi; rw [if_pos hi]; exact hk .nor _ _ _ _ _ _ _ k1 k2 k3 km k4
    ·rename_i hi; rw [if_neg hi]; exact hk (.exit i) _ _ _ _ _ _ _ k1 k2 k3 km k4
   | ret => exact hk .ret _ _ _ _ _ _ _ k1 k2 k3 km k4
   | pan u => exact hk (.pan u) _ _ _ _ _ _ _ k1 k2 k3 km k4
  | _ => simp [trC] at ht
 | loop lv x ih =>
  intro code hrf ht Q e H β F w a QQ B D D0 h hs hf hm hB hk
  rw [er] at ht
  cases code with
  | region id ops d =>
   cases d
   ·exact (Aws ht (by simp) (by simp)).elim
   ·exact (Awq ht (by simp) (by simp) (by simp)).elim
  | seq x y => simp only [trC] at ht; split at ht <;> simp at ht
  | cond c x y => simp only [trC] at ht; split at ht <;> simp at ht
  | rangeFunc f ps x y => simp only [trC] at ht; split at ht <;> (try split at ht) <;> simp at ht
  | loop c =>
   simp only [trC, Option.map_eq_some_iff, AsF.loop.injEq] at ht
   obtain ⟨vx, hx, _, rfl⟩ := ht
   rw [vwp] at h
   obtain ⟨I, n, h0, hstep⟩ := h
   refine wpIn_loop_ghost (fun n a' w' => ∃ e' H' β' F' D', I n e' H' ∧ Sim ⟨β', H', F'⟩ w' ∧ Fr N D' ⟨β', H', F'⟩ w' e' a' ∧ ABa D0 B ⟨β', H', F'⟩ w' D' ∧ AsV ⟨β, H, F⟩ w ⟨β', H', F'⟩ w') n ⟨_, _, _, _, _, h0, hs, hf.forget lv, hm, AsV.refl _ _⟩ ?_
   rintro n a' w' ⟨e', H', β', F', D', k1, k2, k3, km, k4⟩
   refine ih hrf hx (hstep n e' H' k1) k2 k3 km (Nat.le_trans hB k4.size) ?_
   intro x e2 H2 β2 F2 w2 a2 D2 m1 m2 m3 mm m4
   cases x with
   | nor =>
    obtain ⟨m, g, hmn, ⟨hg, hb⟩, hI⟩ := m1
    have hf3 := m3.forget lv
    rcases hb with hle | ⟨hbe, hbh⟩
    ·rw [List.take_of_length_le hle] at hI
     exact ⟨m, hmn, _, _, _, _, _, hI, m2, hf3, mm, k4.trans m4⟩
    exact ⟨m, hmn, _, _, _, _, _, hI, m2.cut hbh, ⟨⟨fun s => Rep.cut (AFr hbe s) (hf3.env.1 s), hf3.env.2⟩, hf3.size, hf3.defers⟩, mm.cut, (k4.trans m4).cut hg⟩
   | exit i => exact hk (.exit i) _ _ _ _ _ _ _ m1 m2 m3 mm (k4.trans m4)
   | ret => exact hk .ret _ _ _ _ _ _ _ m1 m2 m3 mm (k4.trans m4)
   | pan u => exact hk (.pan u) _ _ _ _ _ _ _ m1 m2 m3 mm (k4.trans m4)
  | _ => simp [trC] at ht
 | exit id =>
  intro code hrf ht Q e H β F w a QQ B D D0 h hs hf hm hB hk
  rw [er] at ht
  cases code with
  | region id ops d =>
   cases d
   ·exact (Aws ht (by simp) (by simp)).elim
   ·exact (Awq ht (by simp) (by simp) (by simp)).elim
  | seq x y => simp only [trC] at ht; split at ht <;> simp at ht
  | cond c x y => simp only [trC] at ht; split at ht <;> simp at ht
  | rangeFunc f ps x y => simp only [trC] at ht; split at ht <;> (try split at ht) <;> simp at ht
  | exit id' =>
   simp only [trC, Option.some.injEq, AsF.exit.injEq] at ht; subst ht
   exact wpIn_exit (hk (.exit _) _ _ _ _ _ _ _ h hs hf hm (AsV.refl _ _))
  | _ => simp [trC] at ht
 | ret =>
  intro code hrf ht Q e H β F w a QQ B D D0 h hs hf hm hB hk
  rw [er] at ht
  cases code with
  | region id ops d =>
   cases d
   ·exact (Aws ht (by simp) (by simp)).elim
   ·exact (Awq ht (by simp) (by simp) (by simp)).elim
  | seq x y => simp only [trC] at ht; split at ht <;> simp at ht
  | cond c x y => simp only [trC] at ht; split at ht <;> simp at ht
  | rangeFunc f ps x y => simp only [trC] at ht; split at ht <;> (try split at ht) <;> simp at ht
  | ret => exact wpIn_ret (hk .ret _ _ _ _ _ _ _ h hs hf hm (AsV.refl _ _))
  | _ => simp [trC] at ht
 | dead =>
  intro code hrf ht Q e H β F w a QQ B D D0 h
  rw [vwp] at h; exact h.elim
 | scope x ih =>
  intro code hrf ht Q e H β F w a QQ B D D0 h hs hf hm hB hk
  rw [er] at ht
  cases code with
  | region id ops d =>
   cases d
   ·exact (Aws ht (by simp) (by simp)).elim
   ·exact (Awq ht (by simp) (by simp) (by simp)).elim
  | seq x y => simp only [trC] at ht; split at ht <;> simp at ht
  | cond c x y => simp only [trC] at ht; split at ht <;> simp at ht
  | rangeFunc f ps x y => simp only [trC] at ht; split at ht <;> (try split at ht) <;> simp at ht
  | scope c =>
   simp only [trC, Option.map_eq_some_iff, AsF.scope.injEq] at ht
   obtain ⟨vx, hx, rfl⟩ := ht
   rw [vwp] at h
   refine AK6 (ih hrf hx h hs hf hm hB ?_)
   intro x e' H' β' F' w' a' D' k1 k2 k3 km k4
   cases x with
   | nor => exact hk .nor _ _ _ _ _ _ _ k1 k2 k3 km k4
   | exit i => exact hk (.exit i) _ _ _ _ _ _ _ k1 k2 k3 km k4
   | ret => exact hk .ret _ _ _ _ _ _ _ k1 k2 k3 km k4
   | pan u => exact hk (.pan u) _ _ _ _ _ _ _ k1 k2 k3 km k4
  | _ => simp [trC] at ht
 | own s k x ih =>
  intro code hrf ht Q e H β F w a QQ B D D0 h hs hf hm hB hk
  rw [er] at ht
  rw [vwp] at h
  split at h
  ·rename_i hg
   obtain ⟨k1, k2, k3⟩ := hs.own k
   have hv : a.tmps.getD s undef = .slice none 0 0 := by
    have := hf.env.1 s; rw [hg, Rep.val] at this; exact this
   refine ih hrf ht h k1 ⟨⟨fun s' => ?_, k1.glob⟩, hf.size, hf.defers⟩ (hm.later k2) hB fun x' e' H' β' F' w' a' D' m1 m2 m3 mm m4 => hk x' e' H' β' F' w' a' D' m1 m2 m3 mm (k2.trans m4)
   rw [AtU]
   by_cases hss : s = s'
   ·subst hss; rw [if_pos rfl, hv]; exact Rep.of1 k3 (by simp) (by simp)
   ·rw [if_neg hss]; exact Rep.mono (k2.mono hs) (hf.env.1 s')
  ·exact ih hrf ht h hs hf hm hB hk
 | ownB s p k x ih =>
  intro code hrf ht Q e H β F w a QQ B D D0 h hs hf hm hB hk
  rw [er] at ht
  rw [vwp] at h
  split at h
  ·rename_i id ver p0 hg
   split at h
   ·rename_i v y hid
    obtain ⟨rfl, h⟩ := h
    split at h
    ·rename_i hgp
     split at h
     ·rename_i x' hsp
      obtain ⟨k1, k2, k3⟩ := hs.own k
      have hlt : id < H.length := (List.getElem?_eq_some_iff.1 hid).1
      have hid' : (H ++ [Ob.obj 0 (.arr 0 k [])])[id]? = some (.obj v y) := by rw [List.getElem?_append_left hlt]; exact hid
      obtain ⟨q1, q2⟩ := k1.turn (o' := .obj v x') (w' := w) (β' := upd β H.length 0 none) hid' rfl rfl (Nat.le_refl _) (fun _ _ _ => rfl) (fun b off e => .inl ⟨off, e⟩) rfl rfl rfl (Nat.le_refl _) (fun _ _ => rfl) (fun _ _ _ => rfl) (fun hm => by
       rcases k1.ob id _ hid' with ⟨r0, r1⟩ | ⟨b, off, pre, vs, post, t, fr, r0, r1, r2, r3, r4⟩
       ·refine .inl ⟨r0, ?_⟩
        exact AsK.mono hm (AFi r1 hgp (fun m hm' => by rw [AsK] at hm'; rw [hm'.1]; exact k3) hsp)
       ·refine .inr ⟨b, off, pre, vs, post, t, fr, r0, r1, r2, r3, ?_⟩
        exact AsK.mono hm (AFi r4 hgp (fun m hm' => by rw [AsK] at hm'; rw [hm'.1]; exact k3) hsp))
      rw [List.set_append_left _ _ hlt] at q1 q2
      exact ih hrf ht h q1 ⟨⟨fun s' => Rep.mono (q2.mono k1) (Rep.mono (k2.mono hs) (hf.env.1 s')), q1.glob⟩, hf.size, hf.defers⟩ (hm.later (k2.trans q2)) hB fun x' e' H' β' F' w' a' D' m1 m2 m3 mm m4 => hk x' e' H' β' F' w' a' D' m1 m2 m3 mm ((k2.trans q2).trans m4)
     ·exact h.elim
    ·exact ih hrf ht h hs hf hm hB hk
   ·exact h.elim
  ·exact h.elim
 | frz s x ih =>
  intro code hrf ht Q e H β F w a QQ B D D0 h hs hf hm hB hk
  rw [er] at ht
  rw [vwp] at h
  split at h
  ·rename_i k id ver p off n cp hg
   split at h
   ·rename_i v y hid
    obtain ⟨rfl, h⟩ := h
    split at h
    ·rename_i cs hcs
     obtain ⟨k1, k2⟩ := hs.freeze hid rfl
     have hr : Rep ⟨β, H, F⟩ w (get e s) (a.tmps.getD s undef) := hf.env.1 s
     rw [hg] at hr
     have hr' : Rep ⟨β, H.set id (.gone v), fun b => F b ∨ ∃ off, β id v = some (b, off)⟩ w (.sl k cs) (a.tmps.getD s undef) := by
      rcases hr with (hr | hr | ⟨us, hr, hr2⟩) | ⟨xs, vs, hr, _⟩
      ·cases hr
      ·cases hr
      ·exact .inl (.inr (.inr ⟨us, hs.give hid hcs hr, by rw [hr2]; rfl⟩))
      ·cases hr
     refine ih hrf ht h k1 ⟨⟨fun s' => ?_, k1.glob⟩, hf.size, hf.defers⟩ (hm.later k2) hB fun x' e' H' β' F' w' a' D' m1 m2 m3 mm m4 => hk x' e' H' β' F' w' a' D' m1 m2 m3 mm (k2.trans m4)
     rw [AtU]
     by_cases hss : s = s'
     ·subst hss; rw [if_pos rfl]; exact hr'
     ·rw [if_neg hss]; exact Rep.mono (k2.mono hs) (hf.env.1 s')
    ·exact h.elim
   ·exact h.elim
  ·exact h.elim
 | ownT s p t x ih =>
  intro code hrf ht Q e H β F w a QQ B D D0 h hs hf hm hB hk
  rw [er] at ht
  rw [vwp] at h
  split at h
  ·rename_i id ver p0 hg
   split at h
   ·rename_i v y hid
    obtain ⟨rfl, h⟩ := h
    split at h
    ·rename_i hgp
     split at h
     ·rename_i x' hsp
      obtain ⟨k1, k2, k3⟩ := hs.ownBld t
      have hlt : id < H.length := (List.getElem?_eq_some_iff.1 hid).1
      have hid' : (H ++ [Ob.bld 0 t []])[id]? = some (.obj v y) := by rw [List.getElem?_append_left hlt]; exact hid
      obtain ⟨q1, q2⟩ := k1.turn (o' := .obj v x') (w' := w) (β' := upd β H.length 0 none) hid' rfl rfl (Nat.le_refl _) (fun _ _ _ => rfl) (fun b off e => .inl ⟨off, e⟩) rfl rfl rfl (Nat.le_refl _) (fun _ _ => rfl) (fun _ _ _ => rfl) (fun hm => by
       rcases k1.ob id _ hid' with ⟨r0, r1⟩ | ⟨b, off, pre, vs, post, t, fr, r0, r1, r2, r3, r4⟩
       ·refine .inl ⟨r0, ?_⟩
        exact AsK.mono hm (AFi r1 hgp (fun m hm' => by rw [AsK] at hm'; rw [hm'.1]; exact k3) hsp)
       ·refine .inr ⟨b, off, pre, vs, post, t, fr, r0, r1, r2, r3, ?_⟩
        exact AsK.mono hm (AFi r4 hgp (fun m hm' => by rw [AsK] at hm'; rw [hm'.1]; exact k3) hsp))
      rw [List.set_append_left _ _ hlt] at q1 q2
      exact ih hrf ht h q1 ⟨⟨fun s' => Rep.mono (q2.mono k1) (Rep.mono (k2.mono hs) (hf.env.1 s')), q1.glob⟩, hf.size, hf.defers⟩ (hm.later (k2.trans q2)) hB fun x' e' H' β' F' w' a' D' m1 m2 m3 mm m4 => hk x' e' H' β' F' w' a' D' m1 m2 m3 mm ((k2.trans q2).trans m4)
     ·exact h.elim
    ·exact ih hrf ht h hs hf hm hB hk
   ·exact h.elim
  ·exact h.elim
 | rfunc g0 ps aS bd iha ihb =>
  intro code hrf ht Q e H β F w a QQ B D D0 h hs hf hm hB hk
  obtain rfl : ro = none := hrf.resolve_right (by simp [AGZ])
  rw [er] at ht
  cases code with
  | region id ops d =>
   cases d
   ·exact (Aws ht (by simp) (by simp)).elim
   ·exact (Awq ht (by simp) (by simp) (by simp)).elim
  | seq x y => simp only [trC] at ht; split at ht <;> simp at ht
  | cond c x y => simp only [trC] at ht; split at ht <;> simp at ht
  | rangeFunc f0 ps0 ca cb =>
   simp only [trC] at ht
   split at ht
   ·rename_i hps
    split at ht
    ·rename_i va vb hca hcb
     simp only [Option.some.injEq, AsF.rfunc.injEq] at ht
     obtain ⟨rfl, rfl, rfl, rfl⟩ := ht
     rw [vwp] at h
     obtain ⟨-, -, h⟩ := h
     split at h
     ·rename_i g first caps hg
      obtain ⟨hgo, h⟩ := h
      have hr : Rep ⟨β, H, F⟩ w (.fn (.func g) first caps) (a.eval f0) := hf.env.rep (x := f0) hg
      have h1 := hr.inv1 (by simp) (by simp) (by simp) (by simp) (by simp)
      rw [AsK] at h1
      obtain ⟨us, vs, hv1, hfi, hc⟩ := h1
      have hv' : a.eval f0 = .func (.func g) us.toArray vs.toArray := by simpa using hv1
      refine AG1 hs hf hm hB hv' hgo hfi hc (fun fn => h N fn ca cb ⟨hca, hcb, hps⟩) hk
     ·rename_i g xs ys hg
      obtain ⟨hxy, hgo, h⟩ := h
      rw [Bool.and_eq_true, Array.isEmpty_iff, Array.isEmpty_iff] at hxy
      obtain ⟨rfl, rfl⟩ := hxy
      have hv' : a.eval f0 = .func (.func g) #[] #[] := hf.env.val hg
      refine AG1 (us := []) (vs := []) (first := []) (caps := []) hs hf hm hB hv' hgo (by rw [Ato]) (by rw [Ato]) (fun fn => by simpa using h N fn ca cb ⟨hca, hcb, hps⟩) hk
     ·exact h.elim
    ·cases ht
   ·cases ht
  | _ => simp [trC] at ht
end sound
end Go.Proofs.YtmlompedpahkjaaGreatDoor


namespace Go.Proofs.YtmlompedpahkjaaGreatDoor
open Go.RowKit
variable [AtN]
set_option linter.unusedSectionVars false
set_option linter.unusedSimpArgs false
set_option linter.unusedVariables false
set_option autoImplicit false

inductive VR where
 | tmp (t : Nat)
 | cell (a : Nat) (ag : Bool) (sz : Nat)
 deriving Inhabited
def trR (P : Program) : List ResultVar → Option (List VR)
 | [] => some []
 | .tmp t :: r => (trR P r).map (.tmp t :: ·)
 | .cell a t :: r => match AGL P t, ABS P t, trR P r with
  | some ag, some sz, some r => some (.cell a ag sz :: r)
  | _, _, _ => none

def AKM : List VR → Env → List Ob → (List TV → Prop) → Prop
 | [], e, H, K => K []
 | .tmp t :: r, e, H, K => AKM r e H fun xs => K (get e t :: xs)
 | .cell a ag sz :: r, e, H, K => pop (.load ag sz (.t a)) e H fun x => AKM r e H fun xs => K (x :: xs)
def res (r : List VR) (e : Env) (H : List Ob) (K : TV → Prop) : Prop := AKM r e H fun xs => match xs with
 | [x] => K x
 | xs => (∀ x ∈ xs, At8 x = false) ∧ K (.tup xs)

section
variable {P : Program}
/-- A result that is read. -/
def rv (a : Act) (r : ResultVar) : Sem Value := match r with
 | .tmp t => pure (a.tmps.getD t undef)
 | .cell x t => do loadVar t (← asAddr (a.tmps.getD x undef))

theorem AI1 {c : Ctx} {w : World} {e : Env} {a : Act} (hs : Sim c w) (he : As0 c w e a) : ∀ {rs : List ResultVar} {vr : List VR} {K : List TV → Prop}, trR P rs = some vr → AKM vr e c.H K →
  ∃ (xs : List TV) (vs : List Value), (rs.mapM (rv a)).run P w = .ok vs w ∧ xs.length = vs.length ∧ (∀ (i : Nat) x v, xs[i]? = some x → vs[i]? = some v → Rep c w x v) ∧ K xs
 | [], vr, K, ht, h => by
  simp only [trR, Option.some.injEq] at ht; subst ht
  exact ⟨[], [], rfl, rfl, by simp, h⟩
 | .tmp t :: rs, vr, K, ht, h => by
  simp only [trR, Option.map_eq_some_iff] at ht
  obtain ⟨r, hr, rfl⟩ := ht
  rw [AKM] at h
  obtain ⟨xs, vs, h1, h2, h3, h4⟩ := AI1 hs he hr h
  refine ⟨get e t :: xs, a.tmps.getD t undef :: vs, by rw [List.mapM_cons]; simp only [rv, Sem.run_bind, Sem.run_pure, Result.andThen_ok, h1], by simp [h2], ?_, h4⟩
  intro i x v hx hv
  cases i with
  | zero => simp at hx hv; subst hx; subst hv; simpa using he.1 t
  | succ i => exact h3 i x v (by simpa using hx) (by simpa using hv)
 | .cell b t :: rs, vr, K, ht, h => by
  simp only [trR] at ht
  split at ht
  ·rename_i ag sz r h1 h2 hr
   cases ht
   rw [AKM] at h
   have hy := ATH (P := P) (a := a) (ty := 0) hs he h1 h2 (x := .tmp b) h
   obtain ⟨x, v, hrun, hx, hK⟩ := hy ⟨none, .load t (.tmp b), 0, "", #[], none⟩ rfl rfl
   have hload : (do loadVar t (← asAddr (a.tmps.getD b undef)) : Sem Value).run P w = .ok v w := by
    simp only [execOp, Instr.loadAt, Sem.run_bind, Act.eval] at hrun
    simp only [Sem.run_bind]
    cases hp : a.tmps.getD b undef with
    | pointer p =>
     rw [hp] at hrun
     cases p with
     | none => simp [Instr.sureAddr, stuck] at hrun
     | some ad =>
      simp only [Instr.sureAddr, Sem.run_pure, Result.andThen_ok, asAddr] at hrun ⊢
      cases hl : (loadVar t ad).run P w with
      | ok u w2 => rw [hl] at hrun; simp only [Result.andThen_ok, Sem.run_pure] at hrun; cases hrun; rfl
      | halt hh w2 => rw [hl] at hrun; simp at hrun
    | _ => rw [hp] at hrun; simp [Instr.sureAddr, stuck] at hrun
   obtain ⟨xs, vs, h3, h4, h5, h6⟩ := AI1 hs he hr hK
   refine ⟨x :: xs, v :: vs, by rw [List.mapM_cons, Sem.run_bind]; show Result.andThen ((rv a (.cell b t)).run P w) _ = _; rw [show (rv a (.cell b t)).run P w = .ok v w from hload]; simp only [Result.andThen_ok, Sem.run_bind, h3, Sem.run_pure], by simp [h4], ?_, h6⟩
   intro i y u hy hu
   cases i with
   | zero => simp at hy hu; subst hy; subst hu; exact hx
   | succ i => exact h5 i y u (by simpa using hy) (by simpa using hu)
  ·cases ht

theorem AU9 {c : Ctx} {w : World} {e : Env} {a : Act} (hs : Sim c w) (he : As0 c w e a) {fn : Func} {vr : List VR} {K : TV → Prop} (ht : trR P fn.results.toList = some vr) (h : res vr e c.H K) :
  ∃ x v, (results fn a.tmps).run P w = .ok v w ∧ Rep c w x v ∧ K x := by
 obtain ⟨xs, vs, h1, h2, h3, h4⟩ := AI1 hs he ht h
 have hrun : (fn.results.mapM (rv a)).run P w = .ok vs.toArray w := by
  rw [Array.mapM_eq_mapM_toList]
  simp only [Sem.run_map, h1, Result.andThen_ok]
 have hres : (results fn a.tmps).run P w = .ok (if h : vs.toArray.size = 1 then vs.toArray[0] else .tuple vs.toArray) w := by
  have : results fn a.tmps = (do let vs ← fn.results.mapM (rv a); pure (if h : vs.size = 1 then vs[0] else .tuple vs)) := rfl
  rw [this, Sem.run_bind, hrun]; rfl
 rcases xs with _ | ⟨x, _ | ⟨y, xs⟩⟩
 ·have hv : vs = [] := List.length_eq_zero_iff.1 (by simpa using h2.symm)
  subst hv
  exact ⟨_, _, hres, .inr ⟨[], [], rfl, rfl, by rw [Ato]⟩, h4.2⟩
 ·obtain ⟨v, rfl⟩ := List.length_eq_one_iff.1 (by simpa using h2.symm)
  exact ⟨_, _, hres, h3 0 x v rfl rfl, h4⟩
 ·rcases vs with _ | ⟨u, _ | ⟨v, vs⟩⟩
  ·simp at h2
  ·simp at h2
  ·refine ⟨_, _, hres, .inr ⟨_, u :: v :: vs, rfl, by simp, ?_⟩, h4.2⟩
   have key : ∀ (xs : List TV) (vs : List Value), xs.length = vs.length → (∀ x ∈ xs, At8 x = false) → (∀ (i : Nat) x v, xs[i]? = some x → vs[i]? = some v → Rep c w x v) → Ato c w xs vs := by
    intro xs
    induction xs with
    | nil => intro vs h _ _; rw [Ato]; exact List.length_eq_zero_iff.1 h.symm
    | cons x xs ih =>
     intro vs hl ht hr
     cases vs with
     | nil => simp at hl
     | cons v vs =>
      refine Ato.cons.2 ⟨v, vs, rfl, ?_, ih vs (by simpa using hl) (fun y hy => ht y (by simp [hy])) fun i y u hy hu => hr (i + 1) y u (by simpa using hy) (by simpa using hu)⟩
      rcases hr 0 x v rfl rfl with h | ⟨ys, us, rfl, _⟩
      ·exact h
      ·have := ht (.tup ys) (by simp); simp [At8] at this
   exact key _ _ h2 h4.1 h3

def AIC : Nat → List TV → Env
 | _, [] => []
 | i, x :: xs => (i, x) :: AIC (i + 1) xs
theorem AJM : ∀ (xs : List TV) (i s : Nat), get (AIC i xs) s = if i ≤ s then (xs[s - i]?).getD .any else .any
 | [], i, s => by simp [AIC, get]
 | x :: xs, i, s => by
  rw [AIC, AtU, AJM xs (i + 1) s]
  by_cases h : i = s
  ·subst h; simp
  ·rw [if_neg h]
   by_cases h2 : i ≤ s
   ·rw [if_pos (by omega), if_pos h2, show s - i = (s - (i + 1)) + 1 from by omega, List.getElem?_cons_succ]
   ·rw [if_neg (by omega), if_neg h2]

theorem Ato.get {c : Ctx} {w : World} : ∀ {xs : List TV} {vs : List Value}, Ato c w xs vs → xs.length = vs.length ∧ ∀ (i : Nat) x, xs[i]? = some x → ∃ v, vs[i]? = some v ∧ Rep c w x v
 | [], vs, h => by rw [Ato] at h; subst h; simp
 | x :: xs, vs, h => by
  obtain ⟨u, us, rfl, h1, h2⟩ := Ato.cons.1 h
  obtain ⟨h3, h4⟩ := Ato.get h2
  refine ⟨by simp [h3], fun i y hy => ?_⟩
  cases i with
  | zero => simp at hy; subst hy; exact ⟨u, rfl, .inl h1⟩
  | succ i => simpa using h4 i y (by simpa using hy)

/-- The end of a body. -/
def AJf (vr : List VR) (R : TV → List Ob → Prop) : VEx → Env → List Ob → Prop
 | .nor, e, H => res vr e H fun x => R x H
 | .ret, e, H => res vr e H fun x => R x H
 | .exit _, _, _ => False
 | .pan _, _, _ => False

/-- A block that is nobody's turns. -/
theorem Sim.nobody {c : Ctx} {w : World} (hs : Sim c w) {r : Nat} {o o' : Obj} (hr : w.heap[r]? = some o) (h1 : ¬ c.own r) (h2 : ¬ c.F r) (hsh : (w.putObj r o').shape? r = w.shape? r) : Sim c (w.putObj r o') ∧ Ax4 c w c (w.putObj r o') := by
 have hoth : ∀ b, b ≠ r → (w.putObj r o').heap[b]? = w.heap[b]? := fun b hb => World.putObj_heap_other hb
 have hm : Ax4 c w c (w.putObj r o') := ⟨fun b hb => ⟨hb, hoth b fun e => h2 (e ▸ hb)⟩, fun _ _ h => ⟨h, rfl⟩, fun b _ => by
  by_cases hb : b = r
  ·subst hb; exact hsh
  ·exact AtJ (hoth b hb)⟩
 refine ⟨⟨fun id ob ho => AJO.mono hm (Ctx.has_of ho) (fun hl b off hb => hoth b fun e => h1 (e ▸ Ctx.own_of ho hl hb)) (hs.ob id ob ho), hs.inj, hs.apart, fun b hb => ?_, hs.glob.keep hm.stay⟩, hm⟩
 rw [(ACk w r o').2.2.2]; exact hs.lt b hb
theorem AsV.nobody {c0 c : Ctx} {w0 w : World} (h : AsV c0 w0 c w) {r : Nat} {o' : Obj} (hr : w0.heap.size ≤ r) : AsV c0 w0 c (w.putObj r o') :=
 ⟨h.os, h.tape, h.output, by rw [(ACk w r o').2.2.2]; exact h.size, h.has, fun b hb => (AtJ (World.putObj_heap_other (by omega))).trans (h.shape b hb), fun b hb ho => (World.putObj_heap_other (by omega)).trans (h.same b hb ho), h.keepF, h.oldF, h.oldOwn⟩
/-- The Atv are shut on the way out. -/
theorem ABa.shut {D0 : List Deferred} {u : FrameMode} (hu : u ≠ .run) {FF : Fence} {n : Nat} {fn : Func} {tmps : Array Value} {R : Ending → World → Prop} {B : Nat} {c : Ctx} : ∀ {D : List Deferred} {w : World}, ABa D0 B c w D → Sim c w →
  ∃ wF, (LeavesInM FF n P fn tmps R D0 u wF → LeavesInM FF n P fn tmps R D u w) ∧ Sim c wF ∧ Ax4 c w c wF ∧ ∀ (c0 : Ctx) (w0 : World), w0.heap.size ≤ B → AsV c0 w0 c w → AsV c0 w0 c wF := by
 rintro D w ⟨ds, rfl, hnd, hds⟩ hs
 induction ds generalizing w with
 | nil => exact ⟨w, fun h => h, hs, Ax4.heap rfl, fun c0 w0 _ h => h⟩
 | cons r ds ih =>
  obtain ⟨k1, k2, k3, k4, k5⟩ := hds r (by simp)
  rw [List.nodup_cons] at hnd
  have hput := World.putObj_heap_same (w := w) (o := .deferred none) k2
  obtain ⟨s1, s2⟩ := hs.nobody (o' := .deferred none) k5 k3 k4 (by simp [World.shape?, hput, k5])
  obtain ⟨wF, e1, e2, e3, e4⟩ := ih (w := w.putObj r (.deferred none)) hnd.2 (fun q hq => by
   obtain ⟨q1, q2, q3, q4, q5⟩ := hds q (by simp [hq])
   have hne : q ≠ r := fun e => hnd.1 (e ▸ hq)
   exact ⟨q1, by rw [(ACk w r _).2.2.2]; exact q2, q3, q4, (World.putObj_heap_other hne).trans q5⟩) s1
  refine ⟨wF, fun h => ⟨hu, .inl ⟨r, _, rfl, run_takeDeferred k5, e1 h⟩⟩, e2, ⟨fun b hb => ⟨hb, ((e3.stay b hb).2).trans (s2.stay b hb).2⟩, fun _ _ h => ⟨h, rfl⟩, fun b hb => (e3.shape b (by rw [(ACk w r _).2.2.2]; exact hb)).trans (s2.shape b hb)⟩, fun c0 w0 hB hl => e4 c0 w0 hB (hl.nobody (by omega))⟩

/-- A FUNCTION: out of its body's condition. -/
theorem APu {f : FuncId} {fn : Func} {vc : AsF} {vr : List VR} {args : List TV} {H : List Ob} {R : TV → List Ob → Prop} (hf : P.funcs[f]? = some fn) (ht : fn.body.bind (trC P fn.ntmps) = some (er vc)) (hr : trR P fn.results.toList = some vr)
  (hn : args.length ≤ fn.ntmps) (h : vwp P vc (AJf vr R) (AIC 0 args) H) : AsR P f args H R := by
 obtain ⟨code, hb, ht⟩ := Option.bind_eq_some_iff.1 ht
 intro β F w vs hs hv
 obtain ⟨hl, hget⟩ := Ato.get hv
 refine (callsIn_wide (n := 0)).1 (callsIn_of_wp_marks hf hb trivial ?_)
 refine APA (ro := none) (nn := 0) (B := w.heap.size) (D := []) (D0 := []) vc (.inl rfl) ht h hs ⟨⟨fun s => ?_, hs.glob⟩, by simp; omega, rfl⟩ ABa.nil (Nat.le_refl _) ?_
 ·rw [AJM]
  simp only [Nat.zero_le, if_true, Nat.sub_zero]
  cases hx : args[s]? with
  | none => exact Rep.any
  | some x =>
   obtain ⟨v, hv1, hv2⟩ := hget s x hx
   have hs' : s < vs.length := (List.getElem?_eq_some_iff.1 hv1).1
   have : ((vs.toArray ++ Array.replicate (fn.ntmps - vs.toArray.size) undef).getD s undef) = v := by
    rw [Array.getD_eq_getD_getElem?, Array.getElem?_append_left (by simpa using hs')]
    simp [hv1]
   rw [this]; exact hv2
 ·intro x e' H' β' F' w' a' D' k1 k2 k3 km k4
  have fin : res vr e' H' (fun x => R x H') → LeavesInM Fence.wide 0 P fn a'.tmps (fun e w' => ∃ v x β' H' F', e = .returned v ∧ R x H' ∧ Sim ⟨β', H', F'⟩ w' ∧ AsV ⟨β, H, F⟩ w ⟨β', H', F'⟩ w' ∧ Rep ⟨β', H', F'⟩ w' x v) a'.defers .returning w' := fun h => by
   rw [k3.defers]
   obtain ⟨wF, e1, e2, e3, e4⟩ := ABa.shut (D0 := []) (u := .returning) (by simp) (P := P) (FF := Fence.wide) (n := 0) (fn := fn) (tmps := a'.tmps) (R := fun e w' => ∃ v x β' H' F', e = .returned v ∧ R x H' ∧ Sim ⟨β', H', F'⟩ w' ∧ AsV ⟨β, H, F⟩ w ⟨β', H', F'⟩ w' ∧ Rep ⟨β', H', F'⟩ w' x v) km k2
   obtain ⟨y, v, r1, r2, r3⟩ := AU9 (fn := fn) (a := a') e2 ⟨fun s => Rep.mono e3 (k3.env.1 s), e2.glob⟩ hr h
   exact e1 ⟨v, r1, v, y, β', H', F', rfl, r3, e2, e4 _ _ (Nat.le_refl _) k4, r2⟩
  cases x with
  | nor => exact fin k1
  | ret => exact fin k1
  | exit i => exact k1.elim
  | pan u => exact k1.elim

/-- The end of a body that may panic. -/
def AP1 (vr : List VR) (R : TV → List Ob → Prop) (RP : Value → List Ob → Prop) : VEx → Env → List Ob → Prop
 | .nor, e, H => res vr e H fun x => R x H
 | .ret, e, H => res vr e H fun x => R x H
 | .exit _, _, _ => False
 | .pan u, _, H => RP u H



/-- Nothing that was there has turned. -/
structure AAx (F : Nat → Prop) (w : World) (F' : Nat → Prop) (w' : World) : Prop where
 os : w'.os = w.os
 tape : w'.tape = w.tape
 output : w'.output = w.output
 size : w.heap.size ≤ w'.heap.size
 same : ∀ b, b < w.heap.size → w'.heap[b]? = w.heap[b]?
 keepF : ∀ b, F b → F' b
 oldF : ∀ b, b < w.heap.size → F' b → F b
 ltF : ∀ b, F' b → b < w'.heap.size

/-- A CALL THAT LEAVES NOTHING BEHIND but new memory that nobody changes any more. -/
def At6 (P : Program) (f : FuncId) (args : List TV) (R : TV → Prop) : Prop :=
 ∀ (β : Nat → Nat → Option (Nat × Nat)) (F : Nat → Prop) (w : World) (vs : List Value), ((∀ b, F b → b < w.heap.size) ∧ Aye F w) → Ato ⟨β, [], F⟩ w args vs →
  Calls P f vs.toArray w fun e w' => ∃ v x F', e = .returned v ∧ R x ∧ Rep ⟨β, [], F'⟩ w' x v ∧ AAx F w F' w'

theorem At6.mono {f : FuncId} {args : List TV} {R R' : TV → Prop} (h : At6 P f args R) (hr : ∀ x, R x → R' x) : At6 P f args R' :=
 fun β F w vs hF hv => (h β F w vs hF hv).mono fun _ _ ⟨v, x, F', h1, h2, h3⟩ => ⟨v, x, F', h1, hr _ h2, h3⟩

theorem AsR.toPure {f : FuncId} {args : List TV} {R : TV → Prop} (h : AsR P f args [] fun x H' => match frz H' x with | some y => R y | none => False) : At6 P f args R := by
 intro β F w vs hF hv
 have hs : Sim ⟨β, [], F⟩ w := ⟨fun id o ho => by simp at ho, fun i j x y b o o' hx => by simp at hx, fun b hb => by obtain ⟨i, o, off, h1, _⟩ := hb; simp at h1, hF.1, hF.2⟩
 refine (h β F w vs hs hv).mono ?_
 rintro _ w' ⟨v, x, β', H', F', rfl, hR, hs', hl, hx⟩
 split at hR
 ·rename_i y hy
  have hno : ∀ b, ¬ Ctx.own ⟨β, [], F⟩ b := fun b hb => by obtain ⟨i, o, off, h1, _⟩ := hb; simp at h1
  have hr := AWc hs' hy hx
  refine ⟨v, y, fun b => F' b ∨ Ctx.own ⟨β', H', F'⟩ b, rfl, hR, Rep.mono (Ax4.toBare [] β) hr, ⟨hl.os, hl.tape, hl.output, hl.size, fun b hb => hl.same b hb (hno b), fun b hb => .inl (hl.keepF b hb), fun b hb hF' => ?_, fun b hF' => hF'.elim (hs'.lt b) hs'.own_lt⟩⟩
  rcases hF' with hF' | hF'
  ·exact (hl.oldF b hb hF').resolve_right (hno b)
  ·exact absurd (hl.oldOwn b hb hF') (hno b)
 ·exact hR.elim

theorem AAx.later {β : Nat → Nat → Option (Nat × Nat)} {H : List Ob} {F F' : Nat → Prop} {w w' : World} (h : AAx F w F' w') : AsV ⟨β, H, F⟩ w ⟨β, H, F'⟩ w' :=
 ⟨h.os, h.tape, h.output, h.size, fun id v ⟨o, h1, h2⟩ => ⟨⟨o, h1, h2⟩, rfl⟩, fun b hb => AtJ (h.same b hb), fun b hb _ => h.same b hb, h.keepF, fun b hb hF => .inl (h.oldF b hb hF), fun b hb ⟨i, o, off, h1, h2, h3⟩ => ⟨i, o, off, h1, h2, h3⟩⟩
theorem AAx.sim {β : Nat → Nat → Option (Nat × Nat)} {H : List Ob} {F F' : Nat → Prop} {w w' : World} (hs : Sim ⟨β, H, F⟩ w) (h : AAx F w F' w') : Sim ⟨β, H, F'⟩ w' := by
 have hm : Ax4 ⟨β, H, F⟩ w ⟨β, H, F'⟩ w' := ⟨fun b hb => ⟨h.keepF b hb, h.same b (hs.lt b hb)⟩, fun id v ⟨o, h1, h2⟩ => ⟨⟨o, h1, h2⟩, rfl⟩, fun b hb => AtJ (h.same b hb)⟩
 refine ⟨fun id o ho => AJO.mono hm ⟨o, ho, Nat.le_refl _⟩ (fun hl b off hb => h.same b (hs.own_lt ⟨id, o, off, ho, hl, hb⟩)) (hs.ob id o ho), hs.inj, fun b hb hF => ?_, h.ltF, hs.glob.keep hm.stay⟩
 obtain ⟨i, o, off, h1, h2, h3⟩ := hb
 have ho : Ctx.own ⟨β, H, F⟩ b := ⟨i, o, off, h1, h2, h3⟩
 exact hs.apart b ho (h.oldF b (hs.own_lt ho) hF)

/-- Such a call, with nothing lent. -/
theorem At6.calls {f : FuncId} {args : List TV} {R : TV → Prop} {H : List Ob} {K : TV → List Ob → Prop} (h : At6 P f args R) (hp : Aur args = true) (hk : ∀ x, R x → K x H) : AsR P f args H K := by
 intro β F w vs hs hv
 refine (h β F w vs ⟨hs.lt, hs.glob⟩ (Ato.pure hp hv)).mono ?_
 rintro _ w' ⟨v, x, F', rfl, hR, hx, hst⟩
 exact ⟨v, x, β, H, F', rfl, hk x hR, hst.sim hs, hst.later, Rep.mono (Ax4.toBare H β) hx⟩

/-- Such a call, to which objects are lent: it yields no memory. -/
theorem At6.lends {f : FuncId} {args args' : List TV} {R : TV → Prop} {H : List Ob} {K : TV → List Ob → Prop} (h : At6 P f args' R) (hp : AZr H args = some args') (hk : ∀ x, R x → AKN x = true ∧ K x H) : AsR P f args H K := by
 intro β F w vs hs hv
 refine (h β (fun b => F b ∨ Ctx.own ⟨β, H, F⟩ b) w vs ⟨fun b hb => hb.elim (hs.lt b) hs.own_lt, hs.glob.keep fun b hb => ⟨.inl hb, rfl⟩⟩ (AL6 hs hp hv)).mono ?_
 rintro _ w' ⟨v, x, F', rfl, hR, hx, hst⟩
 obtain ⟨hsc, hK⟩ := hk x hR
 have hst' : AAx F w F w' := ⟨hst.os, hst.tape, hst.output, hst.size, hst.same, fun _ h => h, fun _ _ h => h, fun b hb => Nat.lt_of_lt_of_le (hs.lt b hb) hst.size⟩
 exact ⟨v, x, β, H, F, rfl, hK, hst'.sim hs, hst'.later, AR8 hsc hx⟩

theorem Ax4.ofF {β β' : Nat → Nat → Option (Nat × Nat)} {H : List Ob} {F F' : Nat → Prop} {w : World} (h : ∀ b, F b → F' b) : Ax4 ⟨β, [], F⟩ w ⟨β', H, F'⟩ w :=
 ⟨fun b hb => ⟨h b hb, rfl⟩, fun id v h => by obtain ⟨o, h, _⟩ := h; simp at h, fun _ _ => rfl⟩
mutual
/-- The reading of a result, where all memory in it is one's own, its elements without memory. -/
def frs (H : List Ob) : TV → Option TV
 | .val v => some (.val v)
 | .any => some .any
 | .os k id ver p off n cp => match H[id]? with
  | some (.obj v x) => if v = ver then (match Avz p k off n x with
   | some cs => if ABM cs then some (.sl k cs) else none
   | none => none) else none
  | _ => none
 | .agg cs => (AKO H cs).map .agg
 | .arr n k cs => if ABM cs then some (.arr n k cs) else none
 | .tup cs => (AKO H cs).map .tup
 | .ifc t x => (frs H x).map (.ifc t)
 | _ => none
def AKO (H : List Ob) : List TV → Option (List TV)
 | [] => some []
 | x :: xs => match frs H x, AKO H xs with
  | some x, some xs => some (x :: xs)
  | _, _ => none
end

/-- Only one's own Atv. -/
def Ctx.mine (c : Ctx) : Ctx := ⟨c.β, [], c.own⟩

theorem AIQ {p : List (Nat × Nat)} {k off : Nat} {x : TV} {cs : List TV} (h : Avz p k off 0 x = some cs) : cs = [] := by
 unfold Avz at h
 split at h
 ·split at h
  ·cases h; simp
  ·cases h
 ·cases h

mutual
theorem AJC {c : Ctx} {w : World} (hs : Sim c w) : ∀ {x x' : TV} {us : List Value}, frs c.H x = some x' → AsK c w x us → AsK c.mine w x' us
 | .val y, x', us, hf, hr => by simp only [frs, Option.some.injEq] at hf; subst hf; rw [AsK] at hr ⊢; exact hr
 | .any, x', us, hf, hr => by simp only [frs, Option.some.injEq] at hf; subst hf; rw [AsK] at hr ⊢; exact hr
 | .mp _ _, x', us, hf, hr => by simp [frs] at hf
 | .yl _ _, x', us, hf, hr => by simp [frs] at hf
 | .sl k cs, x', us, hf, hr => by simp [frs] at hf
 | .fp x, x', us, hf, hr => by simp [frs] at hf
 | .op id ver p, x', us, hf, hr => by simp [frs] at hf
 | .fn f a b, x', us, hf, hr => by simp [frs] at hf
 | .os k id ver p off n cp, x', us, hf, hr => by
  rw [AsK] at hr
  obtain ⟨hr1, hr2⟩ := hr
  rw [frs] at hf
  split at hf
  ·rename_i ver' x hid
   split at hf
   ·rename_i e; subst e
    split at hf
    ·rename_i cs hcs
     split at hf
     ·rename_i hsc
      cases hf
      rcases hr2 with ⟨rfl, a0, hr2, _⟩ | ⟨b0, o0, cap, t0, m0, hr2, hr3, hr4, hr5, hr6, hr7⟩
      ·have := AIQ hcs
       subst this
       rw [AsK]
       exact ⟨by simp, .inl ⟨rfl, a0, 0, hr2, by omega⟩⟩
      rcases hs.ob id _ hid with ⟨h0, _⟩ | ⟨b, off', pre, vs, post, t, fr, h0, h1, h2, h3, h4⟩
      ·rw [h0] at hr2; cases hr2
      rw [h0] at hr2
      obtain ⟨rfl, rfl⟩ : b = b0 ∧ off' = o0 := by simpa using hr2
      obtain ⟨a, m, q, rfl, k1, k2, k3, k4⟩ := Azz h4 hcs
      rw [AsK]
      refine ⟨k3, .inr ⟨b, off' + AvR p + off * k, cap, m, by rw [k4]; exact hr3, by omega, hr5, ⟨id, _, off', hid, rfl, h0⟩, AyN hsc k2, ?_⟩⟩
      have e : off' + AvR p + off * k = pre.length + a.length := by rw [h3, k1]; omega
      rw [e]; exact Ayd h1
     ·cases hf
    ·cases hf
   ·cases hf
  ·cases hf
 | .agg cs, x', us, hf, hr => by
  simp only [frs, Option.map_eq_some_iff] at hf
  obtain ⟨ds, hds, rfl⟩ := hf
  rw [AsK] at hr ⊢
  exact AJT hs hds hr
 | .arr n k cs, x', us, hf, hr => by
  rw [frs] at hf
  split at hf
  ·rename_i hsc; cases hf; rw [AsK] at hr ⊢; exact ⟨hr.1, hr.2.1, AyN hsc hr.2.2⟩
  ·cases hf
 | .tup cs, x', us, hf, hr => by rw [AsK] at hr; exact hr.elim
 | .ifc t x, x', us, hf, hr => by
  simp only [frs, Option.map_eq_some_iff] at hf
  obtain ⟨y, hy, rfl⟩ := hf
  rw [AsK] at hr ⊢
  obtain ⟨u, h1, vs, h2, h3⟩ := hr
  exact ⟨u, h1, vs, AJC hs hy h2, by rw [h3]; exact AKW hy vs⟩
theorem AJT {c : Ctx} {w : World} (hs : Sim c w) : ∀ {xs xs' : List TV} {us : List Value}, AKO c.H xs = some xs' → AsL c w xs us → AsL c.mine w xs' us
 | [], xs', us, hf, hr => by simp only [AKO, Option.some.injEq] at hf; subst hf; rw [AsL] at hr ⊢; exact hr
 | x :: xs, xs', us, hf, hr => by
  rw [AKO] at hf
  split at hf
  ·rename_i y ys hy hys
   cases hf
   rw [AsL] at hr ⊢
   obtain ⟨u, us, h1, h2, h3⟩ := hr
   exact ⟨u, us, h1, AJC hs hy h2, AJT hs hys h3⟩
  ·cases hf
theorem AKW {H : List Ob} : ∀ {x x' : TV} (hf : frs H x = some x') (us : List Value), mkV x us = mkV x' us
 | .val y, x', hf, us => by simp only [frs, Option.some.injEq] at hf; subst hf; rfl
 | .any, x', hf, us => by simp only [frs, Option.some.injEq] at hf; subst hf; rfl
 | .mp _ _, x', hf, us => by simp [frs] at hf
 | .yl _ _, x', hf, us => by simp [frs] at hf
 | .sl k cs, x', hf, us => by simp [frs] at hf
 | .fp x, x', hf, us => by simp [frs] at hf
 | .op id ver p, x', hf, us => by simp [frs] at hf
 | .fn f a b, x', hf, us => by simp [frs] at hf
 | .os k id ver p off n cp, x', hf, us => by
  rw [frs] at hf
  split at hf
  ·split at hf
   ·split at hf
    ·split at hf
     ·cases hf; rfl
     ·cases hf
    ·cases hf
   ·cases hf
  ·cases hf
 | .agg cs, x', hf, us => by
  simp only [frs, Option.map_eq_some_iff] at hf
  obtain ⟨ds, hds, rfl⟩ := hf; rfl
 | .arr n k cs, x', hf, us => by
  rw [frs] at hf
  split at hf
  ·cases hf; rfl
  ·cases hf
 | .tup cs, x', hf, us => by
  simp only [frs, Option.map_eq_some_iff] at hf
  obtain ⟨ds, hds, rfl⟩ := hf; rfl
 | .ifc t x, x', hf, us => by
  simp only [frs, Option.map_eq_some_iff] at hf
  obtain ⟨y, hy, rfl⟩ := hf; rfl
end
theorem AMp {c : Ctx} {w : World} (hs : Sim c w) : ∀ {xs xs' : List TV} {vs : List Value}, AKO c.H xs = some xs' → Ato c w xs vs → Ato c.mine w xs' vs
 | [], xs', vs, hf, hr => by simp only [AKO, Option.some.injEq] at hf; subst hf; rw [Ato] at hr ⊢; exact hr
 | x :: xs, xs', vs, hf, hr => by
  rw [AKO] at hf
  split at hf
  ·rename_i y ys hy hys
   cases hf
   rw [Ato] at hr ⊢
   obtain ⟨u, us, h1, h2, h3⟩ := hr
   refine ⟨u, us, h1, ?_, AMp hs hys h3⟩
   rcases h2 with rfl | rfl | ⟨aS, h2, h4⟩
   ·simp only [frs, Option.some.injEq] at hy; subst hy; exact .inl rfl
   ·simp only [frs, Option.some.injEq] at hy; subst hy; exact .inr (.inl rfl)
   ·exact .inr (.inr ⟨aS, AJC hs hy h2, by rw [h4]; exact AKW hy aS⟩)
  ·cases hf
theorem AQ3 {c : Ctx} {w : World} (hs : Sim c w) {x x' : TV} {v : Value} (hf : frs c.H x = some x') (hr : Rep c w x v) : Rep c.mine w x' v := by
 rcases hr with (h | h | ⟨us, h, h'⟩) | ⟨xs, vs, rfl, h2, h3⟩
 ·subst h; simp only [frs, Option.some.injEq] at hf; subst hf; exact Rep.any
 ·subst h; simp only [frs, Option.some.injEq] at hf; subst hf; exact Rep.of_val
 ·exact .inl (.inr (.inr ⟨us, AJC hs hf h, by rw [h']; exact AKW hf us⟩))
 ·simp only [frs, Option.map_eq_some_iff] at hf
  obtain ⟨ds, hds, rfl⟩ := hf
  exact .inr ⟨ds, vs, rfl, h2, AMp hs hds h3⟩

/-- A CALL THAT LEAVES NOTHING BEHIND, AND YIELDS NEW MEMORY ALONE. -/
def Azi (P : Program) (f : FuncId) (args : List TV) (R : TV → Prop) : Prop :=
 ∀ (β : Nat → Nat → Option (Nat × Nat)) (F : Nat → Prop) (w : World) (vs : List Value), ((∀ b, F b → b < w.heap.size) ∧ Aye F w) → Ato ⟨β, [], F⟩ w args vs →
  Calls P f vs.toArray w fun e w' => ∃ v x F', e = .returned v ∧ R x ∧ Rep ⟨β, [], fun b => F' b ∧ w.heap.size ≤ b⟩ w' x v ∧ AAx F w F' w'

theorem Azi.mono {f : FuncId} {args : List TV} {R R' : TV → Prop} (h : Azi P f args R) (hr : ∀ x, R x → R' x) : Azi P f args R' :=
 fun β F w vs hF hv => (h β F w vs hF hv).mono fun _ _ ⟨v, x, F', h1, h2, h3⟩ => ⟨v, x, F', h1, hr _ h2, h3⟩
theorem Azi.pure {f : FuncId} {args : List TV} {R : TV → Prop} (h : Azi P f args R) : At6 P f args R :=
 fun β F w vs hF hv => (h β F w vs hF hv).mono fun _ _ ⟨v, x, F', h1, h2, h3, h4⟩ => ⟨v, x, F', h1, h2, Rep.mono (Ax4.ofF (F := fun b => F' b ∧ w.heap.size ≤ b) (F' := F') fun b hb => hb.1) h3, h4⟩

theorem AsR.toFresh {f : FuncId} {args : List TV} {R : TV → Prop} (h : AsR P f args [] fun x H' => match frs H' x with | some y => R y | none => False) : Azi P f args R := by
 intro β F w vs hF hv
 have hs : Sim ⟨β, [], F⟩ w := ⟨fun id o ho => by simp at ho, fun i j x y b o o' hx => by simp at hx, fun b hb => by obtain ⟨i, o, off, h1, _⟩ := hb; simp at h1, hF.1, hF.2⟩
 refine (h β F w vs hs hv).mono ?_
 rintro _ w' ⟨v, x, β', H', F', rfl, hR, hs', hl, hx⟩
 split at hR
 ·rename_i y hy
  have hno : ∀ b, ¬ Ctx.own ⟨β, [], F⟩ b := fun b hb => by obtain ⟨i, o, off, h1, _⟩ := hb; simp at h1
  have hr := AQ3 hs' hy hx
  have hnew : ∀ b, Ctx.own ⟨β', H', F'⟩ b → w.heap.size ≤ b := fun b hb => by
   rcases Nat.lt_or_ge b w.heap.size with h1 | h1
   ·exact absurd (hl.oldOwn b h1 hb) (hno b)
   ·exact h1
  refine ⟨v, y, fun b => F b ∨ Ctx.own ⟨β', H', F'⟩ b, rfl, hR, ?_, ⟨hl.os, hl.tape, hl.output, hl.size, fun b hb => hl.same b hb (hno b), fun b hb => .inl hb, fun b hb hF' => hF'.elim id fun h => ?_, fun b hF' => hF'.elim (fun h => Nat.lt_of_lt_of_le (hF.1 b h) hl.size) hs'.own_lt⟩⟩
  ·exact Rep.mono (Ax4.ofF (F := Ctx.own ⟨β', H', F'⟩) (F' := fun b => (F b ∨ Ctx.own ⟨β', H', F'⟩ b) ∧ w.heap.size ≤ b) fun b hb => ⟨.inr hb, hnew b hb⟩) hr
  ·have := hnew b h; omega
 ·exact hR.elim

/-- Such a call, to which objects are lent. -/
theorem Azi.lends {f : FuncId} {args args' : List TV} {R : TV → Prop} {H : List Ob} {K : TV → List Ob → Prop} (h : Azi P f args' R) (hp : AZr H args = some args') (hk : ∀ x, R x → K x H) : AsR P f args H K := by
 intro β F w vs hs hv
 refine (h β (fun b => F b ∨ Ctx.own ⟨β, H, F⟩ b) w vs ⟨fun b hb => hb.elim (hs.lt b) hs.own_lt, hs.glob.keep fun b hb => ⟨.inl hb, rfl⟩⟩ (AL6 hs hp hv)).mono ?_
 rintro _ w' ⟨v, x, F', rfl, hR, hx, hst⟩
 have hst' : AAx F w (fun b => F b ∨ (F' b ∧ w.heap.size ≤ b)) w' := ⟨hst.os, hst.tape, hst.output, hst.size, hst.same, fun _ h => .inl h, fun b hb h => h.elim id fun h => by omega, fun b hb => hb.elim (fun h => Nat.lt_of_lt_of_le (hs.lt b h) hst.size) fun h => hst.ltF b h.1⟩
 refine ⟨v, x, β, H, _, rfl, hk x hR, hst'.sim hs, hst'.later, Rep.mono (Ax4.ofF (F := fun b => F' b ∧ w.heap.size ≤ b) (F' := fun b => F b ∨ (F' b ∧ w.heap.size ≤ b)) fun b hb => .inr hb) hx⟩
end
end Go.Proofs.YtmlompedpahkjaaGreatDoor


namespace Go.Proofs.YtmlompedpahkjaaGreatDoor
open Go.RowKit
variable [AtN]
set_option linter.unusedSectionVars false
set_option linter.unusedSimpArgs false
set_option linter.unusedVariables false
set_option autoImplicit false

/-- An equation that simp is to take for no definition. -/
theorem AsB {α : Sort _} {a b : α} (h : a = b) : a = b := h

/-- Numbers, truth values, strings. -/
abbrev i64 (n : Int) : TV := .val (.int .i64 n)
abbrev tb (b : Bool) : TV := .val (.bool b)
abbrev ts (l : List UInt8) : TV := .val (.string (str l))
/-- Bytes, strings, numbers in memory. -/
abbrev slB (l : List UInt8) : TV := .sl 1 (l.map by8)
abbrev slS (l : List (List UInt8)) : TV := .sl 1 (l.map ts)

section
variable {P : Program} {e : Env} {H : List Ob}
theorem A2f {c : Opd} {a : Opd} {b : Opd} {K : TV → Prop} : pop (.pick c a b) e H K = (match c.ev e with
  | .val (.bool t) => K (if t then a.ev e else b.ev e)
  | _ => False) := AsB rfl
theorem A2P {x : Opd} {K : TV → Prop} : pop (.b2s x) e H K = (match AtW H 1 (x.ev e) with
  | some cs => (∀ y ∈ cs, ALM y) ∧ K (.val (.string (str (cs.map AF4))))
  | none => False) := AsB rfl
theorem A2A {ag : Bool} {sz : Nat} {x : Opd} {K : TV → Prop} : pop (.load ag sz x) e H K = (match x.ev e with
  | .fp y => AH5 ag sz y ∧ K y
  | .op id ver p => (match H[id]? with
   | some (.obj v x) => v = ver ∧ (match Azr p x with | some y => AH5 ag sz y ∧ K y | none => False)
   | _ => False)
  | _ => False) := AsB rfl
theorem A0R {n : Nat} {k : Nat} {x : Opd} {i : Opd} {K : TV → Prop} : pop (.idxAA n k x i) e H K = (match x.ev e, i.ev e with
  | .fp (.arr n' k' cs), .val (.int _ j) => k' = k ∧ n' = n ∧ 0 ≤ j ∧ (match cs[j.toNat]? with | some y => K (.fp y) | none => False)
  | .op id ver p, .val (.int _ j) => 0 ≤ j ∧ j < n ∧ K (.op id ver (p ++ [(j.toNat, j.toNat * k)]))
  | _, _ => False) := AsB rfl
theorem A2B {x : Opd} {K : TV → Prop} : pop (.lenV x) e H K = (match x.ev e with
  | .val (.slice _ n _) => K (.val (.int .i64 n))
  | .sl _ cs => K (.val (.int .i64 cs.length))
  | .os _ _ _ _ _ n _ => K (.val (.int .i64 n))
  | _ => False) := AsB rfl
theorem A1q {k : Nat} {x : Opd} {lo : Option Opd} {hi : Option Opd} {K : TV → Prop} : pop (.slV k x lo hi) e H K = (match x.ev e with
  | .sl k' cs => k' = k ∧ bnd e lo hi cs.length cs.length fun l h => K (.sl k ((cs.drop l).take (h - l)))
  | .os k' id ver p off n cp => k' = k ∧ bnd e lo hi n cp fun l h => K (.os k id ver p (off + l) (h - l) (cp - l))
  | .val (.slice ad 0 0) => bnd e lo hi 0 0 fun l h => K (.val (.slice ad 0 0))
  | _ => False) := AsB rfl
theorem AZR {n : Nat} {k : Nat} {x : Opd} {lo : Option Opd} {hi : Option Opd} {K : TV → Prop} : pop (.slA n k x lo hi) e H K = (match x.ev e with
  | .fp (.arr n' k' cs) => k' = k ∧ n' = n ∧ n ≤ 9223372036854775807 ∧ bnd e lo hi n n fun l h => K (.sl k ((cs.drop l).take (h - l)))
  | .op id ver p => (match H[id]? with
   | some (.obj v x) => v = ver ∧ n ≤ 9223372036854775807 ∧ (match Azr p x with | some (.arr n' k' cs) => k' = k ∧ n' = n ∧ bnd e lo hi n n fun l h => K (.os k id ver p l (h - l) (n - l)) | _ => False)
   | _ => False)
  | _ => False) := AsB rfl
theorem A06 {f : Fn} {first : List Opd} {caps : List Opd} {K : TV → Prop} : pop (.mkf f first caps) e H K = ((∀ x ∈ first ++ caps, At8 (x.ev e) = false) ∧ K (.fn f (first.map (·.ev e)) (caps.map (·.ev e)))) := AsB rfl
theorem A18 {x : Opd} {K : TV → Prop} : pop (.nilc x) e H K = (match x.ev e with
  | .op id ver p => K (.op id ver p)
  | .fp y => K (.fp y)
  | .fn (.func f) a b => K (.fn (.func f) a b)
  | .ifc t y => K (.ifc t y)
  | .val (.func (.func f) a b) => K (.val (.func (.func f) a b))
  | _ => False) := AsB rfl
theorem ARf {k : Nat} {n : Nat} {z : TV} {ps : List (Nat × Opd)} {K : TV → List Ob → Prop} : sop P (.bslice k n z ps) e H K = ((Avw e (List.replicate n k) ps ∧ Atw e ps ∧ n ≤ 1000) ∧ K (.os k H.length 0 [] 0 n n) (H ++ [.obj 0 (.arr n k (Av0 e (List.replicate n z) ps))])) := AsB rfl
theorem AZG {sz : Nat} {x : Opd} {v : Opd} {K : TV → List Ob → Prop} : sop P (.store sz x v) e H K = ((lays (v.ev e) = true ∧ AsU (v.ev e) = sz) ∧ (match x.ev e with
  | .op id ver p => (match H[id]? with
   | some (.obj vr y) => vr = ver ∧ (match ADH p y (v.ev e) with | some y' => K .any (H.set id (.obj ver y')) | none => False)
   | _ => False)
  | _ => False)) := AsB rfl
theorem AWF {f : FuncId} {args : List Opd} {K : TV → List Ob → Prop} : sop P (.call f args) e H K = ((∀ x ∈ args, At8 (x.ev e) = false) ∧ AsR P f (args.map (·.ev e)) H K) := AsB rfl
theorem AVP {x : Opd} {args : List Opd} {K : TV → List Ob → Prop} : sop P (.callv x args) e H K = ((∀ x ∈ args, At8 (x.ev e) = false) ∧ (match x.ev e with
  | .fn (.func f) first caps => AGI P f = true ∧ AsR P f (first ++ args.map (·.ev e) ++ caps) H K
  | .val (.func (.func f) xs ys) => (xs.isEmpty && ys.isEmpty) = true ∧ AGI P f = true ∧ AsR P f (args.map (·.ev e)) H K
  | .yl id ver => AG8 P id ver (args.map (·.ev e)) H K
  | _ => False)) := AsB rfl
theorem AWY  {Q : VEx → Env → List Ob → Prop} : vwp P (.skip ) Q e H = (Q .nor e H) := AsB rfl
theorem A20 {a : AsF} {b : AsF} {Q : VEx → Env → List Ob → Prop} : vwp P (.seq a b) Q e H = (vwp P a (fun x e H => match x with | .nor => vwp P b Q e H | .exit i => Q (.exit i) e H | .ret => Q .ret e H | .pan u => Q (.pan u) e H) e H) := AsB rfl
theorem AYj {lv : List Nat} {c : AsF} {Q : VEx → Env → List Ob → Prop} {H0 : List Ob} : vwp P (.loop lv c) Q e H0 = (∃ (I : Nat → Env → List Ob → Prop) (n : Nat), I n (forget lv e) H0 ∧
   ∀ n e H, I n e H → vwp P c (fun x e H => match x with | .nor => ∃ m g, m < n ∧ (H0.length ≤ g ∧ (H.length ≤ g ∨ (AF3 g (forget lv e) = true ∧ AGa g (H.take g) = true))) ∧ I m (forget lv e) (H.take g) | .exit i => Q (.exit i) e H | .ret => Q .ret e H | .pan u => Q (.pan u) e H) e H) := AsB rfl
theorem AYD {id : Nat} {Q : VEx → Env → List Ob → Prop} : vwp P (.exit id) Q e H = (Q (.exit id) e H) := AsB rfl
theorem A0b  {Q : VEx → Env → List Ob → Prop} : vwp P (.ret ) Q e H = (Q .ret e H) := AsB rfl
theorem AUB {c : AsF} {Q : VEx → Env → List Ob → Prop} : vwp P (.scope c) Q e H = (vwp P c Q e H) := AsB rfl
theorem A2S {s k : Nat} {c : AsF} {Q : VEx → Env → List Ob → Prop} : vwp P (.own s k c) Q e H = (match get e s with
  | .val (.slice none 0 0) => vwp P c Q ((s, .os k H.length 0 [] 0 0 0) :: e) (H ++ [.obj 0 (.arr 0 k [])])
  | _ => vwp P c Q e H) := AsB rfl
theorem AY0 {s k : Nat} {p : List (Nat × Nat)} {c : AsF} {Q : VEx → Env → List Ob → Prop} : vwp P (.ownB s p k c) Q e H = (match get e s with
  | .op id ver p0 => (match H[id]? with
   | some (.obj v x) => v = ver ∧ (match Azr (p0 ++ p) x with
    | some (.val (.slice none 0 0)) => (match ADH (p0 ++ p) x (.os k H.length 0 [] 0 0 0) with
     | some x' => vwp P c Q e (H.set id (.obj ver x') ++ [.obj 0 (.arr 0 k [])])
     | none => False)
    | _ => vwp P c Q e H)
   | _ => False)
  | _ => False) := AsB rfl
theorem AXk {s : Nat} {t : TypeId} {p : List (Nat × Nat)} {c : AsF} {Q : VEx → Env → List Ob → Prop} : vwp P (.ownT s p t c) Q e H = (match get e s with
  | .op id ver p0 => (match H[id]? with
   | some (.obj v x) => v = ver ∧ (match Azr (p0 ++ p) x with
    | some (.val (.slice none 0 0)) => (match ADH (p0 ++ p) x (.os 1 H.length 0 [] 0 0 0) with
     | some x' => vwp P c Q e (H.set id (.obj ver x') ++ [.bld 0 t []])
     | none => False)
    | _ => vwp P c Q e H)
   | _ => False)
  | _ => False) := AsB rfl
theorem ARO {K : Env → List Ob → Prop} : AGz P [] K e H = K e H := AsB rfl
theorem AYu {d : Nat} {o : POp} {r : List VO} {K : Env → List Ob → Prop} : AGz P (⟨some d, .p o, none⟩ :: r) K e H = pop o e H fun x => AGz P r K ((d, x) :: e) H := AsB rfl
theorem AYS {d : Nat} {o : SOp} {r : List VO} {K : Env → List Ob → Prop} : AGz P (⟨some d, .s o, none⟩ :: r) K e H = sop P o e H fun x H => AGz P r K ((d, x) :: e) H := AsB rfl
theorem AU2 {o : SOp} {r : List VO} {K : Env → List Ob → Prop} : AGz P (⟨none, .s o, none⟩ :: r) K e H = sop P o e H fun x H => AGz P r K e H := AsB rfl
theorem AXn {d s : Nat} {o : VOp} {b : Bool} {r : List VO} {K : Env → List Ob → Prop} : AGz P (⟨some d, o, some (s, b)⟩ :: r) K e H = AH1 e s fun e q => match q with
 | some t => if t = b then vop P o e H (fun x H => AGz P r K ((d, x) :: e) H) else AGz P r K ((d, .val undef) :: e) H
 | none => AGz P r K ((d, .val undef) :: e) H := AsB rfl
theorem A02 {o : POp} {K : TV → List Ob → Prop} : vop P (.p o) e H K = pop o e H fun x => K x H := AsB rfl
theorem AZK {o : SOp} {K : TV → List Ob → Prop} : vop P (.s o) e H K = sop P o e H K := AsB rfl
theorem AXD {K : Env → Prop} : vq P [] K e H = K e := AsB rfl
theorem A2R {d : Nat} {o : POp} {r : List VO} {K : Env → Prop} : vq P (⟨some d, .p o, none⟩ :: r) K e H = pop o e H fun x => vq P r K ((d, x) :: e) H := AsB rfl
theorem A2L {d : Nat} {f : FuncId} {args : List Opd} {r : List VO} {K : Env → Prop} : vq P (⟨some d, .s (.call f args), none⟩ :: r) K e H = ((∀ x ∈ args, At8 (x.ev e) = false) ∧ ∃ x, AsR P f (args.map (·.ev e)) H (fun y H' => y = x ∧ H' = H) ∧ vq P r K ((d, x) :: e) H) := AsB rfl
theorem AVT {o : POp} {k : TV → Prop} : AHY P (.p o) e H k = pop o e H k := AsB rfl
theorem AVB {f : FuncId} {args : List Opd} {k : TV → Prop} : AHY P (.s (.call f args)) e H k = ((∀ x ∈ args, At8 (x.ev e) = false) ∧ ∃ x, AsR P f (args.map (·.ev e)) H (fun y H' => y = x ∧ H' = H) ∧ k x) := AsB rfl
variable {t : TypeId} {a b : Int} {k : IntKind}
theorem AvE {n : Int} (h1 : -9223372036854775808 ≤ n) (h2 : n ≤ 9223372036854775807) : IntKind.i64.wrap n = n := by rw [IntKind.wrap_i64]; omega
theorem A1l (h1 : -9223372036854775808 ≤ a + b) (h2 : a + b ≤ 9223372036854775807) : AvQ t .add (.int .i64 a) (.int .i64 b) = some (.int .i64 (a + b)) := by
 rw [show AvQ t .add (.int .i64 a) (.int .i64 b) = some (.int .i64 (IntKind.i64.wrap (a + b))) from rfl, AvE h1 h2]
theorem A1H (h1 : -9223372036854775808 ≤ a - b) (h2 : a - b ≤ 9223372036854775807) : AvQ t .sub (.int .i64 a) (.int .i64 b) = some (.int .i64 (a - b)) := by
 rw [show AvQ t .sub (.int .i64 a) (.int .i64 b) = some (.int .i64 (IntKind.i64.wrap (a - b))) from rfl, AvE h1 h2]
theorem AZ1 (h1 : -9223372036854775808 ≤ a * b) (h2 : a * b ≤ 9223372036854775807) : AvQ t .mul (.int .i64 a) (.int .i64 b) = some (.int .i64 (a * b)) := by
 rw [show AvQ t .mul (.int .i64 a) (.int .i64 b) = some (.int .i64 (IntKind.i64.wrap (a * b))) from rfl, AvE h1 h2]
theorem A0d : AvQ t .eql (.int k a) (.int k b) = some (.bool (decide (a = b))) := by
 rw [show AvQ t .eql (.int k a) (.int k b) = some (.bool (a == b)) from by simp [AvQ, binOp, Op.intCmp]; rfl]; rfl
theorem A07 : AvQ t .neq (.int k a) (.int k b) = some (.bool (!decide (a = b))) := by
 rw [show AvQ t .neq (.int k a) (.int k b) = some (.bool (a != b)) from by simp [AvQ, binOp, Op.intCmp]; rfl]; rfl
theorem A0f : AvQ t .lss (.int k a) (.int k b) = some (.bool (decide (a < b))) := by simp [AvQ, binOp, Op.intCmp]; rfl
theorem A1S : AvQ t .leq (.int k a) (.int k b) = some (.bool (decide (a ≤ b))) := by simp [AvQ, binOp, Op.intCmp]; rfl
theorem A0C : AvQ t .gtr (.int k a) (.int k b) = some (.bool (decide (b < a))) := by simp [AvQ, binOp, Op.intCmp]; rfl
theorem A0l : AvQ t .geq (.int k a) (.int k b) = some (.bool (decide (b ≤ a))) := by simp [AvQ, binOp, Op.intCmp]; rfl
theorem AOo : Avt 0 (.val (.pointer none)) = some true := AsB rfl
theorem AOT {i v : Nat} {p : List (Nat × Nat)} : Avt 0 (.op i v p) = some false := AsB rfl
theorem AP9 {x : TV} : Avt 0 (.fp x) = some false := AsB rfl
theorem AOM : Avt 1 (.val .nilIface) = some true := AsB rfl
theorem ANd {t : TypeId} {x : TV} : Avt 1 (.ifc t x) = some false := AsB rfl
theorem AOn : Avt 2 (.val (.map none)) = some true := AsB rfl
theorem APb {i v : Nat} : Avt 2 (.mp i v) = some false := AsB rfl
theorem AOp {i v : Nat} : Avt 3 (.yl i v) = some false := AsB rfl
theorem APV : Avt 3 (.val .nilFunc) = some true := AsB rfl
theorem AN0 {f : Fn} {a b : List TV} : Avt 3 (.fn f a b) = some false := AsB rfl
theorem AZi {n : Int} (h0 : 0 ≤ n) (h1 : n < 18446744073709551616) : (BitVec.ofInt 64 n).toNat = n.toNat := by
 rw [BitVec.toNat_ofInt]
 have : n % ((2 ^ 64 : Nat) : Int) = n := Int.emod_eq_of_lt h0 (by simpa using h1)
 rw [this]
theorem A0k (h1 : 0 ≤ a) (h2 : a ≤ 9223372036854775807) (h3 : 0 ≤ b) (h4 : b ≤ 9223372036854775807) : AvQ t .and (.int .i64 a) (.int .i64 b) = some (.int .i64 ((a.toNat &&& b.toNat : Nat) : Int)) := by
 rw [show AvQ t .and (.int .i64 a) (.int .i64 b) = some (.int .i64 (IntKind.i64.wrap ((BitVec.ofInt 64 a &&& BitVec.ofInt 64 b).toNat : Int))) from rfl, BitVec.toNat_and, AZi h1 (by omega), AZi h3 (by omega)]
 have := Nat.and_le_left (n := a.toNat) (m := b.toNat)
 rw [AvE (by omega) (by omega)]
theorem A2Y (h1 : 0 ≤ a) (h2 : a ≤ 9223372036854775807) (h3 : 0 ≤ b) (h4 : b ≤ 9223372036854775807) : AvQ t .or (.int .i64 a) (.int .i64 b) = some (.int .i64 ((a.toNat ||| b.toNat : Nat) : Int)) := by
 rw [show AvQ t .or (.int .i64 a) (.int .i64 b) = some (.int .i64 (IntKind.i64.wrap ((BitVec.ofInt 64 a ||| BitVec.ofInt 64 b).toNat : Int))) from rfl, BitVec.toNat_or, AZi h1 (by omega), AZi h3 (by omega)]
 have := Nat.or_lt_two_pow (n := 63) (x := a.toNat) (y := b.toNat) (by omega) (by omega)
 rw [AvE (by omega) (by omega)]
theorem A0Q {k2 : IntKind} (h1 : 0 ≤ b) (h2 : b ≤ 63) (h3 : 0 ≤ a * 2 ^ b.toNat) (h4 : a * 2 ^ b.toNat ≤ 9223372036854775807) : AvQ t .shl (.int .i64 a) (.int k2 b) = some (.int .i64 (a * 2 ^ b.toNat)) := by
 have e : binOp .shl t (.int .i64 a) (.int k2 b) = pure (.int .i64 (a * 2 ^ b.toNat)) := by
  show Op.shift .shl .i64 a k2 b = _
  unfold Op.shift
  rw [if_neg (by omega)]
  have hm : min b.toNat IntKind.i64.bits = b.toNat := by
   have : IntKind.i64.bits = 64 := rfl
   omega
  simp only [hm]
  rw [AvE (by omega) h4]
 unfold AvQ; rw [e]; rfl
theorem A0W {k2 : IntKind} (h1 : 0 ≤ b) (h2 : b ≤ 63) (h3 : 0 ≤ a) : AvQ t .shr (.int .i64 a) (.int k2 b) = some (.int .i64 (a / 2 ^ b.toNat)) := by
 have e : binOp .shr t (.int .i64 a) (.int k2 b) = pure (.int .i64 (a / 2 ^ b.toNat)) := by
  show Op.shift .shr .i64 a k2 b = _
  unfold Op.shift
  rw [if_neg (by omega)]
  have hm : min b.toNat IntKind.i64.bits = b.toNat := by
   have : IntKind.i64.bits = 64 := rfl
   omega
  simp only [hm]
  rw [Int.fdiv_eq_ediv_of_nonneg _ (by exact Int.le_of_lt (Int.pow_pos (by omega)))]
 unfold AvQ; rw [e]; rfl
theorem AZ0 (h1 : 0 ≤ a) (h2 : b ≠ 0) : AvQ t .rem (.int k a) (.int k b) = some (.int k (a % b)) := by
 have e : binOp .rem t (.int k a) (.int k b) = pure (.int k (a % b)) := by
  unfold binOp
  simp only [ne_eq, not_true_eq_false, if_false, Op.intDiv, h2, Int.tmod_eq_emod_of_nonneg h1]
 unfold AvQ; rw [e]; rfl
theorem A08 (h1 : 0 ≤ a) (h2 : 0 < b) (h3 : a ≤ 9223372036854775807) : AvQ t .quo (.int .i64 a) (.int .i64 b) = some (.int .i64 (a / b)) := by
 have e : binOp .quo t (.int .i64 a) (.int .i64 b) = pure (.int .i64 (a / b)) := by
  unfold binOp
  simp only [ne_eq, not_true_eq_false, if_false, Op.intDiv, show ¬ b = 0 from by omega, Int.tdiv_eq_ediv_of_nonneg h1]
  have h4 : a / b ≤ a := Int.ediv_le_self _ h1
  have h5 : 0 ≤ a / b := Int.ediv_nonneg h1 (by omega)
  rw [AvE (by omega) (by omega)]
 unfold AvQ; rw [e]; rfl
theorem ATG {x y : UInt8} : AvQ t .xor (.int .u8 (x.toNat : Int)) (.int .u8 (y.toNat : Int)) = some (.int .u8 ((x ^^^ y).toNat : Int)) := by
 rw [show AvQ t .xor (.int .u8 (x.toNat : Int)) (.int .u8 (y.toNat : Int)) = some (.int .u8 (IntKind.u8.wrap ((BitVec.ofInt 8 (x.toNat : Int) ^^^ BitVec.ofInt 8 (y.toNat : Int)).toNat : Int))) from rfl]
 rw [BitVec.ofInt_natCast, BitVec.ofInt_natCast, UInt8.toNat_xor, BitVec.toNat_xor, BitVec.toNat_ofNat, BitVec.toNat_ofNat, Nat.mod_eq_of_lt x.toNat_lt, Nat.mod_eq_of_lt y.toNat_lt]
 have := Nat.xor_lt_two_pow (n := 8) x.toNat_lt y.toNat_lt
 rw [IntKind.wrap_u8]; congr 2; omega
theorem ACA (l : List UInt8) : (str l).toList = l := by simp [str, ByteArray.toList_eq]
theorem AMj {l m : List UInt8} : (l == m) = decide (l = m) := by
 by_cases h : l = m <;> simp [h]
theorem A0I {l m : List UInt8} : AvQ t .eql (.string (str l)) (.string (str m)) = some (.bool (decide (l = m))) := by
 rw [show AvQ t .eql (.string (str l)) (.string (str m)) = some (.bool ((str l).toList == (str m).toList)) from rfl, ACA, ACA, AMj]
theorem A0x {l m : List UInt8} : AvQ t .neq (.string (str l)) (.string (str m)) = some (.bool (!decide (l = m))) := by
 rw [show AvQ t .neq (.string (str l)) (.string (str m)) = some (.bool (!((str l).toList == (str m).toList))) from rfl, ACA, ACA, AMj]
theorem A1Q {b : Bool} : unV .not (.bool b) = some (.bool (!b)) := AsB rfl
theorem ASl {u : Value} : AS7 (.int k a) u = true := by cases u <;> rfl
theorem ASj {s : ByteArray} {u : Value} : AS7 (.string s) u = true := by cases u <;> rfl

theorem ARS {v : Value} : AFV (TV.val v) = false := AsB rfl
theorem ASw  : AFV (TV.any) = false := AsB rfl
theorem AUW {k : Nat} {cs : List TV} : AFV (TV.sl k cs) = false := AsB rfl
theorem AUO {x : TV} : AFV (TV.fp x) = false := AsB rfl
theorem AUd {i : Nat} {v : Nat} {p : List (Nat × Nat)} : AFV (TV.op i v p) = false := AsB rfl
theorem AVw {k : Nat} {i : Nat} {v : Nat} {p : List (Nat × Nat)} {o : Nat} {n : Nat} {cp : Nat} : AFV (TV.os k i v p o n cp) = false := AsB rfl
theorem AS1 {cs : List TV} : AFV (TV.agg cs) = true := AsB rfl
theorem ARl {n : Nat} {k : Nat} {cs : List TV} : AFV (TV.arr n k cs) = true := AsB rfl
theorem ARZ {vs : List TV} : AFV (TV.tup vs) = false := AsB rfl
theorem ARJ {t : TypeId} {x : TV} : AFV (TV.ifc t x) = false := AsB rfl
theorem AWi {f : Fn} {a : List TV} {b : List TV} : AFV (TV.fn f a b) = false := AsB rfl
theorem AUm {i : Nat} {v : Nat} : AFV (TV.mp i v) = false := AsB rfl
theorem AVV {i : Nat} {v : Nat} : AFV (TV.yl i v) = false := AsB rfl
theorem AOW {v : Value} : At8 (TV.val v) = false := AsB rfl
theorem AOE  : At8 (TV.any) = false := AsB rfl
theorem AQn {k : Nat} {cs : List TV} : At8 (TV.sl k cs) = false := AsB rfl
theorem AQS {x : TV} : At8 (TV.fp x) = false := AsB rfl
theorem AQW {i : Nat} {v : Nat} {p : List (Nat × Nat)} : At8 (TV.op i v p) = false := AsB rfl
theorem AQ1 {k : Nat} {i : Nat} {v : Nat} {p : List (Nat × Nat)} {o : Nat} {n : Nat} {cp : Nat} : At8 (TV.os k i v p o n cp) = false := AsB rfl
theorem AOk {cs : List TV} : At8 (TV.agg cs) = false := AsB rfl
theorem APO {n : Nat} {k : Nat} {cs : List TV} : At8 (TV.arr n k cs) = false := AsB rfl
theorem APv {vs : List TV} : At8 (TV.tup vs) = true := AsB rfl
theorem AOt {t : TypeId} {x : TV} : At8 (TV.ifc t x) = false := AsB rfl
theorem ARt {f : Fn} {a : List TV} {b : List TV} : At8 (TV.fn f a b) = false := AsB rfl
theorem AQ6 {i : Nat} {v : Nat} : At8 (TV.mp i v) = false := AsB rfl
theorem AS8 {i : Nat} {v : Nat} : At8 (TV.yl i v) = false := AsB rfl
theorem ARX  : lays (TV.any) = false := AsB rfl
theorem AUT {k : Nat} {cs : List TV} : lays (TV.sl k cs) = true := AsB rfl
theorem AVj {x : TV} : lays (TV.fp x) = true := AsB rfl
theorem AT9 {i : Nat} {v : Nat} {p : List (Nat × Nat)} : lays (TV.op i v p) = true := AsB rfl
theorem AVe {k : Nat} {i : Nat} {v : Nat} {p : List (Nat × Nat)} {o : Nat} {n : Nat} {cp : Nat} : lays (TV.os k i v p o n cp) = true := AsB rfl
theorem AQM {cs : List TV} : lays (TV.agg cs) = true := AsB rfl
theorem AQi {n : Nat} {k : Nat} {cs : List TV} : lays (TV.arr n k cs) = true := AsB rfl
theorem ASG {vs : List TV} : lays (TV.tup vs) = false := AsB rfl
theorem AR6 {t : TypeId} {x : TV} : lays (TV.ifc t x) = true := AsB rfl
theorem AUp {f : Fn} {a : List TV} {b : List TV} : lays (TV.fn f a b) = true := AsB rfl
theorem AT4 {i : Nat} {v : Nat} : lays (TV.mp i v) = true := AsB rfl
theorem AVA {i : Nat} {v : Nat} : lays (TV.yl i v) = true := AsB rfl
theorem AOA {v : Value} : AvI (TV.val v) = true := AsB rfl
theorem APw  : AvI (TV.any) = true := AsB rfl
theorem ATe {k : Nat} {cs : List TV} : AvI (TV.sl k cs) = true := AsB rfl
theorem ARW {x : TV} : AvI (TV.fp x) = true := AsB rfl
theorem ARA {i : Nat} {v : Nat} {p : List (Nat × Nat)} : AvI (TV.op i v p) = false := AsB rfl
theorem ATk {k : Nat} {i : Nat} {v : Nat} {p : List (Nat × Nat)} {o : Nat} {n : Nat} {cp : Nat} : AvI (TV.os k i v p o n cp) = false := AsB rfl
theorem ANH {n : Nat} {k : Nat} {cs : List TV} : AvI (TV.arr n k cs) = true := AsB rfl
theorem ASV {i : Nat} {v : Nat} : AvI (TV.mp i v) = false := AsB rfl
theorem AQx {i : Nat} {v : Nat} : AvI (TV.yl i v) = false := AsB rfl
theorem AOO {v : Value} : AsU (TV.val v) = 1 := AsB rfl
theorem APd  : AsU (TV.any) = 1 := AsB rfl
theorem AQq {k : Nat} {cs : List TV} : AsU (TV.sl k cs) = 1 := AsB rfl
theorem ASF {x : TV} : AsU (TV.fp x) = 1 := AsB rfl
theorem ARc {i : Nat} {v : Nat} {p : List (Nat × Nat)} : AsU (TV.op i v p) = 1 := AsB rfl
theorem ATA {k : Nat} {i : Nat} {v : Nat} {p : List (Nat × Nat)} {o : Nat} {n : Nat} {cp : Nat} : AsU (TV.os k i v p o n cp) = 1 := AsB rfl
theorem AOv {vs : List TV} : AsU (TV.tup vs) = 1 := AsB rfl
theorem AO6 {t : TypeId} {x : TV} : AsU (TV.ifc t x) = 1 := AsB rfl
theorem ASc {f : Fn} {a : List TV} {b : List TV} : AsU (TV.fn f a b) = 1 := AsB rfl
theorem AQ5 {i : Nat} {v : Nat} : AsU (TV.mp i v) = 1 := AsB rfl
theorem AQh {i : Nat} {v : Nat} : AsU (TV.yl i v) = 1 := AsB rfl
theorem AQe {cs : List TV} : AsU (.agg cs) = AtQ cs := by rw [AsU]
theorem APS {n k : Nat} {cs : List TV} : AsU (.arr n k cs) = n * k := by rw [AsU]
theorem ANl : AtQ [] = 0 := AsB rfl
theorem AKR {x : TV} {xs : List TV} : AtQ (x :: xs) = AsU x + AtQ xs := by rw [AtQ]
theorem AN4 {cs : List TV} : AvI (.agg cs) = Aur cs := by rw [AvI]
theorem AP8 {t : TypeId} {x : TV} : AvI (.ifc t x) = AvI x := by rw [AvI]
theorem ANV {cs : List TV} : AvI (.tup cs) = Aur cs := by rw [AvI]
theorem APT : Aur [] = true := AsB rfl
theorem ANn {x : TV} {xs : List TV} : Aur (x :: xs) = (AvI x && Aur xs) := by rw [Aur]
theorem AR0 {k : IntKind} {n : Int} : lays (.val (.int k n)) = true := AsB rfl
theorem AOC {b : Bool} : lays (.val (.bool b)) = true := AsB rfl
theorem ALu {s : ByteArray} : lays (.val (.string s)) = true := AsB rfl
theorem AKK {p : Option Addr} : lays (.val (.pointer p)) = true := AsB rfl
theorem ANf {p : Option Addr} {n c : Nat} : lays (.val (.slice p n c)) = true := AsB rfl
theorem AR5 {r : Option Nat} : lays (.val (.map r)) = true := AsB rfl
theorem ANN {f : Fn} {a b : Array Value} : lays (.val (.func f a b)) = true := AsB rfl
theorem AJ8 : lays (.val .nilFunc) = true := AsB rfl
theorem AJw : lays (.val .nilIface) = true := AsB rfl
theorem A24 {e : Env} {n : Nat} : (Opd.t n).ev e = get e n := AsB rfl
theorem A2J {e : Env} {n : Nat} : (Opd.g n).ev e = (match Ayg n with | some x => .fp x.tv | none => .val (.pointer (some ⟨n, 0, none⟩))) := AsB rfl
theorem A2G {e : Env} {v : Value} : (Opd.c v).ev e = .val v := AsB rfl
theorem AQN {x : TV} : Azr [] x = some x := AsB rfl
theorem ASb {i d : Nat} {p : List (Nat × Nat)} {cs : List TV} : Azr ((i, d) :: p) (.agg cs) = if AtQ (cs.take i) = d then (cs[i]?).bind (Azr p) else none := by rw [Azr]
theorem ATx {i d n k : Nat} {p : List (Nat × Nat)} {cs : List TV} : Azr ((i, d) :: p) (.arr n k cs) = if d = i * k then (cs[i]?).bind (Azr p) else none := by rw [Azr]
theorem AMz {x y : TV} : ADH [] x y = if AsU y = AsU x then some y else none := by rw [ADH]
theorem ART {i d : Nat} {p : List (Nat × Nat)} {cs : List TV} {y : TV} : ADH ((i, d) :: p) (.agg cs) y = if AtQ (cs.take i) = d then (cs[i]?).bind fun c => (ADH p c y).map fun c' => .agg (cs.set i c') else none := by rw [ADH]
theorem ATl {i d n k : Nat} {p : List (Nat × Nat)} {cs : List TV} {y : TV} : ADH ((i, d) :: p) (.arr n k cs) y = if d = i * k ∧ AvI y = true then (cs[i]?).bind fun c => (ADH p c y).map fun c' => .arr n k (cs.set i c') else none := by rw [ADH]
theorem ANg {e : Env} : forget [] e = [] := AsB rfl
theorem AK9 {e : Env} {s : Nat} {ks : List Nat} : forget (s :: ks) e = (s, get e s) :: forget ks e := AsB rfl
theorem APW {i : Nat} : AIC i [] = [] := AsB rfl
theorem AM3 {i : Nat} {x : TV} {xs : List TV} : AIC i (x :: xs) = (i, x) :: AIC (i + 1) xs := AsB rfl
theorem ATi {ag : Bool} {sz : Nat} {y : TV} : AH5 ag sz y = (AsU y = sz ∧ AFV y = ag) := AsB rfl
theorem AMJ {H : List Ob} {k k2 : Nat} {cs : List TV} : AtW H k (.sl k2 cs) = if k2 = k then some cs else none := AsB rfl
theorem ALq {H : List Ob} {k : Nat} {p : Option Addr} {n c : Nat} : AtW H k (.val (.slice p n c)) = if n = 0 ∧ p.isNone ∧ c = 0 then some [] else none := AsB rfl
theorem AME {H : List Ob} {k k2 i v o n cp : Nat} {p : List (Nat × Nat)} : AtW H k (.os k2 i v p o n cp) = if k2 = k then (match H[i]? with | some (.obj vr x) => if vr = v then Avz p k o n x else none | _ => none) else none := AsB rfl
theorem AKV {k k2 o n N : Nat} {cs : List TV} : Avz [] k o n (.arr N k2 cs) = if k2 = k ∧ o + n ≤ cs.length then some ((cs.drop o).take n) else none := AsB rfl
theorem AOh {e : Env} {zs : List TV} : Av0 e zs [] = zs := AsB rfl
theorem AMX {e : Env} {zs : List TV} {i : Nat} {x : Opd} {ps : List (Nat × Opd)} : Av0 e zs ((i, x) :: ps) = Av0 e (zs.set i (x.ev e)) ps := AsB rfl
theorem ALv {e : Env} {ks : List Nat} : Avw e ks [] = True := AsB rfl
theorem AJP {e : Env} {ks : List Nat} {i : Nat} {x : Opd} {ps : List (Nat × Opd)} : Avw e ks ((i, x) :: ps) = ((lays (x.ev e) = true ∧ ks[i]? = some (AsU (x.ev e))) ∧ Avw e ks ps) := AsB rfl
theorem AI8 {e : Env} : Atw e [] = True := AsB rfl
theorem AHG {e : Env} {i : Nat} {x : Opd} {ps : List (Nat × Opd)} : Atw e ((i, x) :: ps) = (AvI (x.ev e) = true ∧ Atw e ps) := AsB rfl
theorem AUq {t : Nat} {e : Env} {H : List Ob} {K : TV → Prop} : res [.tmp t] e H K = K (get e t) := AsB rfl
theorem ARV {a sz : Nat} {ag : Bool} {e : Env} {H : List Ob} {K : TV → Prop} : res [.cell a ag sz] e H K = pop (.load ag sz (.t a)) e H K := AsB rfl
theorem AOd {e : Env} {H : List Ob} {K : TV → Prop} : res [] e H K = ((∀ x ∈ ([] : List TV), At8 x = false) ∧ K (.tup [])) := AsB rfl
theorem AZJ {r s : VR} {e : Env} {H : List Ob} {K : TV → Prop} : res [r, s] e H K = AKM [r, s] e H fun xs => match xs with | [x] => K x | xs => (∀ x ∈ xs, At8 x = false) ∧ K (.tup xs) := AsB rfl
theorem ARI {r s : VR} {l : List VR} {e : Env} {H : List Ob} {K : TV → Prop} : res (r :: s :: l) e H K = AKM (r :: s :: l) e H fun xs => match xs with | [x] => K x | xs => (∀ x ∈ xs, At8 x = false) ∧ K (.tup xs) := AsB rfl
theorem ALW {e : Env} {H : List Ob} {K : List TV → Prop} : AKM [] e H K = K [] := AsB rfl
theorem ASt {t : Nat} {r : List VR} {e : Env} {H : List Ob} {K : List TV → Prop} : AKM (.tmp t :: r) e H K = AKM r e H fun xs => K (get e t :: xs) := AsB rfl
theorem AKx {a sz : Nat} {ag : Bool} {r : List VR} {e : Env} {H : List Ob} {K : List TV → Prop} : AKM (.cell a ag sz :: r) e H K = pop (.load ag sz (.t a)) e H fun x => AKM r e H fun xs => K (x :: xs) := AsB rfl
theorem AJ1 {vr : List VR} {R : TV → List Ob → Prop} {e : Env} {H : List Ob} : AJf vr R .ret e H = res vr e H fun x => R x H := AsB rfl
theorem AJ3 {vr : List VR} {R : TV → List Ob → Prop} {e : Env} {H : List Ob} : AJf vr R .nor e H = res vr e H fun x => R x H := AsB rfl
theorem ATr {H : List Ob} {g : TV → Option TV} {v : Value} : Aw9 H g (TV.val v) = some (.val v) := by rw [Aw9]
theorem AST {H : List Ob} {g : TV → Option TV}  : Aw9 H g (TV.any) = some (.any) := by rw [Aw9]
theorem AUP {H : List Ob} {g : TV → Option TV} {k : Nat} {cs : List TV} : Aw9 H g (TV.sl k cs) = some (.sl k cs) := by rw [Aw9]
theorem AWe {H : List Ob} {g : TV → Option TV} {x : TV} : Aw9 H g (TV.fp x) = some (.fp x) := by rw [Aw9]
theorem AQQ {H : List Ob} {g : TV → Option TV} {n : Nat} {k : Nat} {cs : List TV} : Aw9 H g (TV.arr n k cs) = some (.arr n k cs) := by rw [Aw9]
theorem AU0 {H : List Ob} {g : TV → Option TV} {k i v o n cp : Nat} {p : List (Nat × Nat)} : Aw9 H g (.os k i v p o n cp) = (match H[i]? with | some (.obj vr x) => if vr = v then (Avz p k o n x).map (.sl k) else none | _ => none) := by rw [Aw9]; rfl
theorem AUD {H : List Ob} {g : TV → Option TV} {i v : Nat} {p : List (Nat × Nat)} : Aw9 H g (.op i v p) = (match H[i]? with | some (.obj vr x) => if vr = v then (Azr p x).bind fun y => (g y).map .fp else none | _ => none) := by rw [Aw9]; rfl
theorem AQC {H : List Ob} {g : TV → Option TV} {cs : List TV} : Aw9 H g (.agg cs) = (ABb H g cs).map .agg := by rw [Aw9]
theorem ASn {H : List Ob} {g : TV → Option TV} {cs : List TV} : Aw9 H g (.tup cs) = (ABb H g cs).map .tup := by rw [Aw9]
theorem AQV {H : List Ob} {g : TV → Option TV} {t : TypeId} {x : TV} : Aw9 H g (.ifc t x) = (Aw9 H g x).map (.ifc t) := by rw [Aw9]
theorem AOS {H : List Ob} {g : TV → Option TV} : ABb H g [] = some [] := AsB rfl
theorem ANj {H : List Ob} {g : TV → Option TV} {x : TV} {xs : List TV} : ABb H g (x :: xs) = (match Aw9 H g x, ABb H g xs with | some x, some xs => some (x :: xs) | _, _ => none) := by rw [ABb]; rfl
theorem A0E {H : List Ob} {x : TV} : frz H x = Aw9 H (ANC H 2) x := AsB rfl
theorem AYr {H : List Ob} {x : List TV} : AZr H x = ABb H (ANC H 2) x := AsB rfl
theorem AXt {H : List Ob} {d : Nat} {x : TV} : ANC H (d + 1) x = Aw9 H (ANC H d) x := AsB rfl
theorem AVo {H : List Ob} {v : Value} : frs H (.val v) = some (.val v) := by rw [frs]
theorem AT2 {H : List Ob} : frs H .any = some .any := by rw [frs]
theorem AW7 {H : List Ob} {k i v o n cp : Nat} {p : List (Nat × Nat)} : frs H (.os k i v p o n cp) = (match H[i]? with | some (.obj vr x) => if vr = v then (match Avz p k o n x with | some cs => if ABM cs then some (.sl k cs) else none | none => none) else none | _ => none) := by rw [frs]; try rfl
theorem AVf {H : List Ob} {cs : List TV} : frs H (.agg cs) = (AKO H cs).map .agg := by rw [frs]
theorem AU5 {H : List Ob} {n k : Nat} {cs : List TV} : frs H (.arr n k cs) = if ABM cs then some (.arr n k cs) else none := by rw [frs]
theorem AUS {H : List Ob} {cs : List TV} : frs H (.tup cs) = (AKO H cs).map .tup := by rw [frs]
theorem AVv {H : List Ob} {t : TypeId} {x : TV} : frs H (.ifc t x) = (frs H x).map (.ifc t) := by rw [frs]
theorem ATf {H : List Ob} : AKO H [] = some [] := by rw [AKO]
theorem ANT {H : List Ob} {x : TV} {xs : List TV} : AKO H (x :: xs) = (match frs H x, AKO H xs with | some x, some xs => some (x :: xs) | _, _ => none) := by rw [AKO]; try rfl
theorem AP4 {l : List UInt8} : ABM (l.map by8) = true := by
 induction l with
 | nil => rfl
 | cons x l ih => rw [List.map_cons, ABM, ih]; rfl
theorem ASg {l : List (List UInt8)} : ABM (l.map ts) = true := by
 induction l with
 | nil => rfl
 | cons x l ih => rw [List.map_cons, ABM, ih]; rfl
theorem AQy {l : List UInt8} {i : Nat} {b : UInt8} : (l.map by8).set i (.val (.int .u8 (b.toNat : Int))) = (l.set i b).map by8 := by rw [List.map_set]
theorem ASH {l : List UInt8} : (l.map by8).map AF4 = l := by
 rw [List.map_map]
 have : (AF4 ∘ by8) = id := by funext b; simp
 rw [this, List.map_id]
theorem AQT {l : List UInt8} : (∀ y ∈ l.map by8, ALM y) = True := by simp
theorem ARD {a b : Nat} : ((a : Int) + (b : Int)) = ((a + b : Nat) : Int) := by omega
theorem AWh {a b : Nat} : ((a : Int) < (b : Int)) = (a < b) := by simp
theorem AV2 {a b : Nat} : ((a : Int) ≤ (b : Int)) = (a ≤ b) := by simp
theorem AUL {a b : Nat} : ((a : Int) = (b : Int)) = (a = b) := propext ⟨fun h => by omega, fun h => by omega⟩
theorem AVY {a : Nat} : (0 ≤ (a : Int)) = True := by simp

theorem AYR {d s : Nat} {x : TV} : get ((d, x) :: e) s = if d = s then x else get e s := AsB rfl
end
end Go.Proofs.YtmlompedpahkjaaGreatDoor


namespace Go.Proofs.YtmlompedpahkjaaGreatDoor
open Go.RowKit
variable [AtN]
set_option linter.unusedSectionVars false
set_option linter.unusedSimpArgs false
set_option linter.unusedVariables false
set_option autoImplicit false
universe u
set_option linter.defProp false

/-- (What it marks is not looked into by simp.) -/
class Tg {α : Sort u} (a : α) : Type where
instance tg {α : Sort u} (a : α) : Tg a := {}
def vif (t : Bool) (A B : Prop) [Tg A] [Tg B] : Prop := if t = true then A else B
def Atr {α : Type} (o : Option α) (K : α → Prop) [Tg K] : Prop := match o with | some y => K y | none => False
def Ava (A K : Prop) [Tg K] : Prop := A ∧ K
def Atn {α : Type} (x : α) (K : α → Prop) [Tg K] : Prop := K x
def vex (K : TV → Prop) [Tg K] : Prop := ∃ x, K x
def VC (P : Program) (f : FuncId) (xs : List TV) (H : List Ob) (K : TV → List Ob → Prop) [Tg K] : Prop := AsR P f xs H K
def VY (P : Program) (id ver : Nat) (xs : List TV) (H : List Ob) (K : TV → List Ob → Prop) [Tg K] : Prop := AG8 P id ver xs H K
theorem AGA {P : Program} {f : FuncId} {xs : List TV} {H : List Ob} {K : TV → List Ob → Prop} (h : AsR P f xs H K) : VC P f xs H K := h
section
variable {A A' B K : Prop} {α : Type}
@[congr] theorem AWV {t t' : Bool} (h : t = t') : vif t A B = vif t' A B := by rw [h]
@[congr] theorem AWt {o o' : Option α} {K : α → Prop} (h : o = o') : Atr o K = Atr o' K := by rw [h]
@[congr] theorem AWn (h : A = A') : Ava A K = Ava A' K := by rw [h]
@[congr] theorem AWs {x x' : α} {K : α → Prop} (h : x = x') : Atn x K = Atn x' K := by rw [h]
@[congr] theorem AYi {P : Program} {c : AsF} {Q : VEx → Env → List Ob → Prop} {e e' : Env} {H H' : List Ob} (he : e = e') (hH : H = H') : vwp P c Q e H = vwp P c Q e' H' := by rw [he, hH]
@[congr] theorem AZh {P : Program} {f : FuncId} {xs xs' : List TV} {H H' : List Ob} {K : TV → List Ob → Prop} (he : xs = xs') (hH : H = H') : VC P f xs H K = VC P f xs' H' K := by rw [he, hH]
@[congr] theorem AZE {P : Program} {id ver : Nat} {xs xs' : List TV} {H H' : List Ob} {K : TV → List Ob → Prop} (he : xs = xs') (hH : H = H') : VY P id ver xs H K = VY P id ver xs' H' K := by rw [he, hH]
theorem AQK : vif true A B = A := by simp [vif]
theorem AO0 : vif false A B = B := by simp [vif]
theorem AWy {p : Prop} [Decidable p] (h : p) : vif (decide p) A B = A := by simp [vif, h]
theorem AX9 {p : Prop} [Decidable p] (h : ¬ p) : vif (decide p) A B = B := by simp [vif, h]
theorem AUo {t : Bool} : vif (!t) A B = vif t B A := by cases t <;> simp [vif]
theorem AUz {s t : Bool} : vif (s && t) A B = vif s (vif t A B) B := by cases s <;> simp [vif]
theorem AXs {s t : Bool} : vif (s || t) A B = vif s A (vif t A B) := by cases s <;> simp [vif]
theorem AN6 {y : α} {K : α → Prop} : Atr (some y) K = K y := rfl
theorem ARe {β : Type} {f : α → β} {o : Option α} {K : β → Prop} : Atr (o.map f) K = Atr o fun y => K (f y) := by cases o <;> rfl
theorem AVN {cs : List α} {i : Nat} {K : α → Prop} (h : i < cs.length) : Atr cs[i]? K = K cs[i] := by rw [List.getElem?_eq_getElem h]; rfl
theorem AOH (h : A) : Ava A K = K := by simp [Ava, h]
theorem AX3 : Ava True K = K := by simp [Ava]
theorem ATq : Ava (A ∧ B) K = Ava A (Ava B K) := by simp [Ava, and_assoc]
theorem AUf {x : α} {K : α → Prop} : Atn x K = K x := rfl
end

def Axs : Option Ob → Nat → Option TV
 | some (.obj v x), ver => if v = ver then some x else none
 | _, _ => none
theorem AQz {v : Nat} {x : TV} : Axs (some (.obj v x)) v = some x := by simp [Axs]
section
variable {H l : List Ob} {o : Ob} {n k : Nat}
theorem AXV (h : H.length = n) : (H ++ l)[n]? = l[0]? := by rw [List.getElem?_append_right (by omega), h, Nat.sub_self]
theorem AVy (h : H.length = n) : (H ++ l)[n + k]? = l[k]? := by rw [List.getElem?_append_right (by omega)]; congr 1; omega
theorem AYt (h : n < H.length) : (H ++ l)[n]? = H[n]? := List.getElem?_append_left h
theorem AWQ (h : n < H.length) : (H.set n o)[n]? = some o := by simp [h]
theorem AOg {m : Nat} (h : m ≠ n) : (H.set m o)[n]? = H[n]? := by rw [List.getElem?_set_ne h]
theorem AU6 (h : H.length = n) : (H ++ l).set n o = H ++ l.set 0 o := by rw [List.set_append_right _ _ (by omega), h, Nat.sub_self]
theorem ARg (h : H.length = n) : (H ++ l).set (n + k) o = H ++ l.set k o := by rw [List.set_append_right _ _ (by omega)]; congr 2; omega
theorem AVM (h : n < H.length) : (H ++ l).set n o = H.set n o ++ l := List.set_append_left _ _ h
end

section
variable {P : Program} {e : Env} {H : List Ob}
def ANK (c a b : TV) (K : TV → Prop) [Tg K] : Prop := match c with | .val (.bool t) => K (if t then a else b) | _ => False
def AZm (t : TypeId) (op : BinOp) (x y : TV) (K : TV → Prop) [Tg K] : Prop := match x, y with
  | .val u, .val v => AS7 u v = true ∧ (match AvQ t op u v with | some r => K (.val r) | none => False)
  | _, _ => False
def Pun (op : UnOp) (x : TV) (K : TV → Prop) [Tg K] : Prop := match x with
  | .val u => (match unV op u with | some r => K (.val r) | none => False)
  | _ => False
def ATC (k : IntKind) (x : TV) (K : TV → Prop) [Tg K] : Prop := match x with
  | .val (.int _ n) => K (.val (.int k (k.wrap n)))
  | _ => False
def AZq (x : TV) (K : TV → Prop) [Tg K] : Prop := match x with
  | .val (.string s) => K (.val (.string s))
  | _ => False
def AZn (x : Option (List TV)) (K : TV → Prop) [Tg K] : Prop := match x with
  | some cs => (∀ y ∈ cs, ALM y) ∧ K (.val (.string (str (cs.map AF4))))
  | none => False
def AK0 (H : List Ob) (ag : Bool) (sz : Nat) (x : TV) (K : TV → Prop) [Tg K] : Prop := match x with
  | .fp y => AH5 ag sz y ∧ K y
  | .op id ver p => (match H[id]? with
   | some (.obj v x) => v = ver ∧ (match Azr p x with | some y => AH5 ag sz y ∧ K y | none => False)
   | _ => False)
  | _ => False
def AFL (i off : Nat) (x : TV) (K : TV → Prop) [Tg K] : Prop := match x with
  | .op id ver p => K (.op id ver (p ++ [(i, off)]))
  | .fp (.agg cs) => AtQ (cs.take i) = off ∧ (match cs[i]? with | some y => K (.fp y) | none => False)
  | _ => False
def AKi (ag : Bool) (sz i off : Nat) (x : TV) (K : TV → Prop) [Tg K] : Prop := match x with
  | .agg cs => AtQ (cs.take i) = off ∧ (match cs[i]? with | some y => AH5 ag sz y ∧ K y | none => False)
  | _ => False
def ANy (k : Nat) (x i : TV) (K : TV → Prop) [Tg K] : Prop := match x, i with
  | .sl k' cs, .val (.int _ j) => k' = k ∧ 0 ≤ j ∧ (match cs[j.toNat]? with | some y => K (.fp y) | none => False)
  | .os k' id ver p off n cp, .val (.int _ j) => k' = k ∧ 0 ≤ j ∧ j < n ∧ K (.op id ver (p ++ [(off + j.toNat, (off + j.toNat) * k)]))
  | _, _ => False
def AIi (n k : Nat) (x i : TV) (K : TV → Prop) [Tg K] : Prop := match x, i with
  | .fp (.arr n' k' cs), .val (.int _ j) => k' = k ∧ n' = n ∧ 0 ≤ j ∧ (match cs[j.toNat]? with | some y => K (.fp y) | none => False)
  | .op id ver p, .val (.int _ j) => 0 ≤ j ∧ j < n ∧ K (.op id ver (p ++ [(j.toNat, j.toNat * k)]))
  | _, _ => False
def AXj (ag : Bool) (n k : Nat) (x i : TV) (K : TV → Prop) [Tg K] : Prop := match x, i with
  | .arr n' k' cs, .val (.int _ j) => k' = k ∧ n' = n ∧ 0 ≤ j ∧ (match cs[j.toNat]? with | some y => AH5 ag k y ∧ K y | none => False)
  | _, _ => False
def AQc (x i : TV) (K : TV → Prop) [Tg K] : Prop := match x, i with
  | .val (.string s), .val (.int _ j) => 0 ≤ j ∧ (match (bl s)[j.toNat]? with | some b => K (by8 b) | none => False)
  | _, _ => False
def AXA (i : Nat) (x : TV) (K : TV → Prop) [Tg K] : Prop := match x with
  | .tup xs => (match xs[i]? with | some y => K y | none => False)
  | _ => False
def AQ2 (x : TV) (K : TV → Prop) [Tg K] : Prop := match x with
  | .val (.string s) => K (.val (.int .i64 (bl s).length))
  | _ => False
def AM2 (x : TV) (K : TV → Prop) [Tg K] : Prop := match x with
  | .val (.slice _ n _) => K (.val (.int .i64 n))
  | .sl _ cs => K (.val (.int .i64 cs.length))
  | .os _ _ _ _ _ n _ => K (.val (.int .i64 n))
  | _ => False
def AJt (lo hi : Option TV) (len lim : Nat) (K : Nat → Nat → Prop) [Tg K] : Prop :=
 match (match lo with | none => some 0 | some x => (match x with | .val (.int _ i) => some i | _ => none)), (match hi with | none => some (len : Int) | some x => (match x with | .val (.int _ i) => some i | _ => none)) with
 | some l, some h => (0 ≤ l ∧ l ≤ h ∧ h ≤ lim) ∧ K l.toNat h.toNat
 | _, _ => False
def evO (e : Env) : Option Opd → Option TV
 | none => none
 | some x => some (x.ev e)
theorem AQ4 : evO e none = none := AsB rfl
theorem AR3 {x : Opd} : evO e (some x) = some (x.ev e) := AsB rfl
theorem APH {lo hi : Option Opd} {len lim : Nat} {K : Nat → Nat → Prop} : bnd e lo hi len lim K = AJt (evO e lo) (evO e hi) len lim K := by
 cases lo <;> cases hi <;> rfl
def AZD (x : TV) (lo hi : Option TV) (K : TV → Prop) [Tg K] : Prop := match x with
  | .val (.string s) => AJt lo hi (bl s).length (bl s).length fun l h => K (.val (.string (str (((bl s).drop l).take (h - l)))))
  | _ => False
def AWp (k : Nat) (x : TV) (lo hi : Option TV) (K : TV → Prop) [Tg K] : Prop := match x with
  | .sl k' cs => k' = k ∧ AJt lo hi cs.length cs.length fun l h => K (.sl k ((cs.drop l).take (h - l)))
  | .os k' id ver p off n cp => k' = k ∧ AJt lo hi n cp fun l h => K (.os k id ver p (off + l) (h - l) (cp - l))
  | .val (.slice ad 0 0) => AJt lo hi 0 0 fun l h => K (.val (.slice ad 0 0))
  | _ => False
def AWr (H : List Ob) (n k : Nat) (x : TV) (lo hi : Option TV) (K : TV → Prop) [Tg K] : Prop := match x with
  | .fp (.arr n' k' cs) => k' = k ∧ n' = n ∧ n ≤ 9223372036854775807 ∧ AJt lo hi n n fun l h => K (.sl k ((cs.drop l).take (h - l)))
  | .op id ver p => (match H[id]? with
   | some (.obj v x) => v = ver ∧ n ≤ 9223372036854775807 ∧ (match Azr p x with | some (.arr n' k' cs) => k' = k ∧ n' = n ∧ AJt lo hi n n fun l h => K (.os k id ver p l (h - l) (n - l)) | _ => False)
   | _ => False)
  | _ => False
def AL2 (t : TypeId) (x : TV) (K : TV → Prop) [Tg K] : Prop := lays x = true ∧ K (.ifc t x)
def AXx (f : Fn) (first caps : List TV) (K : TV → Prop) [Tg K] : Prop := (∀ x ∈ first ++ caps, At8 x = false) ∧ K (.fn f first caps)
def AKe (x : TV) (K : TV → Prop) [Tg K] : Prop := match x with
  | .op id ver p => K (.op id ver p)
  | .fp y => K (.fp y)
  | .fn (.func f) a b => K (.fn (.func f) a b)
  | .ifc t y => K (.ifc t y)
  | .val (.func (.func f) a b) => K (.val (.func (.func f) a b))
  | _ => False
def AZj (x y : TV) (K : TV → Prop) [Tg K] : Prop := match x, y with
  | .val (.int k a), .val (.int _ b) => K (.val (.int k (if b < a then b else a)))
  | _, _ => False
def AZz (x y : TV) (K : TV → Prop) [Tg K] : Prop := match x, y with
  | .val (.int k a), .val (.int _ b) => K (.val (.int k (if b > a then b else a)))
  | _, _ => False
def AGV (g : GOp) (H : List Ob) (xs : List TV) (K : TV → Prop) [Tg K] : Prop := match gev g H xs with
  | some y => K y
  | none => False
def AY5 (neg : Bool) (x y : TV) (K : TV → Prop) [Tg K] : Prop := match x, y with
  | .val (.bool a), .val (.bool b) => K (.val (.bool (xor neg (a == b))))
  | _, _ => False
def AXi (neg : Bool) (x y : Option Bool) (K : TV → Prop) [Tg K] : Prop := match x, y with
  | some true, some b => K (.val (.bool (xor neg b)))
  | some false, some true => K (.val (.bool (xor neg false)))
  | _, _ => False
def AKH (H : List Ob) (sz : Nat) (x v : TV) (K : TV → List Ob → Prop) [Tg K] : Prop := (lays v = true ∧ AsU v = sz) ∧ (match x with
  | .op id ver p => (match H[id]? with
   | some (.obj vr y) => vr = ver ∧ (match ADH p y v with | some y' => K .any (H.set id (.obj ver y')) | none => False)
   | _ => False)
  | _ => False)
def AZB (H : List Ob) (k bytes : Nat) (z l c : TV) (K : TV → List Ob → Prop) [Tg K] : Prop := match l, c with
  | .val (.int _ l), .val (.int _ c) => (0 ≤ l ∧ l ≤ c ∧ (bytes : Int) * c ≤ 281474976710656 ∧ c ≤ 9223372036854775807) ∧ K (.os k H.length 0 [] 0 l.toNat c.toNat) (H ++ [.obj 0 (.arr c.toNat k (List.replicate c.toNat z))])
  | _, _ => False
def AVp (k bytes : Nat) (et : TypeId) (x : TV) (y : Option (List TV)) (H : List Ob) (K : TV → List Ob → Prop) [Tg K] : Prop := match y with
  | some ys => AJW k bytes et x ys H K
  | none => False
def ALr (k : Nat) (x : TV) (y : Option (List TV)) (H : List Ob) (K : TV → List Ob → Prop) [Tg K] : Prop := match y with
  | some ys => ADo k x ys H K
  | none => False
def ASh (et : TypeId) (x y : TV) (H : List Ob) (K : TV → List Ob → Prop) [Tg K] : Prop := match y with
  | .val (.string s) => AJW 1 1 et x ((bl s).map by8) H K
  | _ => False
def AL8 (x y : TV) (H : List Ob) (K : TV → List Ob → Prop) [Tg K] : Prop := match y with
  | .val (.string s) => ADo 1 x ((bl s).map by8) H K
  | _ => False
def AR1 (P : Program) (f : FuncId) (x : Option (Nat × Nat × List UInt8)) (H : List Ob) (K : TV → List Ob → Prop) [Tg K] : Prop := A0z P f ∧ (match x with
  | some (j, v, l) => l.length ≤ 9223372036854775807 ∧ K (.val (.string (str l))) (H.set j (.gone v))
  | none => False)
def AZA (H : List Ob) (x : TV) (K : TV → List Ob → Prop) [Tg K] : Prop := match x with
  | .val (.string s) => (bl s).length ≤ 9223372036854775807 ∧ K (.os 1 H.length 0 [] 0 (bl s).length (bl s).length) (H ++ [.obj 0 (.arr (bl s).length 1 ((bl s).map by8))])
  | _ => False
def ATo (k bytes : Nat) (z x n : TV) (H : List Ob) (K : TV → List Ob → Prop) [Tg K] : Prop := match x, n with
  | .val (.slice none 0 0), .val (.int .i64 j) => (0 ≤ j ∧ (bytes : Int) * j ≤ 140737488355328 ∧ j ≤ 9223372036854775807) ∧ K (.os k H.length 0 [] 0 j.toNat j.toNat) (H ++ [.obj 0 (.arr j.toNat k (List.replicate j.toNat z))])
  | _, _ => False
def ALx (H : List Ob) (K : TV → List Ob → Prop) [Tg K] : Prop := K (.val (.bool true)) H ∧ K (.val (.bool false)) H
def ATE (neg : Bool) (x : TV) (H : List Ob) (K : TV → List Ob → Prop) [Tg K] : Prop := match x with
  | .val (.slice a _ _) => K (.val (.bool (xor neg a.isNone))) H
  | .sl _ cs => (cs = [] → K (.val (.bool true)) H ∧ K (.val (.bool false)) H) ∧ (cs ≠ [] → K (.val (.bool neg)) H)
  | .os _ _ _ _ _ n _ => (n = 0 → K (.val (.bool true)) H ∧ K (.val (.bool false)) H) ∧ (n ≠ 0 → K (.val (.bool neg)) H)
  | _ => False
def AIe (P : Program) (x : TV) (args : List TV) (H : List Ob) (K : TV → List Ob → Prop) [Tg K] : Prop := match x with
  | .fn (.func f) first caps => AGI P f = true ∧ AsR P f (first ++ args ++ caps) H K
  | .val (.func (.func f) xs ys) => (xs.isEmpty && ys.isEmpty) = true ∧ AGI P f = true ∧ AsR P f args H K
  | .yl id ver => AG8 P id ver args H K
  | _ => False
def AWO (P : Program) (nm : String) (x : TV) (args : List TV) (H : List Ob) (K : TV → List Ob → Prop) [Tg K] : Prop := AZs P nm H x fun f r => AsR P f (r :: args) H K
def AWq (P : Program) (q : Option (FuncId × Option (Bool × Nat))) (r : TV) (args : List TV) (H : List Ob) (K : TV → List Ob → Prop) [Tg K] : Prop := match q with
 | some (f, none) => AGI P f = true ∧ AsR P f (r :: args) H K
 | some (f, some (ag, sz)) => AGI P f = true ∧ ldT H ag sz r fun y => AsR P f (y :: args) H K
 | none => False
def Gd (q : Option Bool) (b : Bool) (A B : Prop) [Tg A] [Tg B] : Prop := match q with
 | some t => if t = b then A else B
 | none => B
def evs (e : Env) (xs : List Opd) : List TV := xs.map (·.ev e)
theorem AUU : evs e [] = [] := AsB rfl
theorem AQo {x : Opd} {xs : List Opd} : evs e (x :: xs) = x.ev e :: evs e xs := AsB rfl
def AC0 (xs : List TV) : Prop := ∀ x ∈ xs, At8 x = false
theorem AP5 : AC0 [] = True := by simp [AC0]
theorem ANq {x : TV} {xs : List TV} : AC0 (x :: xs) = (At8 x = false ∧ AC0 xs) := by simp [AC0]
theorem AA6 {args : List Opd} : (∀ x ∈ args, At8 (x.ev e) = false) = AC0 (evs e args) := by simp [AC0, evs]

section
variable {c c' a a' b b' x x' y y' : TV} {K : TV → Prop} {KK : TV → List Ob → Prop} {lo lo' hi hi' : Option TV} {ox ox' : Option (List TV)} {q q' q2 q2' : Option Bool} {xs xs' : List TV} {A B : Prop} {H' : List Ob}
@[congr] theorem AZF (h1 : c = c') (h2 : a = a') (h3 : b = b') : ANK c a b K = ANK c' a' b' K := by rw [h1, h2, h3]
@[congr] theorem A11 {t : TypeId} {op : BinOp} (h1 : x = x') (h2 : y = y') : AZm t op x y K = AZm t op x' y' K := by rw [h1, h2]
@[congr] theorem A2X {op : UnOp} (h1 : x = x') : Pun op x K = Pun op x' K := by rw [h1]
@[congr] theorem A0J {k : IntKind} (h1 : x = x') : ATC k x K = ATC k x' K := by rw [h1]
@[congr] theorem A2k (h1 : x = x') : AZq x K = AZq x' K := by rw [h1]
@[congr] theorem A2e (h1 : ox = ox') : AZn ox K = AZn ox' K := by rw [h1]
@[congr] theorem A0a {ag : Bool} {sz : Nat} (h1 : x = x') (h2 : H = H') : AK0 H ag sz x K = AK0 H' ag sz x' K := by rw [h1, h2]
@[congr] theorem AYT {i o : Nat} (h1 : x = x') : AFL i o x K = AFL i o x' K := by rw [h1]
@[congr] theorem AZp {ag : Bool} {sz i o : Nat} (h1 : x = x') : AKi ag sz i o x K = AKi ag sz i o x' K := by rw [h1]
@[congr] theorem A1L {k : Nat} (h1 : x = x') (h2 : y = y') : ANy k x y K = ANy k x' y' K := by rw [h1, h2]
@[congr] theorem AZC {n k : Nat} (h1 : x = x') (h2 : y = y') : AIi n k x y K = AIi n k x' y' K := by rw [h1, h2]
@[congr] theorem A12 {ag : Bool} {n k : Nat} (h1 : x = x') (h2 : y = y') : AXj ag n k x y K = AXj ag n k x' y' K := by rw [h1, h2]
@[congr] theorem A1d (h1 : x = x') (h2 : y = y') : AQc x y K = AQc x' y' K := by rw [h1, h2]
@[congr] theorem A2p {i : Nat} (h1 : x = x') : AXA i x K = AXA i x' K := by rw [h1]
@[congr] theorem A0t (h1 : x = x') : AQ2 x K = AQ2 x' K := by rw [h1]
@[congr] theorem A1f (h1 : x = x') : AM2 x K = AM2 x' K := by rw [h1]
@[congr] theorem A1Z {n m : Nat} {K : Nat → Nat → Prop} {n' m' : Nat} (h1 : lo = lo') (h2 : hi = hi') (h3 : n = n') (h4 : m = m') : AJt lo hi n m K = AJt lo' hi' n' m' K := by rw [h1, h2, h3, h4]
@[congr] theorem A14 (h1 : x = x') (h2 : lo = lo') (h3 : hi = hi') : AZD x lo hi K = AZD x' lo' hi' K := by rw [h1, h2, h3]
@[congr] theorem A2l {k : Nat} (h1 : x = x') (h2 : lo = lo') (h3 : hi = hi') : AWp k x lo hi K = AWp k x' lo' hi' K := by rw [h1, h2, h3]
@[congr] theorem A2u {n k : Nat} (h0 : H = H') (h1 : x = x') (h2 : lo = lo') (h3 : hi = hi') : AWr H n k x lo hi K = AWr H' n k x' lo' hi' K := by rw [h0, h1, h2, h3]
@[congr] theorem AZt {t : TypeId} (h1 : x = x') : AL2 t x K = AL2 t x' K := by rw [h1]
@[congr] theorem A2c {f : Fn} {ys ys' : List TV} (h1 : xs = xs') (h2 : ys = ys') : AXx f xs ys K = AXx f xs' ys' K := by rw [h1, h2]
@[congr] theorem A0p (h1 : x = x') : AKe x K = AKe x' K := by rw [h1]
@[congr] theorem A2y (h1 : x = x') (h2 : y = y') : AZj x y K = AZj x' y' K := by rw [h1, h2]
@[congr] theorem A2o (h1 : x = x') (h2 : y = y') : AZz x y K = AZz x' y' K := by rw [h1, h2]
@[congr] theorem A2C {g : GOp} {xs xs' : List TV} (h1 : H = H') (h2 : xs = xs') : AGV g H xs K = AGV g H' xs' K := by rw [h1, h2]
@[congr] theorem A17 {n : Bool} (h1 : x = x') (h2 : y = y') : AY5 n x y K = AY5 n x' y' K := by rw [h1, h2]
@[congr] theorem A15 {n : Bool} (h1 : q = q') (h2 : q2 = q2') : AXi n q q2 K = AXi n q' q2' K := by rw [h1, h2]
@[congr] theorem AZu {sz : Nat} (h0 : H = H') (h1 : x = x') (h2 : y = y') : AKH H sz x y KK = AKH H' sz x' y' KK := by rw [h0, h1, h2]
@[congr] theorem A10 {k n : Nat} {z : TV} (h0 : H = H') (h1 : x = x') (h2 : y = y') : AZB H k n z x y KK = AZB H' k n z x' y' KK := by rw [h0, h1, h2]
@[congr] theorem A1X {k n : Nat} {et : TypeId} (h0 : H = H') (h1 : x = x') (h2 : ox = ox') : AVp k n et x ox H KK = AVp k n et x' ox' H' KK := by rw [h0, h1, h2]
@[congr] theorem A1b {k : Nat} (h0 : H = H') (h1 : x = x') (h2 : ox = ox') : ALr k x ox H KK = ALr k x' ox' H' KK := by rw [h0, h1, h2]
@[congr] theorem A0e {et : TypeId} (h0 : H = H') (h1 : x = x') (h2 : y = y') : ASh et x y H KK = ASh et x' y' H' KK := by rw [h0, h1, h2]
@[congr] theorem AZw (h0 : H = H') (h1 : x = x') (h2 : y = y') : AL8 x y H KK = AL8 x' y' H' KK := by rw [h0, h1, h2]
@[congr] theorem A1E {P : Program} {f : FuncId} {r r' : Option (Nat × Nat × List UInt8)} (h0 : H = H') (h1 : r = r') : AR1 P f r H KK = AR1 P f r' H' KK := by rw [h0, h1]
@[congr] theorem A1D {k n : Nat} {z : TV} (h0 : H = H') (h1 : x = x') (h2 : y = y') : ATo k n z x y H KK = ATo k n z x' y' H' KK := by rw [h0, h1, h2]
@[congr] theorem A2t {n : Bool} (h0 : H = H') (h1 : x = x') : ATE n x H KK = ATE n x' H' KK := by rw [h0, h1]
@[congr] theorem A1o (h0 : H = H') : ALx H KK = ALx H' KK := by rw [h0]
@[congr] theorem A2s (h0 : H = H') (h1 : x = x') : AZA H x KK = AZA H' x' KK := by rw [h0, h1]
@[congr] theorem AZx (h0 : H = H') (h1 : x = x') (h2 : xs = xs') : AIe P x xs H KK = AIe P x' xs' H' KK := by rw [h0, h1, h2]
@[congr] theorem A2a {P : Program} {nm : String} (h0 : H = H') (h1 : x = x') (h2 : xs = xs') : AWO P nm x xs H KK = AWO P nm x' xs' H' KK := by rw [h0, h1, h2]
@[congr] theorem A2r {P : Program} {g g' : Option (FuncId × Option (Bool × Nat))} (h : g = g') (h0 : H = H') (h1 : x = x') (h2 : xs = xs') : AWq P g x xs H KK = AWq P g' x' xs' H' KK := by rw [h, h0, h1, h2]
@[congr] theorem A28 {b : Bool} (h1 : q = q') : Gd q b A B = Gd q' b A B := by rw [h1]
end

section
variable {K : TV → Prop} {KK : TV → List Ob → Prop} {x y i a b c : Opd} {lo hi : Option Opd}
theorem AZZ : pop (.mov x) e H K = Atn (x.ev e) K := AsB rfl
theorem AWS : pop (.pick c a b) e H K = ANK (c.ev e) (a.ev e) (b.ev e) K := AsB rfl
theorem A1J {t : TypeId} {op : BinOp} : pop (.bin t op x y) e H K = AZm t op (x.ev e) (y.ev e) K := AsB rfl
theorem A2F {op : UnOp} : pop (.un op x) e H K = Pun op (x.ev e) K := AsB rfl
theorem AXC {k : IntKind} : pop (.conv k x) e H K = ATC k (x.ev e) K := AsB rfl
theorem A1O : pop (.s2s x) e H K = AZq (x.ev e) K := AsB rfl
theorem A05 : pop (.b2s x) e H K = AZn (AtW H 1 (x.ev e)) K := AsB rfl
theorem AW5 {ag : Bool} {sz : Nat} : pop (.load ag sz x) e H K = AK0 H ag sz (x.ev e) K := AsB rfl
theorem ASU {n o : Nat} : pop (.fieldA n o x) e H K = AFL n o (x.ev e) K := AsB rfl
theorem AUI {ag : Bool} {sz n o : Nat} : pop (.field ag sz n o x) e H K = AKi ag sz n o (x.ev e) K := AsB rfl
theorem AYZ {k : Nat} : pop (.idxA k x i) e H K = ANy k (x.ev e) (i.ev e) K := AsB rfl
theorem AVD {n k : Nat} : pop (.idxAA n k x i) e H K = AIi n k (x.ev e) (i.ev e) K := AsB rfl
theorem A01 {ag : Bool} {n k : Nat} : pop (.idx ag n k x i) e H K = AXj ag n k (x.ev e) (i.ev e) K := AsB rfl
theorem AX5 : pop (.idxS x i) e H K = AQc (x.ev e) (i.ev e) K := AsB rfl
theorem AZL {n : Nat} : pop (.ext n x) e H K = AXA n (x.ev e) K := AsB rfl
theorem AWM : pop (.lenS x) e H K = AQ2 (x.ev e) K := AsB rfl
theorem AYw : pop (.lenV x) e H K = AM2 (x.ev e) K := AsB rfl
theorem A1h : pop (.slS x lo hi) e H K = AZD (x.ev e) (evO e lo) (evO e hi) K := by
 show (match x.ev e with | .val (.string s) => bnd e lo hi (bl s).length (bl s).length fun l h => K (.val (.string (str (((bl s).drop l).take (h - l))))) | _ => False) = _
 simp only [APH]; rfl
theorem AZI {k : Nat} : pop (.slV k x lo hi) e H K = AWp k (x.ev e) (evO e lo) (evO e hi) K := by
 rw [A1q]; simp only [APH]; rfl
theorem A1F {n k : Nat} : pop (.slA n k x lo hi) e H K = AWr H n k (x.ev e) (evO e lo) (evO e hi) K := by
 rw [AZR]; simp only [APH]; rfl
theorem AVX {t : TypeId} : pop (.iface t x) e H K = AL2 t (x.ev e) K := AsB rfl
theorem AZH {f : Fn} {xs ys : List Opd} : pop (.mkf f xs ys) e H K = AXx f (evs e xs) (evs e ys) K := by
 rw [A06]; unfold AXx evs; rw [← List.map_append]
 refine congrArg (· ∧ _) (propext ⟨fun h y hy => ?_, fun h y hy => h _ (List.mem_map.2 ⟨y, hy, rfl⟩)⟩)
 obtain ⟨z, hz, rfl⟩ := List.mem_map.1 hy; exact h z hz
theorem AXB : pop (.nilc x) e H K = AKe (x.ev e) K := AsB rfl
theorem A1z : pop (.min x y) e H K = AZj (x.ev e) (y.ev e) K := AsB rfl
theorem A0m : pop (.max x y) e H K = AZz (x.ev e) (y.ev e) K := AsB rfl
theorem AZ5 {g : GOp} {xs : List Opd} : pop (.gen g xs) e H K = AGV g H (evs e xs) K := AsB rfl
theorem A0h {n : Bool} : pop (.eqB x y n) e H K = AY5 n (x.ev e) (y.ev e) K := AsB rfl
theorem A0v {kd : Nat} {n : Bool} : pop (.eqN kd x y n) e H K = AXi n (Avt kd (x.ev e)) (Avt kd (y.ev e)) K := AsB rfl
theorem AWd {zs : List TV} {szs : List Nat} {ps : List (Nat × Opd)} : pop (.build zs szs ps) e H K = Ava (Avw e szs ps) (Atn (TV.agg (Av0 e zs ps)) K) := AsB rfl
theorem ASe {n k : Nat} {zs : List TV} {ps : List (Nat × Opd)} : pop (.buildA n k zs ps) e H K = Ava (Avw e (List.replicate n k) ps) (Ava (Atw e ps) (Atn (TV.arr n k (Av0 e zs ps)) K)) := AsB rfl
theorem A1p {k n : Nat} {z : TV} {ps : List (Nat × Opd)} : pop (.bsl k n z ps) e H K = Ava (Avw e (List.replicate n k) ps) (Ava (Atw e ps ∧ n ≤ 1000) (Atn (TV.sl k (Av0 e (List.replicate n z) ps)) K)) := by
 show ((_ ∧ _ ∧ _) ∧ _) = _
 simp only [Ava, Atn, and_assoc]
theorem AT1 {z : TV} : sop P (.alloc z) e H KK = Atn (H.length) fun n => Atn (H ++ [.obj 0 z]) fun H' => KK (.op n 0 []) H' := AsB rfl
theorem ASW {z : TV} {t : TypeId} : sop P (.allocT z t) e H KK = Atn (H.length) fun n => Atn (AsU z) fun m => Atn (H ++ [.obj 0 z, .fact n 0 t m]) fun H' => KK (.op n 0 []) H' := AsB rfl
theorem AWH {t : TypeId} : sop P (.boxT x t) e H KK = Atn (x.ev e) fun v => Ava (lays v = true) (Atn (H.length) fun n => Atn (AsU v) fun m => Atn (H ++ [.obj 0 v, .fact n 0 t m]) fun H' => KK (.op n 0 []) H') := AsB rfl
theorem AWU {f : FuncId} : sop P (.bstr f x) e H KK = AR1 P f (ANA H (x.ev e)) H KK := AsB rfl
def ASY (x : TV) (H : List Ob) (K : TV → List Ob → Prop) [Tg K] : Prop := match x with
 | .val (.string s) => K (.op H.length 0 []) (H ++ [.sit (bl s) 0])
 | _ => False
@[congr] theorem AZ4 {x x' : TV} {H' : List Ob} (h1 : x = x') (h2 : H = H') : ASY x H KK = ASY x' H' KK := by rw [h1, h2]
theorem AWL : sop P (.rngS x) e H KK = ASY (x.ev e) H KK := AsB rfl
theorem AQR {s : ByteArray} : ASY (.val (.string s)) H KK = Atn H.length fun n => Atn (H ++ [.sit (bl s) 0]) fun H' => KK (.op n 0 []) H' := AsB rfl
def AN8 : Option Ob → Option (List UInt8 × Nat)
 | some (.sit s pos) => some (s, pos)
 | _ => none
theorem ARd {s : List UInt8} {pos : Nat} : AN8 (some (.sit s pos)) = some (s, pos) := AsB rfl
def AOP (x : TV) (H : List Ob) (K : TV → List Ob → Prop) [Tg K] : Prop := match x with
 | .op id 0 [] => (match H[id]? with
  | some (.sit s pos) => if pos < s.length then K (.tup [.val (.bool true), .val (.int .i64 (pos : Int)), .val (.int .i32 ((Utf8.decode (str s) pos).1 : Int))]) (H.set id (.sit s (pos + (Utf8.decode (str s) pos).2))) else K (.tup [.val (.bool false)]) H
  | _ => False)
 | _ => False
@[congr] theorem A1y {x x' : TV} {H' : List Ob} (h1 : x = x') (h2 : H = H') : AOP x H KK = AOP x' H' KK := by rw [h1, h2]
theorem AWJ : sop P (.nxtS x) e H KK = AOP (x.ev e) H KK := AsB rfl
theorem ARs {id : Nat} : AOP (.op id 0 []) H KK = Atr (AN8 H[id]?) fun p => vif (decide (p.2 < p.1.length))
  (Atn (H.set id (.sit p.1 (p.2 + (Utf8.decode (str p.1) p.2).2))) fun H' => KK (.tup [.val (.bool true), .val (.int .i64 (p.2 : Int)), .val (.int .i32 ((Utf8.decode (str p.1) p.2).1 : Int))]) H') (KK (.tup [.val (.bool false)]) H) := by
 unfold AOP
 cases h : H[id]? with
 | none => simp [AN8, Atr, h]
 | some o =>
  cases o with
  | sit s pos => simp only [h, AN8, Atr, Atn]; by_cases hp : pos < s.length <;> simp [vif, hp]
  | _ => simp [AN8, Atr, h]
theorem AZV : sop P (.box x) e H KK = Atn (x.ev e) fun v => Ava (lays v = true) (Atn (H.length) fun n => Atn (H ++ [.obj 0 v]) fun H' => KK (.op n 0 []) H') := AsB rfl
theorem ASz {k n : Nat} {z : TV} {ps : List (Nat × Opd)} : sop P (.bslice k n z ps) e H KK = Ava (Avw e (List.replicate n k) ps) (Ava (Atw e ps ∧ n ≤ 1000) (Atn H.length fun m => Atn (H ++ [.obj 0 (.arr n k (Av0 e (List.replicate n z) ps))]) fun H' => KK (.os k m 0 [] 0 n n) H')) := by
 rw [ARf]; simp only [Ava, Atn, and_assoc]
/-- Maps. -/
def AGF (kk : MK) : Option Ob → Option (List (List UInt8 × TV))
 | some (.mpo kk' es) => if kk' = kk then some es else none
 | _ => none
def AHy (kk : MK) : Option Ob → Option (List (List UInt8 × TV))
 | some (.mpo kk' es) => if kk' = kk then some es else none
 | some (.mpd kk' zs _) => if kk' = kk then some (zs.map (·.2)) else none
 | _ => none
theorem ARB {kk : MK} {es : List (List UInt8 × TV)} : AHy kk (some (.mpo kk es)) = some es := by simp [AHy]
theorem AUR {kk : MK} {zs : List (Nat × List UInt8 × TV)} {cl : Nat} : AHy kk (some (.mpd kk zs cl)) = some (zs.map (·.2)) := by simp [AHy]
def AK5 : Option Ob → Option (List (List UInt8 × TV))
 | some (.mpo _ es) => some es
 | some (.mpd _ zs _) => some (zs.map (·.2))
 | _ => none
theorem ASB {kk : MK} {es : List (List UInt8 × TV)} : AK5 (some (.mpo kk es)) = some es := by simp [AK5]
theorem AT0 {kk : MK} {zs : List (Nat × List UInt8 × TV)} {cl : Nat} : AK5 (some (.mpd kk zs cl)) = some (zs.map (·.2)) := by simp [AK5]
theorem AUs {kk : MK} {es : List (List UInt8 × TV)} : stO (some (.mpo kk es)) = some (kk, AF2 0 es, es.length) := AsB rfl
theorem AUe {kk : MK} {zs : List (Nat × List UInt8 × TV)} {cl : Nat} : stO (some (.mpd kk zs cl)) = some (kk, zs, cl) := AsB rfl
/-- A loop over a map begins; its next round. -/
def APZ (x : TV) (H : List Ob) (K : TV → List Ob → Prop) [Tg K] : Prop := match x with
 | .mp id 0 => (match stO H[id]? with
  | some (_, _, cl) => K (.op H.length 0 []) (H ++ [.mit id [] cl])
  | none => False)
 | _ => False
@[congr] theorem A0X {x x' : TV} {H' : List Ob} (h1 : x = x') (h2 : H = H') : APZ x H KK = APZ x' H' KK := by rw [h1, h2]
theorem AYd : sop P (.rngM x) e H KK = APZ (x.ev e) H KK := AsB rfl
theorem AR9 {id : Nat} : APZ (.mp id 0) H KK = Atr (stO H[id]?) fun p => Atn H.length fun n => Atn (H ++ [.mit id [] p.2.2]) fun H' => KK (.op n 0 []) H' := by
 unfold APZ
 cases h : stO H[id]? with
 | none => simp [Atr, h]
 | some o => obtain ⟨a, b, c⟩ := o; simp [Atr, Atn, h]
def AJm : Option Ob → Option (Nat × List Nat × Nat)
 | some (.mit m sn cl) => some (m, sn, cl)
 | _ => none
theorem ARr {m cl : Nat} {sn : List Nat} : AJm (some (.mit m sn cl)) = some (m, sn, cl) := AsB rfl
def APg (x : TV) (H : List Ob) (K : TV → List Ob → Prop) [Tg K] : Prop := match x with
 | .op id 0 [] => (match H[id]? with
  | some (.mit m sn cl) => (match stO H[m]? with
   | some (kk, zs, cl') => (cl' = cl ∧ ∀ z ∈ zs, z.1 < cl) ∧ (∀ z ∈ zs, z.1 ∉ sn → K (.tup [.val (.bool true), kTV kk z.2.1, z.2.2]) (H.set id (.mit m (sn ++ [z.1]) cl))) ∧ ((∀ z ∈ zs, z.1 ∈ sn) → K (.tup [.val (.bool false)]) H)
   | none => False)
  | _ => False)
 | _ => False
@[congr] theorem A1a {x x' : TV} {H' : List Ob} (h1 : x = x') (h2 : H = H') : APg x H KK = APg x' H' KK := by rw [h1, h2]
theorem AZc : sop P (.nxtM x) e H KK = APg (x.ev e) H KK := AsB rfl
/-- The next entry, whichever: any one that was not yet seen; or none, if all were. -/
def AZk (id m : Nat) (sn : List Nat) (cl : Nat) (kk : MK) (zs : List (Nat × List UInt8 × TV)) (cl' : Nat) (H : List Ob) (K : TV → List Ob → Prop) [Tg K] : Prop :=
 (cl' = cl ∧ ∀ z ∈ zs, z.1 < cl) ∧ (∀ z ∈ zs, z.1 ∉ sn → K (.tup [.val (.bool true), kTV kk z.2.1, z.2.2]) (H.set id (.mit m (sn ++ [z.1]) cl))) ∧ ((∀ z ∈ zs, z.1 ∈ sn) → K (.tup [.val (.bool false)]) H)
@[congr] theorem A19 {id m : Nat} {sn sn' : List Nat} {cl c2 : Nat} {kk : MK} {zs zs' : List (Nat × List UInt8 × TV)} {cl' c2' : Nat} {H' : List Ob} (h1 : sn = sn') (h2 : cl = c2) (h3 : zs = zs') (h4 : cl' = c2') (h5 : H = H') : AZk id m sn cl kk zs cl' H KK = AZk id m sn' c2 kk zs' c2' H' KK := by rw [h1, h2, h3, h4, h5]
theorem ASm {id : Nat} : APg (.op id 0 []) H KK = Atr (AJm H[id]?) fun p => Atr (stO H[p.1]?) fun q => AZk id p.1 p.2.1 p.2.2 q.1 q.2.1 q.2.2 H KK := by
 unfold APg
 cases h : H[id]? with
 | none => simp [AJm, Atr, h]
 | some o =>
  cases o with
  | mit m sn cl =>
   simp only [h, AJm, Atr]
   cases h2 : stO H[m]? with
   | none => simp
   | some q => obtain ⟨a, b, c⟩ := q; simp only [AZk]
  | _ => simp [AJm, Atr, h]
/-- The entry last taken. -/
def AZg (p : Nat × List Nat × Nat) (q : MK × List (Nat × List UInt8 × TV) × Nat) : Option TV := match p.2.1.getLast? with
 | some s => if q.2.2 = p.2.2 then (match q.2.1.find? (·.1 == s) with
  | some z => some (.tup [kTV q.1 z.2.1, z.2.2])
  | none => none) else none
 | none => none
/-- A map whose entry goes. -/
def AWv (kk : MK) (o : Option Ob) : Option (List (Nat × List UInt8 × TV) × Nat) := match stO o with
 | some (kk', zs, cl) => if kk' = kk then some (zs, cl) else none
 | none => none
theorem AQG {kk : MK} {es : List (List UInt8 × TV)} : AWv kk (some (.mpo kk es)) = some (AF2 0 es, es.length) := by simp [AWv, stO]
theorem ASr {kk : MK} {zs : List (Nat × List UInt8 × TV)} {cl : Nat} : AWv kk (some (.mpd kk zs cl)) = some (zs, cl) := by simp [AWv, stO]
def APo (kk : MK) (m k : TV) (H : List Ob) (K : TV → List Ob → Prop) [Tg K] : Prop := match m, AtI kk k with
 | .mp id 0, some kb => (match stO H[id]? with
  | some (kk', zs, cl) => kk' = kk ∧ K .any (H.set id (.mpd kk (zs.eraseIdx (AHD kb (zs.map (·.2)))) cl))
  | none => False)
 | _, _ => False
@[congr] theorem AZO {kk : MK} {H' : List Ob} {m m' k k' : TV} (h1 : m = m') (h2 : k = k') (h4 : H = H') : APo kk m k H KK = APo kk m' k' H' KK := by rw [h1, h2, h4]
theorem AYL {kk : MK} {m k : Opd} : sop P (.delM kk m k) e H KK = APo kk (m.ev e) (k.ev e) H KK := AsB rfl
theorem ARQ {kk : MK} {id : Nat} {kx : TV} : APo kk (.mp id 0) kx H KK = Atr (AWv kk H[id]?) fun p => Atr (AtI kk kx) fun kb => Atn (p.1.eraseIdx (AHD kb (p.1.map (·.2)))) fun zs => Atn (H.set id (.mpd kk zs p.2)) fun H' => KK .any H' := by
 unfold APo AWv
 cases h : stO H[id]? with
 | none => cases AtI kk kx <;> simp [h, Atr]
 | some q =>
  obtain ⟨kk', zs, cl⟩ := q
  by_cases hk : kk' = kk
  ·subst hk; cases AtI kk' kx <;> simp [h, Atr, Atn]
  ·cases AtI kk kx <;> simp [h, Atr, hk]
/-- A row cleared. -/
def AZl (H : List Ob) (x : TV) (K : TV → List Ob → Prop) [Tg K] : Prop := match x with
 | .os k id ver [] off n cp => n ≠ 0 ∧ obV H[id]? = some ver ∧ K (.os k id ver [] off n cp) H
 | _ => False
@[congr] theorem A2i {H' : List Ob} {x x' : TV} (h0 : H = H') (h1 : x = x') : AZl H x KK = AZl H' x' KK := by rw [h0, h1]
theorem A1G {x : Opd} : sop P (.cvS x) e H KK = AZl H (x.ev e) KK := AsB rfl
theorem AV6 {k id ver off n cp : Nat} : AZl H (.os k id ver [] off n cp) KK = Ava (n ≠ 0) (Ava (obV H[id]? = some ver) (KK (.os k id ver [] off n cp) H)) := AsB rfl
theorem AY9 {v : Nat} {y : TV} : obV (some (.obj v y)) = some v := AsB rfl
def AOx (k : Nat) (z x : TV) (H : List Ob) (K : TV → List Ob → Prop) [Tg K] : Prop := match x with
 | .os k' id ver p off n cp => ADo k (.os k' id ver p off n cp) (List.replicate n z) H fun _ H' => K .any H'
 | .val (.slice none 0 0) => K .any H
 | _ => False
@[congr] theorem AZP {k : Nat} {z x x' : TV} {H' : List Ob} (h1 : x = x') (h2 : H = H') : AOx k z x H KK = AOx k z x' H' KK := by rw [h1, h2]
theorem AXF {k : Nat} {z : TV} : sop P (.clrS k z x) e H KK = AOx k z (x.ev e) H KK := AsB rfl
theorem ANJ {k : Nat} {z : TV} : AOx k z (.val (.slice none 0 0)) H KK = KK .any H := AsB rfl
theorem ATB {k id ver off n cp : Nat} {p : List (Nat × Nat)} {z : TV} : AOx k z (.os k id ver p off n cp) H KK = Atn (List.replicate n z) fun ys => ALr k (.os k id ver p off n cp) (some ys) H fun _ H' => KK .any H' := AsB rfl
theorem ARP {kk : MK} {es : List (List UInt8 × TV)} : AGF kk (some (.mpo kk es)) = some es := by simp [AGF]
theorem AWx {l : List UInt8} : AtI .str (.val (.string (str l))) = some l := by simp [AtI, bl, str]
theorem AYm {n : Nat} {l : List UInt8} : AtI (.arr n) (.arr n 1 (l.map by8)) = some l := by
 unfold AtI; simp only [AEF, AA8, and_self, if_true]
theorem AUk {z : TV} {r : Option TV} : AGj z false r = r.getD z := by simp [AGj]
theorem AV1 {z : TV} {r : Option TV} : AGj z true r = .tup [r.getD z, .val (.bool r.isSome)] := by simp [AGj]
def AWu (x : TV) (A : Prop) [Tg A] : Prop := match x with
 | .val (.int _ _) => A
 | _ => False
@[congr] theorem A2m {x x' : TV} {A : Prop} (h : x = x') : AWu x A = AWu x' A := by rw [h]
theorem AU1 {q : IntKind} {n : Int} {A : Prop} : AWu (.val (.int q n)) A = A := by simp [AWu]
theorem AYe {kk : MK} : sop P (.mkm kk none) e H KK = Atn H.length fun n => Atn (H ++ [.mpo kk []]) fun H' => KK (.mp n 0) H' := by simp [sop, Atn]
theorem AXN {kk : MK} : sop P (.mkm kk (some x)) e H KK = AWu (x.ev e) (Atn H.length fun n => Atn (H ++ [.mpo kk []]) fun H' => KK (.mp n 0) H') := by
 simp only [sop, Atn, AWu]
 cases x.ev e with
 | val v => cases v <;> simp
 | _ => simp
def AO1 (kk : MK) (m k v : TV) (H : List Ob) (K : TV → List Ob → Prop) [Tg K] : Prop := match m, AtI kk k with
 | .mp id 0, some kb => (match H[id]? with
  | some (.mpo kk' es) => (kk' = kk ∧ lays v = true) ∧ K .any (H.set id (.mpo kk (AIl kb v es)))
  | _ => False)
 | _, _ => False
@[congr] theorem AZ7 {kk : MK} {H' : List Ob} {m m' k k' v v' : TV} (h1 : m = m') (h2 : k = k') (h3 : v = v') (h4 : H = H') : AO1 kk m k v H KK = AO1 kk m' k' v' H' KK := by rw [h1, h2, h3, h4]
theorem AYQ {kk : MK} {m k : Opd} : sop P (.mupd kk m k x) e H KK = AO1 kk (m.ev e) (k.ev e) (x.ev e) H KK := AsB rfl
def AOG (kk : MK) (z m k : TV) (H : List Ob) (K : TV → List Ob → Prop) [Tg K] : Prop := match m, AtI kk k with
 | .mp id 0, some kb => (match H[id]? with
  | some (.mpo kk' es) => kk' = kk ∧ K (.tup [(AGh kb es).getD z, .val (.int .i64 (AHD kb es))]) (H.set id (.mpo kk (AIl kb ((AGh kb es).getD z) es)))
  | _ => False)
 | _, _ => False
@[congr] theorem A1A {kk : MK} {H' : List Ob} {z m m' k k' : TV} (h1 : m = m') (h2 : k = k') (h4 : H = H') : AOG kk z m k H KK = AOG kk z m' k' H' KK := by rw [h1, h2, h4]
theorem AWT {kk : MK} {z : TV} {m k : Opd} : sop P (.ment kk z m k) e H KK = AOG kk z (m.ev e) (k.ev e) H KK := AsB rfl
def AOY (m st v : TV) (H : List Ob) (K : TV → List Ob → Prop) [Tg K] : Prop := match m, st with
 | .mp id 0, .val (.int _ j) => (match H[id]? with
  | some (.mpo kk es) => (0 ≤ j ∧ lays v = true) ∧ (match es[j.toNat]? with
   | some (k, _) => K .any (H.set id (.mpo kk (es.set j.toNat (k, v))))
   | none => False)
  | _ => False)
 | _, _ => False
@[congr] theorem A1w {H' : List Ob} {m m' st st' v v' : TV} (h1 : m = m') (h2 : st = st') (h3 : v = v') (h4 : H = H') : AOY m st v H KK = AOY m' st' v' H' KK := by rw [h1, h2, h3, h4]
theorem AWw {m st : Opd} : sop P (.mest m st x) e H KK = AOY (m.ev e) (st.ev e) (x.ev e) H KK := AsB rfl
theorem AU7 {sz : Nat} : sop P (.store sz x y) e H KK = AKH H sz (x.ev e) (y.ev e) KK := AsB rfl
theorem A1s {k n : Nat} {z : TV} : sop P (.mks k n z x y) e H KK = AZB H k n z (x.ev e) (y.ev e) KK := AsB rfl
theorem AZ6 {k n : Nat} {et : TypeId} : sop P (.app k n et x y) e H KK = AVp k n et (x.ev e) (AtW H k (y.ev e)) H KK := AsB rfl
theorem AYg {et : TypeId} : sop P (.appS et x y) e H KK = ASh et (x.ev e) (y.ev e) H KK := AsB rfl
theorem AYK {k : Nat} : sop P (.copy k x y) e H KK = ALr k (x.ev e) (AtW H k (y.ev e)) H KK := AsB rfl
theorem AVx : sop P (.copyS x y) e H KK = AL8 (x.ev e) (y.ev e) H KK := AsB rfl
theorem AXq {k n : Nat} {z : TV} : sop P (.appZ k n z x y) e H KK = ATo k n z (x.ev e) (y.ev e) H KK := AsB rfl
theorem A0O {n : Bool} : sop P (.eqS x n) e H KK = ATE n (x.ev e) H KK := AsB rfl
theorem A0r : sop P (.s2b x) e H KK = AZA H (x.ev e) KK := AsB rfl
theorem AYx {f : FuncId} {args : List Opd} : sop P (.call f args) e H KK = Atn (evs e args) fun xs => Ava (AC0 xs) (VC P f xs H KK) := by
 rw [AWF, AA6]; rfl
theorem A1m {nm : String} {args : List Opd} : sop P (.inv x nm args) e H KK = Atn (evs e args) fun xs => Ava (AC0 xs) (AWO P nm (x.ev e) xs H KK) := by
 show ((∀ y ∈ args, At8 (y.ev e) = false) ∧ _) = _
 rw [AA6]; rfl
theorem AWb {args : List Opd} : sop P (.callv x args) e H KK = Atn (evs e args) fun xs => Ava (AC0 xs) (AIe P (x.ev e) xs H KK) := by
 rw [AVP, AA6]; rfl
end

section
variable {K : TV → Prop} {KK : TV → List Ob → Prop} {x y : TV} {cs ys : List TV} {n n' k k' : Nat} {id ver off cp : Nat} {p : List (Nat × Nat)} {j : Int} {q : IntKind} {lo hi : Option TV}
theorem AR2 {t : Bool} : ANK (.val (.bool t)) x y K = vif t (K x) (K y) := by cases t <;> simp [ANK, vif]
theorem AUZ {t : TypeId} {op : BinOp} {u v : Value} : AZm t op (.val u) (.val v) K = Ava (AS7 u v = true) (Atr (AvQ t op u v) fun r => Atn (TV.val r) K) := by
 show (_ ∧ _) = _; cases AvQ t op u v <;> rfl
theorem AXJ {op : UnOp} {u : Value} : Pun op (.val u) K = Atr (unV op u) fun r => Atn (TV.val r) K := by
 unfold Pun; simp only; cases unV op u <;> rfl
theorem ASA {k : IntKind} : ATC k (.val (.int q j)) K = Atn (TV.val (.int k (k.wrap j))) K := AsB rfl
theorem AV0 {s : ByteArray} : AZq (.val (.string s)) K = K (.val (.string s)) := AsB rfl
theorem AUG : AZn (some cs) K = Ava (∀ y ∈ cs, ALM y) (Atn (TV.val (.string (str (cs.map AF4)))) K) := AsB rfl
theorem ATh {ag : Bool} {sz : Nat} : AK0 H ag sz (.fp y) K = Ava (AH5 ag sz y) (K y) := AsB rfl
theorem AS0 {ag : Bool} {sz : Nat} : AK0 H ag sz (.op id ver p) K = Atr (Axs H[id]? ver) fun x => Atr (Azr p x) fun y => Ava (AH5 ag sz y) (K y) := by
 unfold AK0
 simp only
 cases h : H[id]? with
 | none => simp [Axs, Atr]
 | some o =>
  cases o with
  | gone v => simp [Axs, Atr]
  | ice v m y => simp [Axs, Atr]
  | fact i v t m => simp [Axs, Atr]
  | bld v t l => simp [Axs, Atr]
  | lp st pe fn N en ps ca cb => simp [Axs, Atr]
  | mpo kk es => simp [Axs, Atr]
  | mpd kk zs cl => simp [Axs, Atr]
  | mit m sn cl => simp [Axs, Atr]
  | sit s pos => simp [Axs, Atr]
  | obj v x =>
   by_cases hv : v = ver
   ·subst hv; simp only [Axs, Atr, Ava, if_true, true_and]; cases Azr p x <;> rfl
   ·simp [Axs, Atr, hv]
theorem ANt {i o : Nat} : AFL i o (.op id ver p) K = Atn (p ++ [(i, o)]) fun p => K (.op id ver p) := AsB rfl
theorem ANb {i o : Nat} : AFL i o (.fp (.agg cs)) K = Ava (AtQ (cs.take i) = o) (Atr cs[i]? fun y => K (.fp y)) := by
 unfold AFL; simp only; cases cs[i]? <;> rfl
theorem APs {ag : Bool} {sz i o : Nat} : AKi ag sz i o (.agg cs) K = Ava (AtQ (cs.take i) = o) (Atr cs[i]? fun y => Ava (AH5 ag sz y) (K y)) := by
 unfold AKi; simp only; cases cs[i]? <;> rfl
theorem AR4 : ANy k (.sl k cs) (.val (.int q j)) K = Ava (0 ≤ j) (Atr cs[j.toNat]? fun y => K (.fp y)) := by
 unfold ANy; simp only [true_and]; cases cs[j.toNat]? <;> rfl
theorem ARo : ANy k (.os k id ver p off n cp) (.val (.int q j)) K = Ava (0 ≤ j ∧ j < n) (Atn (off + j.toNat) fun m => Atn (p ++ [(m, m * k)]) fun p => K (.op id ver p)) := by
 show (k = k ∧ _) = _; simp [Ava, Atn, and_assoc]
theorem ANQ : AIi n k (.fp (.arr n k cs)) (.val (.int q j)) K = Ava (0 ≤ j) (Atr cs[j.toNat]? fun y => K (.fp y)) := by
 unfold AIi; simp only [true_and]; cases cs[j.toNat]? <;> rfl
theorem APc : AIi n k (.op id ver p) (.val (.int q j)) K = Ava (0 ≤ j ∧ j < n) (Atn j.toNat fun m => Atn (p ++ [(m, m * k)]) fun p => K (.op id ver p)) := by
 show (_ ∧ _) = _; simp [Ava, Atn, and_assoc]
theorem AVL {ag : Bool} : AXj ag n k (.arr n k cs) (.val (.int q j)) K = Ava (0 ≤ j) (Atr cs[j.toNat]? fun y => Ava (AH5 ag k y) (K y)) := by
 unfold AXj; simp only [true_and]; cases cs[j.toNat]? <;> rfl
theorem ASI {s : ByteArray} : AQc (.val (.string s)) (.val (.int q j)) K = Ava (0 ≤ j) (Atr (bl s)[j.toNat]? fun b => K (by8 b)) := by
 unfold AQc; simp only; cases (bl s)[j.toNat]? <;> rfl
theorem AUy {i : Nat} : AXA i (.tup cs) K = Atr cs[i]? K := by
 unfold AXA; simp only; cases cs[i]? <;> rfl
theorem ASX {s : ByteArray} : AQ2 (.val (.string s)) K = Atn (TV.val (.int .i64 (bl s).length)) K := AsB rfl
theorem ARw : AM2 (.sl k cs) K = Atn (TV.val (.int .i64 cs.length)) K := AsB rfl
theorem AQF : AM2 (.os k id ver p off n cp) K = K (.val (.int .i64 n)) := AsB rfl
theorem AOb {ad : Option Addr} {c : Nat} : AM2 (.val (.slice ad n c)) K = K (.val (.int .i64 n)) := AsB rfl
section
variable {len lim : Nat} {KN : Nat → Nat → Prop} {l h : Int} {q2 : IntKind}
theorem AVk : AJt none none len lim KN = Ava (len ≤ lim) (KN 0 len) := by
 show ((0 ≤ (0:Int) ∧ (0:Int) ≤ (len : Int) ∧ (len : Int) ≤ lim) ∧ KN (Int.toNat 0) (Int.toNat len)) = _
 simp [Ava]
theorem AWa : AJt (some (.val (.int q l))) none len lim KN = Ava (0 ≤ l ∧ l ≤ len ∧ (len : Int) ≤ lim) (Atn l.toNat fun l => KN l len) := by
 show ((0 ≤ l ∧ l ≤ (len : Int) ∧ (len : Int) ≤ lim) ∧ KN l.toNat (Int.toNat len)) = _
 simp [Ava, Atn]
theorem AVq : AJt none (some (.val (.int q h))) len lim KN = Ava (0 ≤ h ∧ h ≤ lim) (Atn h.toNat fun h => KN 0 h) := by
 show ((0 ≤ (0:Int) ∧ 0 ≤ h ∧ h ≤ lim) ∧ KN (Int.toNat 0) h.toNat) = _
 simp [Ava, Atn]
theorem AVt : AJt (some (.val (.int q l))) (some (.val (.int q2 h))) len lim KN = Ava (0 ≤ l ∧ l ≤ h ∧ h ≤ lim) (Atn l.toNat fun l => Atn h.toNat fun h => KN l h) := AsB rfl
end
theorem AVg {s : ByteArray} : AZD (.val (.string s)) lo hi K = AJt lo hi (bl s).length (bl s).length fun l h => Atn (((bl s).drop l).take (h - l)) fun r => K (.val (.string (str r))) := AsB rfl
theorem AUE : AWp k (.sl k cs) lo hi K = AJt lo hi cs.length cs.length fun l h => Atn ((cs.drop l).take (h - l)) fun r => K (.sl k r) := by
 exact propext ⟨fun h => h.2, fun h => ⟨rfl, h⟩⟩
theorem AVd : AWp k (.os k id ver p off n cp) lo hi K = AJt lo hi n cp fun l h => Atn (off + l) fun o => Atn (h - l) fun m => Atn (cp - l) fun c => K (.os k id ver p o m c) := by
 exact propext ⟨fun h => h.2, fun h => ⟨rfl, h⟩⟩
theorem AQ7 {ad : Option Addr} : AWp k (.val (.slice ad 0 0)) lo hi K = AJt lo hi 0 0 fun l h => K (.val (.slice ad 0 0)) := AsB rfl
theorem AVR : AWr H n k (.fp (.arr n k cs)) lo hi K = Ava (n ≤ 9223372036854775807) (AJt lo hi n n fun l h => Atn ((cs.drop l).take (h - l)) fun r => K (.sl k r)) := by
 exact propext ⟨fun h => ⟨h.2.2.1, h.2.2.2⟩, fun h => ⟨rfl, rfl, h.1, h.2⟩⟩
/-- An array at the end of a way. -/
def AJX : Option TV → Nat → Nat → Option (List TV)
 | some (.arr n' k' cs), n, k => if n' = n ∧ k' = k then some cs else none
 | _, _, _ => none
theorem AQv : AJX (some (.arr n k cs)) n k = some cs := by simp [AJX]
theorem AVu : AWr H n k (.op id ver p) lo hi K = Atr (Axs H[id]? ver) fun x => Ava (n ≤ 9223372036854775807) (Atr (AJX (Azr p x) n k) fun _ => AJt lo hi n n fun l h => Atn (h - l) fun m => Atn (n - l) fun c => K (.os k id ver p l m c)) := by
 unfold AWr
 simp only
 cases h : H[id]? with
 | none => simp [Axs, Atr]
 | some o =>
  cases o with
  | gone v => simp [Axs, Atr]
  | ice v m y => simp [Axs, Atr]
  | fact i v t m => simp [Axs, Atr]
  | bld v t l => simp [Axs, Atr]
  | lp st pe fn N en ps ca cb => simp [Axs, Atr]
  | mpo kk es => simp [Axs, Atr]
  | mpd kk zs cl => simp [Axs, Atr]
  | mit m sn cl => simp [Axs, Atr]
  | sit s pos => simp [Axs, Atr]
  | obj v x =>
   by_cases hv : v = ver
   ·simp only [Axs, Atr, hv, Ava, Atn, if_true, true_and]
    congr 1
    cases hg : Azr p x with
    | none => simp [AJX]
    | some y =>
     cases y with
     | arr n2 k2 ds =>
      by_cases h1 : n2 = n
      ·by_cases h2 : k2 = k
       ·simp [AJX, h1, h2]; exact Iff.rfl
       ·simp [AJX, h1, h2]
      ·simp [AJX, h1]
     | _ => simp [AJX]
   ·simp [Axs, Atr, hv]
theorem APp {t : TypeId} : AL2 t x K = Ava (lays x = true) (K (.ifc t x)) := AsB rfl
theorem AU8 {f : Fn} : AXx f cs ys K = Ava (AC0 (cs ++ ys)) (K (.fn f cs ys)) := AsB rfl
theorem ATg : AKe (.op id ver p) K = K (.op id ver p) := AsB rfl
theorem ASu : AKe (.fp y) K = K (.fp y) := AsB rfl
theorem ATv {f : FuncId} {a b : List TV} : AKe (.fn (.func f) a b) K = K (.fn (.func f) a b) := AsB rfl
theorem APU {t : TypeId} : AKe (.ifc t y) K = K (.ifc t y) := AsB rfl
theorem ANz {f : FuncId} {a b : Array Value} : AKe (.val (.func (.func f) a b)) K = K (.val (.func (.func f) a b)) := AsB rfl
section
variable {a b : Int} {q2 : IntKind}
theorem AWk : AZj (.val (.int q a)) (.val (.int q2 b)) K = vif (decide (b < a)) (K (.val (.int q b))) (K (.val (.int q a))) := by
 show K _ = _
 by_cases h : b < a <;> simp [vif, h]
theorem AVz : AZz (.val (.int q a)) (.val (.int q2 b)) K = vif (decide (a < b)) (K (.val (.int q b))) (K (.val (.int q a))) := by
 show K _ = _
 by_cases h : a < b <;> simp [vif, h]
theorem ARb {q1 q2 q3 : IntKind} {l h m : Int} : AGV (.sl3 k) H [.sl k cs, .val (.int q1 l), .val (.int q2 h), .val (.int q3 m)] K = Ava (0 ≤ l ∧ l ≤ h ∧ h ≤ m ∧ m ≤ cs.length) (Atn ((cs.drop l.toNat).take (h.toNat - l.toNat)) fun r => K (.sl k r)) := by
 unfold AGV gev Ava Atn
 simp only [true_and]
 by_cases hc : 0 ≤ l ∧ l ≤ h ∧ h ≤ m ∧ m ≤ cs.length
 ·rw [if_pos hc]; simp [hc]
 ·rw [if_neg hc]; simp only [hc, false_and]
theorem ASy {sh : List EL} {b : Bool} {xs ys : List TV} : AGV (.eqR sh b) H [.agg xs, .agg ys] K = Atr (AID sh xs ys) fun r => Atn (TV.val (.bool (xor b r))) K := by
 have hg : gev (.eqR sh b) H [.agg xs, .agg ys] = (AID sh xs ys).map fun r => .val (.bool (xor b r)) := by unfold gev; rfl
 unfold AGV Atr Atn
 rw [hg]
 cases AID sh xs ys <;> rfl
theorem ARN : AID [] [] [] = some true := AsB rfl
theorem AYJ {l : List EL} {k : IntKind} {a b : Int} {xs ys : List TV} : AID (.i :: l) (.val (.int k a) :: xs) (.val (.int k b) :: ys) = (AID l xs ys).map fun r => (a == b) && r := by rw [AID, if_pos rfl]
theorem AYa {l : List EL} {a b : ByteArray} {xs ys : List TV} : AID (.s :: l) (.val (.string a) :: xs) (.val (.string b) :: ys) = (AID l xs ys).map fun r => (a == b) && r := AsB rfl
theorem AW6 {l : List EL} {n : Nat} {a b : List UInt8} {xs ys : List TV} : AID (.b n :: l) (.arr n 1 (a.map by8) :: xs) (.arr n 1 (b.map by8) :: ys) = (AID l xs ys).map fun r => (a == b) && r := by
 rw [AID]
 simp only [AEF, AA8, and_self, if_true]
theorem ARm {n : Nat} {b : Bool} {xs ys : List UInt8} : AGV (.eqA n b) H [.arr n 1 (xs.map by8), .arr n 1 (ys.map by8)] K = Atn (TV.val (.bool (xor b (xs == ys)))) K := by
 unfold AGV gev Atn
 simp only [AEF, AA8, and_self, if_true]
theorem AQU {q : IntKind} {n : Int} : AGV .r2s H [.val (.int q n)] K = Atn (TV.val (.string (Utf8.encode n))) K := AsB rfl
theorem ASE {t t' : TypeId} : AGV (.tas t) H [.ifc t' x] K = Ava (t' = t) (K x) := by
 unfold AGV gev Ava
 by_cases h : t' = t <;> simp [h]
theorem AOe {a : Option Addr} {l n : Nat} : AGV .capV H [.val (.slice a l n)] K = Atn (TV.val (.int .i64 (n : Int))) K := AsB rfl
theorem ARR {n : Nat} : AGV (.s2a n k) H [.sl k cs] K = Ava (0 < n ∧ n ≤ cs.length) (Atn (cs.take n) fun r => K (.fp (.arr n k r))) := by
 unfold AGV gev Ava Atn
 simp only [true_and]
 by_cases hc : 0 < n ∧ n ≤ cs.length
 ·rw [if_pos hc]; simp [hc]
 ·rw [if_neg hc]; simp only [hc, false_and]
theorem AYh {s t : Bool} : AY5 false (.val (.bool s)) (.val (.bool t)) K = Atn (TV.val (.bool (s == t))) K := by
 show K _ = _; simp [Atn]
theorem AYz {s t : Bool} : AY5 true (.val (.bool s)) (.val (.bool t)) K = Atn (TV.val (.bool (!(s == t)))) K := by
 show K _ = _; simp [Atn]
theorem AYW {m b : Bool} : AXi m (some true) (some b) K = Atn (TV.val (.bool (xor m b))) K := AsB rfl
theorem AYF {m : Bool} : AXi m (some false) (some true) K = Atn (TV.val (.bool (xor m false))) K := AsB rfl
end
theorem ASi {kk : MK} {m : Nat} {kx v : TV} : AO1 kk (.mp m 0) kx v H KK = Atr (AGF kk H[m]?) fun es => Atr (AtI kk kx) fun kb => Ava (lays v = true) (Atn (AIl kb v es) fun es' => Atn (H.set m (.mpo kk es')) fun H' => KK .any H') := by
 unfold AO1
 cases hh : H[m]? with
 | none => cases AtI kk kx <;> simp [hh, AGF, Atr]
 | some o =>
  cases o with
  | mpo kk' es =>
   by_cases hk : kk' = kk
   ·subst hk; cases AtI kk' kx <;> simp [hh, AGF, Atr, Ava, Atn]
   ·cases AtI kk kx <;> simp [hh, AGF, Atr, hk]
  | _ => cases AtI kk kx <;> simp [hh, AGF, Atr]
theorem AQl {kk : MK} {m : Nat} {kx z : TV} : AOG kk z (.mp m 0) kx H KK = Atr (AGF kk H[m]?) fun es => Atr (AtI kk kx) fun kb => Atn ((AGh kb es).getD z) fun y => Atn (AHD kb es) fun p => Atn (AIl kb y es) fun es' => Atn (H.set m (.mpo kk es')) fun H' => KK (.tup [y, .val (.int .i64 (p : Int))]) H' := by
 unfold AOG
 cases hh : H[m]? with
 | none => cases AtI kk kx <;> simp [hh, AGF, Atr]
 | some o =>
  cases o with
  | mpo kk' es =>
   by_cases hk : kk' = kk
   ·subst hk; cases AtI kk' kx <;> simp [hh, AGF, Atr, Atn]
   ·cases AtI kk kx <;> simp [hh, AGF, Atr, hk]
  | _ => cases AtI kk kx <;> simp [hh, AGF, Atr]
def AIr : Option Ob → Option (MK × List (List UInt8 × TV))
 | some (.mpo kk es) => some (kk, es)
 | _ => none
theorem APf {kk : MK} {es : List (List UInt8 × TV)} : AIr (some (.mpo kk es)) = some (kk, es) := by simp [AIr]
theorem AQH {m j : Nat} {q : IntKind} {v : TV} : AOY (.mp m 0) (.val (.int q (j : Int))) v H KK = Atr (AIr H[m]?) fun p => Ava (lays v = true) (Atr p.2[j]? fun y => Atn (p.2.set j (y.1, v)) fun es' => Atn (H.set m (.mpo p.1 es')) fun H' => KK .any H') := by
 unfold AOY
 cases hh : H[m]? with
 | none => simp [hh, AIr, Atr]
 | some o =>
  cases o with
  | mpo kk' es =>
   simp only [hh, AIr, Atr, Ava, Atn, Int.natCast_nonneg, true_and, Int.toNat_natCast]
   cases es[j]? <;> simp
  | _ => simp [hh, AIr, Atr]
theorem APe {kk : MK} {z kx : TV} {ok : Bool} {m : Nat} : AGV (.look kk z ok) H [.mp m 0, kx] K = Atr (AHy kk H[m]?) fun es => Atr (AtI kk kx) fun kb => Atn (AGj z ok (AGh kb es)) K := by
 unfold AGV gev AI3
 cases hh : H[m]? with
 | none => cases hb : AtI kk kx <;> simp [hh, hb, AHy, Atr]
 | some o =>
  cases o with
  | mpo kk' es =>
   by_cases hk : kk' = kk
   ·subst hk; cases hb : AtI kk' kx <;> simp [hh, hb, AHy, Atr, Atn]
   ·cases hb : AtI kk kx <;> simp [hh, hb, AHy, Atr, hk]
  | mpd kk' zs cl =>
   by_cases hk : kk' = kk
   ·subst hk; cases hb : AtI kk' kx <;> simp [hh, hb, AHy, Atr, Atn]
   ·cases hb : AtI kk kx <;> simp [hh, hb, AHy, Atr, hk]
  | _ => cases hb : AtI kk kx <;> simp [hh, hb, AHy, Atr]
theorem AMW {kk : MK} {z kx : TV} {ok : Bool} : AGV (.look kk z ok) H [.val (.map none), kx] K = Atr (AtI kk kx) fun kb => Atn (AGj z ok none) K := by
 unfold AGV gev AI3
 cases hb : AtI kk kx <;> simp [hb, Atr, Atn]
theorem AN2 {m : Nat} : AGV .lenM H [.mp m 0] K = Atr (AK5 H[m]?) fun p => Atn p.length fun n => Atn (TV.val (.int .i64 (n : Int))) K := by
 unfold AGV gev ASL
 cases hh : H[m]? with
 | none => simp [hh, AK5, Atr]
 | some o => cases o <;> simp [hh, AK5, Atr, Atn]
theorem APt {id : Nat} : AGV .entM H [.op id 0 []] K = Atr (AJm H[id]?) fun p => Atr (stO H[p.1]?) fun q => Atr (AZg p q) K := by
 unfold AGV gev AZv
 cases hh : H[id]? with
 | none => simp [hh, AJm, Atr]
 | some o =>
  cases o with
  | mit m sn cl =>
   simp only [hh, AJm, Atr, AZg]
   cases h2 : stO H[m]? with
   | none => simp
   | some q =>
    obtain ⟨kk, zs, cl'⟩ := q
    cases h3 : sn.getLast? with
    | none => simp
    | some s =>
     by_cases hc : cl' = cl
     ·subst hc; cases hf : zs.find? (·.1 == s) <;> simp [hf]
     ·simp [hc]
  | _ => simp [hh, AJm, Atr]
theorem ANU {sz : Nat} : AKH H sz (.op id ver p) y KK = Ava (lays y = true ∧ AsU y = sz) (Atr (Axs H[id]? ver) fun z => Atr (ADH p z y) fun z' => Atn (H.set id (.obj ver z')) fun H' => KK .any H') := by
 unfold AKH
 simp only [Ava]
 congr 1
 cases h : H[id]? with
 | none => simp [Axs, Atr]
 | some o =>
  cases o with
  | gone v => simp [Axs, Atr]
  | ice v m y => simp [Axs, Atr]
  | fact i v t m => simp [Axs, Atr]
  | bld v t l => simp [Axs, Atr]
  | lp st pe fn N en ps ca cb => simp [Axs, Atr]
  | mpo kk es => simp [Axs, Atr]
  | mpd kk zs cl => simp [Axs, Atr]
  | mit m sn cl => simp [Axs, Atr]
  | sit s pos => simp [Axs, Atr]
  | obj v x =>
   by_cases hv : v = ver
   ·subst hv; simp only [Axs, Atr, Atn, if_true, true_and]; cases ADH p x y <;> rfl
   ·simp [Axs, Atr, hv]
theorem AUw {z : TV} {l c : Int} {q2 : IntKind} {bytes : Nat} : AZB H k bytes z (.val (.int q l)) (.val (.int q2 c)) KK = Ava (0 ≤ l ∧ l ≤ c ∧ (bytes : Int) * c ≤ 281474976710656 ∧ c ≤ 9223372036854775807) (Atn l.toNat fun l => Atn c.toNat fun c => Atn H.length fun m => Atn (H ++ [.obj 0 (.arr c k (List.replicate c z))]) fun H' => KK (.os k m 0 [] 0 l c) H') := AsB rfl
/-- A row that may grow: a nil slice, or an object of one's own. -/
theorem AQw {bytes : Nat} {et : TypeId} : AVp k bytes et (.val (.slice none 0 0)) (some ys) H KK = Ava (ys.length * bytes ≤ 140737488355328 ∧ ys.length ≤ 9223372036854775807) (Atn ys.length fun n => Atn H.length fun m => Atn (H ++ [.obj 1 (.arr n k ys)]) fun H' => KK (.os k m 1 [] 0 n n) H') := AsB rfl
/-- The array in an object. -/
def AK7 : Option TV → Nat → Option (List TV)
 | some (.arr _ k' cs), k => if k' = k then some cs else none
 | _, _ => none
theorem ARi : AK7 (some (.arr n k cs)) k = some cs := by simp [AK7]
theorem ATj {v n2 : Nat} {et : TypeId} : AS5 (some (.obj v (.arr n2 k cs))) v k et off n ys = some (.obj (v + 1) (.arr (n + ys.length) k ((cs.drop off).take n ++ ys))) := by simp [AS5]
theorem ALZ {v : Nat} {et : TypeId} {l m : List UInt8} : AS5 (some (.bld v et l)) v 1 et 0 n (m.map by8) = some (.bld (v + 1) et (l.take n ++ m)) := by
 simp only [AS5, AEF, AA8, and_self, if_true]
theorem APB {v : Nat} {et : TypeId} {l : List UInt8} {b : UInt8} : AS5 (some (.bld v et l)) v 1 et 0 n [by8 b] = some (.bld (v + 1) et (l.take n ++ [b])) := ALZ (m := [b])
theorem ARU {v n2 : Nat} : AWl (some (.obj v (.arr n2 k cs))) = cs.length := by simp [AWl]
theorem ARn {v : Nat} {et : TypeId} {l : List UInt8} : AWl (some (.bld v et l)) = l.length := by simp [AWl]
theorem AUi {bytes : Nat} {et : TypeId} : AVp k bytes et (.os k id ver [] off n cp) (some ys) H KK = Atr (AS5 H[id]? ver k et off n ys) fun o => Ava (off + n ≤ AWl H[id]? ∧ (n + ys.length) * bytes ≤ 140737488355328 ∧ n + ys.length ≤ 9223372036854775807)
   (Atn (n + ys.length) fun m => Atn (H.set id o) fun H' => KK (.os k id (ver + 1) [] 0 m m) H') := by
 unfold AVp AJW
 simp only [true_and]
 cases h : AS5 H[id]? ver k et off n ys with
 | none => simp [Atr]
 | some o => simp [Atr, Ava, Atn]
theorem ASC {s : ByteArray} {et : TypeId} : ASh et x (.val (.string s)) H KK = Atn ((bl s).map by8) fun ys => AVp 1 1 et x (some ys) H KK := AsB rfl
/-- How many elements an array has. -/
def A1u : Option TV → Option Nat
 | some (.arr n _ _) => some n
 | _ => none
theorem AT7 : A1u (some (.arr n k cs)) = some n := AsB rfl
theorem AQj : ALr k (.os k id ver p off n cp) (some ys) H KK = Atr (Axs H[id]? ver) fun z => Atr (AK7 (Azr p z) k) fun cs => Atr (A1u (Azr p z)) fun N => Ava (off + n ≤ cs.length) (Atr (ADH p z (.arr N k (cs.take off ++ (ys.take n ++ cs.drop (off + min ys.length n))))) fun z' =>
  Atn (H.set id (.obj ver z')) fun H' => Atn (TV.val (.int .i64 (min ys.length n : Nat))) fun r => KK r H') := by
 unfold ALr ADo
 simp only [true_and]
 cases h : H[id]? with
 | none => simp [Axs, Atr]
 | some o =>
  cases o with
  | gone v => simp [Axs, Atr]
  | ice v m y => simp [Axs, Atr]
  | fact i v t m => simp [Axs, Atr]
  | bld v t l => simp [Axs, Atr]
  | lp st pe fn N en ps ca cb => simp [Axs, Atr]
  | mpo kk es => simp [Axs, Atr]
  | mpd kk zs cl => simp [Axs, Atr]
  | mit m sn cl => simp [Axs, Atr]
  | sit s pos => simp [Axs, Atr]
  | obj v x =>
   by_cases hv : v = ver
   ·simp only [Axs, Atr, hv, if_true, true_and]
    cases hg : Azr p x with
    | none => simp [AK7]
    | some y =>
     cases y with
     | arr n2 k2 ds =>
      by_cases h1 : k2 = k
      ·subst h1; simp only [AK7, A1u, Ava, Atn, if_true, true_and]; refine congrArg (_ ∧ ·) ?_; cases ADH p x (.arr n2 k2 (ds.take off ++ (ys.take n ++ ds.drop (off + min ys.length n)))) <;> rfl
      ·simp [AK7, h1]
     | _ => simp [AK7]
   ·simp [Axs, Atr, hv]
theorem APl {s : ByteArray} : AL8 x (.val (.string s)) H KK = Atn ((bl s).map by8) fun ys => ALr 1 x (some ys) H KK := AsB rfl
theorem ARK {f : FuncId} {j v : Nat} {l : List UInt8} : AR1 P f (some (j, v, l)) H KK = Ava (A0z P f) (Ava (l.length ≤ 9223372036854775807) (Atn (H.set j (.gone v)) fun H' => KK (.val (.string (str l))) H')) := AsB rfl
def AYc (o : Option Ob) (j v n : Nat) (a : TV) : Option (Nat × Nat × List UInt8) := match o with
 | some (.bld v3 t l) => if v3 = v ∧ t = AKz ∧ n = l.length ∧ AsU a = 1 then some (j, v, l) else none
 | _ => none
def ATb (H : List Ob) (j v n : Nat) (a : TV) : Option (Nat × Nat × List UInt8) := AYc H[j]? j v n a
def ANs (H : List Ob) (q : Option TV) : Option (Nat × Nat × List UInt8) := match q with
 | some (.agg [a, .os 1 j v2 [] 0 n cp]) => ATb H j v2 n a
 | _ => none
theorem AQt {id ver : Nat} {p : List (Nat × Nat)} : ANA H (.op id ver p) = ANs H ((Axs H[id]? ver).bind (Azr p)) := by
 unfold ANA
 simp only []
 cases h : H[id]? with
 | none => simp [Axs, ANs]
 | some o =>
  cases o with
  | obj v y =>
   by_cases hv : v = ver
   ·simp only [Axs, hv, if_true, Option.bind_some]
    unfold ANs ATb AYc
    rfl
   ·simp [Axs, ANs, hv]
  | _ => simp [Axs, ANs]
theorem AR7 {a : TV} {j v n cp : Nat} : ANs H (some (.agg [a, .os 1 j v [] 0 n cp])) = ATb H j v n a := AsB rfl
theorem ATs {a : TV} {j v n : Nat} : ATb H j v n a = AYc H[j]? j v n a := AsB rfl
theorem AUK {a : TV} {j v n : Nat} {l : List UInt8} (hn : n = l.length) (ha : AsU a = 1) : AYc (some (.bld v 5 l)) j v n a = some (j, v, l) := by
 simp [AYc, hn, ha, AKz]
theorem AVG {s : ByteArray} : AZA H (.val (.string s)) KK = Ava ((bl s).length ≤ 9223372036854775807) (Atn (bl s).length fun n => Atn ((bl s).map by8) fun r => Atn H.length fun m => Atn (H ++ [.obj 0 (.arr n 1 r)]) fun H' => KK (.os 1 m 0 [] 0 n n) H') := AsB rfl
theorem ARj {z : TV} {j : Int} {bytes : Nat} : ATo k bytes z (.val (.slice none 0 0)) (.val (.int .i64 j)) H KK = Ava (0 ≤ j ∧ (bytes : Int) * j ≤ 140737488355328 ∧ j ≤ 9223372036854775807) (Atn j.toNat fun n => Atn H.length fun m => Atn (H ++ [.obj 0 (.arr n k (List.replicate n z))]) fun H' => KK (.os k m 0 [] 0 n n) H') := AsB rfl
theorem ARY {n : Bool} {a : Option Addr} {l c : Nat} : ATE n (.val (.slice a l c)) H KK = KK (.val (.bool (xor n a.isNone))) H := AsB rfl
theorem AWf {n : Bool} : ATE n (.sl k cs) H KK = vif (decide (cs.length = 0)) (ALx H KK) (KK (.val (.bool n)) H) := by
 unfold ATE vif ALx
 by_cases h : cs = []
 ·subst h; simp
 ·have h2 : ¬ cs.length = 0 := fun e => h (List.length_eq_zero_iff.1 e)
  simp [h, h2]
theorem AUH {n : Bool} {m off l cp : Nat} {p : List (Nat × Nat)} : ATE n (.os k m ver p off l cp) H KK = vif (decide (l = 0)) (ALx H KK) (KK (.val (.bool n)) H) := by
 unfold ATE vif ALx
 by_cases h : l = 0
 ·subst h; simp
 ·simp [h]
theorem ALe (h1 : KK (.val (.bool true)) H) (h2 : KK (.val (.bool false)) H) : ALx H KK := ⟨h1, h2⟩
theorem APM {f : FuncId} {a b : List TV} : AIe P (.fn (.func f) a b) cs H KK = Ava (AGI P f = true) (Atn (a ++ cs ++ b) fun xs => VC P f xs H KK) := AsB rfl
theorem AMO {f : FuncId} : AIe P (.val (.func (.func f) #[] #[])) cs H KK = Ava (AGI P f = true) (VC P f cs H KK) := by
 exact propext ⟨fun h => ⟨h.2.1, h.2.2⟩, fun h => ⟨rfl, h.1, h.2⟩⟩
theorem AOF : AIe P (.yl id ver) cs H KK = VY P id ver cs H KK := AsB rfl
theorem AU4 {nm : String} {t : TypeId} : AWO P nm (.ifc t x) cs H KK = AWq P (ARF P t nm) x cs H KK := by
 unfold AWO AZs AWq
 show (match ARF P t nm with | some (f, none) => _ | some (f, some (ag, sz)) => _ | none => False) = _
 rcases ARF P t nm with _ | ⟨f, _ | ⟨ag, sz⟩⟩ <;> rfl
theorem AYl {f : FuncId} : AWq P (some (f, none)) x cs H KK = Ava (AGI P f = true) (Atn (x :: cs) fun xs => VC P f xs H KK) := AsB rfl
theorem AY2 {f : FuncId} {ag : Bool} {sz : Nat} : AWq P (some (f, some (ag, sz))) x cs H KK = Ava (AGI P f = true) (AK0 H ag sz x fun y => Atn (y :: cs) fun xs => VC P f xs H KK) := AsB rfl
theorem A1v {t : Bool} {A B : Prop} : Gd (some t) true A B = vif t A B := AsB rfl
theorem A1g {t : Bool} {A B : Prop} : Gd (some t) false A B = vif t B A := by cases t <;> simp [Gd, vif]
theorem A2Z {b : Bool} {A B : Prop} : Gd none b A B = B := AsB rfl
end

section
variable {Q : VEx → Env → List Ob → Prop} {l : List VO} {kp : List Nat} {a b : AsF}
def AQJ (x : TV) (A B : Prop) [Tg A] [Tg B] : Prop := match x with
  | .val (.bool t) => if t = true then A else B
  | _ => False
@[congr] theorem A0M {x x' : TV} {A B : Prop} (h : x = x') : AQJ x A B = AQJ x' A B := by rw [h]
theorem ATw {t : Bool} {A B : Prop} : AQJ (.val (.bool t)) A B = vif t A B := AsB rfl
theorem A0s : vwp P (.ops l kp) Q e H = AGz P l (fun e H => Atn (forget kp e) fun e => Q .nor e H) e H := AsB rfl
def AK2 (zs : List Nat) (e : Env) (H : List Ob) (K : Env → List Ob → Prop) [Tg K] : Prop := AV9 zs K e H
@[congr] theorem A0w {zs : List Nat} {e e' : Env} {H H' : List Ob} {K : Env → List Ob → Prop} (h1 : e = e') (h2 : H = H') : AK2 zs e H K = AK2 zs e' H' K := by rw [h1, h2]
theorem ASd {K : Env → List Ob → Prop} : AK2 [] e H K = K e H := AsB rfl
theorem AO8 {s k id ver off n cp m : Nat} {zs : List Nat} {xs : List TV} {K : Env → List Ob → Prop} (hg : get e s = .os k id ver [] off n cp) (ho : H[id]? = some (.obj ver (.arr m k xs))) (hn : off + n ≤ xs.length) (h : AK2 zs ((s, .sl k ((xs.drop off).take n)) :: e) (H.set id (.gone ver)) K) : AK2 (s :: zs) e H K := by
 unfold AK2 at h ⊢
 rw [AV9, hg]
 simp only [ho]
 refine ⟨trivial, ?_⟩
 have : Avz [] k off n (.arr m k xs) = some ((xs.drop off).take n) := by unfold Avz; simp [Azr, hn]
 rw [this]; exact h
theorem AYX {l r : List VO} {zs kp : List Nat} : vwp P (.opsZ l zs r kp) Q e H = AGz P l (fun e H => AK2 zs e H fun e H => AGz P r (fun e H => Atn (forget kp e) fun e => Q .nor e H) e H) e H := AsB rfl
theorem AY7 {n : Nat} : vwp P (.draw n l kp) Q e H = (vq P (l.take n) (fun e => AGz P (l.drop n) (fun e H => Atn (forget kp e) fun e => Q .nor e H) e H) e H) := AsB rfl
/-- What follows. -/
def Thn (P : Program) (b : AsF) (Q : VEx → Env → List Ob → Prop) : VEx → Env → List Ob → Prop := fun x e H => match x with | .nor => vwp P b Q e H | .exit i => Q (.exit i) e H | .ret => Q .ret e H | .pan u => Q (.pan u) e H
theorem AUQ : Thn P b Q .nor e H = vwp P b Q e H := AsB rfl
theorem AQr {i : Nat} : Thn P b Q (.exit i) e H = Q (.exit i) e H := AsB rfl
theorem AUN : Thn P b Q .ret e H = Q .ret e H := AsB rfl
theorem AZ8 : vwp P (.seq a b) Q e H = vwp P a (Thn P b Q) e H := AsB rfl
/-- The end of a block. -/
def Blk (id : Nat) (Q : VEx → Env → List Ob → Prop) : VEx → Env → List Ob → Prop := fun x e H => match x with | .nor => Q .nor e H | .exit i => if i = id then Q .nor e H else Q (.exit i) e H | .ret => Q .ret e H | .pan u => Q (.pan u) e H
theorem AUX {id : Nat} : Blk id Q .nor e H = Q .nor e H := AsB rfl
theorem ASN {id : Nat} : Blk id Q (.exit id) e H = Q .nor e H := by simp [Blk]
theorem ALE {id i : Nat} (h : i ≠ id) : Blk id Q (.exit i) e H = Q (.exit i) e H := by simp [Blk, h]
theorem AUg {id : Nat} : Blk id Q .ret e H = Q .ret e H := AsB rfl
theorem AUl {id : Nat} : vwp P (.block id a) Q e H = vwp P a (Blk id Q) e H := AsB rfl
theorem AWD {c : Opd} : vwp P (.cond c a b) Q e H = AQJ (c.ev e) (vwp P a Q e H) (vwp P b Q e H) := AsB rfl
/-- The end of a round, from a beginning with n0 objects on. -/
def Rnd (n0 : Nat) (lv : List Nat) (Q : VEx → Env → List Ob → Prop) (I : Nat → Env → List Ob → Prop) (n : Nat) : VEx → Env → List Ob → Prop := fun x e H => match x with
 | .nor => ∃ m g, m < n ∧ (n0 ≤ g ∧ (H.length ≤ g ∨ (AF3 g (forget lv e) = true ∧ AGa g (H.take g) = true))) ∧ I m (forget lv e) (H.take g)
 | .exit i => Q (.exit i) e H | .ret => Q .ret e H | .pan u => Q (.pan u) e H
section
variable {n0 : Nat} {lv : List Nat} {I : Nat → Env → List Ob → Prop} {n : Nat}
theorem ATc {i : Nat} : Rnd n0 lv Q I n (.exit i) e H = Q (.exit i) e H := AsB rfl
theorem AVU : Rnd n0 lv Q I n .ret e H = Q .ret e H := AsB rfl
/-- A round's end, all objects kept. -/
theorem AvV (m : Nat) (hm : m < n) (h : n0 ≤ H.length) (hR : I m (forget lv e) H) : Rnd n0 lv Q I n .nor e H := by
 refine ⟨m, H.length, hm, ⟨h, .inl (Nat.le_refl _)⟩, ?_⟩
 rw [List.take_length]; exact hR
/-- A round's end; the objects from the g-th on are forgotten. -/
theorem AVZ (m g : Nat) (hm : m < n) (h : n0 ≤ g) (he : AF3 g (forget lv e) = true) (hH : AGa g (H.take g) = true) (hR : I m (forget lv e) (H.take g)) : Rnd n0 lv Q I n .nor e H :=
 ⟨m, g, hm, ⟨h, .inr ⟨he, hH⟩⟩, hR⟩
end
/-- A LOOP: what holds ahead of each round. -/
theorem AF7 {lv : List Nat} {H0 : List Ob} (I : Nat → Env → List Ob → Prop) (n : Nat) (h0 : I n (forget lv e) H0)
  (hs : ∀ n e H, I n e H → vwp P a (Rnd H0.length lv Q I n) e H) : vwp P (.loop lv a) Q e H0 := by
 rw [AYj]
 exact ⟨I, n, h0, hs⟩
theorem o_g {d s : Nat} {o : VOp} {b : Bool} {r : List VO} {K : Env → List Ob → Prop} : AGz P (⟨some d, o, some (s, b)⟩ :: r) K e H = AH1 e s fun e q => Gd q b (vop P o e H (fun x H => AGz P r K ((d, x) :: e) H)) (AGz P r K ((d, .val undef) :: e) H) := by
 rw [AXn]; refine congrArg (AH1 e s) ?_; funext e q; cases q <;> rfl
def AON (x : TV) (e : Env) (s : Nat) (Q : Env → Option Bool → Prop) [Tg Q] : Prop := match x with
 | .val v => Q e (isB v)
 | .any => (∀ t, Q ((s, .val (.bool t)) :: e) (some t)) ∧ ∀ v, isB v = none → Q ((s, .val v) :: e) none
 | _ => False
@[congr] theorem A00 {x x' : TV} {s : Nat} {Q : Env → Option Bool → Prop} (h : x = x') : AON x e s Q = AON x' e s Q := by rw [h]
theorem AYC {s : Nat} {Q : Env → Option Bool → Prop} : AH1 e s Q = AON (get e s) e s Q := AsB rfl
theorem ATX {b : Bool} {s : Nat} {Q : Env → Option Bool → Prop} : AON (.val (.bool b)) e s Q = Q e (some b) := AsB rfl
theorem AVr {s : Nat} {Q : Env → Option Bool → Prop} : AON (.val undef) e s Q = Q e none := AsB rfl
theorem u_c {d : Nat} {f : FuncId} {args : List Opd} {r : List VO} {K : Env → Prop} : vq P (⟨some d, .s (.call f args), none⟩ :: r) K e H = Atn (evs e args) fun xs => Ava (AC0 xs) (vex fun x => VC P f xs H (fun y H' => y = x ∧ H' = H) ∧ vq P r K ((d, x) :: e) H) := by
 rw [A2L, AA6]; rfl
def Gq (x : TV) (b : Bool) (A B : Prop) [Tg A] [Tg B] : Prop := match x with
 | .val v => if isB v = some b then A else B
 | _ => False
@[congr] theorem A27 {x x' : TV} {b : Bool} {A B : Prop} (h : x = x') : Gq x b A B = Gq x' b A B := by rw [h]
theorem A2V {t : Bool} {A B : Prop} : Gq (.val (.bool t)) true A B = vif t A B := by cases t <;> simp [Gq, vif, isB]
theorem A23 {b : Bool} {A B : Prop} : Gq (.val undef) b A B = B := by simp [Gq, isB, undef]
theorem A26 {t : Bool} {A B : Prop} : Gq (.val (.bool t)) false A B = vif t B A := by cases t <;> simp [Gq, vif, isB]
theorem u_g {d s : Nat} {o : VOp} {b : Bool} {r : List VO} {K : Env → Prop} : vq P (⟨some d, o, some (s, b)⟩ :: r) K e H = Gq (get e s) b (AHY P o e H fun x => vq P r K ((d, x) :: e) H) (vq P r K ((d, .val undef) :: e) H) := AsB rfl
theorem A2H {f : FuncId} {args : List Opd} {k : TV → Prop} : AHY P (.s (.call f args)) e H k = Atn (evs e args) fun xs => Ava (AC0 xs) (vex fun x => VC P f xs H (fun y H' => y = x ∧ H' = H) ∧ k x) := by
 rw [AVB, AA6]; rfl
def AZf (P : Program) (x : TV) (s k : Nat) (c : AsF) (Q : VEx → Env → List Ob → Prop) (e : Env) (H : List Ob) : Prop := match x with
  | .val (.slice none 0 0) => vwp P c Q ((s, .os k H.length 0 [] 0 0 0) :: e) (H ++ [.obj 0 (.arr 0 k [])])
  | _ => vwp P c Q e H
@[congr] theorem A2v {x x' : TV} {s k : Nat} (h : x = x') : AZf P x s k a Q e H = AZf P x' s k a Q e H := by rw [h]
theorem AZM {s k : Nat} : vwp P (.own s k a) Q e H = AZf P (get e s) s k a Q e H := AsB rfl
theorem ATt {s k : Nat} : AZf P (.val (.slice none 0 0)) s k a Q e H = vwp P a Q ((s, .os k H.length 0 [] 0 0 0) :: e) (H ++ [.obj 0 (.arr 0 k [])]) := AsB rfl
theorem AVl {s k k' id ver off n cp : Nat} {p : List (Nat × Nat)} : AZf P (.os k' id ver p off n cp) s k a Q e H = vwp P a Q e H := AsB rfl
end
/-- Results. -/
theorem A1e {t : Nat} {K : TV → Prop} : res [.tmp t] e H K = Atn (get e t) K := AsB rfl
theorem AXm {t : Nat} {r : List VR} {K : List TV → Prop} : AKM (.tmp t :: r) e H K = Atn (get e t) fun x => AKM r e H fun xs => K (x :: xs) := AsB rfl
def A2h (K : TV → Prop) (xs : List TV) : Prop := match xs with
 | [x] => K x
 | xs => (∀ x ∈ xs, At8 x = false) ∧ K (.tup xs)
theorem ARv {x y : TV} {l : List TV} {K : TV → Prop} : A2h K (x :: y :: l) = Ava (AC0 (x :: y :: l)) (Atn (TV.tup (x :: y :: l)) K) := AsB rfl
theorem AYY {r s : VR} {l : List VR} {K : TV → Prop} : res (r :: s :: l) e H K = AKM (r :: s :: l) e H (A2h K) := AsB rfl
theorem AXM {a sz : Nat} {ag : Bool} {K : TV → Prop} : res [.cell a ag sz] e H K = pop (.load ag sz (.t a)) e H K := AsB rfl
theorem A0y {K : TV → Prop} : res [] e H K = K (.tup []) := by rw [AOd]; simp
end

def VCP (P : Program) (f : FuncId) (xs : List TV) (H : List Ob) (K : TV → List Ob → Prop) (KP : Value → List Ob → Prop) [Tg K] [Tg KP] : Prop := AFT P f xs H K KP
@[congr] theorem AXf {P : Program} {f : FuncId} {xs xs' : List TV} {H H' : List Ob} {K : TV → List Ob → Prop} {KP : Value → List Ob → Prop} (he : xs = xs') (hH : H = H') : VCP P f xs H K KP = VCP P f xs' H' K KP := by rw [he, hH]
def AWm (x : TV) (K : Value → Prop) [Tg K] : Prop := match x with
 | .val (.iface t v) => K (.iface t v)
 | .ifc t (.val v) => K (.iface t v)
 | _ => False
@[congr] theorem A2z {x x' : TV} {K : Value → Prop} (h : x = x') : AWm x K = AWm x' K := by rw [h]
theorem AS2 {t : TypeId} {v : Value} {K : Value → Prop} : AWm (.ifc t (.val v)) K = K (.iface t v) := AsB rfl
theorem AVI {t : TypeId} {v : Value} {K : Value → Prop} : AWm (.val (.iface t v)) K = K (.iface t v) := AsB rfl
section
variable {P : Program} {e : Env} {H : List Ob} {r : List VO} {K : Env → List Ob → Prop} {PP : Value → List Ob → Prop} {Q : VEx → Env → List Ob → Prop}
@[congr] theorem AVF {l : List VO} {e' : Env} {H' : List Ob} (he : e = e') (hH : H = H') : ACZ P PP l K e H = ACZ P PP l K e' H' := by rw [he, hH]
@[congr] theorem AT8 {o : VOp} {e' : Env} {H' : List Ob} {KK : TV → List Ob → Prop} (he : e = e') (hH : H = H') : pvop P PP o e H KK = pvop P PP o e' H' KK := by rw [he, hH]
theorem AXo {l : List VO} {kp : List Nat} : vwp P (.pops l kp) Q e H = ACZ P (fun u H => Q (.pan u) (ALc l e) H) l (fun e H => Atn (forget kp e) fun e => Q .nor e H) e H := AsB rfl
theorem AUv {n : Nat} {l : List VO} {kp : List Nat} : vwp P (.pdraw n l kp) Q e H = (vq P (l.take n) (fun e => ACZ P (fun u H => Q (.pan u) [] H) (l.drop n) (fun e H => Atn (forget kp e) fun e => Q .nor e H) e H) e H) := AsB rfl
theorem AXI : ACZ P PP [] K e H = K e H := AsB rfl
theorem A2Q {d : Nat} {o : VOp} : ACZ P PP (⟨some d, o, none⟩ :: r) K e H = pvop P PP o e H (fun x H => ACZ P PP r K ((d, x) :: e) H) := AsB rfl
theorem A0c {o : VOp} : ACZ P PP (⟨none, o, none⟩ :: r) K e H = pvop P PP o e H (fun x H => ACZ P PP r K e H) := AsB rfl
theorem A25 {d s : Nat} {o : VOp} {b : Bool} : ACZ P PP (⟨some d, o, some (s, b)⟩ :: r) K e H = AH1 e s fun e q => Gd q b (pvop P PP o e H (fun x H => ACZ P PP r K ((d, x) :: e) H)) (ACZ P PP r K ((d, .val undef) :: e) H) := by
 show AzN (pvop P PP) _ K e H = _
 rw [AzN]
 refine congrArg (AH1 e s) ?_; funext e q; cases q <;> rfl
theorem AWA {o : POp} {KK : TV → List Ob → Prop} : pvop P PP (.p o) e H KK = pop o e H fun x => KK x H := AsB rfl
theorem AN5 {f : FuncId} {args : List Opd} {KK : TV → List Ob → Prop} : pvop P PP (.s (.call f args)) e H KK = Atn (evs e args) fun xs => Ava (AC0 xs) (VCP P f xs H KK PP) := by
 show ((∀ x ∈ args, At8 (x.ev e) = false) ∧ _) = _
 rw [AA6]; rfl
theorem ASf {x : Opd} {KK : TV → List Ob → Prop} : pvop P PP (.s (.pan x)) e H KK = AWm (x.ev e) (fun u => PP u H) := by
 show (match x.ev e with | .val (.iface t v) => PP (.iface t v) H | .ifc t (.val v) => PP (.iface t v) H | _ => False) = _
 unfold AWm
 split <;> simp_all
theorem AMY {z : TV} {KK : TV → List Ob → Prop} : pvop P PP (.s (.alloc z)) e H KK = sop P (.alloc z) e H KK := AsB rfl
theorem ASa {x : Opd} {KK : TV → List Ob → Prop} : pvop P PP (.s (.box x)) e H KK = sop P (.box x) e H KK := AsB rfl
theorem ALm {k n : Nat} {z : TV} {ps : List (Nat × Opd)} {KK : TV → List Ob → Prop} : pvop P PP (.s (.bslice k n z ps)) e H KK = sop P (.bslice k n z ps) e H KK := AsB rfl
theorem ANv {sz : Nat} {x v : Opd} {KK : TV → List Ob → Prop} : pvop P PP (.s (.store sz x v)) e H KK = sop P (.store sz x v) e H KK := AsB rfl
theorem ARh {k bytes : Nat} {z : TV} {l c : Opd} {KK : TV → List Ob → Prop} : pvop P PP (.s (.mks k bytes z l c)) e H KK = sop P (.mks k bytes z l c) e H KK := AsB rfl
theorem ASs {k bytes : Nat} {et : TypeId} {x y : Opd} {KK : TV → List Ob → Prop} : pvop P PP (.s (.app k bytes et x y)) e H KK = sop P (.app k bytes et x y) e H KK := AsB rfl
theorem APG {et : TypeId} {x y : Opd} {KK : TV → List Ob → Prop} : pvop P PP (.s (.appS et x y)) e H KK = sop P (.appS et x y) e H KK := AsB rfl
theorem AOQ {k n : Nat} {z : TV} {x y : Opd} {KK : TV → List Ob → Prop} : pvop P PP (.s (.appZ k n z x y)) e H KK = sop P (.appZ k n z x y) e H KK := AsB rfl
theorem ARz {x : Opd} {n : Bool} {KK : TV → List Ob → Prop} : pvop P PP (.s (.eqS x n)) e H KK = sop P (.eqS x n) e H KK := AsB rfl
theorem AQs {x : Opd} {KK : TV → List Ob → Prop} : pvop P PP (.s (.s2b x)) e H KK = sop P (.s2b x) e H KK := AsB rfl
theorem AOr {k : Nat} {x y : Opd} {KK : TV → List Ob → Prop} : pvop P PP (.s (.copy k x y)) e H KK = sop P (.copy k x y) e H KK := AsB rfl
theorem AM9 {x y : Opd} {KK : TV → List Ob → Prop} : pvop P PP (.s (.copyS x y)) e H KK = sop P (.copyS x y) e H KK := AsB rfl
theorem ANp {x : Opd} {args : List Opd} {KK : TV → List Ob → Prop} : pvop P PP (.s (.callv x args)) e H KK = sop P (.callv x args) e H KK := AsB rfl
theorem ATz {x : Opd} {nm : String} {args : List Opd} {KK : TV → List Ob → Prop} : pvop P PP (.s (.inv x nm args)) e H KK = sop P (.inv x nm args) e H KK := AsB rfl
theorem ATu {kk : MK} {h : Option Opd} {KK : TV → List Ob → Prop} : pvop P PP (.s (.mkm kk h)) e H KK = sop P (.mkm kk h) e H KK := AsB rfl
theorem AOc {kk : MK} {m k x : Opd} {KK : TV → List Ob → Prop} : pvop P PP (.s (.mupd kk m k x)) e H KK = sop P (.mupd kk m k x) e H KK := AsB rfl
theorem AN3 {kk : MK} {z : TV} {m k : Opd} {KK : TV → List Ob → Prop} : pvop P PP (.s (.ment kk z m k)) e H KK = sop P (.ment kk z m k) e H KK := AsB rfl
theorem AP0 {m st x : Opd} {KK : TV → List Ob → Prop} : pvop P PP (.s (.mest m st x)) e H KK = sop P (.mest m st x) e H KK := AsB rfl
theorem ALI {z : TV} {t : TypeId} {KK : TV → List Ob → Prop} : pvop P PP (.s (.allocT z t)) e H KK = sop P (.allocT z t) e H KK := AsB rfl
theorem AOs {x : Opd} {t : TypeId} {KK : TV → List Ob → Prop} : pvop P PP (.s (.boxT x t)) e H KK = sop P (.boxT x t) e H KK := AsB rfl
theorem APq {x : Opd} {KK : TV → List Ob → Prop} : pvop P PP (.s (.rngS x)) e H KK = sop P (.rngS x) e H KK := AsB rfl
theorem APY {x : Opd} {KK : TV → List Ob → Prop} : pvop P PP (.s (.nxtS x)) e H KK = sop P (.nxtS x) e H KK := AsB rfl
theorem APL {x : Opd} {KK : TV → List Ob → Prop} : pvop P PP (.s (.rngM x)) e H KK = sop P (.rngM x) e H KK := AsB rfl
theorem APP {x : Opd} {KK : TV → List Ob → Prop} : pvop P PP (.s (.nxtM x)) e H KK = sop P (.nxtM x) e H KK := AsB rfl
theorem AOj {kk : MK} {m k : Opd} {KK : TV → List Ob → Prop} : pvop P PP (.s (.delM kk m k)) e H KK = sop P (.delM kk m k) e H KK := AsB rfl
theorem ASk {x : Opd} {KK : TV → List Ob → Prop} : pvop P PP (.s (.cvS x)) e H KK = sop P (.cvS x) e H KK := AsB rfl
theorem AOa {k : Nat} {z : TV} {x : Opd} {KK : TV → List Ob → Prop} : pvop P PP (.s (.clrS k z x)) e H KK = sop P (.clrS k z x) e H KK := AsB rfl
theorem ANI {f : FuncId} {x : Opd} {KK : TV → List Ob → Prop} : pvop P PP (.s (.bstr f x)) e H KK = sop P (.bstr f x) e H KK := AsB rfl
theorem AV7 {b : AsF} {u : Value} : Thn P b Q (.pan u) e H = Q (.pan u) e H := AsB rfl
theorem AVm {id : Nat} {u : Value} : Blk id Q (.pan u) e H = Q (.pan u) e H := AsB rfl
theorem AVa {n0 : Nat} {lv : List Nat} {I : Nat → Env → List Ob → Prop} {n : Nat} {u : Value} : Rnd n0 lv Q I n (.pan u) e H = Q (.pan u) e H := AsB rfl
theorem AM8 {vr : List VR} {R : TV → List Ob → Prop} {RP : Value → List Ob → Prop} : AP1 vr R RP .ret e H = res vr e H fun x => R x H := AsB rfl
theorem ANc {vr : List VR} {R : TV → List Ob → Prop} {RP : Value → List Ob → Prop} : AP1 vr R RP .nor e H = res vr e H fun x => R x H := AsB rfl
theorem AMM {vr : List VR} {R : TV → List Ob → Prop} {RP : Value → List Ob → Prop} {u : Value} : AP1 vr R RP (.pan u) e H = RP u H := AsB rfl
def AKo (P : Program) (PP : Value → List Ob → Prop) (Ss : SsT) (l : List VO) (K : Env → List Ob → Prop) (e : Env) (H : List Ob) : Prop := AzN (pvopS P PP Ss) l K e H
@[congr] theorem AUY {Ss : SsT} {l : List VO} {e' : Env} {H' : List Ob} (he : e = e') (hH : H = H') : AKo P PP Ss l K e H = AKo P PP Ss l K e' H' := by rw [he, hH]
@[congr] theorem ATQ {Ss : SsT} {o : VOp} {e' : Env} {H' : List Ob} {KK : TV → List Ob → Prop} (he : e = e') (hH : H = H') : pvopS P PP Ss o e H KK = pvopS P PP Ss o e' H' KK := by rw [he, hH]
theorem AVJ {n : Nat} {l : List VO} {kp : List Nat} : vwp P (.sdraw n l kp) Q e H = (vq P (l.take (nOf n)) (fun e => AKo P (fun u H => Q (.pan u) [] H) (ssN n l) (l.drop (nOf n)) (fun e H => Atn (forget kp e) fun e => Q .nor e H) e H) e H) := AsB rfl
section
variable {Ss : SsT}
theorem AYy : AKo P PP Ss [] K e H = K e H := AsB rfl
theorem A2N {d : Nat} {o : VOp} : AKo P PP Ss (⟨some d, o, none⟩ :: r) K e H = pvopS P PP Ss o e H (fun x H => AKo P PP Ss r K ((d, x) :: e) H) := AsB rfl
theorem A0F {o : VOp} : AKo P PP Ss (⟨none, o, none⟩ :: r) K e H = pvopS P PP Ss o e H (fun x H => AKo P PP Ss r K e H) := AsB rfl
theorem AYM {o : POp} {KK : TV → List Ob → Prop} : pvopS P PP Ss (.p o) e H KK = pop o e H fun x => KK x H := AsB rfl
theorem AN9 {f : FuncId} {args : List Opd} {KK : TV → List Ob → Prop} : pvopS P PP Ss (.s (.call f args)) e H KK = Atn (evs e args) fun xs => Ava (AC0 xs) (VCP P f xs H (fun x H' => KK x H' ∧ ABR Ss.l e H H') PP) := by
 show ((∀ x ∈ args, At8 (x.ev e) = false) ∧ _) = _
 rw [AA6]; rfl
theorem AMK {sz : Nat} {x v : Opd} {KK : TV → List Ob → Prop} : pvopS P PP Ss (.s (.store sz x v)) e H KK = sop P (.store sz x v) e H fun x H' => KK x H' ∧ ABR Ss.l e H H' := AsB rfl
theorem AM5 {z : TV} {KK : TV → List Ob → Prop} : pvopS P PP Ss (.s (.alloc z)) e H KK = sop P (.alloc z) e H KK := AsB rfl
theorem AQO {k bytes : Nat} {z : TV} {l c : Opd} {KK : TV → List Ob → Prop} : pvopS P PP Ss (.s (.mks k bytes z l c)) e H KK = sop P (.mks k bytes z l c) e H KK := AsB rfl
theorem ASv {k bytes : Nat} {et : TypeId} {x y : Opd} {KK : TV → List Ob → Prop} : pvopS P PP Ss (.s (.app k bytes et x y)) e H KK = vif Ss.ap (sop P (.app k bytes et x y) e H fun x H' => KK x H' ∧ ABR Ss.l e H H') (sop P (.app k bytes et x y) e H KK) := by
 show sop P (.app k bytes et x y) e H (fun x H' => KK x H' ∧ (Ss.ap = true → ABR Ss.l e H H')) = _
 unfold vif
 split
 ·rename_i h
  congr 1; funext x H'; simp [h]
 ·rename_i h
  congr 1; funext x H'; simp [h]
theorem AYo {n : Nat} : nOf n = n % 10000 := AsB rfl
theorem AXX {n : Nat} {l : List VO} : (ssN n l).ap = decide (10000 ≤ n) := AsB rfl
theorem AK1 {k n : Nat} {z : TV} {ps : List (Nat × Opd)} {KK : TV → List Ob → Prop} : pvopS P PP Ss (.s (.bslice k n z ps)) e H KK = sop P (.bslice k n z ps) e H KK := AsB rfl
end
theorem AMv {e : Env} {H H' : List Ob} : ABR [] e H H' := ABR.nil
theorem AOi {s : Nat} {Ss : List Nat} {e : Env} {H H' : List Ob} {id ver : Nat} {p : List (Nat × Nat)} (h : get e s = .op id ver p) (h1 : H'[id]? = H[id]?) (h2 : ABR Ss e H H') : ABR (s :: Ss) e H H' := fun t ht id' ver' p' hg => by
 rcases List.mem_cons.1 ht with rfl | ht
 ·rw [h] at hg; cases hg; exact h1
 ·exact h2 t ht id' ver' p' hg
end
def AsH := (And.intro (And.intro (And.intro (And.intro (And.intro (And.intro (And.intro (And.intro @AZZ @AWS) (And.intro @A1J @A2F)) (And.intro (And.intro @AXC @A1O) (And.intro @A05 @AW5))) (And.intro (And.intro (And.intro @ASU @AUI) (And.intro @AYZ @AVD)) (And.intro (And.intro @A01 @AX5) (And.intro @AZL @AWM)))) (And.intro (And.intro (And.intro (And.intro @AYw @A1h) (And.intro @AZI @A1F)) (And.intro (And.intro @AVX @AZH) (And.intro @AXB @A1z))) (And.intro (And.intro (And.intro @A0m @A0h) (And.intro @A0v @AZ5)) (And.intro (And.intro @AWd @ASe) (And.intro @A1p @AT1))))) (And.intro (And.intro (And.intro (And.intro (And.intro @ASW @AZV) (And.intro @AWH @AWU)) (And.intro (And.intro @AWL @AWJ) (And.intro @AYd @AZc))) (And.intro (And.intro (And.intro @AYL @AXF) (And.intro @A1G @ASz)) (And.intro (And.intro @AU7 @A1s) (And.intro @AZ6 @AYg)))) (And.intro (And.intro (And.intro (And.intro @AYK @AVx) (And.intro @A0r @AXq)) (And.intro (And.intro @A0O @AYe) (And.intro @AXN @AYQ))) (And.intro (And.intro (And.intro @AWT @AWw) (And.intro @AYx @AWb)) (And.intro (And.intro @A1m @A0s) (And.intro @AYX @ASd)))))) (And.intro (And.intro (And.intro (And.intro (And.intro (And.intro @AY7 @AWY) (And.intro @AZ8 @AUl)) (And.intro (And.intro @AWD @AYD) (And.intro @A0b @AUB))) (And.intro (And.intro (And.intro @AZM @AY0) (And.intro @AXk @ARO)) (And.intro (And.intro @AYu @AYS) (And.intro @AU2 @o_g)))) (And.intro (And.intro (And.intro (And.intro @AYC @A02) (And.intro @AZK @AXD)) (And.intro (And.intro @A2R @u_c) (And.intro @u_g @AVT))) (And.intro (And.intro (And.intro @A2H @AJ1) (And.intro @AJ3 @A1e)) (And.intro (And.intro @AXM @A0y) (And.intro @AYY @ALW))))) (And.intro (And.intro (And.intro (And.intro (And.intro @AXm @AKx) (And.intro @ARv @AUQ)) (And.intro (And.intro @AQr @AUN) (And.intro @AUX @ASN))) (And.intro (And.intro (And.intro @ALE @AUg) (And.intro @ATc @AVU)) (And.intro (And.intro @AXo @AUv) (And.intro @AVJ @AYy)))) (And.intro (And.intro (And.intro (And.intro @A2N @A0F) (And.intro @AYM @AN9)) (And.intro (And.intro @AMK @AM5) (And.intro @AQO @ASv))) (And.intro (And.intro (And.intro @AK1 @AXI) (And.intro @A2Q @A0c)) (And.intro (And.intro @A25 @AWA) (And.intro @AN5 @ASf))))))) (And.intro (And.intro (And.intro (And.intro (And.intro (And.intro @AMY @ASa) (And.intro @ALm @ANv)) (And.intro (And.intro @ARh @ASs) (And.intro @APG @AQs))) (And.intro (And.intro (And.intro @AOQ @ARz) (And.intro @AOr @AM9)) (And.intro (And.intro @ANp @ATz) (And.intro @ATu @AOc)))) (And.intro (And.intro (And.intro (And.intro @AN3 @AP0) (And.intro @ALI @AOs)) (And.intro (And.intro @APq @APY) (And.intro @APL @APP))) (And.intro (And.intro (And.intro @AOj @AOa) (And.intro @ASk @ANI)) (And.intro (And.intro @AV7 @AVm) (And.intro @AVa @AM8))))) (And.intro @ANc @AMM)))
def AsE := (And.intro (And.intro (And.intro (And.intro (And.intro (And.intro (And.intro (And.intro @AYo @AXX) (And.intro @AVI @AS2)) (And.intro (And.intro @AQK @AO0) (And.intro @AUo @AUz))) (And.intro (And.intro (And.intro @AXs @AWy) (And.intro @AX9 @AN6)) (And.intro (And.intro @ARe @AVN) (And.intro @ATq @AX3)))) (And.intro (And.intro (And.intro (And.intro @AOH @AUf) (And.intro @AQz @AXV)) (And.intro (And.intro @AVy @AYt) (And.intro @AWQ @AOg))) (And.intro (And.intro (And.intro @AU6 @ARg) (And.intro @AVM @AR2)) (And.intro (And.intro @AUZ @AXJ) (And.intro @ASA @AV0))))) (And.intro (And.intro (And.intro (And.intro (And.intro @AUG @ATh) (And.intro @AS0 @ANt)) (And.intro (And.intro @ANb @APs) (And.intro @AR4 @ARo))) (And.intro (And.intro (And.intro @ANQ @APc) (And.intro @AVL @ASI)) (And.intro (And.intro @AUy @ASX) (And.intro @ARw @AQF)))) (And.intro (And.intro (And.intro (And.intro @AOb @AVk) (And.intro @AWa @AVq)) (And.intro (And.intro @AVt @AVg) (And.intro @AUE @AVd))) (And.intro (And.intro (And.intro @AQ7 @AVR) (And.intro @AQv @AVu)) (And.intro (And.intro @APp @AU8) (And.intro @ATg @ASu)))))) (And.intro (And.intro (And.intro (And.intro (And.intro (And.intro @ATv @APU) (And.intro @ANz @AWk)) (And.intro (And.intro @AVz @AYh) (And.intro @AYz @AYW))) (And.intro (And.intro (And.intro @AYF @ARb) (And.intro @ARm @ASy)) (And.intro (And.intro @ARN @AYJ) (And.intro @AYa @AW6)))) (And.intro (And.intro (And.intro (And.intro @APe @AMW) (And.intro @AN2 @AQU)) (And.intro (And.intro @ARR @AOe) (And.intro @ASE @ARj))) (And.intro (And.intro (And.intro @ARY @AWf) (And.intro @AUH @ARP)) (And.intro (And.intro @APf @ARB) (And.intro @AUR @ASB))))) (And.intro (And.intro (And.intro (And.intro (And.intro @AT0 @AUs) (And.intro @AUe @AR9)) (And.intro (And.intro @ASm @ARr) (And.intro @ARQ @AQG))) (And.intro (And.intro (And.intro @ASr @ANJ) (And.intro @ATB @AV6)) (And.intro (And.intro @AY9 @APt) (And.intro @AWx @AYm)))) (And.intro (And.intro (And.intro (And.intro @AUk @AV1) (And.intro @AU1 @ASi)) (And.intro (And.intro @AQl @AQH) (And.intro @Option.getD_none.{0} @Option.getD_some.{0}))) (And.intro (And.intro (And.intro @ANU @AUw) (And.intro @AQw @ARi)) (And.intro (And.intro @ATj @ALZ) (And.intro @APB @ARU))))))) (And.intro (And.intro (And.intro (And.intro (And.intro (And.intro @ARn @AUi) (And.intro @ASC @AT7)) (And.intro (And.intro @AQj @APl) (And.intro @AVG @ARK))) (And.intro (And.intro (And.intro @AQR @ARs) (And.intro @ARd @AQt)) (And.intro (And.intro @AR7 @ATs) (And.intro @AUK @APM)))) (And.intro (And.intro (And.intro (And.intro @AU4 @AYl) (And.intro @AY2 @AMO)) (And.intro (And.intro @AOF @A1v) (And.intro @A1g @A2Z))) (And.intro (And.intro (And.intro @ATw @ATX) (And.intro @AVr @A2V)) (And.intro (And.intro @A26 @A23) (And.intro @ATt @AVl))))) (And.intro (And.intro (And.intro @AQ4 @AR3) (And.intro @AUU @AQo)) (And.intro @AP5 @ANq))))
def AsI := (And.intro (And.intro (And.intro (And.intro (And.intro (And.intro (And.intro (And.intro @ARS @ASw) (And.intro @AUW @AUO)) (And.intro (And.intro @AUd @AVw) (And.intro @AS1 @ARl))) (And.intro (And.intro (And.intro @ARZ @ARJ) (And.intro @AWi @AUm)) (And.intro (And.intro @AVV @AOW) (And.intro @AOE @AQn)))) (And.intro (And.intro (And.intro (And.intro @AQS @AQW) (And.intro @AQ1 @AOk)) (And.intro (And.intro @APO @APv) (And.intro @AOt @ARt))) (And.intro (And.intro (And.intro @AQ6 @AS8) (And.intro @ARX @AUT)) (And.intro (And.intro @AVj @AT9) (And.intro @AVe @AQM))))) (And.intro (And.intro (And.intro (And.intro (And.intro @AQi @ASG) (And.intro @AR6 @AUp)) (And.intro (And.intro @AT4 @AVA) (And.intro @AOA @APw))) (And.intro (And.intro (And.intro @ATe @ARW) (And.intro @ARA @ATk)) (And.intro (And.intro @ANH @ASV) (And.intro @AQx @AOO)))) (And.intro (And.intro (And.intro (And.intro @APd @AQq) (And.intro @ASF @ARc)) (And.intro (And.intro @ATA @AOv) (And.intro @AO6 @ASc))) (And.intro (And.intro (And.intro @AQ5 @AQh) (And.intro @AQe @APS)) (And.intro (And.intro @ANl @AKR) (And.intro @AN4 @AP8)))))) (And.intro (And.intro (And.intro (And.intro (And.intro (And.intro @ANV @APT) (And.intro @ANn @AR0)) (And.intro (And.intro @AOC @ALu) (And.intro @AKK @ANf))) (And.intro (And.intro (And.intro @AR5 @ANN) (And.intro @AJ8 @AJw)) (And.intro (And.intro @A24 @A2G) (And.intro @A2J @AQN)))) (And.intro (And.intro (And.intro (And.intro @ASb @ATx) (And.intro @AMz @ART)) (And.intro (And.intro @ATl @ANg) (And.intro @AK9 @APW))) (And.intro (And.intro (And.intro @AM3 @ATi) (And.intro @AMJ @ALq)) (And.intro (And.intro @AME @AKV) (And.intro @AOh @AMX))))) (And.intro (And.intro (And.intro (And.intro (And.intro @ALv @AJP) (And.intro @AI8 @AHG)) (And.intro (And.intro @AUq @ARV) (And.intro @AOd @ARI))) (And.intro (And.intro (And.intro @ALW @ASt) (And.intro @AKx @AJ1)) (And.intro (And.intro @AJ3 @ATr) (And.intro @AST @AUP)))) (And.intro (And.intro (And.intro (And.intro @AWe @AQQ) (And.intro @AU0 @AUD)) (And.intro (And.intro @AQC @ASn) (And.intro @AQV @AOS))) (And.intro (And.intro (And.intro @ANj @AVo) (And.intro @AT2 @AW7)) (And.intro (And.intro @AVf @AU5) (And.intro @AUS @AVv))))))) (And.intro (And.intro (And.intro @ATf @ANT) (And.intro @AP4 @ASg)) (And.intro (And.intro @A0E @AYr) @AXt)))
theorem AM7 {α β : Type} {f : α → β} {l : List α} {i : Nat} : (l.map f).drop i = (l.drop i).map f := List.map_drop.symm
theorem ANo {α β : Type} {f : α → β} {l : List α} {i : Nat} : (l.map f).take i = (l.take i).map f := List.map_take.symm
theorem AYk {b : UInt8} : IntKind.i64.wrap (b.toNat : Int) = b.toNat := AvE (by omega) (by have := b.toNat_lt; omega)
theorem ATV {n : Nat} : IntKind.u8.wrap (n : Int) = ((UInt8.ofNat n).toNat : Int) := by
 rw [IntKind.wrap_u8, UInt8.toNat_ofNat']; omega
theorem AWC {α : Type} {n i : Nat} {a : α} (h : i < n) : (List.replicate n a)[i]? = some a := by simp [h]
section
variable {a b c : Nat}
theorem AS4 : (a : Int) * (b : Int) = ((a * b : Nat) : Int) := AsB rfl
theorem ASx (h : b ≤ a) : (a : Int) - (b : Int) = ((a - b : Nat) : Int) := by omega
theorem AQm : (a : Int) / (b : Int) = ((a / b : Nat) : Int) := AsB rfl
theorem ARL : (a : Int) % (b : Int) = ((a % b : Nat) : Int) := AsB rfl
variable {t : TypeId} {k2 : IntKind}
theorem AX1 (h1 : b ≤ 63) (h2 : a * 2 ^ b ≤ 9223372036854775807) : AvQ t .shl (.int .i64 (a : Int)) (.int k2 (b : Int)) = some (.int .i64 ((a * 2 ^ b : Nat) : Int)) := by
 have e : (a : Int) * 2 ^ ((b : Int).toNat) = ((a * 2 ^ b : Nat) : Int) := by rw [Int.toNat_natCast, Int.natCast_mul, Int.natCast_pow]; rfl
 rw [A0Q (by omega) (by omega) (by rw [e]; omega) (by rw [e]; omega), e]
theorem AXz (h1 : b ≤ 63) : AvQ t .shr (.int .i64 (a : Int)) (.int k2 (b : Int)) = some (.int .i64 ((a / 2 ^ b : Nat) : Int)) := by
 have e : (a : Int) / 2 ^ ((b : Int).toNat) = ((a / 2 ^ b : Nat) : Int) := by rw [Int.toNat_natCast, Int.natCast_ediv, Int.natCast_pow]; rfl
 rw [A0W (by omega) (by omega) (by omega), e]
variable {k : IntKind}
theorem AW8 (h : b ≠ 0) : AvQ t .rem (.int k (a : Int)) (.int k (b : Int)) = some (.int k ((a % b : Nat) : Int)) := by rw [AZ0 (by omega) (by omega), Int.natCast_emod]
theorem AXU (h : b ≠ 0) (h2 : a ≤ 9223372036854775807) : AvQ t .quo (.int .i64 (a : Int)) (.int .i64 (b : Int)) = some (.int .i64 ((a / b : Nat) : Int)) := by rw [A08 (by omega) (by omega) (by omega), Int.natCast_ediv]
end
theorem AsR.toPureV {P : Program} {f : FuncId} {args : List TV} {R : TV → Prop} (h : AsR P f args [] fun x H' => Atr (frz H' x) R) : At6 P f args R :=
 AsR.toPure (h.mono fun x H' hx => by
  cases hf : frz H' x with
  | none => rw [hf] at hx; exact hx
  | some y => rw [hf] at hx; exact hx)
abbrev mv_ (d s : Nat) : VO := ⟨some d, .p (.mov (.t s)), none⟩
abbrev po_ (d : Nat) (p : POp) : VO := ⟨some d, .p p, none⟩
abbrev so_ (d : Nat) (q : SOp) : VO := ⟨some d, .s q, none⟩
abbrev ci_ (n : Nat) : Opd := .c (.int .i64 (n : Int))
theorem AwT {P : Program} {f : FuncId} {fn : Func} {vc : AsF} {vr : List VR} (n : Nat) (hf : P.funcs[f]? = some fn) (ht : fn.body.bind (trC P fn.ntmps) = some (er vc)) (hr : trR P fn.results.toList = some vr) (hn : fn.ntmps = n) :
  ∀ ⦃args : List TV⦄ ⦃H : List Ob⦄ ⦃R : TV → List Ob → Prop⦄, args.length ≤ n → vwp P vc (AJf vr R) (AIC 0 args) H → AsR P f args H R := fun _ _ _ h1 h2 => APu hf ht hr (hn ▸ h1) h2
theorem AsC {c c' : AsF} (h : c = c') : ∀ (P : Program) (Q : VEx → Env → List Ob → Prop) (e : Env) (H : List Ob), vwp P c Q e H = vwp P c' Q e H := fun _ _ _ _ => by rw [h]
theorem AsD {α : Type} : (∀ {l : List α} {i : Nat} {a : α}, (l.set i a).length = l.length) ∧ (∀ {l m : List α}, (l ++ m).length = l.length + m.length) ∧ (∀ {a : α} {l : List α}, (a :: l).length = l.length + 1) ∧ ([] : List α).length = 0 := ⟨List.length_set, List.length_append, List.length_cons, List.length_nil⟩
theorem AsR.toFreshV {P : Program} {f : FuncId} {args : List TV} {R : TV → Prop} (h : AsR P f args [] fun x H' => Atr (frs H' x) R) : Azi P f args R :=
 AsR.toFresh (h.mono fun x H' hx => by
  cases hf : frs H' x with
  | none => rw [hf] at hx; exact hx
  | some y => rw [hf] at hx; exact hx)
theorem AQL {α : Type} {l : List α} {n : Nat} (h : l.length ≤ n) : l.take n = l := List.take_of_length_le h
theorem A0D {α : Type} {c : Prop} [Decidable c] {a b : α} (h : c) : (if c then a else b) = a := if_pos h
theorem A0V {α : Type} {c : Prop} [Decidable c] {a b : α} (h : ¬ c) : (if c then a else b) = b := if_neg h
theorem AKT {α : Type} {l : List α} {n : Nat} (h : n ≤ l.length) : (l.take n).length = n := by simp [h]
theorem AI4 {α : Type} {l : List α} {i : Nat} : (l.drop i).take (l.length - i) = l.drop i := List.take_of_length_le (by simp)
theorem ARx {a b : Nat} : a + b - a = b := Nat.add_sub_cancel_left a b
theorem ASP {α : Type} {l m : List α} : (l ++ m).take l.length = l := List.take_left
theorem AQA {α : Type} {l m : List α} : (l ++ m).drop l.length = m := List.drop_left
theorem ATp {a b : Nat} : a + b - b = a := Nat.add_sub_cancel a b
def AsG := (And.intro (And.intro (And.intro (And.intro (And.intro (And.intro (And.intro @ASP @AQA) (And.intro @ARx @AI4)) (And.intro (And.intro @AKT @List.length_drop.{0}) (And.intro @A0D @A0V))) (And.intro (And.intro (And.intro @AQL @ATp) (And.intro @Nat.zero_le @AYR)) (And.intro (And.intro @List.nil_append.{0} @List.length_nil.{0}) (And.intro @List.length_cons.{0} @List.cons_append.{0})))) (And.intro (And.intro (And.intro (And.intro @List.getElem?_cons_zero.{0} @List.getElem?_cons_succ.{0}) (And.intro @List.set_cons_zero.{0} @List.set_cons_succ.{0})) (And.intro (And.intro @List.map_cons.{0,0} @List.map_nil.{0,0}) (And.intro @ASl @ASj))) (And.intro (And.intro (And.intro @true_and @and_true) (And.intro @List.take_zero.{0} @List.take_succ_cons.{0})) (And.intro (And.intro @List.drop_succ_cons.{0} @List.take_nil.{0}) (And.intro @List.drop_nil.{0} @Nat.zero_add))))) (And.intro (And.intro (And.intro (And.intro (And.intro @A1l @AZ1) (And.intro @A1H @A0d)) (And.intro (And.intro @A07 @A0f) (And.intro @A1S @A0C))) (And.intro (And.intro (And.intro @A0l @A0k) (And.intro @A2Y @AW8)) (And.intro (And.intro @AXU @ATG) (And.intro @AOo @AOT)))) (And.intro (And.intro (And.intro (And.intro @AP9 @AOM) (And.intro @ANd @AOn)) (And.intro (And.intro @APb @APV) (And.intro @AN0 @AOp))) (And.intro (And.intro (And.intro @Bool.false_xor @Bool.true_xor) (And.intro @A0I @A0x)) (And.intro (And.intro @A1Q @decide_true) (And.intro @decide_false @Bool.not_true)))))) (And.intro (And.intro (And.intro (And.intro (And.intro (And.intro @Bool.not_false @not_true_eq_false) (And.intro @not_false_eq_true @Bool.false_eq_true)) (And.intro (And.intro @Bool.true_eq_false @Option.bind_some.{0,0}) (And.intro @Option.map_some.{0,0} @Bool.and_self))) (And.intro (And.intro (And.intro @and_self @Nat.sub_zero) (And.intro @Nat.mul_one @List.length_map.{0,0})) (And.intro (And.intro @Int.toNat_natCast @List.getElem?_map.{0,0}) (And.intro @Int.natCast_nonneg @List.length_append.{0})))) (And.intro (And.intro (And.intro (And.intro @List.drop_zero.{0} @AM7) (And.intro @ANo @ASH)) (And.intro (And.intro @AQT @ARD) (And.intro @AWh @AV2))) (And.intro (And.intro (And.intro @AUL @AVY) (And.intro @List.replicate_zero.{0} @List.take_length.{0})) (And.intro (And.intro @List.length_set.{0} @List.length_replicate.{0}) (And.intro @AYk @AvE))))) (And.intro (And.intro (And.intro (And.intro @ATV @List.set_set.{0}) (And.intro @List.getElem?_nil.{0} @AWC)) (And.intro (And.intro @AS4 @ASx) (And.intro @AQm @ARL))) (And.intro @AX1 @AXz))))
end Go.Proofs.YtmlompedpahkjaaGreatDoor

