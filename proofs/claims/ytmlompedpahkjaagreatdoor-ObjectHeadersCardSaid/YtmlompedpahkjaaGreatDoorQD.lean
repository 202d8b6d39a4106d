/- What the proof of ObjectHeadersCard stands on (texts merged; names shortened by a program): part 4. -/
import Derived.Test.YtmlompedpahkjaaGreatDoorQC
import Derived.RangeFuncIn
import Derived.RangeFuncRecord
import Derived.RangeFuncLeaves
import Derived.Sort.LoopGhostIn
namespace Go.Proofs.YtmlompedpahkjaaGreatDoor
open Go.RowKit
variable [A4e]
set_option linter.unusedSectionVars false
set_option linter.unusedSimpArgs false
set_option linter.unusedVariables false
set_option autoImplicit false

inductive A3d where
 | ops (l : List VO) (keep : List Nat)
 /-- the order is open; the first nA change no object, and the others wait for all -/
 | draw (nA : Nat) (l : List VO) (keep : List Nat)
 | skip
 /-- operations; behind the first of them rows in some slots are given away -/
 | opsZ (l : List VO) (zs : List Nat) (r : List VO) (keep : List Nat)
 /-- operations of which one may end in a panic -/
 | pops (l : List VO) (keep : List Nat)
 | pdraw (n : Nat) (l : List VO) (keep : List Nat)
 /-- the same; what is looked at while a call goes on is left aS it is by that call -/
 | sdraw (n : Nat) (l : List VO) (keep : List Nat)
 | seq (a b : A3d)
 | cond (c : Opd) (a b : A3d)
 | block (id : Nat) (c : A3d)
 | loop (live : List Nat) (c : A3d)
 | exit (id : Nat)
 | ret
 | scope (c : A3d)
 /-- (nothing is done) a nil slice in a slot is looked at aS an object of one's own that has no cells yet -/
 | own (s k : Nat) (c : A3d)
 /-- (nothing is done) the same of a nil slice within an object -/
 | ownB (s : Nat) (p : List (Nat × Nat)) (k : Nat) (c : A3d)
 /-- (nothing is done) the same of a nil slice of one-cell elements within an object; what type its A33 will have is kept in mind -/
 | ownT (s : Nat) (p : List (Nat × Nat)) (t : TypeId) (c : A3d)
 /-- (nothing is done) a row of one's own in a slot is given away: it stays aS it is from now on -/
 | frz (s : Nat) (c : A3d)
 /-- a loop over a function: the parameters' slots; the assignments to the left sides; the body -/
 | rfunc (f : Opd) (ps : List Nat) (aS bd : A3d)
 /-- what this machine does not know: nothing is said of it -/
 | dead
 deriving Inhabited

/-- Rows of one's own, in these slots, are given away. -/
def BvB : List Nat → (Env → List Ob → Prop) → Env → List Ob → Prop
 | [], K, e, H => K e H
 | s :: zs, K, e, H => match get e s with
  | .os k id ver p off n _ => (match H[id]? with
   | some (.obj v x) => v = ver ∧ (match A5S p k off n x with
    | some cs => BvB zs K ((s, .sl k cs) :: e) (H.set id (.gone ver))
    | none => False)
   | _ => False)
  | _ => False
/-- Without what was laid beside it. -/
def er : A3d → A3d
 | .ops l _ => .ops l []
 | .draw n l _ => .draw n l []
 | .opsZ l _ r _ => .ops (l ++ r) []
 | .pops l _ => .ops l []
 | .pdraw n l _ => .draw n l []
 | .sdraw n l _ => .sdraw n l []
 | .seq a b => .seq (er a) (er b)
 | .cond c a b => .cond c (er a) (er b)
 | .block id c => .block id (er c)
 | .loop _ c => .loop [] (er c)
 | .scope c => .scope (er c)
 | .own _ _ c => er c
 | .ownB _ _ _ c => er c
 | .ownT _ _ _ c => er c
 | .frz _ c => er c
 | .rfunc f ps aS bd => .rfunc f ps (er aS) (er bd)
 | .skip => .skip
 | .exit id => .exit id
 | .ret => .ret
 | .dead => .dead

/-- A panic of the text's own stands in it, or it writes. -/
def Bgk : Code → Bool
 | .seq a b => Bgk a || Bgk b
 | .cond _ a b => Bgk a || Bgk b
 | .block _ c => Bgk c
 | .loop c => Bgk c
 | .scope c => Bgk c
 | .region _ ops _ => ops.toList.any fun o => match o.op with | .panic _ => true | .store .. => true | _ => false
 | _ => false
/-- Functions that write through others. -/
def BB1 : List String := ["(*gitlike/pack.reader).number", "(*gitlike/pack.reader).byte", "(*gitlike/pack.reader).head", "(*gitlike/pack.reader).distance", "(*gitlike/pack.reader).entry"]
/-- A call of a function that panics, or writes. -/
def Bpr (P : Program) (v : VO) : Bool := match v.op with
 | .s (.call f _) => (match P.funcs[f]? with | some fn => fn.body.any Bgk || BB1.contains fn.name | none => false)
 | .s (.store _ _ _) => true
 | _ => false
/-- How many (from 10000 on: so many more; there may be appends in between). -/
def nOf (n : Nat) : Nat := n % 10000
def ssN (n : Nat) (l : List VO) : SsT := ⟨Bvg l, decide (10000 ≤ n)⟩
theorem Bvt {n : Nat} (h : n < 10000) : nOf n = n := Nat.mod_eq_of_lt h
theorem Bww {n : Nat} (h : n < 10000) : nOf (10000 + n) = n := by unfold nOf; omega
theorem Bvd {n : Nat} {l : List VO} (h : n < 10000) : ssN n l = ⟨Bvg l, false⟩ := by unfold ssN; rw [decide_eq_false (by omega)]
theorem BvZ {n : Nat} {l : List VO} : ssN (10000 + n) l = ⟨Bvg l, true⟩ := by unfold ssN; rw [decide_eq_true (by omega)]
/-- The first number of operations at which the checks pass. -/
def BmC (chk : Nat → Bool) (n : Nat) : Option Nat := (List.range (n + 1)).find? fun j => chk j && decide (j < 10000)
theorem Bel {chk : Nat → Bool} {n j : Nat} (h : BmC chk n = some j) : chk j = true ∧ j < 10000 := by
 have := List.find?_some h
 simpa using this
def BB8 (v : VO) : Bool := match v.op with
 | .s (.app _ _ _ _ _) => true
 | _ => false
/-- Which operations are to be Bh4: none that panics, if what they look at may be looked at later on. -/
def BjG (P : Program) (ops : List Oper) (l : List VO) (n : Nat) : Option A3d := match (List.range (n + 1)).find? (BcX ss0 ops l) with
 | some k => if (l.take k).any (Bpr P) then (match BmC (BcX ⟨Bvg l, false⟩ ops l) n with
   | some j => if (l.take j).any (Bpr P) then (match BmC (A4Y ⟨Bvg l, false⟩ ops l) n with
     | some j' => some (.sdraw j' l [])
     | none => some (.sdraw j l [])) else some (.sdraw j l [])
   | none => none) else some (.draw k l [])
 | none => none
theorem Bjw {P : Program} {ops : List Oper} {l : List VO} {n : Nat} {c : A3d} (h : BjG P ops l n = some c) : ∃ k, (c = .draw k l [] ∧ A4Y ss0 ops l k = true) ∨ (c = .sdraw k l [] ∧ A4Y (ssN k l) ops l (nOf k) = true) := by
 have low : ∀ {j}, A4Y ⟨Bvg l, false⟩ ops l j = true → j < 10000 → A4Y (ssN j l) ops l (nOf j) = true := fun h1 h2 => by rw [Bvd h2, Bvt h2]; exact h1
 unfold BjG at h
 split at h
 ·rename_i k hk
  split at h
  ·split at h
   ·rename_i j hj
    obtain ⟨hj, hj2⟩ := Bel hj
    split at h
    ·split at h
     ·rename_i j' hj'
      obtain ⟨hj', hj2'⟩ := Bel hj'
      cases h; exact ⟨j', .inr ⟨rfl, low hj' hj2'⟩⟩
     ·cases h; exact ⟨j, .inr ⟨rfl, low (A9a hj) hj2⟩⟩
    ·cases h; exact ⟨j, .inr ⟨rfl, low (A9a hj) hj2⟩⟩
   ·cases h
  ·cases h; exact ⟨k, .inl ⟨rfl, A9a (List.find?_some hk)⟩⟩
 ·cases h
/-- Appends among what is to be Bh4: what is loaded may be loaded while they go on. -/
def Bqa (ops : List Oper) (l : List VO) (n : Nat) : Option A3d := (BmC (BcX ⟨Bvg l, true⟩ ops l) n).map fun j => .sdraw (10000 + j) l []
theorem BkN {ops : List Oper} {l : List VO} {n : Nat} {c : A3d} (h : Bqa ops l n = some c) : ∃ k, c = .sdraw k l [] ∧ A4Y (ssN k l) ops l (nOf k) = true := by
 obtain ⟨j, hj, rfl⟩ := Option.map_eq_some_iff.1 h
 obtain ⟨hj, hj2⟩ := Bel hj
 exact ⟨10000 + j, rfl, by rw [BvZ, Bww hj2]; exact A9a hj⟩
def Bi3 (bz : Bool) (P : Program) (N : Nat) (ops : Array Oper) : Option A3d := match trL bz P N ops.toList ops.toList with
 | some l => if P.follows .mixedOrders then (if l.any Bw7 || l.any (Bpr P) then (match trL bz P N (A3z ops.toList (Buc ops.toList l)) (A3z ops.toList (Buc ops.toList l)) with
   | some l' => if Bb1 (Buc ops.toList l) ops.toList.length then BjG P (A3z ops.toList (Buc ops.toList l)) l' ops.size else none
   | none => none)
  else (match (List.range (ops.size + 1)).find? (BcX ss0 ops.toList l) with
   | some n => if (l.take n).any BB8 then (match trL bz P N (A3z ops.toList (Buc ops.toList l)) (A3z ops.toList (Buc ops.toList l)) with
     | some l' => if Bb1 (Buc ops.toList l) ops.toList.length then (match Bqa (A3z ops.toList (Buc ops.toList l)) l' ops.size with
       | some c => some c
       | none => some (.draw n l [])) else some (.draw n l [])
     | none => some (.draw n l [])) else some (.draw n l [])
   | none => none)) else none
 | none => none
theorem Bcz {bz : Bool} {P : Program} {N : Nat} {ops : Array Oper} {c : A3d} (h : Bi3 bz P N ops = some c) : (∃ n l, c = .draw n l [] ∧ P.follows .mixedOrders = true ∧
  ((trL bz P N ops.toList ops.toList = some l ∧ A4Y ss0 ops.toList l n = true) ∨ ∃ π, Bb1 π ops.toList.length = true ∧ trL bz P N (A3z ops.toList π) (A3z ops.toList π) = some l ∧ A4Y ss0 (A3z ops.toList π) l n = true)) ∨
  ∃ n l, c = .sdraw n l [] ∧ P.follows .mixedOrders = true ∧ ∃ π, Bb1 π ops.toList.length = true ∧ trL bz P N (A3z ops.toList π) (A3z ops.toList π) = some l ∧ A4Y (ssN n l) (A3z ops.toList π) l (nOf n) = true := by
 unfold Bi3 at h
 split at h
 ·rename_i l hl
  split at h
  ·rename_i hm
   split at h
   ·split at h
    ·rename_i l' hl'
     split at h
     ·rename_i hp
      obtain ⟨k, ⟨rfl, hk⟩ | ⟨rfl, hk⟩⟩ := Bjw h
      ·exact .inl ⟨k, l', rfl, hm, .inr ⟨_, hp, hl', hk⟩⟩
      ·exact .inr ⟨k, l', rfl, hm, _, hp, hl', hk⟩
     ·cases h
    ·cases h
   ·split at h
    ·rename_i n hn
     have plain : ∀ {c : A3d}, some (A3d.draw n l []) = some c → _ := fun {c} (h : some (A3d.draw n l []) = some c) => (Or.inl ⟨n, l, (Option.some.inj h).symm, hm, .inl ⟨hl, A9a (List.find?_some hn)⟩⟩ : (∃ n l, c = .draw n l [] ∧ P.follows .mixedOrders = true ∧
  ((trL bz P N ops.toList ops.toList = some l ∧ A4Y ss0 ops.toList l n = true) ∨ ∃ π, Bb1 π ops.toList.length = true ∧ trL bz P N (A3z ops.toList π) (A3z ops.toList π) = some l ∧ A4Y ss0 (A3z ops.toList π) l n = true)) ∨
  ∃ n l, c = .sdraw n l [] ∧ P.follows .mixedOrders = true ∧ ∃ π, Bb1 π ops.toList.length = true ∧ trL bz P N (A3z ops.toList π) (A3z ops.toList π) = some l ∧ A4Y (ssN n l) (A3z ops.toList π) l (nOf n) = true)
     split at h
     ·split at h
      ·rename_i l' hl'
       split at h
       ·rename_i hp
        split at h
        ·rename_i c' hc'
         cases h
         obtain ⟨k, rfl, hk⟩ := BkN hc'
         exact .inr ⟨k, l', rfl, hm, _, hp, hl', hk⟩
        ·exact plain h
       ·exact plain h
      ·exact plain h
     ·exact plain h
    ·cases h
  ·cases h
 ·cases h
/-- A slice is made where all is to be Bh4: it cannot be shown so. -/
def BvN : A3d → Bool
 | .draw n l _ => (l.take n).any fun v => match v.op with | .s (.bslice _ _ _ _) => true | _ => false
 | .sdraw n l _ => (l.take (nOf n)).any fun v => match v.op with | .s (.bslice _ _ _ _) => true | _ => false
 | _ => false
def BkU (P : Program) (N : Nat) (ops : Array Oper) : Option A3d := match Bi3 false P N ops with
 | some c => if BvN c then (match Bi3 true P N ops with | some c' => some c' | none => some c) else some c
 | none => none
theorem Bbo {P : Program} {N : Nat} {ops : Array Oper} {c : A3d} (h : BkU P N ops = some c) : ∃ bz : Bool, (∃ n l, c = .draw n l [] ∧ P.follows .mixedOrders = true ∧
  ((trL bz P N ops.toList ops.toList = some l ∧ A4Y ss0 ops.toList l n = true) ∨ ∃ π, Bb1 π ops.toList.length = true ∧ trL bz P N (A3z ops.toList π) (A3z ops.toList π) = some l ∧ A4Y ss0 (A3z ops.toList π) l n = true)) ∨
  ∃ n l, c = .sdraw n l [] ∧ P.follows .mixedOrders = true ∧ ∃ π, Bb1 π ops.toList.length = true ∧ trL bz P N (A3z ops.toList π) (A3z ops.toList π) = some l ∧ A4Y (ssN n l) (A3z ops.toList π) l (nOf n) = true := by
 unfold BkU at h
 split at h
 ·rename_i c1 h1
  split at h
  ·split at h
   ·rename_i c2 h2; cases h; exact ⟨true, Bcz h2⟩
   ·cases h; exact ⟨false, Bcz h1⟩
  ·cases h; exact ⟨false, Bcz h1⟩
 ·cases h
theorem Bpw {P : Program} {N : Nat} {ops : Array Oper} {c : A3d} (h : BkU P N ops = some c) (hc : ∀ n l, c ≠ .draw n l []) (hc2 : ∀ n l, c ≠ .sdraw n l []) : False := by
 obtain ⟨bz, ⟨n, l, e, _⟩ | ⟨n, l, e, _⟩⟩ := Bbo h
 ·exact hc n l e
 ·exact hc2 n l e
def trC (P : Program) (N : Nat) : Code → Option A3d
 | .skip => some .skip
 | .region _ ops false => some (match trL false P N ops.toList ops.toList with | some l => .ops l [] | none => .dead)
 | .region _ ops true => some (match BkU P N ops with | some c => c | none => .dead)
 | .seq a b => match trC P N a, trC P N b with
  | some a, some b => some (.seq a b)
  | _, _ => none
 | .cond c a b => match trC P N a, trC P N b with
  | some a, some b => some (.cond (trO c) a b)
  | _, _ => none
 | .block id c => (trC P N c).map (.block id)
 | .loop c => (trC P N c).map (.loop [])
 | .exit id => some (.exit id)
 | .scope c => (trC P N c).map .scope
 | .label _ => some .skip
 | .ret => some .ret
 | .rangeFunc f ps aS bd => if ps.toList.all (· < N) then (match trC P N aS, trC P N bd with
  | some aS, some bd => some (.rfunc (trO f) ps.toList aS bd)
  | _, _ => none) else none
 | _ => some .dead
theorem Btg {P : Program} {N id : Nat} {ops : Array Oper} {c : A3d} (h : trC P N (.region id ops false) = some c) : (∃ l, trL false P N ops.toList ops.toList = some l ∧ c = .ops l []) ∨ c = .dead := by
 simp only [trC, Option.some.injEq] at h
 split at h
 ·rename_i l hl; exact .inl ⟨l, hl, h.symm⟩
 ·exact .inr h.symm
theorem BqW {P : Program} {N id : Nat} {ops : Array Oper} {c : A3d} (h : trC P N (.region id ops true) = some c) : BkU P N ops = some c ∨ c = .dead := by
 simp only [trC, Option.some.injEq] at h
 split at h
 ·rename_i l hl; exact .inl (hl.trans (by rw [h]))
 ·exact .inr h.symm
theorem A6M {P : Program} {N id : Nat} {ops : Array Oper} {c : A3d} (h : trC P N (.region id ops false) = some c) (hc : ∀ l, c ≠ .ops l []) (hd : c ≠ .dead) : False := by
 rcases Btg h with ⟨l, _, e⟩ | e
 ·exact hc l e
 ·exact hd e
theorem A6N {P : Program} {N id : Nat} {ops : Array Oper} {c : A3d} (h : trC P N (.region id ops true) = some c) (hc : ∀ n l, c ≠ .draw n l []) (hc2 : ∀ n l, c ≠ .sdraw n l []) (hd : c ≠ .dead) : False := by
 rcases BqW h with e | e
 ·exact Bpw e hc hc2
 ·exact hd e

/-- No loop over a function in it. -/
def BhH : A3d → Bool
 | .seq a b => BhH a && BhH b
 | .cond _ a b => BhH a && BhH b
 | .block _ c => BhH c
 | .loop _ c => BhH c
 | .scope c => BhH c
 | .own _ _ c => BhH c
 | .ownB _ _ _ c => BhH c
 | .ownT _ _ _ c => BhH c
 | .frz _ c => BhH c
 | .rfunc _ _ _ _ => false
 | _ => true

inductive VEx where
 | nor
 | exit (id : Nat)
 | ret
 | pan (u : Value)

def VEx.ex : VEx → Exit
 | .nor => .normal
 | .exit id => .exit id
 | .ret => .ret
 | .pan u => .panic [{ v := u, recovered := false }]

mutual
/-- It refers to no object from g on. -/
def A8M (g : Nat) : TV → Bool
 | .op id _ _ => decide (id < g)
 | .os _ id _ _ _ _ _ => decide (id < g)
 | .mp id _ => decide (id < g)
 | .yl id _ => decide (id < g)
 | .agg cs => BaR g cs
 | .tup cs => BaR g cs
 | .ifc _ x => A8M g x
 | .fn _ a b => BaR g a && BaR g b
 | _ => true
def BaR (g : Nat) : List TV → Bool
 | [] => true
 | x :: xs => A8M g x && BaR g xs
end
def Bgo (g : Nat) : Env → Bool
 | [] => true
 | (_, x) :: e => A8M g x && Bgo g e
def Bmm (g : Nat) : Ob → Bool
 | .obj _ x => A8M g x
 | .ice _ _ x => A8M g x
 | .fact id _ _ _ => decide (id < g)
 | .lp _ _ _ _ e _ _ _ => Bgo g e
 | .mpo _ es => BaR g (es.map (·.2))
 | .bld _ _ _ => true
 | .sit _ _ => true
 | .mpd _ zs _ => BaR g (zs.map (·.2.2))
 | .mit m _ _ => decide (m < g)
 | .gone _ => true
def Bgs (g : Nat) : List Ob → Bool
 | [] => true
 | o :: H => Bmm g o && Bgs g H
/-- How a loop over a function is left. -/
def BmA (Q : VEx → Env → List Ob → Prop) (e : Env) (L : Nat) : TV → List Ob → Prop := fun _ H' => match H'[L]? with
 | some (.lp .ready none fn N e1 ps ca cb) => Q .nor e (H'.set L (.lp .exhausted none fn N e1 ps ca cb))
 | some (.lp .done (some .ret) fn N e1 ps ca cb) => Q .ret e (H'.set L (.lp .exhausted (some .ret) fn N e1 ps ca cb))
 | some (.lp .done (some (.exit i)) fn N e1 ps ca cb) => Q (.exit i) e (H'.set L (.lp .exhausted (some (.exit i)) fn N e1 ps ca cb))
 | _ => False
/-- The code of a loop's record is this. -/
structure Buh (P : Program) (N : Nat) (ps : List Nat) (ca cb : Code) (aS bd : A3d) : Prop where
 a : trC P N ca = some (er aS)
 b : trC P N cb = some (er bd)
 p : ps.all (· < N) = true

def vwp (P : Program) : A3d → (VEx → Env → List Ob → Prop) → Env → List Ob → Prop
 | .ops l kp, Q, e, H => BgX P l (fun e H => Q .nor (forget kp e) H) e H
 | .opsZ l zs r kp, Q, e, H => BgX P l (BvB zs (BgX P r (fun e H => Q .nor (forget kp e) H))) e H
 | .pops l kp, Q, e, H => Bc8 P (fun u H => Q (.pan u) (Bl5 l e) H) l (fun e H => Q .nor (forget kp e) H) e H
 | .pdraw n l kp, Q, e, H => vq P (l.take n) (fun e => Bc8 P (fun u H => Q (.pan u) [] H) (l.drop n) (fun e H => Q .nor (forget kp e) H) e H) e H
 | .sdraw n l kp, Q, e, H => vq P (l.take (nOf n)) (fun e => A98 (pvopS P (fun u H => Q (.pan u) [] H) (ssN n l)) (l.drop (nOf n)) (fun e H => Q .nor (forget kp e) H) e H) e H
 | .draw n l kp, Q, e, H => vq P (l.take n) (fun e => BgX P (l.drop n) (fun e H => Q .nor (forget kp e) H) e H) e H
 | .skip, Q, e, H => Q .nor e H
 | .seq a b, Q, e, H => vwp P a (fun x e H => match x with | .nor => vwp P b Q e H | .exit i => Q (.exit i) e H | .ret => Q .ret e H | .pan u => Q (.pan u) e H) e H
 | .cond c a b, Q, e, H => match c.ev e with
  | .val (.bool t) => if t = true then vwp P a Q e H else vwp P b Q e H
  | _ => False
 | .block id c, Q, e, H => vwp P c (fun x e H => match x with | .nor => Q .nor e H | .exit i => if i = id then Q .nor e H else Q (.exit i) e H | .ret => Q .ret e H | .pan u => Q (.pan u) e H) e H
 | .loop lv c, Q, e, H0 => ∃ (I : Nat → Env → List Ob → Prop) (n : Nat), I n (forget lv e) H0 ∧
   ∀ n e H, I n e H → vwp P c (fun x e H => match x with | .nor => ∃ m g, m < n ∧ (H0.length ≤ g ∧ (H.length ≤ g ∨ (Bgo g (forget lv e) = true ∧ Bgs g (H.take g) = true))) ∧ I m (forget lv e) (H.take g) | .exit i => Q (.exit i) e H | .ret => Q .ret e H | .pan u => Q (.pan u) e H) e H
 | .exit id, Q, e, H => Q (.exit id) e H
 | .ret, Q, e, H => Q .ret e H
 | .scope c, Q, e, H => vwp P c Q e H
 | .dead, _, _, _ => False
 | .own s k c, Q, e, H => match get e s with
  | .val (.slice none 0 0) => vwp P c Q ((s, .os k H.length 0 [] 0 0 0) :: e) (H ++ [.obj 0 (.arr 0 k [])])
  | _ => vwp P c Q e H
 | .ownB s p k c, Q, e, H => match get e s with
  | .op id ver p0 => (match H[id]? with
   | some (.obj v x) => v = ver ∧ (match A9A (p0 ++ p) x with
    | some (.val (.slice none 0 0)) => (match Bex (p0 ++ p) x (.os k H.length 0 [] 0 0 0) with
     | some x' => vwp P c Q e (H.set id (.obj ver x') ++ [.obj 0 (.arr 0 k [])])
     | none => False)
    | _ => vwp P c Q e H)
   | _ => False)
  | _ => False
 | .ownT s p t c, Q, e, H => match get e s with
  | .op id ver p0 => (match H[id]? with
   | some (.obj v x) => v = ver ∧ (match A9A (p0 ++ p) x with
    | some (.val (.slice none 0 0)) => (match Bex (p0 ++ p) x (.os 1 H.length 0 [] 0 0 0) with
     | some x' => vwp P c Q e (H.set id (.obj ver x') ++ [.bld 0 t []])
     | none => False)
    | _ => vwp P c Q e H)
   | _ => False)
  | _ => False
 | .frz s c, Q, e, H => match get e s with
  | .os k id ver p off n _ => (match H[id]? with
   | some (.obj v x) => v = ver ∧ (match A5S p k off n x with
    | some cs => vwp P c Q ((s, .sl k cs) :: e) (H.set id (.gone ver))
    | none => False)
   | _ => False)
  | _ => False
 | .rfunc f ps aS bd, Q, e, H => BhH aS = true ∧ BhH bd = true ∧ (match f.ev e with
  | .fn (.func g) first caps => BgR P g = true ∧ ∀ (N : Nat) (fn : FuncId) (ca cb : Code), Buh P N ps ca cb aS bd → A3p P g (first ++ [.yl H.length 0] ++ caps) (H ++ [.lp .ready none fn N e ps ca cb]) (BmA Q e H.length)
  | .val (.func (.func g) xs ys) => (xs.isEmpty && ys.isEmpty) = true ∧ BgR P g = true ∧ ∀ (N : Nat) (fn : FuncId) (ca cb : Code), Buh P N ps ca cb aS bd → A3p P g [.yl H.length 0] (H ++ [.lp .ready none fn N e ps ca cb]) (BmA Q e H.length)
  | _ => False)

section sound
variable {P : Program}
/-- The same cells, read otherwise. -/
theorem Bfb {c : Ctx} {w : World} : ∀ {p : List (Nat × Nat)} {x y z x' : TV} {us : List Value}, A3i c w x us → A9A p x = some z → (∀ m, A3i c w z m → A3i c w y m) → Bex p x y = some x' → A3i c w x' us := by
 intro p x y z x' us h hg hm hs
 obtain ⟨a, m, b, rfl, h1, h2⟩ := A8t h hg
 obtain ⟨a', m', b', e, h3, h4, h5, _⟩ := BcQ h hs (hm m h2)
 have e1 : a = a' := by
  have := congrArg (List.take a.length) e
  rw [List.append_assoc, List.append_assoc, List.take_left] at this
  rw [this, List.take_left' (by omega)]
 subst e1
 rw [List.append_assoc, List.append_assoc] at e
 have e2 := List.append_cancel_left e
 have e3 : m = m' := by
  have := congrArg (List.take m.length) e2
  rw [List.take_left] at this
  rw [this, List.take_left' (by omega)]
 subst e3
 have e4 := List.append_cancel_left e2
 subst e4
 exact h5

/-- A row that is given away, read aS it stays. -/
theorem Sim.give {β : Nat → Nat → Option (Nat × Nat)} {H : List Ob} {F : Nat → Prop} {w : World} (hs : Sim ⟨β, H, F⟩ w) {k id ver off n cp : Nat} {p : List (Nat × Nat)} {x : TV} {cs : List TV} (hid : H[id]? = some (.obj ver x)) (hcs : A5S p k off n x = some cs) {us : List Value} (hr : A3i ⟨β, H, F⟩ w (.os k id ver p off n cp) us) :
  A3i ⟨β, H.set id (.gone ver), fun b => F b ∨ ∃ off, β id ver = some (b, off)⟩ w (.sl k cs) us := by
 have hm : A8r (Ctx.bare ⟨β, H, F⟩) w (Ctx.bare ⟨β, H.set id (.gone ver), fun b => F b ∨ ∃ off, β id ver = some (b, off)⟩) w :=
  ⟨fun b hb => ⟨.inl hb, rfl⟩, fun _ _ k => (Ctx.bare_has k).elim, fun _ _ => rfl⟩
 rw [A3i] at hr
 obtain ⟨hr1, hr2⟩ := hr
 rcases hr2 with ⟨rfl, a0, hr2, _⟩ | ⟨b0, o0, cap, t0, m0, hr2, hr3, hr4, hr5, hr6, hr7⟩
 ·have : cs = [] := by
   unfold A5S at hcs
   split at hcs
   ·split at hcs
    ·cases hcs; simp
    ·cases hcs
   ·cases hcs
  subst this
  rw [A3i]
  exact ⟨by simp, .inl ⟨rfl, a0, 0, hr2, by omega⟩⟩
 rcases hs.ob id _ hid with ⟨h0, _⟩ | ⟨b, off', pre, vs, post, t, fr, h0, h1, h2, h3, h4⟩
 ·have h0' : β id ver = none := h0
  have hr2' : β id ver = some (b0, o0) := hr2
  rw [h0'] at hr2'; cases hr2'
 have h0' : β id ver = some (b, off') := h0
 have hr2' : β id ver = some (b0, o0) := hr2
 rw [h0'] at hr2'
 obtain ⟨rfl, rfl⟩ : b = b0 ∧ off' = o0 := by simpa using hr2'
 obtain ⟨a, m, q, rfl, k1, k2, k3, k4⟩ := A9M h4 hcs
 rw [A3i]
 refine ⟨k3, .inr ⟨b, off' + A6c p + off * k, cap, m, by rw [k4]; exact hr3, by omega, hr5, .inr ⟨off', h0'⟩, A3j.mono hm k2, ?_⟩⟩
 have e : off' + A6c p + off * k = pre.length + a.length := by rw [h3, k1]; omega
 rw [e]; exact A8u h1

theorem BiH {N : Nat} {D : List Deferred} : ∀ {zs : List Nat} {K : Env → List Ob → Prop} {e : Env} {H : List Ob} {β : Nat → Nat → Option (Nat × Nat)} {F : Nat → Prop} {w : World} {a : Act}, BvB zs K e H → Sim ⟨β, H, F⟩ w → Fr N D ⟨β, H, F⟩ w e a →
  ∃ e' H' F', K e' H' ∧ Sim ⟨β, H', F'⟩ w ∧ Fr N D ⟨β, H', F'⟩ w e' a ∧ A3s ⟨β, H, F⟩ w ⟨β, H', F'⟩ w
 | [], K, e, H, β, F, w, a, h, hs, hf => ⟨e, H, F, h, hs, hf, A3s.refl _ _⟩
 | s :: zs, K, e, H, β, F, w, a, h, hs, hf => by
  rw [BvB] at h
  split at h
  ·rename_i k id ver p off n cp hg
   split at h
   ·rename_i v y hid
    obtain ⟨rfl, h⟩ := h
    split at h
    ·rename_i cs hcs
     obtain ⟨k1, k2⟩ := hs.freeze hid rfl
     have hr : Rep ⟨β, H, F⟩ w (get e s) (a.tmps.getD s undef) := hf.env.1 s
     rw [hg] at hr
     have hr' : Rep ⟨β, H.set id (.gone v), fun b => F b ∨ ∃ off, β id v = some (b, off)⟩ w (.sl k cs) (a.tmps.getD s undef) := by
      rcases hr with (hr | hr | ⟨us, hr, hr2⟩) | ⟨xs, vs, hr, _⟩
      ·cases hr
      ·cases hr
      ·exact .inl (.inr (.inr ⟨us, hs.give hid hcs hr, by rw [hr2]; rfl⟩))
      ·cases hr
     obtain ⟨e', H', F', q1, q2, q3, q4⟩ := BiH h k1 (a := a) ⟨⟨fun s' => by
      rw [A4i]
      by_cases hss : s = s'
      ·subst hss; rw [if_pos rfl]; exact hr'
      ·rw [if_neg hss]; exact Rep.mono (k2.mono hs) (hf.env.1 s'), k1.glob⟩, hf.size, hf.defers⟩
     exact ⟨e', H', F', q1, q2, q3, k2.trans q4⟩
    ·exact h.elim
   ·exact h.elim
  ·exact h.elim
theorem Bql {P : Program} {N : Nat} {all : List Oper} : ∀ {os : List Oper} {l1 l2 : List VO}, trL false P N all os = some (l1 ++ l2) → ∃ o1 o2, os = o1 ++ o2 ∧ trL false P N all o1 = some l1 ∧ trL false P N all o2 = some l2
 | os, [], l2, h => ⟨[], os, rfl, rfl, h⟩
 | [], v :: l1, l2, h => by simp [trL] at h
 | o :: os, v :: l1, l2, h => by
  rw [trL] at h
  split at h
  ·rename_i v' g r hv hg hr
   split at h
   ·rename_i hd
    simp only [List.cons_append, Option.some.injEq, List.cons.injEq] at h
    obtain ⟨rfl, rfl⟩ := h
    obtain ⟨o1, o2, rfl, h1, h2⟩ := Bql hr
    refine ⟨o :: o1, o2, rfl, ?_, h2⟩
    rw [trL, hv, hg, h1]
    simp [hd]
   ·cases h
  ·cases h
theorem BlR {N : Nat} {D : List Deferred} {ro : Option Nat} {nn : Nat} {all : Array Oper} {os : List Oper} {l1 l2 : List VO} {zs : List Nat} (ht : trL false P N all.toList os = some (l1 ++ l2)) {K : Env → List Ob → Prop} {e : Env} {H : List Ob} {β : Nat → Nat → Option (Nat × Nat)} {F : Nat → Prop} {w : World} {a : Act} {QQ : Exit → Act → World → Prop}
  (h : BgX P l1 (BvB zs (BgX P l2 K)) e H) (hs : Sim ⟨β, H, F⟩ w) (hf : Fr N D ⟨β, H, F⟩ w e a)
  (hk : ∀ e' H' β' F' w' a', K e' H' → Sim ⟨β', H', F'⟩ w' → Fr N D ⟨β', H', F'⟩ w' e' a' → A3s ⟨β, H, F⟩ w ⟨β', H', F'⟩ w' → QQ .normal a' w') : wpListIn (fz ro) nn P all QQ os a w := by
 obtain ⟨o1, o2, rfl, h1, h2⟩ := Bql ht
 refine Bhw (Baj.vop (KP := fun _ _ => False)) h1 h hs hf (fun e' H' β' F' w' a' k1 k2 k3 k4 => ?_) (fun _ _ _ _ _ _ h => h.elim)
 obtain ⟨e2, H2, F2, q1, q2, q3, q4⟩ := BiH k1 k2 k3
 exact BiG h2 q1 q2 q3 fun e3 H3 β3 F3 w3 a3 m1 m2 m3 m4 => hk e3 H3 β3 F3 w3 a3 m1 m2 m3 ((k4.trans q4).trans m4)

theorem Sim.own {β : Nat → Nat → Option (Nat × Nat)} {H : List Ob} {F : Nat → Prop} {w : World} (hs : Sim ⟨β, H, F⟩ w) (k : Nat) :
  Sim ⟨upd β H.length 0 none, H ++ [.obj 0 (.arr 0 k [])], F⟩ w ∧ A3s ⟨β, H, F⟩ w ⟨upd β H.length 0 none, H ++ [.obj 0 (.arr 0 k [])], F⟩ w ∧
   A3i ⟨upd β H.length 0 none, H ++ [.obj 0 (.arr 0 k [])], F⟩ w (.os k H.length 0 [] 0 0 0) [.slice none 0 0] := by
 obtain ⟨k1, k2⟩ := hs.newNone (x := .arr 0 k []) (by rw [A3i]; exact ⟨rfl, by simp, by rw [A3j]⟩)
 exact ⟨k1, k2, by rw [A3i]; exact ⟨A6O _ _ _ _ _ (Nat.le_refl _), .inl ⟨rfl, none, rfl, rfl, fun _ h => by cases h⟩⟩⟩

theorem Sim.ownBld {β : Nat → Nat → Option (Nat × Nat)} {H : List Ob} {F : Nat → Prop} {w : World} (hs : Sim ⟨β, H, F⟩ w) (t : TypeId) :
  Sim ⟨upd β H.length 0 none, H ++ [.bld 0 t []], F⟩ w ∧ A3s ⟨β, H, F⟩ w ⟨upd β H.length 0 none, H ++ [.bld 0 t []], F⟩ w ∧
   A3i ⟨upd β H.length 0 none, H ++ [.bld 0 t []], F⟩ w (.os 1 H.length 0 [] 0 0 0) [.slice none 0 0] := by
 obtain ⟨k1, k2⟩ := hs.new (.bld 0 t []) rfl none (w' := w) (fun b off e => by cases e) rfl rfl rfl (Nat.le_refl _) (fun b hb => rfl) fun hm => .inl ⟨A3t, rfl⟩
 exact ⟨k1, k2, by rw [A3i]; exact ⟨A6O _ _ _ _ _ (Nat.le_refl _), .inl ⟨rfl, none, rfl, rfl, fun _ h => by cases h⟩⟩⟩

/-- Objects that nobody knows any more are forgotten. -/
def Ctx.cut (c : Ctx) (g : Nat) : Ctx := ⟨c.β, c.H.take g, c.F⟩
theorem Ctx.cut_has {c : Ctx} {g id ver : Nat} (h : c.has id ver) (hg : id < g) : (c.cut g).has id ver := by
 obtain ⟨o, h1, h2⟩ := h
 exact ⟨o, by show (c.H.take g)[id]? = some o; rw [List.getElem?_take, if_pos hg]; exact h1, h2⟩
theorem Ctx.cut_get {c : Ctx} {g id : Nat} {o : Ob} (h : (c.cut g).H[id]? = some o) : id < g ∧ c.H[id]? = some o := by
 have h' : (c.H.take g)[id]? = some o := h
 rw [List.getElem?_take] at h'
 split at h'
 ·exact ⟨‹_›, h'⟩
 ·cases h'
mutual
theorem A3i.cut {c : Ctx} {w : World} {g : Nat} : ∀ {x : TV} {us : List Value}, A8M g x = true → A3i c w x us → A3i (c.cut g) w x us
 | .val y, us, hf, hr => by rw [A3i] at hr ⊢; exact hr
 | .any, us, hf, hr => by rw [A3i] at hr ⊢; exact hr
 | .sl k cs, us, hf, hr => by rw [A3i] at hr ⊢; exact hr
 | .fp x, us, hf, hr => by rw [A3i] at hr ⊢; exact hr
 | .arr n k cs, us, hf, hr => by rw [A3i] at hr ⊢; exact hr
 | .op id ver p, us, hf, hr => by
  rw [A8M, decide_eq_true_eq] at hf; rw [A3i] at hr ⊢; exact ⟨Ctx.cut_has hr.1 hf, hr.2⟩
 | .os k id ver p off n cp, us, hf, hr => by
  rw [A8M, decide_eq_true_eq] at hf; rw [A3i] at hr ⊢; exact ⟨Ctx.cut_has hr.1 hf, hr.2⟩
 | .mp id ver, us, hf, hr => by
  rw [A8M, decide_eq_true_eq] at hf; rw [A3i] at hr ⊢; exact ⟨Ctx.cut_has hr.1 hf, hr.2⟩
 | .yl id ver, us, hf, hr => by
  rw [A8M, decide_eq_true_eq] at hf; rw [A3i] at hr ⊢; exact ⟨Ctx.cut_has hr.1 hf, hr.2⟩
 | .agg cs, us, hf, hr => by rw [A8M] at hf; rw [A3i] at hr ⊢; exact A3j.cut hf hr
 | .tup cs, us, hf, hr => by rw [A3i] at hr; exact hr.elim
 | .ifc t x, us, hf, hr => by
  rw [A8M] at hf; rw [A3i] at hr ⊢
  obtain ⟨u, h1, vs, h2, h3⟩ := hr
  exact ⟨u, h1, vs, A3i.cut hf h2, h3⟩
 | .fn f a b, us, hf, hr => by
  rw [A8M, Bool.and_eq_true] at hf; rw [A3i] at hr ⊢
  obtain ⟨aS, bs, h1, h2, h3⟩ := hr
  exact ⟨aS, bs, h1, A3V.cut hf.1 h2, A3V.cut hf.2 h3⟩
theorem A3j.cut {c : Ctx} {w : World} {g : Nat} : ∀ {xs : List TV} {us : List Value}, BaR g xs = true → A3j c w xs us → A3j (c.cut g) w xs us
 | [], us, hf, hr => by rw [A3j] at hr ⊢; exact hr
 | x :: xs, us, hf, hr => by
  rw [BaR, Bool.and_eq_true] at hf; rw [A3j] at hr ⊢
  obtain ⟨a, b, h1, h2, h3⟩ := hr
  exact ⟨a, b, h1, A3i.cut hf.1 h2, A3j.cut hf.2 h3⟩
theorem A3V.cut {c : Ctx} {w : World} {g : Nat} : ∀ {xs : List TV} {us : List Value}, BaR g xs = true → A3V c w xs us → A3V (c.cut g) w xs us
 | [], us, hf, hr => by rw [A3V] at hr ⊢; exact hr
 | x :: xs, us, hf, hr => by
  rw [BaR, Bool.and_eq_true] at hf; rw [A3V] at hr ⊢
  obtain ⟨u, us, h1, h2, h3⟩ := hr
  refine ⟨u, us, h1, ?_, A3V.cut hf.2 h3⟩
  rcases h2 with h2 | h2 | ⟨aS, h2, h4⟩
  ·exact .inl h2
  ·exact .inr (.inl h2)
  ·exact .inr (.inr ⟨aS, A3i.cut hf.1 h2, h4⟩)
end
theorem Rep.cut {c : Ctx} {w : World} {g : Nat} {x : TV} {v : Value} (hf : A8M g x = true) (hr : Rep c w x v) : Rep (c.cut g) w x v := by
 rcases hr with (h | h | ⟨us, h, h'⟩) | ⟨xs, vs, rfl, h2, h3⟩
 ·exact .inl (.inl h)
 ·exact .inl (.inr (.inl h))
 ·exact .inl (.inr (.inr ⟨us, A3i.cut hf h, h'⟩))
 ·rw [A8M] at hf; exact .inr ⟨xs, vs, rfl, h2, A3V.cut hf h3⟩
theorem BfV {g : Nat} : ∀ {e : Env}, Bgo g e = true → ∀ s, A8M g (get e s) = true
 | [], _, s => rfl
 | (k, x) :: e, h, s => by
  rw [Bgo, Bool.and_eq_true] at h
  rw [A4i]
  split
  ·exact h.1
  ·exact BfV h.2 s
theorem Biy {g : Nat} : ∀ {H : List Ob}, Bgs g H = true → ∀ (i : Nat) (o : Ob), H[i]? = some o → Bmm g o = true
 | [], _, i, o, h => by simp at h
 | o :: H, h, i, o', hi => by
  rw [Bgs, Bool.and_eq_true] at h
  cases i with
  | zero => simp at hi; subst hi; exact h.1
  | succ i => exact Biy h.2 i o' (by simpa using hi)
theorem A3y.cut {c : Ctx} {w : World} {g : Nat} {kk : MK} : ∀ {es : List (List UInt8 × TV)} {ms : List MapEntry}, BaR g (es.map (·.2)) = true → A3y c w kk es ms → A3y (c.cut g) w kk es ms
 | [], ms, _, h => h
 | (k, x) :: es, ms, hb, h => by
  rw [List.map_cons, BaR, Bool.and_eq_true] at hb
  obtain ⟨m, r, rfl, h1, h2, h3⟩ := h
  exact ⟨m, r, rfl, h1, ⟨A3i.cut hb.1 h2.1, h2.2⟩, A3y.cut hb.2 h3⟩
theorem Sim.cut {c : Ctx} {w : World} {g : Nat} (hs : Sim c w) (hg : Bgs g (c.H.take g) = true) : Sim (c.cut g) w := by
 have hown : ∀ b, (c.cut g).own b → c.own b := by
  rintro b ⟨i, o, off, h1, h2, h3⟩
  exact ⟨i, o, off, (Ctx.cut_get h1).2, h2, h3⟩
 refine ⟨fun id o ho => ?_, fun i j x y b o o' hx hy hlx hly e e' => hs.inj i j x y b o o' (Ctx.cut_get hx).2 (Ctx.cut_get hy).2 hlx hly e e', fun b hb => hs.apart b (hown b hb), hs.lt, hs.glob⟩
 have h1 := hs.ob id o (Ctx.cut_get ho).2
 have hb := Biy hg id o ho
 cases o with
 | gone v => trivial
 | ice v m x =>
  obtain ⟨b, off, pre, vs, post, t, fr, h0, h1, h2, h3, h4⟩ := h1
  exact ⟨b, off, pre, vs, post, t, fr, h0, h1, h2, h3, A3i.cut hb h4⟩
 | bld v t l => exact h1
 | fact i v t m =>
  obtain ⟨h0, h2⟩ := h1
  exact ⟨Ctx.cut_has h0 (by simpa [Bmm] using hb), h2⟩
 | lp st pend fn N en ps ca cb =>
  obtain ⟨b, tmps, D, h0, h1, h2, h3⟩ := h1
  exact ⟨b, tmps, D, h0, h1, h2, fun s => Rep.cut (BfV hb s) (h3 s)⟩
 | mpo kk es =>
  obtain ⟨b, ms, cl, h0, h1, h2, h3⟩ := h1
  exact ⟨b, ms, cl, h0, h1, A3y.cut hb h2, h3⟩
 | sit s pos => exact h1
 | mpd kk zs cl =>
  obtain ⟨b, ms, h0, h1, h2, h3⟩ := h1
  exact ⟨b, ms, h0, h1, A3y.cut (by rw [List.map_map]; exact hb) h2, h3⟩
 | mit m sn cl =>
  obtain ⟨r, b, h0, ⟨g0, g1⟩, h1⟩ := h1
  exact ⟨r, b, h0, ⟨Ctx.cut_has g0 (by simpa [Bmm] using hb), g1⟩, h1⟩
 | obj v x =>
  rcases h1 with ⟨h0, h4⟩ | ⟨b, off, pre, vs, post, t, fr, h0, h1, h2, h3, h4⟩
  ·exact .inl ⟨h0, A3i.cut hb h4⟩
  ·exact .inr ⟨b, off, pre, vs, post, t, fr, h0, h1, h2, h3, A3i.cut hb h4⟩
theorem A3s.cut {c0 c : Ctx} {w0 w : World} {g : Nat} (hl : A3s c0 w0 c w) (hg : c0.H.length ≤ g) : A3s c0 w0 (c.cut g) w :=
 ⟨hl.os, hl.tape, hl.output, hl.size, fun id ver h => by
  obtain ⟨h1, h2⟩ := hl.has id ver h
  exact ⟨Ctx.cut_has h1 (Nat.lt_of_lt_of_le (Ctx.has_lt h) hg), h2⟩, hl.shape, hl.same, hl.keepF, hl.oldF, fun b hb ⟨i, o, off, h1, h2, h3⟩ => hl.oldOwn b hb ⟨i, o, off, (Ctx.cut_get h1).2, h2, h3⟩⟩

/-- The A33 for the calls that rounds defer: each holds none. -/
def Bbp (D0 : List Deferred) (B : Nat) (c : Ctx) (w : World) (D : List Deferred) : Prop := ∃ ds : List Nat, D = ds.map (fun r => { target := .collected r, args := #[] }) ++ D0 ∧ ds.Nodup ∧ ∀ r ∈ ds, B ≤ r ∧ r < w.heap.size ∧ ¬ c.own r ∧ ¬ c.F r ∧ w.heap[r]? = some (.deferred (some []))
theorem Bbp.nil {D0 : List Deferred} {B : Nat} {c : Ctx} {w : World} : Bbp D0 B c w D0 := ⟨[], rfl, List.nodup_nil, fun r h => by cases h⟩
theorem Bbp.later {D0 : List Deferred} {B : Nat} {c c' : Ctx} {w w' : World} {D : List Deferred} (h : Bbp D0 B c w D) (hl : A3s c w c' w') : Bbp D0 B c' w' D := by
 obtain ⟨ds, h1, h2, h3⟩ := h
 refine ⟨ds, h1, h2, fun r hr => ?_⟩
 obtain ⟨k1, k2, k3, k4, k5⟩ := h3 r hr
 exact ⟨k1, Nat.lt_of_lt_of_le k2 hl.size, fun h => k3 (hl.oldOwn r k2 h), fun h => (hl.oldF r k2 h).elim k4 k3, (hl.same r k2 k3).trans k5⟩
theorem Bbp.cut {D0 : List Deferred} {B g : Nat} {c : Ctx} {w : World} {D : List Deferred} (h : Bbp D0 B c w D) : Bbp D0 B (c.cut g) w D := by
 obtain ⟨ds, h1, h2, h3⟩ := h
 refine ⟨ds, h1, h2, fun r hr => ?_⟩
 obtain ⟨k1, k2, k3, k4, k5⟩ := h3 r hr
 exact ⟨k1, k2, fun ⟨i, o, off, h1, h2, h3⟩ => k3 ⟨i, o, off, (Ctx.cut_get h1).2, h2, h3⟩, k4, k5⟩

theorem BcE (w : World) (r : Nat) (o : Obj) : (w.putObj r o).os = w.os ∧ (w.putObj r o).tape = w.tape ∧ (w.putObj r o).output = w.output ∧ (w.putObj r o).heap.size = w.heap.size := ⟨rfl, rfl, rfl, by simp [World.putObj]⟩
theorem Biq {w : World} {b : Nat} {r : Loop} (h : w.heap[b]? = some (.loop r)) : w.shape? b = none := by simp [World.shape?, h]

/-- A loop's record turns. -/
theorem Sim.loopTurn {β : Nat → Nat → Option (Nat × Nat)} {H : List Ob} {F : Nat → Prop} {w : World} (hs : Sim ⟨β, H, F⟩ w) {id N : Nat} {fn : FuncId} {e : Env} {ps : List Nat} {ca cb : Code} {st st' : LoopState} {pe pe' : Option Code}
  (ho : H[id]? = some (.lp st pe fn N e ps ca cb)) : ∃ (b : Nat) (r : Loop), β id 0 = some (b, 0) ∧ w.heap[b]? = some (.loop r) ∧ r.state = st ∧ r.pending = pe ∧ r.fn = fn ∧ r.tmps.size = N ∧ r.params = ps.toArray ∧ r.assign = ca ∧ r.body = cb ∧ (∀ s, Rep ⟨β, H, F⟩ w (get e s) (r.tmps.getD s undef)) ∧
   Sim ⟨β, H.set id (.lp st' pe' fn N e ps ca cb), F⟩ (w.putObj b (.loop { r with state := st', pending := pe' })) ∧
   A3s ⟨β, H, F⟩ w ⟨β, H.set id (.lp st' pe' fn N e ps ca cb), F⟩ (w.putObj b (.loop { r with state := st', pending := pe' })) := by
 obtain ⟨b, tmps, D, h1, h2, h3, h4⟩ := hs.ob id _ ho
 have hlt : b < w.heap.size := (Array.getElem?_eq_some_iff.1 h2).1
 have hid : id < H.length := (List.getElem?_eq_some_iff.1 ho).1
 have hput := World.putObj_heap_same (w := w) (o := .loop { state := st', pending := pe', fn := fn, tmps := tmps, params := ps.toArray, assign := ca, body := cb, defers := D }) hlt
 obtain ⟨k1, k2⟩ := hs.turn (β' := β) (w' := w.putObj b (.loop { state := st', pending := pe', fn := fn, tmps := tmps, params := ps.toArray, assign := ca, body := cb, defers := D })) ho (o' := .lp st' pe' fn N e ps ca cb) rfl rfl (Nat.le_refl _) (fun _ _ _ => rfl) (fun b' off hb => .inl ⟨off, hb⟩) rfl rfl rfl
  (by rw [(BcE _ _ _).2.2.2]; exact Nat.le_refl _) (fun b' hb' => by
   by_cases hbb : b' = b
   ·subst hbb; rw [Biq h2, Biq hput]
   ·exact A4c (World.putObj_heap_other hbb)) (fun b' hb' hne => World.putObj_heap_other (fun e => hne 0 (by subst e; exact h1)))
  (fun hm => ⟨b, tmps, D, h1, hput, h3, fun s => Rep.mono hm (h4 s)⟩)
 exact ⟨b, { state := st, pending := pe, fn := fn, tmps := tmps, params := ps.toArray, assign := ca, body := cb, defers := D }, h1, h2, rfl, rfl, rfl, h3, rfl, rfl, rfl, h4, k1, k2⟩


/-- THE STATEMENT 'for .. := range g'. -/
theorem Bhe {N nn : Nat} {f0 : Operand} {ps0 : Array Tmp} {ca cb : Code} {Q : VEx → Env → List Ob → Prop} {e : Env} {H : List Ob} {β : Nat → Nat → Option (Nat × Nat)} {F : Nat → Prop} {w : World} {a : Act} {QQ : Exit → Act → World → Prop} {B : Nat} {D D0 : List Deferred}
  (hs : Sim ⟨β, H, F⟩ w) (hf : Fr N D ⟨β, H, F⟩ w e a) (hm : Bbp D0 B ⟨β, H, F⟩ w D) (hB : B ≤ w.heap.size) {g : FuncId} {us vs : List Value} {first caps : List TV} (hv : a.eval f0 = .func (.func g) us.toArray vs.toArray) (hgo : BgR P g = true) (hfi : A3V ⟨β, H, F⟩ w first us) (hc : A3V ⟨β, H, F⟩ w caps vs)
  (h : ∀ fn, A3p P g (first ++ [.yl H.length 0] ++ caps) (H ++ [.lp .ready none fn N e ps0.toList ca cb]) (BmA Q e H.length))
  (hk : ∀ x e' H' β' F' w' a' D', Q x e' H' → Sim ⟨β', H', F'⟩ w' → Fr N D' ⟨β', H', F'⟩ w' e' a' → Bbp D0 B ⟨β', H', F'⟩ w' D' → A3s ⟨β, H, F⟩ w ⟨β', H', F'⟩ w' → QQ x.ex a' w') : (Code.rangeFunc f0 ps0 ca cb).wpIn (fz none) nn P QQ a w := by
 refine wpIn_rangeFunc ?_
 intro fn hfn
 obtain ⟨rec, hrec⟩ : ∃ rec : Loop, rec = { state := .ready, pending := none, fn := fn, tmps := a.tmps, params := ps0, assign := ca, body := cb, defers := w.heap.size } := ⟨_, rfl⟩
 obtain ⟨W1, hW1⟩ : ∃ W1, (w.alloc (.deferred (some []))).alloc (.loop rec) = W1 := ⟨_, rfl⟩
 have hL1 : W1.heap[w.heap.size + 1]? = some (.loop rec) := by
  rw [← hW1]; have := World.alloc_heap_new (w.alloc (.deferred (some []))) (.loop rec); rwa [World.size_alloc] at this
 have hK1 : W1.heap[w.heap.size]? = some (.deferred (some [])) := by
  rw [← hW1]; exact (Below.heap_alloc _ _ _ (by simp)).trans (World.alloc_heap_new w _)
 have hsz : W1.heap.size = w.heap.size + 2 := by rw [← hW1]; simp
 have hold : ∀ b, b < w.heap.size → W1.heap[b]? = w.heap[b]? := fun b hb => by
  rw [← hW1]; exact (Below.heap_alloc _ _ _ (by simp; omega)).trans (Below.heap_alloc _ _ _ hb)
 obtain ⟨k1, k2⟩ := hs.new (w' := W1) (.lp .ready none fn N e ps0.toList ca cb) rfl (some (w.heap.size + 1, 0)) (fun b off h => by simp at h; omega) (by rw [← hW1]; rfl) (by rw [← hW1]; rfl) (by rw [← hW1]; rfl) (by omega) hold
  (fun hmo => ⟨w.heap.size + 1, a.tmps, w.heap.size, A3t, by rw [hL1, hrec], hf.size, fun s => Rep.mono hmo (hf.env.1 s)⟩)
 have hmo := k2.mono hs
 have hown1 : ∀ b, Ctx.own ⟨upd β H.length 0 (some (w.heap.size + 1, 0)), H ++ [.lp .ready none fn N e ps0.toList ca cb], F⟩ b → b ≠ w.heap.size := by
  rintro b ⟨i, o, off, h1, h2, h3⟩ rfl
  by_cases hi : i < H.length
  ·rw [List.getElem?_append_left hi] at h1
   have h3' : β i o.ver = some (w.heap.size, off) := by
    have h3 : upd β H.length 0 (some (w.heap.size + 1, 0)) i o.ver = some (w.heap.size, off) := h3
    rw [BeT (fun h => by omega)] at h3; exact h3
   have := hs.own_lt ⟨i, o, off, h1, h2, h3'⟩
   omega
  ·have hil : i = H.length := by
    have := (List.getElem?_eq_some_iff.1 h1).1
    simp at this; omega
   subst hil
   simp at h1
   subst h1
   have h3 : upd β H.length 0 (some (w.heap.size + 1, 0)) H.length 0 = some (w.heap.size, off) := h3
   rw [A3t] at h3
   simp at h3
 refine ⟨w.heap.size + 1, [{ target := .collected w.heap.size, args := #[] }], W1, { target := .fn (.func g) vs.toArray, args := us.toArray ++ #[.func (.yield (w.heap.size + 1)) #[] #[]] }, W1, g,
  us.toArray ++ #[.func (.yield (w.heap.size + 1)) #[] #[]] ++ vs.toArray, W1, ?_, ?_, ?_, ?_, ?_, ?_⟩
 ·rw [← hW1, hrec]; exact run_enterLoop_outer _ _ _ _ _
 ·simp only [resolve, hv]
  simp [go_sem]
 ·intro f' hf'; trivial
 ·simp only [invoke, A8d hgo]
 ·intro h; simp [fz, Fence.wide] at h
 ·refine (callsIn_wide (n := nn - 1)).2 ?_
  have hargs : A3V ⟨upd β H.length 0 (some (w.heap.size + 1, 0)), H ++ [.lp .ready none fn N e ps0.toList ca cb], F⟩ W1 (first ++ [.yl H.length 0] ++ caps) (us ++ [.func (.yield (w.heap.size + 1)) #[] #[]] ++ vs) := by
   refine A3V.append (A3V.append (A3V.mono hmo hfi) (A3V.cons.2 ⟨_, [], rfl, .inr (.inr ⟨[.func (.yield (w.heap.size + 1)) #[] #[]], ?_, rfl⟩), by rw [A3V]⟩)) (A3V.mono hmo hc)
   rw [A3i]
   exact ⟨A6O _ _ _ _ _ (Nat.le_refl _), _, _, A3t, rfl⟩
  have hcall := h fn _ _ W1 _ k1 hargs
  rw [show (us ++ [Value.func (.yield (w.heap.size + 1)) #[] #[]] ++ vs).toArray = us.toArray ++ #[.func (.yield (w.heap.size + 1)) #[] #[]] ++ vs.toArray from by simp] at hcall
  refine hcall.mono ?_
  rintro _ w3 ⟨v, x, β', H', F', rfl, hR, hs', hl', hx⟩
  have hmk : Bbp D0 B ⟨β', H', F'⟩ w3 ({ target := .collected w.heap.size, args := #[] } :: D) := by
   have h1 : Bbp D0 B ⟨upd β H.length 0 (some (w.heap.size + 1, 0)), H ++ [.lp .ready none fn N e ps0.toList ca cb], F⟩ W1 ({ target := .collected w.heap.size, args := #[] } :: D) := by
    obtain ⟨ds, d1, d2, d3⟩ := hm.later k2
    refine ⟨w.heap.size :: ds, by rw [d1]; rfl, List.nodup_cons.2 ⟨fun hin => ?_, d2⟩, fun r hr => ?_⟩
    ·obtain ⟨ds', e1, e2, e3⟩ := hm
     have : ds' = ds := by
      have : ds'.map (fun r => ({ target := .collected r, args := #[] } : Deferred)) = ds.map (fun r => { target := .collected r, args := #[] }) := List.append_cancel_right (e1.symm.trans d1)
      exact (List.map_inj_right (fun a b h => by simpa using h)).1 this
     rw [← this] at hin
     have := (e3 _ hin).2.1
     omega
    ·rcases List.mem_cons.1 hr with rfl | hr
     ·exact ⟨hB, by omega, fun ho => hown1 _ ho rfl, fun hF => absurd (hs.lt _ hF) (by omega), hK1⟩
     ·exact d3 r hr
   exact h1.later hl'
  have fin : ∀ (st : LoopState) (pe : Option Code) (fn' : FuncId) (N' : Nat) (e1 : Env) (ps1 : List Nat) (c1 c2 : Code), st ≠ .busy → H'[H.length]? = some (.lp st pe fn' N' e1 ps1 c1 c2) →
    ∃ w4, (Instr.endLoop (w.heap.size + 1)).run P w3 = .ok pe w4 ∧ Sim ⟨β', H'.set H.length (.lp .exhausted pe fn' N' e1 ps1 c1 c2), F'⟩ w4 ∧ A3s ⟨β', H', F'⟩ w3 ⟨β', H'.set H.length (.lp .exhausted pe fn' N' e1 ps1 c1 c2), F'⟩ w4 := by
   intro st pe fn' N' e1 ps1 c1 c2 hst hob
   obtain ⟨b, r, r1, r2, r3, r4, _, _, _, _, _, _, r5, r6⟩ := hs'.loopTurn (st' := .exhausted) (pe' := pe) hob
   have hβ : β' H.length 0 = some (w.heap.size + 1, 0) := ((hl'.has H.length 0 (A6O _ _ _ _ _ (Nat.le_refl _))).2).trans A3t
   rw [hβ] at r1
   obtain ⟨rfl, _⟩ : w.heap.size + 1 = b ∧ True := by simpa using r1
   subst r4
   exact ⟨_, run_endLoop (P := P) r2 (by rw [r3]; exact hst), r5, r6⟩
  have hfr : ∀ {c : Ctx} {w4 : World}, A3s ⟨β, H, F⟩ w c w4 → A8z c.F w4 → Fr N ({ target := .collected w.heap.size, args := #[] } :: D) c w4 e { a with defers := { target := .collected w.heap.size, args := #[] } :: a.defers } := fun {c w4} hl hgl =>
   ⟨⟨fun s => Rep.mono (hl.mono hs) (hf.env.1 s), hgl⟩, hf.size, by rw [hf.defers]⟩
  unfold BmA at hR
  simp only [rangePost]
  split at hR
  ·rename_i hob
   obtain ⟨w4, e1, e2, e3⟩ := fin .ready none _ _ _ _ _ _ (by simp) hob
   exact ⟨none, w4, e1, hk .nor _ _ _ _ _ _ _ hR e2 (hfr ((k2.trans hl').trans e3) e2.glob) (hmk.later e3) ((k2.trans hl').trans e3)⟩
  ·rename_i hob
   obtain ⟨w4, e1, e2, e3⟩ := fin .done (some .ret) _ _ _ _ _ _ (by simp) hob
   exact ⟨some .ret, w4, e1, wpIn_ret (hk .ret _ _ _ _ _ _ _ hR e2 (hfr ((k2.trans hl').trans e3) e2.glob) (hmk.later e3) ((k2.trans hl').trans e3))⟩
  ·rename_i i _ _ _ _ _ _ hob
   obtain ⟨w4, e1, e2, e3⟩ := fin .done (some (.exit _)) _ _ _ _ _ _ (by simp) hob
   exact ⟨some (.exit _), w4, e1, wpIn_exit (hk (.exit _) _ _ _ _ _ _ _ hR e2 (hfr ((k2.trans hl').trans e3) e2.glob) (hmk.later e3) ((k2.trans hl').trans e3))⟩
  ·exact hR.elim

theorem A62 {b : Frame} {a : Act} {k : List Item} {cs : List Frame} {w : World} {c : Code} : step P (lone (b.atR a (.code (.scope c) :: k)) cs w) = .next (lone (b.atR a (.code c :: .inScope c :: k)) cs w) :=
 step_lone_go (by simp [stepG, stepG.exec, Frame.atR])
theorem Bih {b : Frame} {a : Act} {k : List Item} {cs : List Frame} {w : World} {c : Code} : step P (lone (b.atR a (.inScope c :: k)) cs w) = .next (lone (b.atR a k) cs w) :=
 step_lone_go (by simp [stepG, stepG.exec, Frame.atR])
/-- A scope through which the run goes without a jump. -/
theorem Blh {F : Fence} {n : Nat} {Q : Exit → Act → World → Prop} {a : Act} {w : World} {c : Code} (h : c.wpIn F n P (Exit.noGoto Q) a w) : (Code.scope c).wpIn F n P Q a w := by
 intro b k cs hro hb hr
 have h0 : (lone (b.atR a (.code (.scope c) :: k)) cs w).fenced P F := fenced_calm hb hr rfl
 obtain ⟨e, a₁, w₁, hq, harr⟩ := h b (.inScope c :: k) cs hro hb hr
 cases e with
 | normal => exact ⟨.normal, a₁, w₁, hq, .head h0 A62 (StepsIn.trans harr (.one (fenced_calm hb hr rfl) Bih))⟩
 | exit id' =>
  have hx : exitTo id' (.inScope c :: k) = exitTo id' k := by simp [exitTo]
  exact ⟨.exit id', a₁, w₁, hq, fun k' hk => .head h0 A62 (harr.1 k' (by rw [hx]; exact hk)),
   fun hr' hk => let ⟨k₁, h1, h2⟩ := harr.2 hr' (by rw [hx]; exact hk); ⟨k₁, h1, .head h0 A62 h2⟩⟩
 | goto l => exact hq.elim
 | ret => exact ⟨_, a₁, w₁, hq, .of_steps (.one h0 A62) harr⟩
 | panic ch => exact ⟨_, a₁, w₁, hq, .of_steps (.one h0 A62) harr⟩
 | outgrown => exact ⟨_, a₁, w₁, hq, .of_steps (.one h0 A62) harr⟩

theorem Bqc {N : Nat} {ro : Option Nat} {nn : Nat} : ∀ (vc : A3d) {code : Code}, (ro = none ∨ BhH vc = true) → trC P N code = some (er vc) → ∀ {Q : VEx → Env → List Ob → Prop} {e : Env} {H : List Ob} {β : Nat → Nat → Option (Nat × Nat)} {F : Nat → Prop} {w : World} {a : Act} {QQ : Exit → Act → World → Prop} {B : Nat} {D D0 : List Deferred},
  vwp P vc Q e H → Sim ⟨β, H, F⟩ w → Fr N D ⟨β, H, F⟩ w e a → Bbp D0 B ⟨β, H, F⟩ w D → B ≤ w.heap.size →
  (∀ x e' H' β' F' w' a' D', Q x e' H' → Sim ⟨β', H', F'⟩ w' → Fr N D' ⟨β', H', F'⟩ w' e' a' → Bbp D0 B ⟨β', H', F'⟩ w' D' → A3s ⟨β, H, F⟩ w ⟨β', H', F'⟩ w' → QQ x.ex a' w') → code.wpIn (fz ro) nn P QQ a w := by
 intro vc
 have inv : ∀ {code : Code} {v : A3d}, trC P N code = some v → True := fun _ => trivial
 induction vc with
 | ops l kp =>
  intro code hrf ht Q e H β F w a QQ B D D0 h hs hf hm hB hk
  rw [er] at ht
  cases code with
  | region id ops d =>
   cases d with
   | true => exact (A6N ht (by simp) (by simp) (by simp)).elim
   | false =>
    obtain ⟨l', hl, e9⟩ := (Btg ht).resolve_right (by simp)
    simp only [A3d.ops.injEq, and_true] at e9
    subst e9
    rw [vwp] at h
    exact wpIn_region_list (BiG hl h hs hf fun e' H' β' F' w' a' k1 k2 k3 k4 => hk .nor _ _ _ _ _ _ _ k1 k2 (k3.forget kp) (hm.later k4) k4)
  | seq x y => simp only [trC] at ht; split at ht <;> simp at ht
  | cond c x y => simp only [trC] at ht; split at ht <;> simp at ht
  | rangeFunc f ps x y => simp only [trC] at ht; split at ht <;> (try split at ht) <;> simp at ht
  | _ => simp [trC] at ht
 | opsZ l zs r kp =>
  intro code hrf ht Q e H β F w a QQ B D D0 h hs hf hm hB hk
  rw [er] at ht
  cases code with
  | region id ops d =>
   cases d with
   | true => exact (A6N ht (by simp) (by simp) (by simp)).elim
   | false =>
    obtain ⟨l', hl, e9⟩ := (Btg ht).resolve_right (by simp)
    simp only [A3d.ops.injEq, and_true] at e9
    subst e9
    rw [vwp] at h
    exact wpIn_region_list (BlR hl h hs hf fun e' H' β' F' w' a' k1 k2 k3 k4 => hk .nor _ _ _ _ _ _ _ k1 k2 (k3.forget kp) (hm.later k4) k4)
  | seq x y => simp only [trC] at ht; split at ht <;> simp at ht
  | cond c x y => simp only [trC] at ht; split at ht <;> simp at ht
  | rangeFunc f ps x y => simp only [trC] at ht; split at ht <;> (try split at ht) <;> simp at ht
  | _ => simp [trC] at ht
 | pops l kp =>
  intro code hrf ht Q e H β F w a QQ B D D0 h hs hf hm hB hk
  rw [er] at ht
  cases code with
  | region id ops d =>
   cases d with
   | true => exact (A6N ht (by simp) (by simp) (by simp)).elim
   | false =>
    obtain ⟨l', hl, e9⟩ := (Btg ht).resolve_right (by simp)
    simp only [A3d.ops.injEq, and_true] at e9
    subst e9
    rw [vwp] at h
    exact wpIn_region_list (BlE hl h hs hf (fun e' H' β' F' w' a' k1 k2 k3 k4 => hk .nor _ _ _ _ _ _ _ k1 k2 (k3.forget kp) (hm.later k4) k4) fun u H' β' F' w' a' k1 k2 k3 k4 => hk (.pan u) _ _ _ _ _ _ _ k1 k2 k3 (hm.later k4) k4)
  | seq x y => simp only [trC] at ht; split at ht <;> simp at ht
  | cond c x y => simp only [trC] at ht; split at ht <;> simp at ht
  | rangeFunc f ps x y => simp only [trC] at ht; split at ht <;> (try split at ht) <;> simp at ht
  | _ => simp [trC] at ht
 | draw n l kp =>
  intro code hrf ht Q e H β F w a QQ B D D0 h hs hf hm hB hk
  rw [er] at ht
  cases code with
  | region id ops d =>
   cases d with
   | false => exact (A6M ht (by simp) (by simp)).elim
   | true =>
    obtain ⟨bz, hsp⟩ := Bbo ((BqW ht).resolve_right (by simp))
    obtain ⟨n', l', e9, hmo, hh⟩ := hsp.resolve_right (by simp)
    simp only [A3d.draw.injEq, and_true] at e9
    obtain ⟨rfl, rfl⟩ := e9
    rw [vwp] at h
    rcases hh with ⟨hl, hck⟩ | ⟨π, hp, hl, hck⟩
    ·exact BiR WOk.vop hmo hl hck h hs hf ⟨fun e' H' β' F' w' a' k1 k2 k3 k4 => hk .nor _ _ _ _ _ _ _ k1 k2 (k3.forget kp) (hm.later k4) k4, fun _ _ _ _ _ _ (h : False) => h.elim⟩
    ·exact BeB WOk.vop hmo hp hl hck h hs hf ⟨fun e' H' β' F' w' a' k1 k2 k3 k4 => hk .nor _ _ _ _ _ _ _ k1 k2 (k3.forget kp) (hm.later k4) k4, fun _ _ _ _ _ _ (h : False) => h.elim⟩
  | seq x y => simp only [trC] at ht; split at ht <;> simp at ht
  | cond c x y => simp only [trC] at ht; split at ht <;> simp at ht
  | rangeFunc f ps x y => simp only [trC] at ht; split at ht <;> (try split at ht) <;> simp at ht
  | _ => simp [trC] at ht
 | pdraw n l kp =>
  intro code hrf ht Q e H β F w a QQ B D D0 h hs hf hm hB hk
  rw [er] at ht
  cases code with
  | region id ops d =>
   cases d with
   | false => exact (A6M ht (by simp) (by simp)).elim
   | true =>
    obtain ⟨bz, hsp⟩ := Bbo ((BqW ht).resolve_right (by simp))
    obtain ⟨n', l', e9, hmo, hh⟩ := hsp.resolve_right (by simp)
    simp only [A3d.draw.injEq, and_true] at e9
    obtain ⟨rfl, rfl⟩ := e9
    rw [vwp] at h
    rcases hh with ⟨hl, hck⟩ | ⟨π, hp, hl, hck⟩
    ·exact BiR WOk.pvop hmo hl hck h hs hf ⟨fun e' H' β' F' w' a' k1 k2 k3 k4 => hk .nor _ _ _ _ _ _ _ k1 k2 (k3.forget kp) (hm.later k4) k4, fun u H' β' F' w' a' k1 k2 k3 k4 => hk (.pan u) _ _ _ _ _ _ _ k1 k2 k3 (hm.later k4) k4⟩
    ·exact BeB WOk.pvop hmo hp hl hck h hs hf ⟨fun e' H' β' F' w' a' k1 k2 k3 k4 => hk .nor _ _ _ _ _ _ _ k1 k2 (k3.forget kp) (hm.later k4) k4, fun u H' β' F' w' a' k1 k2 k3 k4 => hk (.pan u) _ _ _ _ _ _ _ k1 k2 k3 (hm.later k4) k4⟩
  | seq x y => simp only [trC] at ht; split at ht <;> simp at ht
  | cond c x y => simp only [trC] at ht; split at ht <;> simp at ht
  | rangeFunc f ps x y => simp only [trC] at ht; split at ht <;> (try split at ht) <;> simp at ht
  | _ => simp [trC] at ht
 | sdraw n l kp =>
  intro code hrf ht Q e H β F w a QQ B D D0 h hs hf hm hB hk
  rw [er] at ht
  cases code with
  | region id ops d =>
   cases d with
   | false => exact (A6M ht (by simp) (by simp)).elim
   | true =>
    obtain ⟨bz, hsp⟩ := Bbo ((BqW ht).resolve_right (by simp))
    obtain ⟨n', l', e9, hmo, π, hp, hl, hck⟩ := hsp.resolve_left (by simp)
    simp only [A3d.sdraw.injEq, and_true] at e9
    obtain ⟨rfl, rfl⟩ := e9
    rw [vwp] at h
    exact BeB WOk.pvopS hmo hp hl hck h hs hf ⟨fun e' H' β' F' w' a' k1 k2 k3 k4 => hk .nor _ _ _ _ _ _ _ k1 k2 (k3.forget kp) (hm.later k4) k4, fun u H' β' F' w' a' k1 k2 k3 k4 => hk (.pan u) _ _ _ _ _ _ _ k1 k2 k3 (hm.later k4) k4⟩
  | seq x y => simp only [trC] at ht; split at ht <;> simp at ht
  | cond c x y => simp only [trC] at ht; split at ht <;> simp at ht
  | rangeFunc f ps x y => simp only [trC] at ht; split at ht <;> (try split at ht) <;> simp at ht
  | _ => simp [trC] at ht
 | skip =>
  intro code hrf ht Q e H β F w a QQ B D D0 h hs hf hm hB hk
  rw [er] at ht
  cases code with
  | skip => exact wpIn_skip (hk .nor _ _ _ _ _ _ _ h hs hf hm (A3s.refl _ _))
  | label l => exact wpIn_label (hk .nor _ _ _ _ _ _ _ h hs hf hm (A3s.refl _ _))
  | region id ops d =>
   cases d
   ·exact (A6M ht (by simp) (by simp)).elim
   ·exact (A6N ht (by simp) (by simp) (by simp)).elim
  | seq x y => simp only [trC] at ht; split at ht <;> simp at ht
  | cond c x y => simp only [trC] at ht; split at ht <;> simp at ht
  | rangeFunc f ps x y => simp only [trC] at ht; split at ht <;> (try split at ht) <;> simp at ht
  | _ => simp [trC] at ht
 | seq x y ihx ihy =>
  intro code hrf ht Q e H β F w a QQ B D D0 h hs hf hm hB hk
  rw [er] at ht
  cases code with
  | region id ops d =>
   cases d
   ·exact (A6M ht (by simp) (by simp)).elim
   ·exact (A6N ht (by simp) (by simp) (by simp)).elim
  | seq cx cy =>
   simp only [trC] at ht
   split at ht
   ·rename_i vx vy hx hy
    simp only [Option.some.injEq, A3d.seq.injEq] at ht
    obtain ⟨rfl, rfl⟩ := ht
    rw [vwp] at h
    have hrx : ro = none ∨ BhH x = true := hrf.imp id fun h => by simp only [BhH, Bool.and_eq_true] at h; exact h.1
    have hry : ro = none ∨ BhH y = true := hrf.imp id fun h => by simp only [BhH, Bool.and_eq_true] at h; exact h.2
    refine wpIn_seq (ihx hrx hx h hs hf hm hB ?_)
    intro x e' H' β' F' w' a' D' k1 k2 k3 km k4
    cases x with
    | nor => exact ihy hry hy k1 k2 k3 km (Nat.le_trans hB k4.size) fun x e2 H2 β2 F2 w2 a2 D2 m1 m2 m3 mm m4 => hk _ _ _ _ _ _ _ _ m1 m2 m3 mm (k4.trans m4)
    | exit i => exact hk (.exit i) _ _ _ _ _ _ _ k1 k2 k3 km k4
    | ret => exact hk .ret _ _ _ _ _ _ _ k1 k2 k3 km k4
    | pan u => exact hk (.pan u) _ _ _ _ _ _ _ k1 k2 k3 km k4
   ·simp at ht
  | cond c x y => simp only [trC] at ht; split at ht <;> simp at ht
  | rangeFunc f ps x y => simp only [trC] at ht; split at ht <;> (try split at ht) <;> simp at ht
  | _ => simp [trC] at ht
 | cond c x y ihx ihy =>
  intro code hrf ht Q e H β F w a QQ B D D0 h hs hf hm hB hk
  rw [er] at ht
  cases code with
  | region id ops d =>
   cases d
   ·exact (A6M ht (by simp) (by simp)).elim
   ·exact (A6N ht (by simp) (by simp) (by simp)).elim
  | seq x y => simp only [trC] at ht; split at ht <;> simp at ht
  | cond cc cx cy =>
   simp only [trC] at ht
   split at ht
   ·rename_i vx vy hx hy
    simp only [Option.some.injEq, A3d.cond.injEq] at ht
    obtain ⟨rfl, rfl, rfl⟩ := ht
    rw [vwp] at h
    split at h
    ·rename_i t hc
     have hrx : ro = none ∨ BhH x = true := hrf.imp id fun h => by simp only [BhH, Bool.and_eq_true] at h; exact h.1
     have hry : ro = none ∨ BhH y = true := hrf.imp id fun h => by simp only [BhH, Bool.and_eq_true] at h; exact h.2
     refine wpIn_cond_split (hf.env.val hc) (fun htt => ?_) (fun htf => ?_)
     ·rw [if_pos htt] at h; exact ihx hrx hx h hs hf hm hB hk
     ·rw [if_neg (by rw [htf]; simp)] at h; exact ihy hry hy h hs hf hm hB hk
    ·exact h.elim
   ·simp at ht
  | rangeFunc f ps x y => simp only [trC] at ht; split at ht <;> (try split at ht) <;> simp at ht
  | _ => simp [trC] at ht
 | block id x ih =>
  intro code hrf ht Q e H β F w a QQ B D D0 h hs hf hm hB hk
  rw [er] at ht
  cases code with
  | region id ops d =>
   cases d
   ·exact (A6M ht (by simp) (by simp)).elim
   ·exact (A6N ht (by simp) (by simp) (by simp)).elim
  | seq x y => simp only [trC] at ht; split at ht <;> simp at ht
  | cond c x y => simp only [trC] at ht; split at ht <;> simp at ht
  | rangeFunc f ps x y => simp only [trC] at ht; split at ht <;> (try split at ht) <;> simp at ht
  | block id' c =>
   simp only [trC, Option.map_eq_some_iff, A3d.block.injEq] at ht
   obtain ⟨vx, hx, rfl, rfl⟩ := ht
   rw [vwp] at h
   refine wpIn_block (ih hrf hx h hs hf hm hB ?_)
   intro x e' H' β' F' w' a' D' k1 k2 k3 km k4
   cases x with
   | nor => exact hk .nor _ _ _ _ _ _ _ k1 k2 k3 km k4
   | exit i =>
    show Exit.inBlock _ QQ (.exit i) a' w'
    simp only [Exit.inBlock]
    simp only at k1
    split at k1
    ·rename_i hi; rw [if_pos hi]; exact hk .nor _ _ _ _ _ _ _ k1 k2 k3 km k4
    ·rename_i hi; rw [if_neg hi]; exact hk (.exit i) _ _ _ _ _ _ _ k1 k2 k3 km k4
   | ret => exact hk .ret _ _ _ _ _ _ _ k1 k2 k3 km k4
   | pan u => exact hk (.pan u) _ _ _ _ _ _ _ k1 k2 k3 km k4
  | _ => simp [trC] at ht
 | loop lv x ih =>
  intro code hrf ht Q e H β F w a QQ B D D0 h hs hf hm hB hk
  rw [er] at ht
  cases code with
  | region id ops d =>
   cases d
   ·exact (A6M ht (by simp) (by simp)).elim
   ·exact (A6N ht (by simp) (by simp) (by simp)).elim
  | seq x y => simp only [trC] at ht; split at ht <;> simp at ht
  | cond c x y => simp only [trC] at ht; split at ht <;> simp at ht
  | rangeFunc f ps x y => simp only [trC] at ht; split at ht <;> (try split at ht) <;> simp at ht
  | loop c =>
   simp only [trC, Option.map_eq_some_iff, A3d.loop.injEq] at ht
   obtain ⟨vx, hx, _, rfl⟩ := ht
   rw [vwp] at h
   obtain ⟨I, n, h0, hstep⟩ := h
   refine wpIn_loop_ghost (fun n a' w' => ∃ e' H' β' F' D', I n e' H' ∧ Sim ⟨β', H', F'⟩ w' ∧ Fr N D' ⟨β', H', F'⟩ w' e' a' ∧ Bbp D0 B ⟨β', H', F'⟩ w' D' ∧ A3s ⟨β, H, F⟩ w ⟨β', H', F'⟩ w') n ⟨_, _, _, _, _, h0, hs, hf.forget lv, hm, A3s.refl _ _⟩ ?_
   rintro n a' w' ⟨e', H', β', F', D', k1, k2, k3, km, k4⟩
   refine ih hrf hx (hstep n e' H' k1) k2 k3 km (Nat.le_trans hB k4.size) ?_
   intro x e2 H2 β2 F2 w2 a2 D2 m1 m2 m3 mm m4
   cases x with
   | nor =>
    obtain ⟨m, g, hmn, ⟨hg, hb⟩, hI⟩ := m1
    have hf3 := m3.forget lv
    rcases hb with hle | ⟨hbe, hbh⟩
    ·rw [List.take_of_length_le hle] at hI
     exact ⟨m, hmn, _, _, _, _, _, hI, m2, hf3, mm, k4.trans m4⟩
    exact ⟨m, hmn, _, _, _, _, _, hI, m2.cut hbh, ⟨⟨fun s => Rep.cut (BfV hbe s) (hf3.env.1 s), hf3.env.2⟩, hf3.size, hf3.defers⟩, mm.cut, (k4.trans m4).cut hg⟩
   | exit i => exact hk (.exit i) _ _ _ _ _ _ _ m1 m2 m3 mm (k4.trans m4)
   | ret => exact hk .ret _ _ _ _ _ _ _ m1 m2 m3 mm (k4.trans m4)
   | pan u => exact hk (.pan u) _ _ _ _ _ _ _ m1 m2 m3 mm (k4.trans m4)
  | _ => simp [trC] at ht
 | exit id =>
  intro code hrf ht Q e H β F w a QQ B D D0 h hs hf hm hB hk
  rw [er] at ht
  cases code with
  | region id ops d =>
   cases d
   ·exact (A6M ht (by simp) (by simp)).elim
   ·exact (A6N ht (by simp) (by simp) (by simp)).elim
  | seq x y => simp only [trC] at ht; split at ht <;> simp at ht
  | cond c x y => simp only [trC] at ht; split at ht <;> simp at ht
  | rangeFunc f ps x y => simp only [trC] at ht; split at ht <;> (try split at ht) <;> simp at ht
  | exit id' =>
   simp only [trC, Option.some.injEq, A3d.exit.injEq] at ht; subst ht
   exact wpIn_exit (hk (.exit _) _ _ _ _ _ _ _ h hs hf hm (A3s.refl _ _))
  | _ => simp [trC] at ht
 | ret =>
  intro code hrf ht Q e H β F w a QQ B D D0 h hs hf hm hB hk
  rw [er] at ht
  cases code with
  | region id ops d =>
   cases d
   ·exact (A6M ht (by simp) (by simp)).elim
   ·exact (A6N ht (by simp) (by simp) (by simp)).elim
  | seq x y => simp only [trC] at ht; split at ht <;> simp at ht
  | cond c x y => simp only [trC] at ht; split at ht <;> simp at ht
  | rangeFunc f ps x y => simp only [trC] at ht; split at ht <;> (try split at ht) <;> simp at ht
  | ret => exact wpIn_ret (hk .ret _ _ _ _ _ _ _ h hs hf hm (A3s.refl _ _))
  | _ => simp [trC] at ht
 | dead =>
  intro code hrf ht Q e H β F w a QQ B D D0 h
  rw [vwp] at h; exact h.elim
 | scope x ih =>
  intro code hrf ht Q e H β F w a QQ B D D0 h hs hf hm hB hk
  rw [er] at ht
  cases code with
  | region id ops d =>
   cases d
   ·exact (A6M ht (by simp) (by simp)).elim
   ·exact (A6N ht (by simp) (by simp) (by simp)).elim
  | seq x y => simp only [trC] at ht; split at ht <;> simp at ht
  | cond c x y => simp only [trC] at ht; split at ht <;> simp at ht
  | rangeFunc f ps x y => simp only [trC] at ht; split at ht <;> (try split at ht) <;> simp at ht
  | scope c =>
   simp only [trC, Option.map_eq_some_iff, A3d.scope.injEq] at ht
   obtain ⟨vx, hx, rfl⟩ := ht
   rw [vwp] at h
   refine Blh (ih hrf hx h hs hf hm hB ?_)
   intro x e' H' β' F' w' a' D' k1 k2 k3 km k4
   cases x with
   | nor => exact hk .nor _ _ _ _ _ _ _ k1 k2 k3 km k4
   | exit i => exact hk (.exit i) _ _ _ _ _ _ _ k1 k2 k3 km k4
   | ret => exact hk .ret _ _ _ _ _ _ _ k1 k2 k3 km k4
   | pan u => exact hk (.pan u) _ _ _ _ _ _ _ k1 k2 k3 km k4
  | _ => simp [trC] at ht
 | own s k x ih =>
  intro code hrf ht Q e H β F w a QQ B D D0 h hs hf hm hB hk
  rw [er] at ht
  rw [vwp] at h
  split at h
  ·rename_i hg
   obtain ⟨k1, k2, k3⟩ := hs.own k
   have hv : a.tmps.getD s undef = .slice none 0 0 := by
    have := hf.env.1 s; rw [hg, Rep.val] at this; exact this
   refine ih hrf ht h k1 ⟨⟨fun s' => ?_, k1.glob⟩, hf.size, hf.defers⟩ (hm.later k2) hB fun x' e' H' β' F' w' a' D' m1 m2 m3 mm m4 => hk x' e' H' β' F' w' a' D' m1 m2 m3 mm (k2.trans m4)
   rw [A4i]
   by_cases hss : s = s'
   ·subst hss; rw [if_pos rfl, hv]; exact Rep.of1 k3 (by simp) (by simp)
   ·rw [if_neg hss]; exact Rep.mono (k2.mono hs) (hf.env.1 s')
  ·exact ih hrf ht h hs hf hm hB hk
 | ownB s p k x ih =>
  intro code hrf ht Q e H β F w a QQ B D D0 h hs hf hm hB hk
  rw [er] at ht
  rw [vwp] at h
  split at h
  ·rename_i id ver p0 hg
   split at h
   ·rename_i v y hid
    obtain ⟨rfl, h⟩ := h
    split at h
    ·rename_i hgp
     split at h
     ·rename_i x' hsp
      obtain ⟨k1, k2, k3⟩ := hs.own k
      have hlt : id < H.length := (List.getElem?_eq_some_iff.1 hid).1
      have hid' : (H ++ [Ob.obj 0 (.arr 0 k [])])[id]? = some (.obj v y) := by rw [List.getElem?_append_left hlt]; exact hid
      obtain ⟨q1, q2⟩ := k1.turn (o' := .obj v x') (w' := w) (β' := upd β H.length 0 none) hid' rfl rfl (Nat.le_refl _) (fun _ _ _ => rfl) (fun b off e => .inl ⟨off, e⟩) rfl rfl rfl (Nat.le_refl _) (fun _ _ => rfl) (fun _ _ _ => rfl) (fun hm => by
       rcases k1.ob id _ hid' with ⟨r0, r1⟩ | ⟨b, off, pre, vs, post, t, fr, r0, r1, r2, r3, r4⟩
       ·refine .inl ⟨r0, ?_⟩
        exact A3i.mono hm (Bfb r1 hgp (fun m hm' => by rw [A3i] at hm'; rw [hm'.1]; exact k3) hsp)
       ·refine .inr ⟨b, off, pre, vs, post, t, fr, r0, r1, r2, r3, ?_⟩
        exact A3i.mono hm (Bfb r4 hgp (fun m hm' => by rw [A3i] at hm'; rw [hm'.1]; exact k3) hsp))
      rw [List.set_append_left _ _ hlt] at q1 q2
      exact ih hrf ht h q1 ⟨⟨fun s' => Rep.mono (q2.mono k1) (Rep.mono (k2.mono hs) (hf.env.1 s')), q1.glob⟩, hf.size, hf.defers⟩ (hm.later (k2.trans q2)) hB fun x' e' H' β' F' w' a' D' m1 m2 m3 mm m4 => hk x' e' H' β' F' w' a' D' m1 m2 m3 mm ((k2.trans q2).trans m4)
     ·exact h.elim
    ·exact ih hrf ht h hs hf hm hB hk
   ·exact h.elim
  ·exact h.elim
 | frz s x ih =>
  intro code hrf ht Q e H β F w a QQ B D D0 h hs hf hm hB hk
  rw [er] at ht
  rw [vwp] at h
  split at h
  ·rename_i k id ver p off n cp hg
   split at h
   ·rename_i v y hid
    obtain ⟨rfl, h⟩ := h
    split at h
    ·rename_i cs hcs
     obtain ⟨k1, k2⟩ := hs.freeze hid rfl
     have hr : Rep ⟨β, H, F⟩ w (get e s) (a.tmps.getD s undef) := hf.env.1 s
     rw [hg] at hr
     have hr' : Rep ⟨β, H.set id (.gone v), fun b => F b ∨ ∃ off, β id v = some (b, off)⟩ w (.sl k cs) (a.tmps.getD s undef) := by
      rcases hr with (hr | hr | ⟨us, hr, hr2⟩) | ⟨xs, vs, hr, _⟩
      ·cases hr
      ·cases hr
      ·exact .inl (.inr (.inr ⟨us, hs.give hid hcs hr, by rw [hr2]; rfl⟩))
      ·cases hr
     refine ih hrf ht h k1 ⟨⟨fun s' => ?_, k1.glob⟩, hf.size, hf.defers⟩ (hm.later k2) hB fun x' e' H' β' F' w' a' D' m1 m2 m3 mm m4 => hk x' e' H' β' F' w' a' D' m1 m2 m3 mm (k2.trans m4)
     rw [A4i]
     by_cases hss : s = s'
     ·subst hss; rw [if_pos rfl]; exact hr'
     ·rw [if_neg hss]; exact Rep.mono (k2.mono hs) (hf.env.1 s')
    ·exact h.elim
   ·exact h.elim
  ·exact h.elim
 | ownT s p t x ih =>
  intro code hrf ht Q e H β F w a QQ B D D0 h hs hf hm hB hk
  rw [er] at ht
  rw [vwp] at h
  split at h
  ·rename_i id ver p0 hg
   split at h
   ·rename_i v y hid
    obtain ⟨rfl, h⟩ := h
    split at h
    ·rename_i hgp
     split at h
     ·rename_i x' hsp
      obtain ⟨k1, k2, k3⟩ := hs.ownBld t
      have hlt : id < H.length := (List.getElem?_eq_some_iff.1 hid).1
      have hid' : (H ++ [Ob.bld 0 t []])[id]? = some (.obj v y) := by rw [List.getElem?_append_left hlt]; exact hid
      obtain ⟨q1, q2⟩ := k1.turn (o' := .obj v x') (w' := w) (β' := upd β H.length 0 none) hid' rfl rfl (Nat.le_refl _) (fun _ _ _ => rfl) (fun b off e => .inl ⟨off, e⟩) rfl rfl rfl (Nat.le_refl _) (fun _ _ => rfl) (fun _ _ _ => rfl) (fun hm => by
       rcases k1.ob id _ hid' with ⟨r0, r1⟩ | ⟨b, off, pre, vs, post, t, fr, r0, r1, r2, r3, r4⟩
       ·refine .inl ⟨r0, ?_⟩
        exact A3i.mono hm (Bfb r1 hgp (fun m hm' => by rw [A3i] at hm'; rw [hm'.1]; exact k3) hsp)
       ·refine .inr ⟨b, off, pre, vs, post, t, fr, r0, r1, r2, r3, ?_⟩
        exact A3i.mono hm (Bfb r4 hgp (fun m hm' => by rw [A3i] at hm'; rw [hm'.1]; exact k3) hsp))
      rw [List.set_append_left _ _ hlt] at q1 q2
      exact ih hrf ht h q1 ⟨⟨fun s' => Rep.mono (q2.mono k1) (Rep.mono (k2.mono hs) (hf.env.1 s')), q1.glob⟩, hf.size, hf.defers⟩ (hm.later (k2.trans q2)) hB fun x' e' H' β' F' w' a' D' m1 m2 m3 mm m4 => hk x' e' H' β' F' w' a' D' m1 m2 m3 mm ((k2.trans q2).trans m4)
     ·exact h.elim
    ·exact ih hrf ht h hs hf hm hB hk
   ·exact h.elim
  ·exact h.elim
 | rfunc g0 ps aS bd iha ihb =>
  intro code hrf ht Q e H β F w a QQ B D D0 h hs hf hm hB hk
  obtain rfl : ro = none := hrf.resolve_right (by simp [BhH])
  rw [er] at ht
  cases code with
  | region id ops d =>
   cases d
   ·exact (A6M ht (by simp) (by simp)).elim
   ·exact (A6N ht (by simp) (by simp) (by simp)).elim
  | seq x y => simp only [trC] at ht; split at ht <;> simp at ht
  | cond c x y => simp only [trC] at ht; split at ht <;> simp at ht
  | rangeFunc f0 ps0 ca cb =>
   simp only [trC] at ht
   split at ht
   ·rename_i hps
    split at ht
    ·rename_i va vb hca hcb
     simp only [Option.some.injEq, A3d.rfunc.injEq] at ht
     obtain ⟨rfl, rfl, rfl, rfl⟩ := ht
     rw [vwp] at h
     obtain ⟨-, -, h⟩ := h
     split at h
     ·rename_i g first caps hg
      obtain ⟨hgo, h⟩ := h
      have hr : Rep ⟨β, H, F⟩ w (.fn (.func g) first caps) (a.eval f0) := hf.env.rep (x := f0) hg
      have h1 := hr.inv1 (by simp) (by simp) (by simp) (by simp) (by simp)
      rw [A3i] at h1
      obtain ⟨us, vs, hv1, hfi, hc⟩ := h1
      have hv' : a.eval f0 = .func (.func g) us.toArray vs.toArray := by simpa using hv1
      refine Bhe hs hf hm hB hv' hgo hfi hc (fun fn => h N fn ca cb ⟨hca, hcb, hps⟩) hk
     ·rename_i g xs ys hg
      obtain ⟨hxy, hgo, h⟩ := h
      rw [Bool.and_eq_true, Array.isEmpty_iff, Array.isEmpty_iff] at hxy
      obtain ⟨rfl, rfl⟩ := hxy
      have hv' : a.eval f0 = .func (.func g) #[] #[] := hf.env.val hg
      refine Bhe (us := []) (vs := []) (first := []) (caps := []) hs hf hm hB hv' hgo (by rw [A3V]) (by rw [A3V]) (fun fn => by simpa using h N fn ca cb ⟨hca, hcb, hps⟩) hk
     ·exact h.elim
    ·cases ht
   ·cases ht
  | _ => simp [trC] at ht
end sound
end Go.Proofs.YtmlompedpahkjaaGreatDoor


namespace Go.Proofs.YtmlompedpahkjaaGreatDoor
open Go.RowKit
variable [A4e]
set_option linter.unusedSectionVars false
set_option linter.unusedSimpArgs false
set_option linter.unusedVariables false
set_option autoImplicit false

inductive VR where
 | tmp (t : Nat)
 | cell (a : Nat) (ag : Bool) (sz : Nat)
 deriving Inhabited
def trR (P : Program) : List ResultVar → Option (List VR)
 | [] => some []
 | .tmp t :: r => (trR P r).map (.tmp t :: ·)
 | .cell a t :: r => match Bg6 P t, Bce P t, trR P r with
  | some ag, some sz, some r => some (.cell a ag sz :: r)
  | _, _, _ => none

def Blb : List VR → Env → List Ob → (List TV → Prop) → Prop
 | [], e, H, K => K []
 | .tmp t :: r, e, H, K => Blb r e H fun xs => K (get e t :: xs)
 | .cell a ag sz :: r, e, H, K => pop (.load ag sz (.t a)) e H fun x => Blb r e H fun xs => K (x :: xs)
def res (r : List VR) (e : Env) (H : List Ob) (K : TV → Prop) : Prop := Blb r e H fun xs => match xs with
 | [x] => K x
 | xs => (∀ x ∈ xs, A4t x = false) ∧ K (.tup xs)

section
variable {P : Program}
/-- A result that is read. -/
def rv (a : Act) (r : ResultVar) : Sem Value := match r with
 | .tmp t => pure (a.tmps.getD t undef)
 | .cell x t => do loadVar t (← asAddr (a.tmps.getD x undef))

theorem Bi4 {c : Ctx} {w : World} {e : Env} {a : Act} (hs : Sim c w) (he : A3x c w e a) : ∀ {rs : List ResultVar} {vr : List VR} {K : List TV → Prop}, trR P rs = some vr → Blb vr e c.H K →
  ∃ (xs : List TV) (vs : List Value), (rs.mapM (rv a)).run P w = .ok vs w ∧ xs.length = vs.length ∧ (∀ (i : Nat) x v, xs[i]? = some x → vs[i]? = some v → Rep c w x v) ∧ K xs
 | [], vr, K, ht, h => by
  simp only [trR, Option.some.injEq] at ht; subst ht
  exact ⟨[], [], rfl, rfl, by simp, h⟩
 | .tmp t :: rs, vr, K, ht, h => by
  simp only [trR, Option.map_eq_some_iff] at ht
  obtain ⟨r, hr, rfl⟩ := ht
  rw [Blb] at h
  obtain ⟨xs, vs, h1, h2, h3, h4⟩ := Bi4 hs he hr h
  refine ⟨get e t :: xs, a.tmps.getD t undef :: vs, by rw [List.mapM_cons]; simp only [rv, Sem.run_bind, Sem.run_pure, Result.andThen_ok, h1], by simp [h2], ?_, h4⟩
  intro i x v hx hv
  cases i with
  | zero => simp at hx hv; subst hx; subst hv; simpa using he.1 t
  | succ i => exact h3 i x v (by simpa using hx) (by simpa using hv)
 | .cell b t :: rs, vr, K, ht, h => by
  simp only [trR] at ht
  split at ht
  ·rename_i ag sz r h1 h2 hr
   cases ht
   rw [Blb] at h
   have hy := Bud (P := P) (a := a) (ty := 0) hs he h1 h2 (x := .tmp b) h
   obtain ⟨x, v, hrun, hx, hK⟩ := hy ⟨none, .load t (.tmp b), 0, "", #[], none⟩ rfl rfl
   have hload : (do loadVar t (← asAddr (a.tmps.getD b undef)) : Sem Value).run P w = .ok v w := by
    simp only [execOp, Instr.loadAt, Sem.run_bind, Act.eval] at hrun
    simp only [Sem.run_bind]
    cases hp : a.tmps.getD b undef with
    | pointer p =>
     rw [hp] at hrun
     cases p with
     | none => simp [Instr.sureAddr, stuck] at hrun
     | some ad =>
      simp only [Instr.sureAddr, Sem.run_pure, Result.andThen_ok, asAddr] at hrun ⊢
      cases hl : (loadVar t ad).run P w with
      | ok u w2 => rw [hl] at hrun; simp only [Result.andThen_ok, Sem.run_pure] at hrun; cases hrun; rfl
      | halt hh w2 => rw [hl] at hrun; simp at hrun
    | _ => rw [hp] at hrun; simp [Instr.sureAddr, stuck] at hrun
   obtain ⟨xs, vs, h3, h4, h5, h6⟩ := Bi4 hs he hr hK
   refine ⟨x :: xs, v :: vs, by rw [List.mapM_cons, Sem.run_bind]; show Result.andThen ((rv a (.cell b t)).run P w) _ = _; rw [show (rv a (.cell b t)).run P w = .ok v w from hload]; simp only [Result.andThen_ok, Sem.run_bind, h3, Sem.run_pure], by simp [h4], ?_, h6⟩
   intro i y u hy hu
   cases i with
   | zero => simp at hy hu; subst hy; subst hu; exact hx
   | succ i => exact h5 i y u (by simpa using hy) (by simpa using hu)
  ·cases ht

theorem Bwk {c : Ctx} {w : World} {e : Env} {a : Act} (hs : Sim c w) (he : A3x c w e a) {fn : Func} {vr : List VR} {K : TV → Prop} (ht : trR P fn.results.toList = some vr) (h : res vr e c.H K) :
  ∃ x v, (results fn a.tmps).run P w = .ok v w ∧ Rep c w x v ∧ K x := by
 obtain ⟨xs, vs, h1, h2, h3, h4⟩ := Bi4 hs he ht h
 have hrun : (fn.results.mapM (rv a)).run P w = .ok vs.toArray w := by
  rw [Array.mapM_eq_mapM_toList]
  simp only [Sem.run_map, h1, Result.andThen_ok]
 have hres : (results fn a.tmps).run P w = .ok (if h : vs.toArray.size = 1 then vs.toArray[0] else .tuple vs.toArray) w := by
  have : results fn a.tmps = (do let vs ← fn.results.mapM (rv a); pure (if h : vs.size = 1 then vs[0] else .tuple vs)) := rfl
  rw [this, Sem.run_bind, hrun]; rfl
 rcases xs with _ | ⟨x, _ | ⟨y, xs⟩⟩
 ·have hv : vs = [] := List.length_eq_zero_iff.1 (by simpa using h2.symm)
  subst hv
  exact ⟨_, _, hres, .inr ⟨[], [], rfl, rfl, by rw [A3V]⟩, h4.2⟩
 ·obtain ⟨v, rfl⟩ := List.length_eq_one_iff.1 (by simpa using h2.symm)
  exact ⟨_, _, hres, h3 0 x v rfl rfl, h4⟩
 ·rcases vs with _ | ⟨u, _ | ⟨v, vs⟩⟩
  ·simp at h2
  ·simp at h2
  ·refine ⟨_, _, hres, .inr ⟨_, u :: v :: vs, rfl, by simp, ?_⟩, h4.2⟩
   have key : ∀ (xs : List TV) (vs : List Value), xs.length = vs.length → (∀ x ∈ xs, A4t x = false) → (∀ (i : Nat) x v, xs[i]? = some x → vs[i]? = some v → Rep c w x v) → A3V c w xs vs := by
    intro xs
    induction xs with
    | nil => intro vs h _ _; rw [A3V]; exact List.length_eq_zero_iff.1 h.symm
    | cons x xs ih =>
     intro vs hl ht hr
     cases vs with
     | nil => simp at hl
     | cons v vs =>
      refine A3V.cons.2 ⟨v, vs, rfl, ?_, ih vs (by simpa using hl) (fun y hy => ht y (by simp [hy])) fun i y u hy hu => hr (i + 1) y u (by simpa using hy) (by simpa using hu)⟩
      rcases hr 0 x v rfl rfl with h | ⟨ys, us, rfl, _⟩
      ·exact h
      ·have := ht (.tup ys) (by simp); simp [A4t] at this
   exact key _ _ h2 h4.1 h3

def BjI : Nat → List TV → Env
 | _, [] => []
 | i, x :: xs => (i, x) :: BjI (i + 1) xs
theorem Bk1 : ∀ (xs : List TV) (i s : Nat), get (BjI i xs) s = if i ≤ s then (xs[s - i]?).getD .any else .any
 | [], i, s => by simp [BjI, get]
 | x :: xs, i, s => by
  rw [BjI, A4i, Bk1 xs (i + 1) s]
  by_cases h : i = s
  ·subst h; simp
  ·rw [if_neg h]
   by_cases h2 : i ≤ s
   ·rw [if_pos (by omega), if_pos h2, show s - i = (s - (i + 1)) + 1 from by omega, List.getElem?_cons_succ]
   ·rw [if_neg (by omega), if_neg h2]

theorem A3V.get {c : Ctx} {w : World} : ∀ {xs : List TV} {vs : List Value}, A3V c w xs vs → xs.length = vs.length ∧ ∀ (i : Nat) x, xs[i]? = some x → ∃ v, vs[i]? = some v ∧ Rep c w x v
 | [], vs, h => by rw [A3V] at h; subst h; simp
 | x :: xs, vs, h => by
  obtain ⟨u, us, rfl, h1, h2⟩ := A3V.cons.1 h
  obtain ⟨h3, h4⟩ := A3V.get h2
  refine ⟨by simp [h3], fun i y hy => ?_⟩
  cases i with
  | zero => simp at hy; subst hy; exact ⟨u, rfl, .inl h1⟩
  | succ i => simpa using h4 i y (by simpa using hy)

/-- The end of a body. -/
def Bjj (vr : List VR) (R : TV → List Ob → Prop) : VEx → Env → List Ob → Prop
 | .nor, e, H => res vr e H fun x => R x H
 | .ret, e, H => res vr e H fun x => R x H
 | .exit _, _, _ => False
 | .pan _, _, _ => False

/-- A block that is nobody's turns. -/
theorem Sim.nobody {c : Ctx} {w : World} (hs : Sim c w) {r : Nat} {o o' : Obj} (hr : w.heap[r]? = some o) (h1 : ¬ c.own r) (h2 : ¬ c.F r) (hsh : (w.putObj r o').shape? r = w.shape? r) : Sim c (w.putObj r o') ∧ A8r c w c (w.putObj r o') := by
 have hoth : ∀ b, b ≠ r → (w.putObj r o').heap[b]? = w.heap[b]? := fun b hb => World.putObj_heap_other hb
 have hm : A8r c w c (w.putObj r o') := ⟨fun b hb => ⟨hb, hoth b fun e => h2 (e ▸ hb)⟩, fun _ _ h => ⟨h, rfl⟩, fun b _ => by
  by_cases hb : b = r
  ·subst hb; exact hsh
  ·exact A4c (hoth b hb)⟩
 refine ⟨⟨fun id ob ho => Bk4.mono hm (Ctx.has_of ho) (fun hl b off hb => hoth b fun e => h1 (e ▸ Ctx.own_of ho hl hb)) (hs.ob id ob ho), hs.inj, hs.apart, fun b hb => ?_, hs.glob.keep hm.stay⟩, hm⟩
 rw [(BcE w r o').2.2.2]; exact hs.lt b hb
theorem A3s.nobody {c0 c : Ctx} {w0 w : World} (h : A3s c0 w0 c w) {r : Nat} {o' : Obj} (hr : w0.heap.size ≤ r) : A3s c0 w0 c (w.putObj r o') :=
 ⟨h.os, h.tape, h.output, by rw [(BcE w r o').2.2.2]; exact h.size, h.has, fun b hb => (A4c (World.putObj_heap_other (by omega))).trans (h.shape b hb), fun b hb ho => (World.putObj_heap_other (by omega)).trans (h.same b hb ho), h.keepF, h.oldF, h.oldOwn⟩
/-- The A33 are shut on the way out. -/
theorem Bbp.shut {D0 : List Deferred} {u : FrameMode} (hu : u ≠ .run) {FF : Fence} {n : Nat} {fn : Func} {tmps : Array Value} {R : Ending → World → Prop} {B : Nat} {c : Ctx} : ∀ {D : List Deferred} {w : World}, Bbp D0 B c w D → Sim c w →
  ∃ wF, (LeavesInM FF n P fn tmps R D0 u wF → LeavesInM FF n P fn tmps R D u w) ∧ Sim c wF ∧ A8r c w c wF ∧ ∀ (c0 : Ctx) (w0 : World), w0.heap.size ≤ B → A3s c0 w0 c w → A3s c0 w0 c wF := by
 rintro D w ⟨ds, rfl, hnd, hds⟩ hs
 induction ds generalizing w with
 | nil => exact ⟨w, fun h => h, hs, A8r.heap rfl, fun c0 w0 _ h => h⟩
 | cons r ds ih =>
  obtain ⟨k1, k2, k3, k4, k5⟩ := hds r (by simp)
  rw [List.nodup_cons] at hnd
  have hput := World.putObj_heap_same (w := w) (o := .deferred none) k2
  obtain ⟨s1, s2⟩ := hs.nobody (o' := .deferred none) k5 k3 k4 (by simp [World.shape?, hput, k5])
  obtain ⟨wF, e1, e2, e3, e4⟩ := ih (w := w.putObj r (.deferred none)) hnd.2 (fun q hq => by
   obtain ⟨q1, q2, q3, q4, q5⟩ := hds q (by simp [hq])
   have hne : q ≠ r := fun e => hnd.1 (e ▸ hq)
   exact ⟨q1, by rw [(BcE w r _).2.2.2]; exact q2, q3, q4, (World.putObj_heap_other hne).trans q5⟩) s1
  refine ⟨wF, fun h => ⟨hu, .inl ⟨r, _, rfl, run_takeDeferred k5, e1 h⟩⟩, e2, ⟨fun b hb => ⟨hb, ((e3.stay b hb).2).trans (s2.stay b hb).2⟩, fun _ _ h => ⟨h, rfl⟩, fun b hb => (e3.shape b (by rw [(BcE w r _).2.2.2]; exact hb)).trans (s2.shape b hb)⟩, fun c0 w0 hB hl => e4 c0 w0 hB (hl.nobody (by omega))⟩

/-- A FUNCTION: out of its body's condition. -/
theorem Bqz {f : FuncId} {fn : Func} {vc : A3d} {vr : List VR} {args : List TV} {H : List Ob} {R : TV → List Ob → Prop} (hf : P.funcs[f]? = some fn) (ht : fn.body.bind (trC P fn.ntmps) = some (er vc)) (hr : trR P fn.results.toList = some vr)
  (hn : args.length ≤ fn.ntmps) (h : vwp P vc (Bjj vr R) (BjI 0 args) H) : A3p P f args H R := by
 obtain ⟨code, hb, ht⟩ := Option.bind_eq_some_iff.1 ht
 intro β F w vs hs hv
 obtain ⟨hl, hget⟩ := A3V.get hv
 refine (callsIn_wide (n := 0)).1 (callsIn_of_wp_marks hf hb trivial ?_)
 refine Bqc (ro := none) (nn := 0) (B := w.heap.size) (D := []) (D0 := []) vc (.inl rfl) ht h hs ⟨⟨fun s => ?_, hs.glob⟩, by simp; omega, rfl⟩ Bbp.nil (Nat.le_refl _) ?_
 ·rw [Bk1]
  simp only [Nat.zero_le, if_true, Nat.sub_zero]
  cases hx : args[s]? with
  | none => exact Rep.any
  | some x =>
   obtain ⟨v, hv1, hv2⟩ := hget s x hx
   have hs' : s < vs.length := (List.getElem?_eq_some_iff.1 hv1).1
   have : ((vs.toArray ++ Array.replicate (fn.ntmps - vs.toArray.size) undef).getD s undef) = v := by
    rw [Array.getD_eq_getD_getElem?, Array.getElem?_append_left (by simpa using hs')]
    simp [hv1]
   rw [this]; exact hv2
 ·intro x e' H' β' F' w' a' D' k1 k2 k3 km k4
  have fin : res vr e' H' (fun x => R x H') → LeavesInM Fence.wide 0 P fn a'.tmps (fun e w' => ∃ v x β' H' F', e = .returned v ∧ R x H' ∧ Sim ⟨β', H', F'⟩ w' ∧ A3s ⟨β, H, F⟩ w ⟨β', H', F'⟩ w' ∧ Rep ⟨β', H', F'⟩ w' x v) a'.defers .returning w' := fun h => by
   rw [k3.defers]
   obtain ⟨wF, e1, e2, e3, e4⟩ := Bbp.shut (D0 := []) (u := .returning) (by simp) (P := P) (FF := Fence.wide) (n := 0) (fn := fn) (tmps := a'.tmps) (R := fun e w' => ∃ v x β' H' F', e = .returned v ∧ R x H' ∧ Sim ⟨β', H', F'⟩ w' ∧ A3s ⟨β, H, F⟩ w ⟨β', H', F'⟩ w' ∧ Rep ⟨β', H', F'⟩ w' x v) km k2
   obtain ⟨y, v, r1, r2, r3⟩ := Bwk (fn := fn) (a := a') e2 ⟨fun s => Rep.mono e3 (k3.env.1 s), e2.glob⟩ hr h
   exact e1 ⟨v, r1, v, y, β', H', F', rfl, r3, e2, e4 _ _ (Nat.le_refl _) k4, r2⟩
  cases x with
  | nor => exact fin k1
  | ret => exact fin k1
  | exit i => exact k1.elim
  | pan u => exact k1.elim

/-- The end of a body that may panic. -/
def Bqy (vr : List VR) (R : TV → List Ob → Prop) (RP : Value → List Ob → Prop) : VEx → Env → List Ob → Prop
 | .nor, e, H => res vr e H fun x => R x H
 | .ret, e, H => res vr e H fun x => R x H
 | .exit _, _, _ => False
 | .pan u, _, H => RP u H



/-- Nothing that was there has turned. -/
structure Baf (F : Nat → Prop) (w : World) (F' : Nat → Prop) (w' : World) : Prop where
 os : w'.os = w.os
 tape : w'.tape = w.tape
 output : w'.output = w.output
 size : w.heap.size ≤ w'.heap.size
 same : ∀ b, b < w.heap.size → w'.heap[b]? = w.heap[b]?
 keepF : ∀ b, F b → F' b
 oldF : ∀ b, b < w.heap.size → F' b → F b
 ltF : ∀ b, F' b → b < w'.heap.size

/-- A CALL THAT LEAVES NOTHING BEHIND but new memory that nobody changes any more. -/
def A4p (P : Program) (f : FuncId) (args : List TV) (R : TV → Prop) : Prop :=
 ∀ (β : Nat → Nat → Option (Nat × Nat)) (F : Nat → Prop) (w : World) (vs : List Value), ((∀ b, F b → b < w.heap.size) ∧ A8z F w) → A3V ⟨β, [], F⟩ w args vs →
  Calls P f vs.toArray w fun e w' => ∃ v x F', e = .returned v ∧ R x ∧ Rep ⟨β, [], F'⟩ w' x v ∧ Baf F w F' w'

theorem A4p.mono {f : FuncId} {args : List TV} {R R' : TV → Prop} (h : A4p P f args R) (hr : ∀ x, R x → R' x) : A4p P f args R' :=
 fun β F w vs hF hv => (h β F w vs hF hv).mono fun _ _ ⟨v, x, F', h1, h2, h3⟩ => ⟨v, x, F', h1, hr _ h2, h3⟩

theorem A3p.toPure {f : FuncId} {args : List TV} {R : TV → Prop} (h : A3p P f args [] fun x H' => match frz H' x with | some y => R y | none => False) : A4p P f args R := by
 intro β F w vs hF hv
 have hs : Sim ⟨β, [], F⟩ w := ⟨fun id o ho => by simp at ho, fun i j x y b o o' hx => by simp at hx, fun b hb => by obtain ⟨i, o, off, h1, _⟩ := hb; simp at h1, hF.1, hF.2⟩
 refine (h β F w vs hs hv).mono ?_
 rintro _ w' ⟨v, x, β', H', F', rfl, hR, hs', hl, hx⟩
 split at hR
 ·rename_i y hy
  have hno : ∀ b, ¬ Ctx.own ⟨β, [], F⟩ b := fun b hb => by obtain ⟨i, o, off, h1, _⟩ := hb; simp at h1
  have hr := BwD hs' hy hx
  refine ⟨v, y, fun b => F' b ∨ Ctx.own ⟨β', H', F'⟩ b, rfl, hR, Rep.mono (A8r.toBare [] β) hr, ⟨hl.os, hl.tape, hl.output, hl.size, fun b hb => hl.same b hb (hno b), fun b hb => .inl (hl.keepF b hb), fun b hb hF' => ?_, fun b hF' => hF'.elim (hs'.lt b) hs'.own_lt⟩⟩
  rcases hF' with hF' | hF'
  ·exact (hl.oldF b hb hF').resolve_right (hno b)
  ·exact absurd (hl.oldOwn b hb hF') (hno b)
 ·exact hR.elim

theorem Baf.later {β : Nat → Nat → Option (Nat × Nat)} {H : List Ob} {F F' : Nat → Prop} {w w' : World} (h : Baf F w F' w') : A3s ⟨β, H, F⟩ w ⟨β, H, F'⟩ w' :=
 ⟨h.os, h.tape, h.output, h.size, fun id v ⟨o, h1, h2⟩ => ⟨⟨o, h1, h2⟩, rfl⟩, fun b hb => A4c (h.same b hb), fun b hb _ => h.same b hb, h.keepF, fun b hb hF => .inl (h.oldF b hb hF), fun b hb ⟨i, o, off, h1, h2, h3⟩ => ⟨i, o, off, h1, h2, h3⟩⟩
theorem Baf.sim {β : Nat → Nat → Option (Nat × Nat)} {H : List Ob} {F F' : Nat → Prop} {w w' : World} (hs : Sim ⟨β, H, F⟩ w) (h : Baf F w F' w') : Sim ⟨β, H, F'⟩ w' := by
 have hm : A8r ⟨β, H, F⟩ w ⟨β, H, F'⟩ w' := ⟨fun b hb => ⟨h.keepF b hb, h.same b (hs.lt b hb)⟩, fun id v ⟨o, h1, h2⟩ => ⟨⟨o, h1, h2⟩, rfl⟩, fun b hb => A4c (h.same b hb)⟩
 refine ⟨fun id o ho => Bk4.mono hm ⟨o, ho, Nat.le_refl _⟩ (fun hl b off hb => h.same b (hs.own_lt ⟨id, o, off, ho, hl, hb⟩)) (hs.ob id o ho), hs.inj, fun b hb hF => ?_, h.ltF, hs.glob.keep hm.stay⟩
 obtain ⟨i, o, off, h1, h2, h3⟩ := hb
 have ho : Ctx.own ⟨β, H, F⟩ b := ⟨i, o, off, h1, h2, h3⟩
 exact hs.apart b ho (h.oldF b (hs.own_lt ho) hF)

/-- Such a call, with nothing lent. -/
theorem A4p.calls {f : FuncId} {args : List TV} {R : TV → Prop} {H : List Ob} {K : TV → List Ob → Prop} (h : A4p P f args R) (hp : A4N args = true) (hk : ∀ x, R x → K x H) : A3p P f args H K := by
 intro β F w vs hs hv
 refine (h β F w vs ⟨hs.lt, hs.glob⟩ (A3V.pure hp hv)).mono ?_
 rintro _ w' ⟨v, x, F', rfl, hR, hx, hst⟩
 exact ⟨v, x, β, H, F', rfl, hk x hR, hst.sim hs, hst.later, Rep.mono (A8r.toBare H β) hx⟩

/-- Such a call, to which objects are lent: it yields no memory. -/
theorem A4p.lends {f : FuncId} {args args' : List TV} {R : TV → Prop} {H : List Ob} {K : TV → List Ob → Prop} (h : A4p P f args' R) (hp : BzO H args = some args') (hk : ∀ x, R x → Bla x = true ∧ K x H) : A3p P f args H K := by
 intro β F w vs hs hv
 refine (h β (fun b => F b ∨ Ctx.own ⟨β, H, F⟩ b) w vs ⟨fun b hb => hb.elim (hs.lt b) hs.own_lt, hs.glob.keep fun b hb => ⟨.inl hb, rfl⟩⟩ (Bmq hs hp hv)).mono ?_
 rintro _ w' ⟨v, x, F', rfl, hR, hx, hst⟩
 obtain ⟨hsc, hK⟩ := hk x hR
 have hst' : Baf F w F w' := ⟨hst.os, hst.tape, hst.output, hst.size, hst.same, fun _ h => h, fun _ _ h => h, fun b hb => Nat.lt_of_lt_of_le (hs.lt b hb) hst.size⟩
 exact ⟨v, x, β, H, F, rfl, hK, hst'.sim hs, hst'.later, Bse hsc hx⟩

theorem A8r.ofF {β β' : Nat → Nat → Option (Nat × Nat)} {H : List Ob} {F F' : Nat → Prop} {w : World} (h : ∀ b, F b → F' b) : A8r ⟨β, [], F⟩ w ⟨β', H, F'⟩ w :=
 ⟨fun b hb => ⟨h b hb, rfl⟩, fun id v h => by obtain ⟨o, h, _⟩ := h; simp at h, fun _ _ => rfl⟩
mutual
/-- The reading of a result, where all memory in it is one's own, its elements without memory. -/
def frs (H : List Ob) : TV → Option TV
 | .val v => some (.val v)
 | .any => some .any
 | .os k id ver p off n cp => match H[id]? with
  | some (.obj v x) => if v = ver then (match A5S p k off n x with
   | some cs => if Bb9 cs then some (.sl k cs) else none
   | none => none) else none
  | _ => none
 | .agg cs => (Blc H cs).map .agg
 | .arr n k cs => if Bb9 cs then some (.arr n k cs) else none
 | .tup cs => (Blc H cs).map .tup
 | .ifc t x => (frs H x).map (.ifc t)
 | _ => none
def Blc (H : List Ob) : List TV → Option (List TV)
 | [] => some []
 | x :: xs => match frs H x, Blc H xs with
  | some x, some xs => some (x :: xs)
  | _, _ => none
end

/-- Only one's own A33. -/
def Ctx.mine (c : Ctx) : Ctx := ⟨c.β, [], c.own⟩

theorem BjY {p : List (Nat × Nat)} {k off : Nat} {x : TV} {cs : List TV} (h : A5S p k off 0 x = some cs) : cs = [] := by
 unfold A5S at h
 split at h
 ·split at h
  ·cases h; simp
  ·cases h
 ·cases h

mutual
theorem Bjt {c : Ctx} {w : World} (hs : Sim c w) : ∀ {x x' : TV} {us : List Value}, frs c.H x = some x' → A3i c w x us → A3i c.mine w x' us
 | .val y, x', us, hf, hr => by simp only [frs, Option.some.injEq] at hf; subst hf; rw [A3i] at hr ⊢; exact hr
 | .any, x', us, hf, hr => by simp only [frs, Option.some.injEq] at hf; subst hf; rw [A3i] at hr ⊢; exact hr
 | .mp _ _, x', us, hf, hr => by simp [frs] at hf
 | .yl _ _, x', us, hf, hr => by simp [frs] at hf
 | .sl k cs, x', us, hf, hr => by simp [frs] at hf
 | .fp x, x', us, hf, hr => by simp [frs] at hf
 | .op id ver p, x', us, hf, hr => by simp [frs] at hf
 | .fn f a b, x', us, hf, hr => by simp [frs] at hf
 | .os k id ver p off n cp, x', us, hf, hr => by
  rw [A3i] at hr
  obtain ⟨hr1, hr2⟩ := hr
  rw [frs] at hf
  split at hf
  ·rename_i ver' x hid
   split at hf
   ·rename_i e; subst e
    split at hf
    ·rename_i cs hcs
     split at hf
     ·rename_i hsc
      cases hf
      rcases hr2 with ⟨rfl, a0, hr2, _⟩ | ⟨b0, o0, cap, t0, m0, hr2, hr3, hr4, hr5, hr6, hr7⟩
      ·have := BjY hcs
       subst this
       rw [A3i]
       exact ⟨by simp, .inl ⟨rfl, a0, 0, hr2, by omega⟩⟩
      rcases hs.ob id _ hid with ⟨h0, _⟩ | ⟨b, off', pre, vs, post, t, fr, h0, h1, h2, h3, h4⟩
      ·rw [h0] at hr2; cases hr2
      rw [h0] at hr2
      obtain ⟨rfl, rfl⟩ : b = b0 ∧ off' = o0 := by simpa using hr2
      obtain ⟨a, m, q, rfl, k1, k2, k3, k4⟩ := A9M h4 hcs
      rw [A3i]
      refine ⟨k3, .inr ⟨b, off' + A6c p + off * k, cap, m, by rw [k4]; exact hr3, by omega, hr5, ⟨id, _, off', hid, rfl, h0⟩, A9o hsc k2, ?_⟩⟩
      have e : off' + A6c p + off * k = pre.length + a.length := by rw [h3, k1]; omega
      rw [e]; exact A8u h1
     ·cases hf
    ·cases hf
   ·cases hf
  ·cases hf
 | .agg cs, x', us, hf, hr => by
  simp only [frs, Option.map_eq_some_iff] at hf
  obtain ⟨ds, hds, rfl⟩ := hf
  rw [A3i] at hr ⊢
  exact BkT hs hds hr
 | .arr n k cs, x', us, hf, hr => by
  rw [frs] at hf
  split at hf
  ·rename_i hsc; cases hf; rw [A3i] at hr ⊢; exact ⟨hr.1, hr.2.1, A9o hsc hr.2.2⟩
  ·cases hf
 | .tup cs, x', us, hf, hr => by rw [A3i] at hr; exact hr.elim
 | .ifc t x, x', us, hf, hr => by
  simp only [frs, Option.map_eq_some_iff] at hf
  obtain ⟨y, hy, rfl⟩ := hf
  rw [A3i] at hr ⊢
  obtain ⟨u, h1, vs, h2, h3⟩ := hr
  exact ⟨u, h1, vs, Bjt hs hy h2, by rw [h3]; exact Blz hy vs⟩
theorem BkT {c : Ctx} {w : World} (hs : Sim c w) : ∀ {xs xs' : List TV} {us : List Value}, Blc c.H xs = some xs' → A3j c w xs us → A3j c.mine w xs' us
 | [], xs', us, hf, hr => by simp only [Blc, Option.some.injEq] at hf; subst hf; rw [A3j] at hr ⊢; exact hr
 | x :: xs, xs', us, hf, hr => by
  rw [Blc] at hf
  split at hf
  ·rename_i y ys hy hys
   cases hf
   rw [A3j] at hr ⊢
   obtain ⟨u, us, h1, h2, h3⟩ := hr
   exact ⟨u, us, h1, Bjt hs hy h2, BkT hs hys h3⟩
  ·cases hf
theorem Blz {H : List Ob} : ∀ {x x' : TV} (hf : frs H x = some x') (us : List Value), mkV x us = mkV x' us
 | .val y, x', hf, us => by simp only [frs, Option.some.injEq] at hf; subst hf; rfl
 | .any, x', hf, us => by simp only [frs, Option.some.injEq] at hf; subst hf; rfl
 | .mp _ _, x', hf, us => by simp [frs] at hf
 | .yl _ _, x', hf, us => by simp [frs] at hf
 | .sl k cs, x', hf, us => by simp [frs] at hf
 | .fp x, x', hf, us => by simp [frs] at hf
 | .op id ver p, x', hf, us => by simp [frs] at hf
 | .fn f a b, x', hf, us => by simp [frs] at hf
 | .os k id ver p off n cp, x', hf, us => by
  rw [frs] at hf
  split at hf
  ·split at hf
   ·split at hf
    ·split at hf
     ·cases hf; rfl
     ·cases hf
    ·cases hf
   ·cases hf
  ·cases hf
 | .agg cs, x', hf, us => by
  simp only [frs, Option.map_eq_some_iff] at hf
  obtain ⟨ds, hds, rfl⟩ := hf; rfl
 | .arr n k cs, x', hf, us => by
  rw [frs] at hf
  split at hf
  ·cases hf; rfl
  ·cases hf
 | .tup cs, x', hf, us => by
  simp only [frs, Option.map_eq_some_iff] at hf
  obtain ⟨ds, hds, rfl⟩ := hf; rfl
 | .ifc t x, x', hf, us => by
  simp only [frs, Option.map_eq_some_iff] at hf
  obtain ⟨y, hy, rfl⟩ := hf; rfl
end
theorem Bmt {c : Ctx} {w : World} (hs : Sim c w) : ∀ {xs xs' : List TV} {vs : List Value}, Blc c.H xs = some xs' → A3V c w xs vs → A3V c.mine w xs' vs
 | [], xs', vs, hf, hr => by simp only [Blc, Option.some.injEq] at hf; subst hf; rw [A3V] at hr ⊢; exact hr
 | x :: xs, xs', vs, hf, hr => by
  rw [Blc] at hf
  split at hf
  ·rename_i y ys hy hys
   cases hf
   rw [A3V] at hr ⊢
   obtain ⟨u, us, h1, h2, h3⟩ := hr
   refine ⟨u, us, h1, ?_, Bmt hs hys h3⟩
   rcases h2 with rfl | rfl | ⟨aS, h2, h4⟩
   ·simp only [frs, Option.some.injEq] at hy; subst hy; exact .inl rfl
   ·simp only [frs, Option.some.injEq] at hy; subst hy; exact .inr (.inl rfl)
   ·exact .inr (.inr ⟨aS, Bjt hs hy h2, by rw [h4]; exact Blz hy aS⟩)
  ·cases hf
theorem Bs1 {c : Ctx} {w : World} (hs : Sim c w) {x x' : TV} {v : Value} (hf : frs c.H x = some x') (hr : Rep c w x v) : Rep c.mine w x' v := by
 rcases hr with (h | h | ⟨us, h, h'⟩) | ⟨xs, vs, rfl, h2, h3⟩
 ·subst h; simp only [frs, Option.some.injEq] at hf; subst hf; exact Rep.any
 ·subst h; simp only [frs, Option.some.injEq] at hf; subst hf; exact Rep.of_val
 ·exact .inl (.inr (.inr ⟨us, Bjt hs hf h, by rw [h']; exact Blz hf us⟩))
 ·simp only [frs, Option.map_eq_some_iff] at hf
  obtain ⟨ds, hds, rfl⟩ := hf
  exact .inr ⟨ds, vs, rfl, h2, Bmt hs hds h3⟩

/-- A CALL THAT LEAVES NOTHING BEHIND, AND YIELDS NEW MEMORY ALONE. -/
def A9X (P : Program) (f : FuncId) (args : List TV) (R : TV → Prop) : Prop :=
 ∀ (β : Nat → Nat → Option (Nat × Nat)) (F : Nat → Prop) (w : World) (vs : List Value), ((∀ b, F b → b < w.heap.size) ∧ A8z F w) → A3V ⟨β, [], F⟩ w args vs →
  Calls P f vs.toArray w fun e w' => ∃ v x F', e = .returned v ∧ R x ∧ Rep ⟨β, [], fun b => F' b ∧ w.heap.size ≤ b⟩ w' x v ∧ Baf F w F' w'

theorem A9X.mono {f : FuncId} {args : List TV} {R R' : TV → Prop} (h : A9X P f args R) (hr : ∀ x, R x → R' x) : A9X P f args R' :=
 fun β F w vs hF hv => (h β F w vs hF hv).mono fun _ _ ⟨v, x, F', h1, h2, h3⟩ => ⟨v, x, F', h1, hr _ h2, h3⟩
theorem A9X.pure {f : FuncId} {args : List TV} {R : TV → Prop} (h : A9X P f args R) : A4p P f args R :=
 fun β F w vs hF hv => (h β F w vs hF hv).mono fun _ _ ⟨v, x, F', h1, h2, h3, h4⟩ => ⟨v, x, F', h1, h2, Rep.mono (A8r.ofF (F := fun b => F' b ∧ w.heap.size ≤ b) (F' := F') fun b hb => hb.1) h3, h4⟩

theorem A3p.toFresh {f : FuncId} {args : List TV} {R : TV → Prop} (h : A3p P f args [] fun x H' => match frs H' x with | some y => R y | none => False) : A9X P f args R := by
 intro β F w vs hF hv
 have hs : Sim ⟨β, [], F⟩ w := ⟨fun id o ho => by simp at ho, fun i j x y b o o' hx => by simp at hx, fun b hb => by obtain ⟨i, o, off, h1, _⟩ := hb; simp at h1, hF.1, hF.2⟩
 refine (h β F w vs hs hv).mono ?_
 rintro _ w' ⟨v, x, β', H', F', rfl, hR, hs', hl, hx⟩
 split at hR
 ·rename_i y hy
  have hno : ∀ b, ¬ Ctx.own ⟨β, [], F⟩ b := fun b hb => by obtain ⟨i, o, off, h1, _⟩ := hb; simp at h1
  have hr := Bs1 hs' hy hx
  have hnew : ∀ b, Ctx.own ⟨β', H', F'⟩ b → w.heap.size ≤ b := fun b hb => by
   rcases Nat.lt_or_ge b w.heap.size with h1 | h1
   ·exact absurd (hl.oldOwn b h1 hb) (hno b)
   ·exact h1
  refine ⟨v, y, fun b => F b ∨ Ctx.own ⟨β', H', F'⟩ b, rfl, hR, ?_, ⟨hl.os, hl.tape, hl.output, hl.size, fun b hb => hl.same b hb (hno b), fun b hb => .inl hb, fun b hb hF' => hF'.elim id fun h => ?_, fun b hF' => hF'.elim (fun h => Nat.lt_of_lt_of_le (hF.1 b h) hl.size) hs'.own_lt⟩⟩
  ·exact Rep.mono (A8r.ofF (F := Ctx.own ⟨β', H', F'⟩) (F' := fun b => (F b ∨ Ctx.own ⟨β', H', F'⟩ b) ∧ w.heap.size ≤ b) fun b hb => ⟨.inr hb, hnew b hb⟩) hr
  ·have := hnew b h; omega
 ·exact hR.elim

/-- Such a call, to which objects are lent. -/
theorem A9X.lends {f : FuncId} {args args' : List TV} {R : TV → Prop} {H : List Ob} {K : TV → List Ob → Prop} (h : A9X P f args' R) (hp : BzO H args = some args') (hk : ∀ x, R x → K x H) : A3p P f args H K := by
 intro β F w vs hs hv
 refine (h β (fun b => F b ∨ Ctx.own ⟨β, H, F⟩ b) w vs ⟨fun b hb => hb.elim (hs.lt b) hs.own_lt, hs.glob.keep fun b hb => ⟨.inl hb, rfl⟩⟩ (Bmq hs hp hv)).mono ?_
 rintro _ w' ⟨v, x, F', rfl, hR, hx, hst⟩
 have hst' : Baf F w (fun b => F b ∨ (F' b ∧ w.heap.size ≤ b)) w' := ⟨hst.os, hst.tape, hst.output, hst.size, hst.same, fun _ h => .inl h, fun b hb h => h.elim id fun h => by omega, fun b hb => hb.elim (fun h => Nat.lt_of_lt_of_le (hs.lt b h) hst.size) fun h => hst.ltF b h.1⟩
 refine ⟨v, x, β, H, _, rfl, hk x hR, hst'.sim hs, hst'.later, Rep.mono (A8r.ofF (F := fun b => F' b ∧ w.heap.size ≤ b) (F' := fun b => F b ∨ (F' b ∧ w.heap.size ≤ b)) fun b hb => .inr hb) hx⟩
end
end Go.Proofs.YtmlompedpahkjaaGreatDoor


namespace Go.Proofs.YtmlompedpahkjaaGreatDoor
open Go.RowKit
variable [A4e]
set_option linter.unusedSectionVars false
set_option linter.unusedSimpArgs false
set_option linter.unusedVariables false
set_option autoImplicit false

/-- An equation that simp is to take for no definition. -/
theorem A29 {α : Sort _} {a b : α} (h : a = b) : a = b := h

/-- Numbers, truth values, strings. -/
abbrev i64 (n : Int) : TV := .val (.int .i64 n)
abbrev tb (b : Bool) : TV := .val (.bool b)
abbrev ts (l : List UInt8) : TV := .val (.string (str l))
/-- Bytes, strings, numbers in memory. -/
abbrev slB (l : List UInt8) : TV := .sl 1 (l.map by8)
abbrev slS (l : List (List UInt8)) : TV := .sl 1 (l.map ts)

section
variable {P : Program} {e : Env} {H : List Ob}
theorem BC5 {c : Opd} {a : Opd} {b : Opd} {K : TV → Prop} : pop (.pick c a b) e H K = (match c.ev e with
  | .val (.bool t) => K (if t then a.ev e else b.ev e)
  | _ => False) := A29 rfl
theorem BDh {x : Opd} {K : TV → Prop} : pop (.b2s x) e H K = (match A4k H 1 (x.ev e) with
  | some cs => (∀ y ∈ cs, BlB y) ∧ K (.val (.string (str (cs.map Bgv))))
  | none => False) := A29 rfl
theorem BCI {ag : Bool} {sz : Nat} {x : Opd} {K : TV → Prop} : pop (.load ag sz x) e H K = (match x.ev e with
  | .fp y => BiU ag sz y ∧ K y
  | .op id ver p => (match H[id]? with
   | some (.obj v x) => v = ver ∧ (match A9A p x with | some y => BiU ag sz y ∧ K y | none => False)
   | _ => False)
  | _ => False) := A29 rfl
theorem BAv {n : Nat} {k : Nat} {x : Opd} {i : Opd} {K : TV → Prop} : pop (.idxAA n k x i) e H K = (match x.ev e, i.ev e with
  | .fp (.arr n' k' cs), .val (.int _ j) => k' = k ∧ n' = n ∧ 0 ≤ j ∧ (match cs[j.toNat]? with | some y => K (.fp y) | none => False)
  | .op id ver p, .val (.int _ j) => 0 ≤ j ∧ j < n ∧ K (.op id ver (p ++ [(j.toNat, j.toNat * k)]))
  | _, _ => False) := A29 rfl
theorem BCH {x : Opd} {K : TV → Prop} : pop (.lenV x) e H K = (match x.ev e with
  | .val (.slice _ n _) => K (.val (.int .i64 n))
  | .sl _ cs => K (.val (.int .i64 cs.length))
  | .os _ _ _ _ _ n _ => K (.val (.int .i64 n))
  | _ => False) := A29 rfl
theorem BAi {k : Nat} {x : Opd} {lo : Option Opd} {hi : Option Opd} {K : TV → Prop} : pop (.slV k x lo hi) e H K = (match x.ev e with
  | .sl k' cs => k' = k ∧ bnd e lo hi cs.length cs.length fun l h => K (.sl k ((cs.drop l).take (h - l)))
  | .os k' id ver p off n cp => k' = k ∧ bnd e lo hi n cp fun l h => K (.os k id ver p (off + l) (h - l) (cp - l))
  | .val (.slice ad 0 0) => bnd e lo hi 0 0 fun l h => K (.val (.slice ad 0 0))
  | _ => False) := A29 rfl
theorem BAf {n : Nat} {k : Nat} {x : Opd} {lo : Option Opd} {hi : Option Opd} {K : TV → Prop} : pop (.slA n k x lo hi) e H K = (match x.ev e with
  | .fp (.arr n' k' cs) => k' = k ∧ n' = n ∧ n ≤ 9223372036854775807 ∧ bnd e lo hi n n fun l h => K (.sl k ((cs.drop l).take (h - l)))
  | .op id ver p => (match H[id]? with
   | some (.obj v x) => v = ver ∧ n ≤ 9223372036854775807 ∧ (match A9A p x with | some (.arr n' k' cs) => k' = k ∧ n' = n ∧ bnd e lo hi n n fun l h => K (.os k id ver p l (h - l) (n - l)) | _ => False)
   | _ => False)
  | _ => False) := A29 rfl
theorem BCm {f : Fn} {first : List Opd} {caps : List Opd} {K : TV → Prop} : pop (.mkf f first caps) e H K = ((∀ x ∈ first ++ caps, A4t (x.ev e) = false) ∧ K (.fn f (first.map (·.ev e)) (caps.map (·.ev e)))) := A29 rfl
theorem BC1 {x : Opd} {K : TV → Prop} : pop (.nilc x) e H K = (match x.ev e with
  | .op id ver p => K (.op id ver p)
  | .fp y => K (.fp y)
  | .fn (.func f) a b => K (.fn (.func f) a b)
  | .ifc t y => K (.ifc t y)
  | .val (.func (.func f) a b) => K (.val (.func (.func f) a b))
  | _ => False) := A29 rfl
theorem BqH {k : Nat} {n : Nat} {z : TV} {ps : List (Nat × Opd)} {K : TV → List Ob → Prop} : sop P (.bslice k n z ps) e H K = ((A5U e (List.replicate n k) ps ∧ A32 e ps ∧ n ≤ 1000) ∧ K (.os k H.length 0 [] 0 n n) (H ++ [.obj 0 (.arr n k (A6n e (List.replicate n z) ps))])) := A29 rfl
theorem BAY {sz : Nat} {x : Opd} {v : Opd} {K : TV → List Ob → Prop} : sop P (.store sz x v) e H K = ((lays (v.ev e) = true ∧ A3r (v.ev e) = sz) ∧ (match x.ev e with
  | .op id ver p => (match H[id]? with
   | some (.obj vr y) => vr = ver ∧ (match Bex p y (v.ev e) with | some y' => K .any (H.set id (.obj ver y')) | none => False)
   | _ => False)
  | _ => False)) := A29 rfl
theorem BxE {f : FuncId} {args : List Opd} {K : TV → List Ob → Prop} : sop P (.call f args) e H K = ((∀ x ∈ args, A4t (x.ev e) = false) ∧ A3p P f (args.map (·.ev e)) H K) := A29 rfl
theorem BvA {x : Opd} {args : List Opd} {K : TV → List Ob → Prop} : sop P (.callv x args) e H K = ((∀ x ∈ args, A4t (x.ev e) = false) ∧ (match x.ev e with
  | .fn (.func f) first caps => BgR P f = true ∧ A3p P f (first ++ args.map (·.ev e) ++ caps) H K
  | .val (.func (.func f) xs ys) => (xs.isEmpty && ys.isEmpty) = true ∧ BgR P f = true ∧ A3p P f (args.map (·.ev e)) H K
  | .yl id ver => Bhq P id ver (args.map (·.ev e)) H K
  | _ => False)) := A29 rfl
theorem By6  {Q : VEx → Env → List Ob → Prop} : vwp P (.skip ) Q e H = (Q .nor e H) := A29 rfl
theorem BDb {a : A3d} {b : A3d} {Q : VEx → Env → List Ob → Prop} : vwp P (.seq a b) Q e H = (vwp P a (fun x e H => match x with | .nor => vwp P b Q e H | .exit i => Q (.exit i) e H | .ret => Q .ret e H | .pan u => Q (.pan u) e H) e H) := A29 rfl
theorem Bw2 {lv : List Nat} {c : A3d} {Q : VEx → Env → List Ob → Prop} {H0 : List Ob} : vwp P (.loop lv c) Q e H0 = (∃ (I : Nat → Env → List Ob → Prop) (n : Nat), I n (forget lv e) H0 ∧
   ∀ n e H, I n e H → vwp P c (fun x e H => match x with | .nor => ∃ m g, m < n ∧ (H0.length ≤ g ∧ (H.length ≤ g ∨ (Bgo g (forget lv e) = true ∧ Bgs g (H.take g) = true))) ∧ I m (forget lv e) (H.take g) | .exit i => Q (.exit i) e H | .ret => Q .ret e H | .pan u => Q (.pan u) e H) e H) := A29 rfl
theorem ByP {id : Nat} {Q : VEx → Env → List Ob → Prop} : vwp P (.exit id) Q e H = (Q (.exit id) e H) := A29 rfl
theorem BA9  {Q : VEx → Env → List Ob → Prop} : vwp P (.ret ) Q e H = (Q .ret e H) := A29 rfl
theorem Bwv {c : A3d} {Q : VEx → Env → List Ob → Prop} : vwp P (.scope c) Q e H = (vwp P c Q e H) := A29 rfl
theorem BDz {s k : Nat} {c : A3d} {Q : VEx → Env → List Ob → Prop} : vwp P (.own s k c) Q e H = (match get e s with
  | .val (.slice none 0 0) => vwp P c Q ((s, .os k H.length 0 [] 0 0 0) :: e) (H ++ [.obj 0 (.arr 0 k [])])
  | _ => vwp P c Q e H) := A29 rfl
theorem Bys {s k : Nat} {p : List (Nat × Nat)} {c : A3d} {Q : VEx → Env → List Ob → Prop} : vwp P (.ownB s p k c) Q e H = (match get e s with
  | .op id ver p0 => (match H[id]? with
   | some (.obj v x) => v = ver ∧ (match A9A (p0 ++ p) x with
    | some (.val (.slice none 0 0)) => (match Bex (p0 ++ p) x (.os k H.length 0 [] 0 0 0) with
     | some x' => vwp P c Q e (H.set id (.obj ver x') ++ [.obj 0 (.arr 0 k [])])
     | none => False)
    | _ => vwp P c Q e H)
   | _ => False)
  | _ => False) := A29 rfl
theorem BxI {s : Nat} {t : TypeId} {p : List (Nat × Nat)} {c : A3d} {Q : VEx → Env → List Ob → Prop} : vwp P (.ownT s p t c) Q e H = (match get e s with
  | .op id ver p0 => (match H[id]? with
   | some (.obj v x) => v = ver ∧ (match A9A (p0 ++ p) x with
    | some (.val (.slice none 0 0)) => (match Bex (p0 ++ p) x (.os 1 H.length 0 [] 0 0 0) with
     | some x' => vwp P c Q e (H.set id (.obj ver x') ++ [.bld 0 t []])
     | none => False)
    | _ => vwp P c Q e H)
   | _ => False)
  | _ => False) := A29 rfl
theorem BrO {K : Env → List Ob → Prop} : BgX P [] K e H = K e H := A29 rfl
theorem Bxp {d : Nat} {o : POp} {r : List VO} {K : Env → List Ob → Prop} : BgX P (⟨some d, .p o, none⟩ :: r) K e H = pop o e H fun x => BgX P r K ((d, x) :: e) H := A29 rfl
theorem BxZ {d : Nat} {o : SOp} {r : List VO} {K : Env → List Ob → Prop} : BgX P (⟨some d, .s o, none⟩ :: r) K e H = sop P o e H fun x H => BgX P r K ((d, x) :: e) H := A29 rfl
theorem BuY {o : SOp} {r : List VO} {K : Env → List Ob → Prop} : BgX P (⟨none, .s o, none⟩ :: r) K e H = sop P o e H fun x H => BgX P r K e H := A29 rfl
theorem Bw0 {d s : Nat} {o : VOp} {b : Bool} {r : List VO} {K : Env → List Ob → Prop} : BgX P (⟨some d, o, some (s, b)⟩ :: r) K e H = Bil e s fun e q => match q with
 | some t => if t = b then vop P o e H (fun x H => BgX P r K ((d, x) :: e) H) else BgX P r K ((d, .val undef) :: e) H
 | none => BgX P r K ((d, .val undef) :: e) H := A29 rfl
theorem BBS {o : POp} {K : TV → List Ob → Prop} : vop P (.p o) e H K = pop o e H fun x => K x H := A29 rfl
theorem Bz9 {o : SOp} {K : TV → List Ob → Prop} : vop P (.s o) e H K = sop P o e H K := A29 rfl
theorem ByC {K : Env → Prop} : vq P [] K e H = K e := A29 rfl
theorem BDx {d : Nat} {o : POp} {r : List VO} {K : Env → Prop} : vq P (⟨some d, .p o, none⟩ :: r) K e H = pop o e H fun x => vq P r K ((d, x) :: e) H := A29 rfl
theorem BDa {d : Nat} {f : FuncId} {args : List Opd} {r : List VO} {K : Env → Prop} : vq P (⟨some d, .s (.call f args), none⟩ :: r) K e H = ((∀ x ∈ args, A4t (x.ev e) = false) ∧ ∃ x, A3p P f (args.map (·.ev e)) H (fun y H' => y = x ∧ H' = H) ∧ vq P r K ((d, x) :: e) H) := A29 rfl
theorem BuW {o : POp} {k : TV → Prop} : Bh4 P (.p o) e H k = pop o e H k := A29 rfl
theorem BwE {f : FuncId} {args : List Opd} {k : TV → Prop} : Bh4 P (.s (.call f args)) e H k = ((∀ x ∈ args, A4t (x.ev e) = false) ∧ ∃ x, A3p P f (args.map (·.ev e)) H (fun y H' => y = x ∧ H' = H) ∧ k x) := A29 rfl
variable {t : TypeId} {a b : Int} {k : IntKind}
theorem A5X {n : Int} (h1 : -9223372036854775808 ≤ n) (h2 : n ≤ 9223372036854775807) : IntKind.i64.wrap n = n := by rw [IntKind.wrap_i64]; omega
theorem BA1 (h1 : -9223372036854775808 ≤ a + b) (h2 : a + b ≤ 9223372036854775807) : A6b t .add (.int .i64 a) (.int .i64 b) = some (.int .i64 (a + b)) := by
 rw [show A6b t .add (.int .i64 a) (.int .i64 b) = some (.int .i64 (IntKind.i64.wrap (a + b))) from rfl, A5X h1 h2]
theorem BBc (h1 : -9223372036854775808 ≤ a - b) (h2 : a - b ≤ 9223372036854775807) : A6b t .sub (.int .i64 a) (.int .i64 b) = some (.int .i64 (a - b)) := by
 rw [show A6b t .sub (.int .i64 a) (.int .i64 b) = some (.int .i64 (IntKind.i64.wrap (a - b))) from rfl, A5X h1 h2]
theorem BAu (h1 : -9223372036854775808 ≤ a * b) (h2 : a * b ≤ 9223372036854775807) : A6b t .mul (.int .i64 a) (.int .i64 b) = some (.int .i64 (a * b)) := by
 rw [show A6b t .mul (.int .i64 a) (.int .i64 b) = some (.int .i64 (IntKind.i64.wrap (a * b))) from rfl, A5X h1 h2]
theorem BAz : A6b t .eql (.int k a) (.int k b) = some (.bool (decide (a = b))) := by
 rw [show A6b t .eql (.int k a) (.int k b) = some (.bool (a == b)) from by simp [A6b, binOp, Op.intCmp]; rfl]; rfl
theorem BCe : A6b t .neq (.int k a) (.int k b) = some (.bool (!decide (a = b))) := by
 rw [show A6b t .neq (.int k a) (.int k b) = some (.bool (a != b)) from by simp [A6b, binOp, Op.intCmp]; rfl]; rfl
theorem BBI : A6b t .lss (.int k a) (.int k b) = some (.bool (decide (a < b))) := by simp [A6b, binOp, Op.intCmp]; rfl
theorem BAe : A6b t .leq (.int k a) (.int k b) = some (.bool (decide (a ≤ b))) := by simp [A6b, binOp, Op.intCmp]; rfl
theorem BB9 : A6b t .gtr (.int k a) (.int k b) = some (.bool (decide (b < a))) := by simp [A6b, binOp, Op.intCmp]; rfl
theorem BCi : A6b t .geq (.int k a) (.int k b) = some (.bool (decide (b ≤ a))) := by simp [A6b, binOp, Op.intCmp]; rfl
theorem Boy : A5Q 0 (.val (.pointer none)) = some true := A29 rfl
theorem BoK {i v : Nat} {p : List (Nat × Nat)} : A5Q 0 (.op i v p) = some false := A29 rfl
theorem Bos {x : TV} : A5Q 0 (.fp x) = some false := A29 rfl
theorem Bor : A5Q 1 (.val .nilIface) = some true := A29 rfl
theorem Bna {t : TypeId} {x : TV} : A5Q 1 (.ifc t x) = some false := A29 rfl
theorem Bo7 : A5Q 2 (.val (.map none)) = some true := A29 rfl
theorem Bqe {i v : Nat} : A5Q 2 (.mp i v) = some false := A29 rfl
theorem BoG {i v : Nat} : A5Q 3 (.yl i v) = some false := A29 rfl
theorem Bpk : A5Q 3 (.val .nilFunc) = some true := A29 rfl
theorem Bp1 {f : Fn} {a b : List TV} : A5Q 3 (.fn f a b) = some false := A29 rfl
theorem BzP {n : Int} (h0 : 0 ≤ n) (h1 : n < 18446744073709551616) : (BitVec.ofInt 64 n).toNat = n.toNat := by
 rw [BitVec.toNat_ofInt]
 have : n % ((2 ^ 64 : Nat) : Int) = n := Int.emod_eq_of_lt h0 (by simpa using h1)
 rw [this]
theorem BAq (h1 : 0 ≤ a) (h2 : a ≤ 9223372036854775807) (h3 : 0 ≤ b) (h4 : b ≤ 9223372036854775807) : A6b t .and (.int .i64 a) (.int .i64 b) = some (.int .i64 ((a.toNat &&& b.toNat : Nat) : Int)) := by
 rw [show A6b t .and (.int .i64 a) (.int .i64 b) = some (.int .i64 (IntKind.i64.wrap ((BitVec.ofInt 64 a &&& BitVec.ofInt 64 b).toNat : Int))) from rfl, BitVec.toNat_and, BzP h1 (by omega), BzP h3 (by omega)]
 have := Nat.and_le_left (n := a.toNat) (m := b.toNat)
 rw [A5X (by omega) (by omega)]
theorem BDu (h1 : 0 ≤ a) (h2 : a ≤ 9223372036854775807) (h3 : 0 ≤ b) (h4 : b ≤ 9223372036854775807) : A6b t .or (.int .i64 a) (.int .i64 b) = some (.int .i64 ((a.toNat ||| b.toNat : Nat) : Int)) := by
 rw [show A6b t .or (.int .i64 a) (.int .i64 b) = some (.int .i64 (IntKind.i64.wrap ((BitVec.ofInt 64 a ||| BitVec.ofInt 64 b).toNat : Int))) from rfl, BitVec.toNat_or, BzP h1 (by omega), BzP h3 (by omega)]
 have := Nat.or_lt_two_pow (n := 63) (x := a.toNat) (y := b.toNat) (by omega) (by omega)
 rw [A5X (by omega) (by omega)]
theorem BAZ {k2 : IntKind} (h1 : 0 ≤ b) (h2 : b ≤ 63) (h3 : 0 ≤ a * 2 ^ b.toNat) (h4 : a * 2 ^ b.toNat ≤ 9223372036854775807) : A6b t .shl (.int .i64 a) (.int k2 b) = some (.int .i64 (a * 2 ^ b.toNat)) := by
 have e : binOp .shl t (.int .i64 a) (.int k2 b) = pure (.int .i64 (a * 2 ^ b.toNat)) := by
  show Op.shift .shl .i64 a k2 b = _
  unfold Op.shift
  rw [if_neg (by omega)]
  have hm : min b.toNat IntKind.i64.bits = b.toNat := by
   have : IntKind.i64.bits = 64 := rfl
   omega
  simp only [hm]
  rw [A5X (by omega) h4]
 unfold A6b; rw [e]; rfl
theorem BAA {k2 : IntKind} (h1 : 0 ≤ b) (h2 : b ≤ 63) (h3 : 0 ≤ a) : A6b t .shr (.int .i64 a) (.int k2 b) = some (.int .i64 (a / 2 ^ b.toNat)) := by
 have e : binOp .shr t (.int .i64 a) (.int k2 b) = pure (.int .i64 (a / 2 ^ b.toNat)) := by
  show Op.shift .shr .i64 a k2 b = _
  unfold Op.shift
  rw [if_neg (by omega)]
  have hm : min b.toNat IntKind.i64.bits = b.toNat := by
   have : IntKind.i64.bits = 64 := rfl
   omega
  simp only [hm]
  rw [Int.fdiv_eq_ediv_of_nonneg _ (by exact Int.le_of_lt (Int.pow_pos (by omega)))]
 unfold A6b; rw [e]; rfl
theorem BBi (h1 : 0 ≤ a) (h2 : b ≠ 0) : A6b t .rem (.int k a) (.int k b) = some (.int k (a % b)) := by
 have e : binOp .rem t (.int k a) (.int k b) = pure (.int k (a % b)) := by
  unfold binOp
  simp only [ne_eq, not_true_eq_false, if_false, Op.intDiv, h2, Int.tmod_eq_emod_of_nonneg h1]
 unfold A6b; rw [e]; rfl
theorem BCq (h1 : 0 ≤ a) (h2 : 0 < b) (h3 : a ≤ 9223372036854775807) : A6b t .quo (.int .i64 a) (.int .i64 b) = some (.int .i64 (a / b)) := by
 have e : binOp .quo t (.int .i64 a) (.int .i64 b) = pure (.int .i64 (a / b)) := by
  unfold binOp
  simp only [ne_eq, not_true_eq_false, if_false, Op.intDiv, show ¬ b = 0 from by omega, Int.tdiv_eq_ediv_of_nonneg h1]
  have h4 : a / b ≤ a := Int.ediv_le_self _ h1
  have h5 : 0 ≤ a / b := Int.ediv_nonneg h1 (by omega)
  rw [A5X (by omega) (by omega)]
 unfold A6b; rw [e]; rfl
theorem Bua {x y : UInt8} : A6b t .xor (.int .u8 (x.toNat : Int)) (.int .u8 (y.toNat : Int)) = some (.int .u8 ((x ^^^ y).toNat : Int)) := by
 rw [show A6b t .xor (.int .u8 (x.toNat : Int)) (.int .u8 (y.toNat : Int)) = some (.int .u8 (IntKind.u8.wrap ((BitVec.ofInt 8 (x.toNat : Int) ^^^ BitVec.ofInt 8 (y.toNat : Int)).toNat : Int))) from rfl]
 rw [BitVec.ofInt_natCast, BitVec.ofInt_natCast, UInt8.toNat_xor, BitVec.toNat_xor, BitVec.toNat_ofNat, BitVec.toNat_ofNat, Nat.mod_eq_of_lt x.toNat_lt, Nat.mod_eq_of_lt y.toNat_lt]
 have := Nat.xor_lt_two_pow (n := 8) x.toNat_lt y.toNat_lt
 rw [IntKind.wrap_u8]; congr 2; omega
theorem BcV (l : List UInt8) : (str l).toList = l := by simp [str, ByteArray.toList_eq]
theorem Bmo {l m : List UInt8} : (l == m) = decide (l = m) := by
 by_cases h : l = m <;> simp [h]
theorem BBn {l m : List UInt8} : A6b t .eql (.string (str l)) (.string (str m)) = some (.bool (decide (l = m))) := by
 rw [show A6b t .eql (.string (str l)) (.string (str m)) = some (.bool ((str l).toList == (str m).toList)) from rfl, BcV, BcV, Bmo]
theorem BAa {l m : List UInt8} : A6b t .neq (.string (str l)) (.string (str m)) = some (.bool (!decide (l = m))) := by
 rw [show A6b t .neq (.string (str l)) (.string (str m)) = some (.bool (!((str l).toList == (str m).toList))) from rfl, BcV, BcV, Bmo]
theorem BAw {b : Bool} : unV .not (.bool b) = some (.bool (!b)) := A29 rfl
theorem Brw {u : Value} : Brn (.int k a) u = true := by cases u <;> rfl
theorem Bsb {s : ByteArray} {u : Value} : Brn (.string s) u = true := by cases u <;> rfl

theorem BqJ {v : Value} : Bf8 (TV.val v) = false := A29 rfl
theorem Bsg  : Bf8 (TV.any) = false := A29 rfl
theorem Bv5 {k : Nat} {cs : List TV} : Bf8 (TV.sl k cs) = false := A29 rfl
theorem BuJ {x : TV} : Bf8 (TV.fp x) = false := A29 rfl
theorem BuV {i : Nat} {v : Nat} {p : List (Nat × Nat)} : Bf8 (TV.op i v p) = false := A29 rfl
theorem Bwo {k : Nat} {i : Nat} {v : Nat} {p : List (Nat × Nat)} {o : Nat} {n : Nat} {cp : Nat} : Bf8 (TV.os k i v p o n cp) = false := A29 rfl
theorem Bs0 {cs : List TV} : Bf8 (TV.agg cs) = true := A29 rfl
theorem BsT {n : Nat} {k : Nat} {cs : List TV} : Bf8 (TV.arr n k cs) = true := A29 rfl
theorem BsG {vs : List TV} : Bf8 (TV.tup vs) = false := A29 rfl
theorem Btx {t : TypeId} {x : TV} : Bf8 (TV.ifc t x) = false := A29 rfl
theorem Bv4 {f : Fn} {a : List TV} {b : List TV} : Bf8 (TV.fn f a b) = false := A29 rfl
theorem Bvw {i : Nat} {v : Nat} : Bf8 (TV.mp i v) = false := A29 rfl
theorem BwB {i : Nat} {v : Nat} : Bf8 (TV.yl i v) = false := A29 rfl
theorem Bon {v : Value} : A4t (TV.val v) = false := A29 rfl
theorem BqC  : A4t (TV.any) = false := A29 rfl
theorem BtY {k : Nat} {cs : List TV} : A4t (TV.sl k cs) = false := A29 rfl
theorem Bry {x : TV} : A4t (TV.fp x) = false := A29 rfl
theorem BtP {i : Nat} {v : Nat} {p : List (Nat × Nat)} : A4t (TV.op i v p) = false := A29 rfl
theorem Bsw {k : Nat} {i : Nat} {v : Nat} {p : List (Nat × Nat)} {o : Nat} {n : Nat} {cp : Nat} : A4t (TV.os k i v p o n cp) = false := A29 rfl
theorem BpR {cs : List TV} : A4t (TV.agg cs) = false := A29 rfl
theorem Bpg {n : Nat} {k : Nat} {cs : List TV} : A4t (TV.arr n k cs) = false := A29 rfl
theorem BpX {vs : List TV} : A4t (TV.tup vs) = true := A29 rfl
theorem Bqd {t : TypeId} {x : TV} : A4t (TV.ifc t x) = false := A29 rfl
theorem Btn {f : Fn} {a : List TV} {b : List TV} : A4t (TV.fn f a b) = false := A29 rfl
theorem Bre {i : Nat} {v : Nat} : A4t (TV.mp i v) = false := A29 rfl
theorem BsD {i : Nat} {v : Nat} : A4t (TV.yl i v) = false := A29 rfl
theorem BsA  : lays (TV.any) = false := A29 rfl
theorem BvF {k : Nat} {cs : List TV} : lays (TV.sl k cs) = true := A29 rfl
theorem BuU {x : TV} : lays (TV.fp x) = true := A29 rfl
theorem Bvr {i : Nat} {v : Nat} {p : List (Nat × Nat)} : lays (TV.op i v p) = true := A29 rfl
theorem BuH {k : Nat} {i : Nat} {v : Nat} {p : List (Nat × Nat)} {o : Nat} {n : Nat} {cp : Nat} : lays (TV.os k i v p o n cp) = true := A29 rfl
theorem Bt1 {cs : List TV} : lays (TV.agg cs) = true := A29 rfl
theorem Bt2 {n : Nat} {k : Nat} {cs : List TV} : lays (TV.arr n k cs) = true := A29 rfl
theorem BqR {vs : List TV} : lays (TV.tup vs) = false := A29 rfl
theorem Btd {t : TypeId} {x : TV} : lays (TV.ifc t x) = true := A29 rfl
theorem Bvl {f : Fn} {a : List TV} {b : List TV} : lays (TV.fn f a b) = true := A29 rfl
theorem BuC {i : Nat} {v : Nat} : lays (TV.mp i v) = true := A29 rfl
theorem Bwm {i : Nat} {v : Nat} : lays (TV.yl i v) = true := A29 rfl
theorem BpL {v : Value} : A53 (TV.val v) = true := A29 rfl
theorem BpM  : A53 (TV.any) = true := A29 rfl
theorem BtM {k : Nat} {cs : List TV} : A53 (TV.sl k cs) = true := A29 rfl
theorem BtE {x : TV} : A53 (TV.fp x) = true := A29 rfl
theorem BrW {i : Nat} {v : Nat} {p : List (Nat × Nat)} : A53 (TV.op i v p) = false := A29 rfl
theorem Bti {k : Nat} {i : Nat} {v : Nat} {p : List (Nat × Nat)} {o : Nat} {n : Nat} {cp : Nat} : A53 (TV.os k i v p o n cp) = false := A29 rfl
theorem BpV {n : Nat} {k : Nat} {cs : List TV} : A53 (TV.arr n k cs) = true := A29 rfl
theorem Br5 {i : Nat} {v : Nat} : A53 (TV.mp i v) = false := A29 rfl
theorem Bs4 {i : Nat} {v : Nat} : A53 (TV.yl i v) = false := A29 rfl
theorem Bpn {v : Value} : A3r (TV.val v) = 1 := A29 rfl
theorem BoH  : A3r (TV.any) = 1 := A29 rfl
theorem BqL {k : Nat} {cs : List TV} : A3r (TV.sl k cs) = 1 := A29 rfl
theorem Bth {x : TV} : A3r (TV.fp x) = 1 := A29 rfl
theorem BsH {i : Nat} {v : Nat} {p : List (Nat × Nat)} : A3r (TV.op i v p) = 1 := A29 rfl
theorem BqO {k : Nat} {i : Nat} {v : Nat} {p : List (Nat × Nat)} {o : Nat} {n : Nat} {cp : Nat} : A3r (TV.os k i v p o n cp) = 1 := A29 rfl
theorem Boe {vs : List TV} : A3r (TV.tup vs) = 1 := A29 rfl
theorem Bpc {t : TypeId} {x : TV} : A3r (TV.ifc t x) = 1 := A29 rfl
theorem Btz {f : Fn} {a : List TV} {b : List TV} : A3r (TV.fn f a b) = 1 := A29 rfl
theorem Bq4 {i : Nat} {v : Nat} : A3r (TV.mp i v) = 1 := A29 rfl
theorem BrF {i : Nat} {v : Nat} : A3r (TV.yl i v) = 1 := A29 rfl
theorem BoJ {cs : List TV} : A3r (.agg cs) = A4h cs := by rw [A3r]
theorem Boz {n k : Nat} {cs : List TV} : A3r (.arr n k cs) = n * k := by rw [A3r]
theorem BnT : A4h [] = 0 := A29 rfl
theorem Blm {x : TV} {xs : List TV} : A4h (x :: xs) = A3r x + A4h xs := by rw [A4h]
theorem Bod {cs : List TV} : A53 (.agg cs) = A4N cs := by rw [A53]
theorem Bqv {t : TypeId} {x : TV} : A53 (.ifc t x) = A53 x := by rw [A53]
theorem Bob {cs : List TV} : A53 (.tup cs) = A4N cs := by rw [A53]
theorem BpZ : A4N [] = true := A29 rfl
theorem BnM {x : TV} {xs : List TV} : A4N (x :: xs) = (A53 x && A4N xs) := by rw [A4N]
theorem Bsl {k : IntKind} {n : Int} : lays (.val (.int k n)) = true := A29 rfl
theorem BpF {b : Bool} : lays (.val (.bool b)) = true := A29 rfl
theorem Bme {s : ByteArray} : lays (.val (.string s)) = true := A29 rfl
theorem Bkw {p : Option Addr} : lays (.val (.pointer p)) = true := A29 rfl
theorem BnF {p : Option Addr} {n c : Nat} : lays (.val (.slice p n c)) = true := A29 rfl
theorem BrC {r : Option Nat} : lays (.val (.map r)) = true := A29 rfl
theorem Bo2 {f : Fn} {a b : Array Value} : lays (.val (.func f a b)) = true := A29 rfl
theorem Bks : lays (.val .nilFunc) = true := A29 rfl
theorem Bi8 : lays (.val .nilIface) = true := A29 rfl
theorem BDj {e : Env} {n : Nat} : (Opd.t n).ev e = get e n := A29 rfl
theorem BDe {e : Env} {n : Nat} : (Opd.g n).ev e = (match A8v n with | some x => .fp x.tv | none => .val (.pointer (some ⟨n, 0, none⟩))) := A29 rfl
theorem BDs {e : Env} {v : Value} : (Opd.c v).ev e = .val v := A29 rfl
theorem Bra {x : TV} : A9A [] x = some x := A29 rfl
theorem Bts {i d : Nat} {p : List (Nat × Nat)} {cs : List TV} : A9A ((i, d) :: p) (.agg cs) = if A4h (cs.take i) = d then (cs[i]?).bind (A9A p) else none := by rw [A9A]
theorem Bq6 {i d n k : Nat} {p : List (Nat × Nat)} {cs : List TV} : A9A ((i, d) :: p) (.arr n k cs) = if d = i * k then (cs[i]?).bind (A9A p) else none := by rw [A9A]
theorem BmG {x y : TV} : Bex [] x y = if A3r y = A3r x then some y else none := by rw [Bex]
theorem Brr {i d : Nat} {p : List (Nat × Nat)} {cs : List TV} {y : TV} : Bex ((i, d) :: p) (.agg cs) y = if A4h (cs.take i) = d then (cs[i]?).bind fun c => (Bex p c y).map fun c' => .agg (cs.set i c') else none := by rw [Bex]
theorem BqT {i d n k : Nat} {p : List (Nat × Nat)} {cs : List TV} {y : TV} : Bex ((i, d) :: p) (.arr n k cs) y = if d = i * k ∧ A53 y = true then (cs[i]?).bind fun c => (Bex p c y).map fun c' => .arr n k (cs.set i c') else none := by rw [Bex]
theorem Bnf {e : Env} : forget [] e = [] := A29 rfl
theorem BlY {e : Env} {s : Nat} {ks : List Nat} : forget (s :: ks) e = (s, get e s) :: forget ks e := A29 rfl
theorem Bpv {i : Nat} : BjI i [] = [] := A29 rfl
theorem Bnw {i : Nat} {x : TV} {xs : List TV} : BjI i (x :: xs) = (i, x) :: BjI (i + 1) xs := A29 rfl
theorem BsK {ag : Bool} {sz : Nat} {y : TV} : BiU ag sz y = (A3r y = sz ∧ Bf8 y = ag) := A29 rfl
theorem Bnt {H : List Ob} {k k2 : Nat} {cs : List TV} : A4k H k (.sl k2 cs) = if k2 = k then some cs else none := A29 rfl
theorem Bmg {H : List Ob} {k : Nat} {p : Option Addr} {n c : Nat} : A4k H k (.val (.slice p n c)) = if n = 0 ∧ p.isNone ∧ c = 0 then some [] else none := A29 rfl
theorem Bno {H : List Ob} {k k2 i v o n cp : Nat} {p : List (Nat × Nat)} : A4k H k (.os k2 i v p o n cp) = if k2 = k then (match H[i]? with | some (.obj vr x) => if vr = v then A5S p k o n x else none | _ => none) else none := A29 rfl
theorem Bll {k k2 o n N : Nat} {cs : List TV} : A5S [] k o n (.arr N k2 cs) = if k2 = k ∧ o + n ≤ cs.length then some ((cs.drop o).take n) else none := A29 rfl
theorem Boh {e : Env} {zs : List TV} : A6n e zs [] = zs := A29 rfl
theorem Bnn {e : Env} {zs : List TV} {i : Nat} {x : Opd} {ps : List (Nat × Opd)} : A6n e zs ((i, x) :: ps) = A6n e (zs.set i (x.ev e)) ps := A29 rfl
theorem Bly {e : Env} {ks : List Nat} : A5U e ks [] = True := A29 rfl
theorem Bkh {e : Env} {ks : List Nat} {i : Nat} {x : Opd} {ps : List (Nat × Opd)} : A5U e ks ((i, x) :: ps) = ((lays (x.ev e) = true ∧ ks[i]? = some (A3r (x.ev e))) ∧ A5U e ks ps) := A29 rfl
theorem BjT {e : Env} : A32 e [] = True := A29 rfl
theorem BhZ {e : Env} {i : Nat} {x : Opd} {ps : List (Nat × Opd)} : A32 e ((i, x) :: ps) = (A53 (x.ev e) = true ∧ A32 e ps) := A29 rfl
theorem Bwi {t : Nat} {e : Env} {H : List Ob} {K : TV → Prop} : res [.tmp t] e H K = K (get e t) := A29 rfl
theorem BrG {a sz : Nat} {ag : Bool} {e : Env} {H : List Ob} {K : TV → Prop} : res [.cell a ag sz] e H K = pop (.load ag sz (.t a)) e H K := A29 rfl
theorem Bp2 {e : Env} {H : List Ob} {K : TV → Prop} : res [] e H K = ((∀ x ∈ ([] : List TV), A4t x = false) ∧ K (.tup [])) := A29 rfl
theorem BAh {r s : VR} {e : Env} {H : List Ob} {K : TV → Prop} : res [r, s] e H K = Blb [r, s] e H fun xs => match xs with | [x] => K x | xs => (∀ x ∈ xs, A4t x = false) ∧ K (.tup xs) := A29 rfl
theorem BsI {r s : VR} {l : List VR} {e : Env} {H : List Ob} {K : TV → Prop} : res (r :: s :: l) e H K = Blb (r :: s :: l) e H fun xs => match xs with | [x] => K x | xs => (∀ x ∈ xs, A4t x = false) ∧ K (.tup xs) := A29 rfl
theorem BmX {e : Env} {H : List Ob} {K : List TV → Prop} : Blb [] e H K = K [] := A29 rfl
theorem Btk {t : Nat} {r : List VR} {e : Env} {H : List Ob} {K : List TV → Prop} : Blb (.tmp t :: r) e H K = Blb r e H fun xs => K (get e t :: xs) := A29 rfl
theorem Bku {a sz : Nat} {ag : Bool} {r : List VR} {e : Env} {H : List Ob} {K : List TV → Prop} : Blb (.cell a ag sz :: r) e H K = pop (.load ag sz (.t a)) e H fun x => Blb r e H fun xs => K (x :: xs) := A29 rfl
theorem Bk8 {vr : List VR} {R : TV → List Ob → Prop} {e : Env} {H : List Ob} : Bjj vr R .ret e H = res vr e H fun x => R x H := A29 rfl
theorem Bkc {vr : List VR} {R : TV → List Ob → Prop} {e : Env} {H : List Ob} : Bjj vr R .nor e H = res vr e H fun x => R x H := A29 rfl
theorem BtA {H : List Ob} {g : TV → Option TV} {v : Value} : A7u H g (TV.val v) = some (.val v) := by rw [A7u]
theorem BrJ {H : List Ob} {g : TV → Option TV}  : A7u H g (TV.any) = some (.any) := by rw [A7u]
theorem BuM {H : List Ob} {g : TV → Option TV} {k : Nat} {cs : List TV} : A7u H g (TV.sl k cs) = some (.sl k cs) := by rw [A7u]
theorem BwJ {H : List Ob} {g : TV → Option TV} {x : TV} : A7u H g (TV.fp x) = some (.fp x) := by rw [A7u]
theorem BsO {H : List Ob} {g : TV → Option TV} {n : Nat} {k : Nat} {cs : List TV} : A7u H g (TV.arr n k cs) = some (.arr n k cs) := by rw [A7u]
theorem Bvb {H : List Ob} {g : TV → Option TV} {k i v o n cp : Nat} {p : List (Nat × Nat)} : A7u H g (.os k i v p o n cp) = (match H[i]? with | some (.obj vr x) => if vr = v then (A5S p k o n x).map (.sl k) else none | _ => none) := by rw [A7u]; rfl
theorem Bwu {H : List Ob} {g : TV → Option TV} {i v : Nat} {p : List (Nat × Nat)} : A7u H g (.op i v p) = (match H[i]? with | some (.obj vr x) => if vr = v then (A9A p x).bind fun y => (g y).map .fp else none | _ => none) := by rw [A7u]; rfl
theorem Bsq {H : List Ob} {g : TV → Option TV} {cs : List TV} : A7u H g (.agg cs) = (Bbl H g cs).map .agg := by rw [A7u]
theorem BtS {H : List Ob} {g : TV → Option TV} {cs : List TV} : A7u H g (.tup cs) = (Bbl H g cs).map .tup := by rw [A7u]
theorem Br8 {H : List Ob} {g : TV → Option TV} {t : TypeId} {x : TV} : A7u H g (.ifc t x) = (A7u H g x).map (.ifc t) := by rw [A7u]
theorem Bpp {H : List Ob} {g : TV → Option TV} : Bbl H g [] = some [] := A29 rfl
theorem Bnb {H : List Ob} {g : TV → Option TV} {x : TV} {xs : List TV} : Bbl H g (x :: xs) = (match A7u H g x, Bbl H g xs with | some x, some xs => some (x :: xs) | _, _ => none) := by rw [Bbl]; rfl
theorem BCk {H : List Ob} {x : TV} : frz H x = A7u H (Bn1 H 2) x := A29 rfl
theorem ByS {H : List Ob} {x : List TV} : BzO H x = Bbl H (Bn1 H 2) x := A29 rfl
theorem By7 {H : List Ob} {d : Nat} {x : TV} : Bn1 H (d + 1) x = A7u H (Bn1 H d) x := A29 rfl
theorem Bva {H : List Ob} {v : Value} : frs H (.val v) = some (.val v) := by rw [frs]
theorem BwK {H : List Ob} : frs H .any = some .any := by rw [frs]
theorem Bx7 {H : List Ob} {k i v o n cp : Nat} {p : List (Nat × Nat)} : frs H (.os k i v p o n cp) = (match H[i]? with | some (.obj vr x) => if vr = v then (match A5S p k o n x with | some cs => if Bb9 cs then some (.sl k cs) else none | none => none) else none | _ => none) := by rw [frs]; try rfl
theorem BvQ {H : List Ob} {cs : List TV} : frs H (.agg cs) = (Blc H cs).map .agg := by rw [frs]
theorem BvD {H : List Ob} {n k : Nat} {cs : List TV} : frs H (.arr n k cs) = if Bb9 cs then some (.arr n k cs) else none := by rw [frs]
theorem Bve {H : List Ob} {cs : List TV} : frs H (.tup cs) = (Blc H cs).map .tup := by rw [frs]
theorem Bu2 {H : List Ob} {t : TypeId} {x : TV} : frs H (.ifc t x) = (frs H x).map (.ifc t) := by rw [frs]
theorem Brh {H : List Ob} : Blc H [] = some [] := by rw [Blc]
theorem Bpz {H : List Ob} {x : TV} {xs : List TV} : Blc H (x :: xs) = (match frs H x, Blc H xs with | some x, some xs => some (x :: xs) | _, _ => none) := by rw [Blc]; try rfl
theorem BoC {l : List UInt8} : Bb9 (l.map by8) = true := by
 induction l with
 | nil => rfl
 | cons x l ih => rw [List.map_cons, Bb9, ih]; rfl
theorem Bs8 {l : List (List UInt8)} : Bb9 (l.map ts) = true := by
 induction l with
 | nil => rfl
 | cons x l ih => rw [List.map_cons, Bb9, ih]; rfl
theorem BrZ {l : List UInt8} {i : Nat} {b : UInt8} : (l.map by8).set i (.val (.int .u8 (b.toNat : Int))) = (l.set i b).map by8 := by rw [List.map_set]
theorem BtZ {l : List UInt8} : (l.map by8).map Bgv = l := by
 rw [List.map_map]
 have : (Bgv ∘ by8) = id := by funext b; simp
 rw [this, List.map_id]
theorem BsU {l : List UInt8} : (∀ y ∈ l.map by8, BlB y) = True := by simp
theorem BqG {a b : Nat} : ((a : Int) + (b : Int)) = ((a + b : Nat) : Int) := by omega
theorem Bu9 {a b : Nat} : ((a : Int) < (b : Int)) = (a < b) := by simp
theorem BuL {a b : Nat} : ((a : Int) ≤ (b : Int)) = (a ≤ b) := by simp
theorem Bu5 {a b : Nat} : ((a : Int) = (b : Int)) = (a = b) := propext ⟨fun h => by omega, fun h => by omega⟩
theorem Bv9 {a : Nat} : (0 ≤ (a : Int)) = True := by simp

theorem Bxr {d s : Nat} {x : TV} : get ((d, x) :: e) s = if d = s then x else get e s := A29 rfl
end
end Go.Proofs.YtmlompedpahkjaaGreatDoor


namespace Go.Proofs.YtmlompedpahkjaaGreatDoor
open Go.RowKit
variable [A4e]
set_option linter.unusedSectionVars false
set_option linter.unusedSimpArgs false
set_option linter.unusedVariables false
set_option autoImplicit false
universe u
set_option linter.defProp false

/-- (What it marks is not looked into by simp.) -/
class Tg {α : Sort u} (a : α) : Type where
instance tg {α : Sort u} (a : α) : Tg a := {}
def vif (t : Bool) (A B : Prop) [Tg A] [Tg B] : Prop := if t = true then A else B
def A3Y {α : Type} (o : Option α) (K : α → Prop) [Tg K] : Prop := match o with | some y => K y | none => False
def A5g (A K : Prop) [Tg K] : Prop := A ∧ K
def A3U {α : Type} (x : α) (K : α → Prop) [Tg K] : Prop := K x
def vex (K : TV → Prop) [Tg K] : Prop := ∃ x, K x
def VC (P : Program) (f : FuncId) (xs : List TV) (H : List Ob) (K : TV → List Ob → Prop) [Tg K] : Prop := A3p P f xs H K
def VY (P : Program) (id ver : Nat) (xs : List TV) (H : List Ob) (K : TV → List Ob → Prop) [Tg K] : Prop := Bhq P id ver xs H K
theorem BgW {P : Program} {f : FuncId} {xs : List TV} {H : List Ob} {K : TV → List Ob → Prop} (h : A3p P f xs H K) : VC P f xs H K := h
section
variable {A A' B K : Prop} {α : Type}
@[congr] theorem Bw9 {t t' : Bool} (h : t = t') : vif t A B = vif t' A B := by rw [h]
@[congr] theorem BwX {o o' : Option α} {K : α → Prop} (h : o = o') : A3Y o K = A3Y o' K := by rw [h]
@[congr] theorem BwY (h : A = A') : A5g A K = A5g A' K := by rw [h]
@[congr] theorem BwU {x x' : α} {K : α → Prop} (h : x = x') : A3U x K = A3U x' K := by rw [h]
@[congr] theorem Byu {P : Program} {c : A3d} {Q : VEx → Env → List Ob → Prop} {e e' : Env} {H H' : List Ob} (he : e = e') (hH : H = H') : vwp P c Q e H = vwp P c Q e' H' := by rw [he, hH]
@[congr] theorem BzM {P : Program} {f : FuncId} {xs xs' : List TV} {H H' : List Ob} {K : TV → List Ob → Prop} (he : xs = xs') (hH : H = H') : VC P f xs H K = VC P f xs' H' K := by rw [he, hH]
@[congr] theorem BzL {P : Program} {id ver : Nat} {xs xs' : List TV} {H H' : List Ob} {K : TV → List Ob → Prop} (he : xs = xs') (hH : H = H') : VY P id ver xs H K = VY P id ver xs' H' K := by rw [he, hH]
theorem Brv : vif true A B = A := by simp [vif]
theorem Bqk : vif false A B = B := by simp [vif]
theorem Bzm {p : Prop} [Decidable p] (h : p) : vif (decide p) A B = A := by simp [vif, h]
theorem Bxc {p : Prop} [Decidable p] (h : ¬ p) : vif (decide p) A B = B := by simp [vif, h]
theorem Bwr {t : Bool} : vif (!t) A B = vif t B A := by cases t <;> simp [vif]
theorem Bu8 {s t : Bool} : vif (s && t) A B = vif s (vif t A B) B := by cases s <;> simp [vif]
theorem Byr {s t : Bool} : vif (s || t) A B = vif s A (vif t A B) := by cases s <;> simp [vif]
theorem Bo3 {y : α} {K : α → Prop} : A3Y (some y) K = K y := rfl
theorem BqI {β : Type} {f : α → β} {o : Option α} {K : β → Prop} : A3Y (o.map f) K = A3Y o fun y => K (f y) := by cases o <;> rfl
theorem Bur {cs : List α} {i : Nat} {K : α → Prop} (h : i < cs.length) : A3Y cs[i]? K = K cs[i] := by rw [List.getElem?_eq_getElem h]; rfl
theorem Bpo (h : A) : A5g A K = K := by simp [A5g, h]
theorem BxP : A5g True K = K := by simp [A5g]
theorem Bq9 : A5g (A ∧ B) K = A5g A (A5g B K) := by simp [A5g, and_assoc]
theorem Bvv {x : α} {K : α → Prop} : A3U x K = K x := rfl
end

def A7I : Option Ob → Nat → Option TV
 | some (.obj v x), ver => if v = ver then some x else none
 | _, _ => none
theorem BtX {v : Nat} {x : TV} : A7I (some (.obj v x)) v = some x := by simp [A7I]
section
variable {H l : List Ob} {o : Ob} {n k : Nat}
theorem Byx (h : H.length = n) : (H ++ l)[n]? = l[0]? := by rw [List.getElem?_append_right (by omega), h, Nat.sub_self]
theorem Bvu (h : H.length = n) : (H ++ l)[n + k]? = l[k]? := by rw [List.getElem?_append_right (by omega)]; congr 1; omega
theorem Bzn (h : n < H.length) : (H ++ l)[n]? = H[n]? := List.getElem?_append_left h
theorem Bzg (h : n < H.length) : (H.set n o)[n]? = some o := by simp [h]
theorem BpG {m : Nat} (h : m ≠ n) : (H.set m o)[n]? = H[n]? := by rw [List.getElem?_set_ne h]
theorem BwA (h : H.length = n) : (H ++ l).set n o = H ++ l.set 0 o := by rw [List.set_append_right _ _ (by omega), h, Nat.sub_self]
theorem BtG (h : H.length = n) : (H ++ l).set (n + k) o = H ++ l.set k o := by rw [List.set_append_right _ _ (by omega)]; congr 2; omega
theorem Bwh (h : n < H.length) : (H ++ l).set n o = H.set n o ++ l := List.set_append_left _ _ h
end

section
variable {P : Program} {e : Env} {H : List Ob}
def Bpl (c a b : TV) (K : TV → Prop) [Tg K] : Prop := match c with | .val (.bool t) => K (if t then a else b) | _ => False
def Bz6 (t : TypeId) (op : BinOp) (x y : TV) (K : TV → Prop) [Tg K] : Prop := match x, y with
  | .val u, .val v => Brn u v = true ∧ (match A6b t op u v with | some r => K (.val r) | none => False)
  | _, _ => False
def Pun (op : UnOp) (x : TV) (K : TV → Prop) [Tg K] : Prop := match x with
  | .val u => (match unV op u with | some r => K (.val r) | none => False)
  | _ => False
def BsZ (k : IntKind) (x : TV) (K : TV → Prop) [Tg K] : Prop := match x with
  | .val (.int _ n) => K (.val (.int k (k.wrap n)))
  | _ => False
def BzR (x : TV) (K : TV → Prop) [Tg K] : Prop := match x with
  | .val (.string s) => K (.val (.string s))
  | _ => False
def BzW (x : Option (List TV)) (K : TV → Prop) [Tg K] : Prop := match x with
  | some cs => (∀ y ∈ cs, BlB y) ∧ K (.val (.string (str (cs.map Bgv))))
  | none => False
def Bmc (H : List Ob) (ag : Bool) (sz : Nat) (x : TV) (K : TV → Prop) [Tg K] : Prop := match x with
  | .fp y => BiU ag sz y ∧ K y
  | .op id ver p => (match H[id]? with
   | some (.obj v x) => v = ver ∧ (match A9A p x with | some y => BiU ag sz y ∧ K y | none => False)
   | _ => False)
  | _ => False
def BfP (i off : Nat) (x : TV) (K : TV → Prop) [Tg K] : Prop := match x with
  | .op id ver p => K (.op id ver (p ++ [(i, off)]))
  | .fp (.agg cs) => A4h (cs.take i) = off ∧ (match cs[i]? with | some y => K (.fp y) | none => False)
  | _ => False
def BkF (ag : Bool) (sz i off : Nat) (x : TV) (K : TV → Prop) [Tg K] : Prop := match x with
  | .agg cs => A4h (cs.take i) = off ∧ (match cs[i]? with | some y => BiU ag sz y ∧ K y | none => False)
  | _ => False
def Bnj (k : Nat) (x i : TV) (K : TV → Prop) [Tg K] : Prop := match x, i with
  | .sl k' cs, .val (.int _ j) => k' = k ∧ 0 ≤ j ∧ (match cs[j.toNat]? with | some y => K (.fp y) | none => False)
  | .os k' id ver p off n cp, .val (.int _ j) => k' = k ∧ 0 ≤ j ∧ j < n ∧ K (.op id ver (p ++ [(off + j.toNat, (off + j.toNat) * k)]))
  | _, _ => False
def BiS (n k : Nat) (x i : TV) (K : TV → Prop) [Tg K] : Prop := match x, i with
  | .fp (.arr n' k' cs), .val (.int _ j) => k' = k ∧ n' = n ∧ 0 ≤ j ∧ (match cs[j.toNat]? with | some y => K (.fp y) | none => False)
  | .op id ver p, .val (.int _ j) => 0 ≤ j ∧ j < n ∧ K (.op id ver (p ++ [(j.toNat, j.toNat * k)]))
  | _, _ => False
def Bxe (ag : Bool) (n k : Nat) (x i : TV) (K : TV → Prop) [Tg K] : Prop := match x, i with
  | .arr n' k' cs, .val (.int _ j) => k' = k ∧ n' = n ∧ 0 ≤ j ∧ (match cs[j.toNat]? with | some y => BiU ag k y ∧ K y | none => False)
  | _, _ => False
def BoI (x i : TV) (K : TV → Prop) [Tg K] : Prop := match x, i with
  | .val (.string s), .val (.int _ j) => 0 ≤ j ∧ (match (bl s)[j.toNat]? with | some b => K (by8 b) | none => False)
  | _, _ => False
def By9 (i : Nat) (x : TV) (K : TV → Prop) [Tg K] : Prop := match x with
  | .tup xs => (match xs[i]? with | some y => K y | none => False)
  | _ => False
def BrI (x : TV) (K : TV → Prop) [Tg K] : Prop := match x with
  | .val (.string s) => K (.val (.int .i64 (bl s).length))
  | _ => False
def Bnm (x : TV) (K : TV → Prop) [Tg K] : Prop := match x with
  | .val (.slice _ n _) => K (.val (.int .i64 n))
  | .sl _ cs => K (.val (.int .i64 cs.length))
  | .os _ _ _ _ _ n _ => K (.val (.int .i64 n))
  | _ => False
def Bi7 (lo hi : Option TV) (len lim : Nat) (K : Nat → Nat → Prop) [Tg K] : Prop :=
 match (match lo with | none => some 0 | some x => (match x with | .val (.int _ i) => some i | _ => none)), (match hi with | none => some (len : Int) | some x => (match x with | .val (.int _ i) => some i | _ => none)) with
 | some l, some h => (0 ≤ l ∧ l ≤ h ∧ h ≤ lim) ∧ K l.toNat h.toNat
 | _, _ => False
def evO (e : Env) : Option Opd → Option TV
 | none => none
 | some x => some (x.ev e)
theorem Br2 : evO e none = none := A29 rfl
theorem Bsf {x : Opd} : evO e (some x) = some (x.ev e) := A29 rfl
theorem Bqu {lo hi : Option Opd} {len lim : Nat} {K : Nat → Nat → Prop} : bnd e lo hi len lim K = Bi7 (evO e lo) (evO e hi) len lim K := by
 cases lo <;> cases hi <;> rfl
def BzX (x : TV) (lo hi : Option TV) (K : TV → Prop) [Tg K] : Prop := match x with
  | .val (.string s) => Bi7 lo hi (bl s).length (bl s).length fun l h => K (.val (.string (str (((bl s).drop l).take (h - l)))))
  | _ => False
def BwP (k : Nat) (x : TV) (lo hi : Option TV) (K : TV → Prop) [Tg K] : Prop := match x with
  | .sl k' cs => k' = k ∧ Bi7 lo hi cs.length cs.length fun l h => K (.sl k ((cs.drop l).take (h - l)))
  | .os k' id ver p off n cp => k' = k ∧ Bi7 lo hi n cp fun l h => K (.os k id ver p (off + l) (h - l) (cp - l))
  | .val (.slice ad 0 0) => Bi7 lo hi 0 0 fun l h => K (.val (.slice ad 0 0))
  | _ => False
def BwW (H : List Ob) (n k : Nat) (x : TV) (lo hi : Option TV) (K : TV → Prop) [Tg K] : Prop := match x with
  | .fp (.arr n' k' cs) => k' = k ∧ n' = n ∧ n ≤ 9223372036854775807 ∧ Bi7 lo hi n n fun l h => K (.sl k ((cs.drop l).take (h - l)))
  | .op id ver p => (match H[id]? with
   | some (.obj v x) => v = ver ∧ n ≤ 9223372036854775807 ∧ (match A9A p x with | some (.arr n' k' cs) => k' = k ∧ n' = n ∧ Bi7 lo hi n n fun l h => K (.os k id ver p l (h - l) (n - l)) | _ => False)
   | _ => False)
  | _ => False
def Bms (t : TypeId) (x : TV) (K : TV → Prop) [Tg K] : Prop := lays x = true ∧ K (.ifc t x)
def BzB (f : Fn) (first caps : List TV) (K : TV → Prop) [Tg K] : Prop := (∀ x ∈ first ++ caps, A4t x = false) ∧ K (.fn f first caps)
def BkJ (x : TV) (K : TV → Prop) [Tg K] : Prop := match x with
  | .op id ver p => K (.op id ver p)
  | .fp y => K (.fp y)
  | .fn (.func f) a b => K (.fn (.func f) a b)
  | .ifc t y => K (.ifc t y)
  | .val (.func (.func f) a b) => K (.val (.func (.func f) a b))
  | _ => False
def Bz3 (x y : TV) (K : TV → Prop) [Tg K] : Prop := match x, y with
  | .val (.int k a), .val (.int _ b) => K (.val (.int k (if b < a then b else a)))
  | _, _ => False
def BzT (x y : TV) (K : TV → Prop) [Tg K] : Prop := match x, y with
  | .val (.int k a), .val (.int _ b) => K (.val (.int k (if b > a then b else a)))
  | _, _ => False
def BhF (g : GOp) (H : List Ob) (xs : List TV) (K : TV → Prop) [Tg K] : Prop := match gev g H xs with
  | some y => K y
  | none => False
def Byv (neg : Bool) (x y : TV) (K : TV → Prop) [Tg K] : Prop := match x, y with
  | .val (.bool a), .val (.bool b) => K (.val (.bool (xor neg (a == b))))
  | _, _ => False
def BzF (neg : Bool) (x y : Option Bool) (K : TV → Prop) [Tg K] : Prop := match x, y with
  | some true, some b => K (.val (.bool (xor neg b)))
  | some false, some true => K (.val (.bool (xor neg false)))
  | _, _ => False
def Bky (H : List Ob) (sz : Nat) (x v : TV) (K : TV → List Ob → Prop) [Tg K] : Prop := (lays v = true ∧ A3r v = sz) ∧ (match x with
  | .op id ver p => (match H[id]? with
   | some (.obj vr y) => vr = ver ∧ (match Bex p y v with | some y' => K .any (H.set id (.obj ver y')) | none => False)
   | _ => False)
  | _ => False)
def BzZ (H : List Ob) (k bytes : Nat) (z l c : TV) (K : TV → List Ob → Prop) [Tg K] : Prop := match l, c with
  | .val (.int _ l), .val (.int _ c) => (0 ≤ l ∧ l ≤ c ∧ (bytes : Int) * c ≤ 281474976710656 ∧ c ≤ 9223372036854775807) ∧ K (.os k H.length 0 [] 0 l.toNat c.toNat) (H ++ [.obj 0 (.arr c.toNat k (List.replicate c.toNat z))])
  | _, _ => False
def Buv (k bytes : Nat) (et : TypeId) (x : TV) (y : Option (List TV)) (H : List Ob) (K : TV → List Ob → Prop) [Tg K] : Prop := match y with
  | some ys => BkA k bytes et x ys H K
  | none => False
def Bmd (k : Nat) (x : TV) (y : Option (List TV)) (H : List Ob) (K : TV → List Ob → Prop) [Tg K] : Prop := match y with
  | some ys => Bdu k x ys H K
  | none => False
def BsB (et : TypeId) (x y : TV) (H : List Ob) (K : TV → List Ob → Prop) [Tg K] : Prop := match y with
  | .val (.string s) => BkA 1 1 et x ((bl s).map by8) H K
  | _ => False
def BmW (x y : TV) (H : List Ob) (K : TV → List Ob → Prop) [Tg K] : Prop := match y with
  | .val (.string s) => Bdu 1 x ((bl s).map by8) H K
  | _ => False
def BsX (P : Program) (f : FuncId) (x : Option (Nat × Nat × List UInt8)) (H : List Ob) (K : TV → List Ob → Prop) [Tg K] : Prop := BAL P f ∧ (match x with
  | some (j, v, l) => l.length ≤ 9223372036854775807 ∧ K (.val (.string (str l))) (H.set j (.gone v))
  | none => False)
def BzY (H : List Ob) (x : TV) (K : TV → List Ob → Prop) [Tg K] : Prop := match x with
  | .val (.string s) => (bl s).length ≤ 9223372036854775807 ∧ K (.os 1 H.length 0 [] 0 (bl s).length (bl s).length) (H ++ [.obj 0 (.arr (bl s).length 1 ((bl s).map by8))])
  | _ => False
def Bsy (k bytes : Nat) (z x n : TV) (H : List Ob) (K : TV → List Ob → Prop) [Tg K] : Prop := match x, n with
  | .val (.slice none 0 0), .val (.int .i64 j) => (0 ≤ j ∧ (bytes : Int) * j ≤ 140737488355328 ∧ j ≤ 9223372036854775807) ∧ K (.os k H.length 0 [] 0 j.toNat j.toNat) (H ++ [.obj 0 (.arr j.toNat k (List.replicate j.toNat z))])
  | _, _ => False
def Blg (H : List Ob) (K : TV → List Ob → Prop) [Tg K] : Prop := K (.val (.bool true)) H ∧ K (.val (.bool false)) H
def Bt6 (neg : Bool) (x : TV) (H : List Ob) (K : TV → List Ob → Prop) [Tg K] : Prop := match x with
  | .val (.slice a _ _) => K (.val (.bool (xor neg a.isNone))) H
  | .sl _ cs => (cs = [] → K (.val (.bool true)) H ∧ K (.val (.bool false)) H) ∧ (cs ≠ [] → K (.val (.bool neg)) H)
  | .os _ _ _ _ _ n _ => (n = 0 → K (.val (.bool true)) H ∧ K (.val (.bool false)) H) ∧ (n ≠ 0 → K (.val (.bool neg)) H)
  | _ => False
def Biu (P : Program) (x : TV) (args : List TV) (H : List Ob) (K : TV → List Ob → Prop) [Tg K] : Prop := match x with
  | .fn (.func f) first caps => BgR P f = true ∧ A3p P f (first ++ args ++ caps) H K
  | .val (.func (.func f) xs ys) => (xs.isEmpty && ys.isEmpty) = true ∧ BgR P f = true ∧ A3p P f args H K
  | .yl id ver => Bhq P id ver args H K
  | _ => False
def ByV (P : Program) (nm : String) (x : TV) (args : List TV) (H : List Ob) (K : TV → List Ob → Prop) [Tg K] : Prop := Bz1 P nm H x fun f r => A3p P f (r :: args) H K
def BwV (P : Program) (q : Option (FuncId × Option (Bool × Nat))) (r : TV) (args : List TV) (H : List Ob) (K : TV → List Ob → Prop) [Tg K] : Prop := match q with
 | some (f, none) => BgR P f = true ∧ A3p P f (r :: args) H K
 | some (f, some (ag, sz)) => BgR P f = true ∧ ldT H ag sz r fun y => A3p P f (y :: args) H K
 | none => False
def Gd (q : Option Bool) (b : Bool) (A B : Prop) [Tg A] [Tg B] : Prop := match q with
 | some t => if t = b then A else B
 | none => B
def evs (e : Env) (xs : List Opd) : List TV := xs.map (·.ev e)
theorem Bwz : evs e [] = [] := A29 rfl
theorem BrL {x : Opd} {xs : List Opd} : evs e (x :: xs) = x.ev e :: evs e xs := A29 rfl
def Bdk (xs : List TV) : Prop := ∀ x ∈ xs, A4t x = false
theorem Bqb : Bdk [] = True := by simp [Bdk]
theorem Bm5 {x : TV} {xs : List TV} : Bdk (x :: xs) = (A4t x = false ∧ Bdk xs) := by simp [Bdk]
theorem Bbx {args : List Opd} : (∀ x ∈ args, A4t (x.ev e) = false) = Bdk (evs e args) := by simp [Bdk, evs]

section
variable {c c' a a' b b' x x' y y' : TV} {K : TV → Prop} {KK : TV → List Ob → Prop} {lo lo' hi hi' : Option TV} {ox ox' : Option (List TV)} {q q' q2 q2' : Option Bool} {xs xs' : List TV} {A B : Prop} {H' : List Ob}
@[congr] theorem BAU (h1 : c = c') (h2 : a = a') (h3 : b = b') : Bpl c a b K = Bpl c' a' b' K := by rw [h1, h2, h3]
@[congr] theorem BC7 {t : TypeId} {op : BinOp} (h1 : x = x') (h2 : y = y') : Bz6 t op x y K = Bz6 t op x' y' K := by rw [h1, h2]
@[congr] theorem BDq {op : UnOp} (h1 : x = x') : Pun op x K = Pun op x' K := by rw [h1]
@[congr] theorem BAW {k : IntKind} (h1 : x = x') : BsZ k x K = BsZ k x' K := by rw [h1]
@[congr] theorem BCv (h1 : x = x') : BzR x K = BzR x' K := by rw [h1]
@[congr] theorem BCN (h1 : ox = ox') : BzW ox K = BzW ox' K := by rw [h1]
@[congr] theorem BBy {ag : Bool} {sz : Nat} (h1 : x = x') (h2 : H = H') : Bmc H ag sz x K = Bmc H' ag sz x' K := by rw [h1, h2]
@[congr] theorem BxV {i o : Nat} (h1 : x = x') : BfP i o x K = BfP i o x' K := by rw [h1]
@[congr] theorem BzN {ag : Bool} {sz i o : Nat} (h1 : x = x') : BkF ag sz i o x K = BkF ag sz i o x' K := by rw [h1]
@[congr] theorem BAJ {k : Nat} (h1 : x = x') (h2 : y = y') : Bnj k x y K = Bnj k x' y' K := by rw [h1, h2]
@[congr] theorem Bz4 {n k : Nat} (h1 : x = x') (h2 : y = y') : BiS n k x y K = BiS n k x' y' K := by rw [h1, h2]
@[congr] theorem BCG {ag : Bool} {n k : Nat} (h1 : x = x') (h2 : y = y') : Bxe ag n k x y K = Bxe ag n k x' y' K := by rw [h1, h2]
@[congr] theorem BAF (h1 : x = x') (h2 : y = y') : BoI x y K = BoI x' y' K := by rw [h1, h2]
@[congr] theorem BC4 {i : Nat} (h1 : x = x') : By9 i x K = By9 i x' K := by rw [h1]
@[congr] theorem BAS (h1 : x = x') : BrI x K = BrI x' K := by rw [h1]
@[congr] theorem BBx (h1 : x = x') : Bnm x K = Bnm x' K := by rw [h1]
@[congr] theorem BCD {n m : Nat} {K : Nat → Nat → Prop} {n' m' : Nat} (h1 : lo = lo') (h2 : hi = hi') (h3 : n = n') (h4 : m = m') : Bi7 lo hi n m K = Bi7 lo' hi' n' m' K := by rw [h1, h2, h3, h4]
@[congr] theorem BCY (h1 : x = x') (h2 : lo = lo') (h3 : hi = hi') : BzX x lo hi K = BzX x' lo' hi' K := by rw [h1, h2, h3]
@[congr] theorem BCw {k : Nat} (h1 : x = x') (h2 : lo = lo') (h3 : hi = hi') : BwP k x lo hi K = BwP k x' lo' hi' K := by rw [h1, h2, h3]
@[congr] theorem BCy {n k : Nat} (h0 : H = H') (h1 : x = x') (h2 : lo = lo') (h3 : hi = hi') : BwW H n k x lo hi K = BwW H' n k x' lo' hi' K := by rw [h0, h1, h2, h3]
@[congr] theorem BzU {t : TypeId} (h1 : x = x') : Bms t x K = Bms t x' K := by rw [h1]
@[congr] theorem BCM {f : Fn} {ys ys' : List TV} (h1 : xs = xs') (h2 : ys = ys') : BzB f xs ys K = BzB f xs' ys' K := by rw [h1, h2]
@[congr] theorem BAI (h1 : x = x') : BkJ x K = BkJ x' K := by rw [h1]
@[congr] theorem BCL (h1 : x = x') (h2 : y = y') : Bz3 x y K = Bz3 x' y' K := by rw [h1, h2]
@[congr] theorem BCA (h1 : x = x') (h2 : y = y') : BzT x y K = BzT x' y' K := by rw [h1, h2]
@[congr] theorem BCt {g : GOp} {xs xs' : List TV} (h1 : H = H') (h2 : xs = xs') : BhF g H xs K = BhF g H' xs' K := by rw [h1, h2]
@[congr] theorem BCs {n : Bool} (h1 : x = x') (h2 : y = y') : Byv n x y K = Byv n x' y' K := by rw [h1, h2]
@[congr] theorem BCP {n : Bool} (h1 : q = q') (h2 : q2 = q2') : BzF n q q2 K = BzF n q' q2' K := by rw [h1, h2]
@[congr] theorem Bz5 {sz : Nat} (h0 : H = H') (h1 : x = x') (h2 : y = y') : Bky H sz x y KK = Bky H' sz x' y' KK := by rw [h0, h1, h2]
@[congr] theorem BCU {k n : Nat} {z : TV} (h0 : H = H') (h1 : x = x') (h2 : y = y') : BzZ H k n z x y KK = BzZ H' k n z x' y' KK := by rw [h0, h1, h2]
@[congr] theorem BC3 {k n : Nat} {et : TypeId} (h0 : H = H') (h1 : x = x') (h2 : ox = ox') : Buv k n et x ox H KK = Buv k n et x' ox' H' KK := by rw [h0, h1, h2]
@[congr] theorem BA4 {k : Nat} (h0 : H = H') (h1 : x = x') (h2 : ox = ox') : Bmd k x ox H KK = Bmd k x' ox' H' KK := by rw [h0, h1, h2]
@[congr] theorem BBC {et : TypeId} (h0 : H = H') (h1 : x = x') (h2 : y = y') : BsB et x y H KK = BsB et x' y' H' KK := by rw [h0, h1, h2]
@[congr] theorem BzQ (h0 : H = H') (h1 : x = x') (h2 : y = y') : BmW x y H KK = BmW x' y' H' KK := by rw [h0, h1, h2]
@[congr] theorem BBf {P : Program} {f : FuncId} {r r' : Option (Nat × Nat × List UInt8)} (h0 : H = H') (h1 : r = r') : BsX P f r H KK = BsX P f r' H' KK := by rw [h0, h1]
@[congr] theorem BBD {k n : Nat} {z : TV} (h0 : H = H') (h1 : x = x') (h2 : y = y') : Bsy k n z x y H KK = Bsy k n z x' y' H' KK := by rw [h0, h1, h2]
@[congr] theorem BCx {n : Bool} (h0 : H = H') (h1 : x = x') : Bt6 n x H KK = Bt6 n x' H' KK := by rw [h0, h1]
@[congr] theorem BBQ (h0 : H = H') : Blg H KK = Blg H' KK := by rw [h0]
@[congr] theorem BCO (h0 : H = H') (h1 : x = x') : BzY H x KK = BzY H' x' KK := by rw [h0, h1]
@[congr] theorem BzK (h0 : H = H') (h1 : x = x') (h2 : xs = xs') : Biu P x xs H KK = Biu P x' xs' H' KK := by rw [h0, h1, h2]
@[congr] theorem BCB {P : Program} {nm : String} (h0 : H = H') (h1 : x = x') (h2 : xs = xs') : ByV P nm x xs H KK = ByV P nm x' xs' H' KK := by rw [h0, h1, h2]
@[congr] theorem BCK {P : Program} {g g' : Option (FuncId × Option (Bool × Nat))} (h : g = g') (h0 : H = H') (h1 : x = x') (h2 : xs = xs') : BwV P g x xs H KK = BwV P g' x' xs' H' KK := by rw [h, h0, h1, h2]
@[congr] theorem BDB {b : Bool} (h1 : q = q') : Gd q b A B = Gd q' b A B := by rw [h1]
end

section
variable {K : TV → Prop} {KK : TV → List Ob → Prop} {x y i a b c : Opd} {lo hi : Option Opd}
theorem BCh : pop (.mov x) e H K = A3U (x.ev e) K := A29 rfl
theorem By1 : pop (.pick c a b) e H K = Bpl (c.ev e) (a.ev e) (b.ev e) K := A29 rfl
theorem BA5 {t : TypeId} {op : BinOp} : pop (.bin t op x y) e H K = Bz6 t op (x.ev e) (y.ev e) K := A29 rfl
theorem BDk {op : UnOp} : pop (.un op x) e H K = Pun op (x.ev e) K := A29 rfl
theorem Bxt {k : IntKind} : pop (.conv k x) e H K = BsZ k (x.ev e) K := A29 rfl
theorem BBR : pop (.s2s x) e H K = BzR (x.ev e) K := A29 rfl
theorem BCn : pop (.b2s x) e H K = BzW (A4k H 1 (x.ev e)) K := A29 rfl
theorem Byz {ag : Bool} {sz : Nat} : pop (.load ag sz x) e H K = Bmc H ag sz (x.ev e) K := A29 rfl
theorem Br0 {n o : Nat} : pop (.fieldA n o x) e H K = BfP n o (x.ev e) K := A29 rfl
theorem BuQ {ag : Bool} {sz n o : Nat} : pop (.field ag sz n o x) e H K = BkF ag sz n o (x.ev e) K := A29 rfl
theorem Bw1 {k : Nat} : pop (.idxA k x i) e H K = Bnj k (x.ev e) (i.ev e) K := A29 rfl
theorem BvW {n k : Nat} : pop (.idxAA n k x i) e H K = BiS n k (x.ev e) (i.ev e) K := A29 rfl
theorem BAB {ag : Bool} {n k : Nat} : pop (.idx ag n k x i) e H K = Bxe ag n k (x.ev e) (i.ev e) K := A29 rfl
theorem Byc : pop (.idxS x i) e H K = BoI (x.ev e) (i.ev e) K := A29 rfl
theorem BAV {n : Nat} : pop (.ext n x) e H K = By9 n (x.ev e) K := A29 rfl
theorem Bw4 : pop (.lenS x) e H K = BrI (x.ev e) K := A29 rfl
theorem Bxq : pop (.lenV x) e H K = Bnm (x.ev e) K := A29 rfl
theorem BB2 : pop (.slS x lo hi) e H K = BzX (x.ev e) (evO e lo) (evO e hi) K := by
 show (match x.ev e with | .val (.string s) => bnd e lo hi (bl s).length (bl s).length fun l h => K (.val (.string (str (((bl s).drop l).take (h - l))))) | _ => False) = _
 simp only [Bqu]; rfl
theorem BB6 {k : Nat} : pop (.slV k x lo hi) e H K = BwP k (x.ev e) (evO e lo) (evO e hi) K := by
 rw [BAi]; simp only [Bqu]; rfl
theorem BAg {n k : Nat} : pop (.slA n k x lo hi) e H K = BwW H n k (x.ev e) (evO e lo) (evO e hi) K := by
 rw [BAf]; simp only [Bqu]; rfl
theorem Bu6 {t : TypeId} : pop (.iface t x) e H K = Bms t (x.ev e) K := A29 rfl
theorem BBV {f : Fn} {xs ys : List Opd} : pop (.mkf f xs ys) e H K = BzB f (evs e xs) (evs e ys) K := by
 rw [BCm]; unfold BzB evs; rw [← List.map_append]
 refine congrArg (· ∧ _) (propext ⟨fun h y hy => ?_, fun h y hy => h _ (List.mem_map.2 ⟨y, hy, rfl⟩)⟩)
 obtain ⟨z, hz, rfl⟩ := List.mem_map.1 hy; exact h z hz
theorem BxM : pop (.nilc x) e H K = BkJ (x.ev e) K := A29 rfl
theorem BBN : pop (.min x y) e H K = Bz3 (x.ev e) (y.ev e) K := A29 rfl
theorem BBo : pop (.max x y) e H K = BzT (x.ev e) (y.ev e) K := A29 rfl
theorem BAE {g : GOp} {xs : List Opd} : pop (.gen g xs) e H K = BhF g H (evs e xs) K := A29 rfl
theorem BAt {n : Bool} : pop (.eqB x y n) e H K = Byv n (x.ev e) (y.ev e) K := A29 rfl
theorem BAr {kd : Nat} {n : Bool} : pop (.eqN kd x y n) e H K = BzF n (A5Q kd (x.ev e)) (A5Q kd (y.ev e)) K := A29 rfl
theorem Bvs {zs : List TV} {szs : List Nat} {ps : List (Nat × Opd)} : pop (.build zs szs ps) e H K = A5g (A5U e szs ps) (A3U (TV.agg (A6n e zs ps)) K) := A29 rfl
theorem Btq {n k : Nat} {zs : List TV} {ps : List (Nat × Opd)} : pop (.buildA n k zs ps) e H K = A5g (A5U e (List.replicate n k) ps) (A5g (A32 e ps) (A3U (TV.arr n k (A6n e zs ps)) K)) := A29 rfl
theorem BB0 {k n : Nat} {z : TV} {ps : List (Nat × Opd)} : pop (.bsl k n z ps) e H K = A5g (A5U e (List.replicate n k) ps) (A5g (A32 e ps ∧ n ≤ 1000) (A3U (TV.sl k (A6n e (List.replicate n z) ps)) K)) := by
 show ((_ ∧ _ ∧ _) ∧ _) = _
 simp only [A5g, A3U, and_assoc]
theorem Bux {z : TV} : sop P (.alloc z) e H KK = A3U (H.length) fun n => A3U (H ++ [.obj 0 z]) fun H' => KK (.op n 0 []) H' := A29 rfl
theorem Brk {z : TV} {t : TypeId} : sop P (.allocT z t) e H KK = A3U (H.length) fun n => A3U (A3r z) fun m => A3U (H ++ [.obj 0 z, .fact n 0 t m]) fun H' => KK (.op n 0 []) H' := A29 rfl
theorem ByT {t : TypeId} : sop P (.boxT x t) e H KK = A3U (x.ev e) fun v => A5g (lays v = true) (A3U (H.length) fun n => A3U (A3r v) fun m => A3U (H ++ [.obj 0 v, .fact n 0 t m]) fun H' => KK (.op n 0 []) H') := A29 rfl
theorem Bxy {f : FuncId} : sop P (.bstr f x) e H KK = BsX P f (Bm9 H (x.ev e)) H KK := A29 rfl
def Bru (x : TV) (H : List Ob) (K : TV → List Ob → Prop) [Tg K] : Prop := match x with
 | .val (.string s) => K (.op H.length 0 []) (H ++ [.sit (bl s) 0])
 | _ => False
@[congr] theorem BBM {x x' : TV} {H' : List Ob} (h1 : x = x') (h2 : H = H') : Bru x H KK = Bru x' H' KK := by rw [h1, h2]
theorem ByW : sop P (.rngS x) e H KK = Bru (x.ev e) H KK := A29 rfl
theorem Brg {s : ByteArray} : Bru (.val (.string s)) H KK = A3U H.length fun n => A3U (H ++ [.sit (bl s) 0]) fun H' => KK (.op n 0 []) H' := A29 rfl
def Bn9 : Option Ob → Option (List UInt8 × Nat)
 | some (.sit s pos) => some (s, pos)
 | _ => none
theorem Bto {s : List UInt8} {pos : Nat} : Bn9 (some (.sit s pos)) = some (s, pos) := A29 rfl
def BoL (x : TV) (H : List Ob) (K : TV → List Ob → Prop) [Tg K] : Prop := match x with
 | .op id 0 [] => (match H[id]? with
  | some (.sit s pos) => if pos < s.length then K (.tup [.val (.bool true), .val (.int .i64 (pos : Int)), .val (.int .i32 ((Utf8.decode (str s) pos).1 : Int))]) (H.set id (.sit s (pos + (Utf8.decode (str s) pos).2))) else K (.tup [.val (.bool false)]) H
  | _ => False)
 | _ => False
@[congr] theorem BAO {x x' : TV} {H' : List Ob} (h1 : x = x') (h2 : H = H') : BoL x H KK = BoL x' H' KK := by rw [h1, h2]
theorem Byj : sop P (.nxtS x) e H KK = BoL (x.ev e) H KK := A29 rfl
theorem Btj {id : Nat} : BoL (.op id 0 []) H KK = A3Y (Bn9 H[id]?) fun p => vif (decide (p.2 < p.1.length))
  (A3U (H.set id (.sit p.1 (p.2 + (Utf8.decode (str p.1) p.2).2))) fun H' => KK (.tup [.val (.bool true), .val (.int .i64 (p.2 : Int)), .val (.int .i32 ((Utf8.decode (str p.1) p.2).1 : Int))]) H') (KK (.tup [.val (.bool false)]) H) := by
 unfold BoL
 cases h : H[id]? with
 | none => simp [Bn9, A3Y, h]
 | some o =>
  cases o with
  | sit s pos => simp only [h, Bn9, A3Y, A3U]; by_cases hp : pos < s.length <;> simp [vif, hp]
  | _ => simp [Bn9, A3Y, h]
theorem BA8 : sop P (.box x) e H KK = A3U (x.ev e) fun v => A5g (lays v = true) (A3U (H.length) fun n => A3U (H ++ [.obj 0 v]) fun H' => KK (.op n 0 []) H') := A29 rfl
theorem Bs5 {k n : Nat} {z : TV} {ps : List (Nat × Opd)} : sop P (.bslice k n z ps) e H KK = A5g (A5U e (List.replicate n k) ps) (A5g (A32 e ps ∧ n ≤ 1000) (A3U H.length fun m => A3U (H ++ [.obj 0 (.arr n k (A6n e (List.replicate n z) ps))]) fun H' => KK (.os k m 0 [] 0 n n) H')) := by
 rw [BqH]; simp only [A5g, A3U, and_assoc]
/-- Maps. -/
def BgS (kk : MK) : Option Ob → Option (List (List UInt8 × TV))
 | some (.mpo kk' es) => if kk' = kk then some es else none
 | _ => none
def BhM (kk : MK) : Option Ob → Option (List (List UInt8 × TV))
 | some (.mpo kk' es) => if kk' = kk then some es else none
 | some (.mpd kk' zs _) => if kk' = kk then some (zs.map (·.2)) else none
 | _ => none
theorem Brf {kk : MK} {es : List (List UInt8 × TV)} : BhM kk (some (.mpo kk es)) = some es := by simp [BhM]
theorem Bup {kk : MK} {zs : List (Nat × List UInt8 × TV)} {cl : Nat} : BhM kk (some (.mpd kk zs cl)) = some (zs.map (·.2)) := by simp [BhM]
def Bmf : Option Ob → Option (List (List UInt8 × TV))
 | some (.mpo _ es) => some es
 | some (.mpd _ zs _) => some (zs.map (·.2))
 | _ => none
theorem Bs7 {kk : MK} {es : List (List UInt8 × TV)} : Bmf (some (.mpo kk es)) = some es := by simp [Bmf]
theorem BvY {kk : MK} {zs : List (Nat × List UInt8 × TV)} {cl : Nat} : Bmf (some (.mpd kk zs cl)) = some (zs.map (·.2)) := by simp [Bmf]
theorem BvS {kk : MK} {es : List (List UInt8 × TV)} : stO (some (.mpo kk es)) = some (kk, Bgl 0 es, es.length) := A29 rfl
theorem Bvn {kk : MK} {zs : List (Nat × List UInt8 × TV)} {cl : Nat} : stO (some (.mpd kk zs cl)) = some (kk, zs, cl) := A29 rfl
/-- A loop over a map begins; its next round. -/
def Bp0 (x : TV) (H : List Ob) (K : TV → List Ob → Prop) [Tg K] : Prop := match x with
 | .mp id 0 => (match stO H[id]? with
  | some (_, _, cl) => K (.op H.length 0 []) (H ++ [.mit id [] cl])
  | none => False)
 | _ => False
@[congr] theorem BBB {x x' : TV} {H' : List Ob} (h1 : x = x') (h2 : H = H') : Bp0 x H KK = Bp0 x' H' KK := by rw [h1, h2]
theorem Bym : sop P (.rngM x) e H KK = Bp0 (x.ev e) H KK := A29 rfl
theorem Br6 {id : Nat} : Bp0 (.mp id 0) H KK = A3Y (stO H[id]?) fun p => A3U H.length fun n => A3U (H ++ [.mit id [] p.2.2]) fun H' => KK (.op n 0 []) H' := by
 unfold Bp0
 cases h : stO H[id]? with
 | none => simp [A3Y, h]
 | some o => obtain ⟨a, b, c⟩ := o; simp [A3Y, A3U, h]
def BiX : Option Ob → Option (Nat × List Nat × Nat)
 | some (.mit m sn cl) => some (m, sn, cl)
 | _ => none
theorem BsQ {m cl : Nat} {sn : List Nat} : BiX (some (.mit m sn cl)) = some (m, sn, cl) := A29 rfl
def BoW (x : TV) (H : List Ob) (K : TV → List Ob → Prop) [Tg K] : Prop := match x with
 | .op id 0 [] => (match H[id]? with
  | some (.mit m sn cl) => (match stO H[m]? with
   | some (kk, zs, cl') => (cl' = cl ∧ ∀ z ∈ zs, z.1 < cl) ∧ (∀ z ∈ zs, z.1 ∉ sn → K (.tup [.val (.bool true), kTV kk z.2.1, z.2.2]) (H.set id (.mit m (sn ++ [z.1]) cl))) ∧ ((∀ z ∈ zs, z.1 ∈ sn) → K (.tup [.val (.bool false)]) H)
   | none => False)
  | _ => False)
 | _ => False
@[congr] theorem BCd {x x' : TV} {H' : List Ob} (h1 : x = x') (h2 : H = H') : BoW x H KK = BoW x' H' KK := by rw [h1, h2]
theorem BxW : sop P (.nxtM x) e H KK = BoW (x.ev e) H KK := A29 rfl
/-- The next entry, whichever: any one that was not yet seen; or none, if all were. -/
def BzV (id m : Nat) (sn : List Nat) (cl : Nat) (kk : MK) (zs : List (Nat × List UInt8 × TV)) (cl' : Nat) (H : List Ob) (K : TV → List Ob → Prop) [Tg K] : Prop :=
 (cl' = cl ∧ ∀ z ∈ zs, z.1 < cl) ∧ (∀ z ∈ zs, z.1 ∉ sn → K (.tup [.val (.bool true), kTV kk z.2.1, z.2.2]) (H.set id (.mit m (sn ++ [z.1]) cl))) ∧ ((∀ z ∈ zs, z.1 ∈ sn) → K (.tup [.val (.bool false)]) H)
@[congr] theorem BCW {id m : Nat} {sn sn' : List Nat} {cl c2 : Nat} {kk : MK} {zs zs' : List (Nat × List UInt8 × TV)} {cl' c2' : Nat} {H' : List Ob} (h1 : sn = sn') (h2 : cl = c2) (h3 : zs = zs') (h4 : cl' = c2') (h5 : H = H') : BzV id m sn cl kk zs cl' H KK = BzV id m sn' c2 kk zs' c2' H' KK := by rw [h1, h2, h3, h4, h5]
theorem Br1 {id : Nat} : BoW (.op id 0 []) H KK = A3Y (BiX H[id]?) fun p => A3Y (stO H[p.1]?) fun q => BzV id p.1 p.2.1 p.2.2 q.1 q.2.1 q.2.2 H KK := by
 unfold BoW
 cases h : H[id]? with
 | none => simp [BiX, A3Y, h]
 | some o =>
  cases o with
  | mit m sn cl =>
   simp only [h, BiX, A3Y]
   cases h2 : stO H[m]? with
   | none => simp
   | some q => obtain ⟨a, b, c⟩ := q; simp only [BzV]
  | _ => simp [BiX, A3Y, h]
/-- The entry last taken. -/
def Byb (p : Nat × List Nat × Nat) (q : MK × List (Nat × List UInt8 × TV) × Nat) : Option TV := match p.2.1.getLast? with
 | some s => if q.2.2 = p.2.2 then (match q.2.1.find? (·.1 == s) with
  | some z => some (.tup [kTV q.1 z.2.1, z.2.2])
  | none => none) else none
 | none => none
/-- A map whose entry goes. -/
def BwR (kk : MK) (o : Option Ob) : Option (List (Nat × List UInt8 × TV) × Nat) := match stO o with
 | some (kk', zs, cl) => if kk' = kk then some (zs, cl) else none
 | none => none
theorem BrT {kk : MK} {es : List (List UInt8 × TV)} : BwR kk (some (.mpo kk es)) = some (Bgl 0 es, es.length) := by simp [BwR, stO]
theorem Bsc {kk : MK} {zs : List (Nat × List UInt8 × TV)} {cl : Nat} : BwR kk (some (.mpd kk zs cl)) = some (zs, cl) := by simp [BwR, stO]
def Bou (kk : MK) (m k : TV) (H : List Ob) (K : TV → List Ob → Prop) [Tg K] : Prop := match m, A4b kk k with
 | .mp id 0, some kb => (match stO H[id]? with
  | some (kk', zs, cl) => kk' = kk ∧ K .any (H.set id (.mpd kk (zs.eraseIdx (BhY kb (zs.map (·.2)))) cl))
  | none => False)
 | _, _ => False
@[congr] theorem BBT {kk : MK} {H' : List Ob} {m m' k k' : TV} (h1 : m = m') (h2 : k = k') (h4 : H = H') : Bou kk m k H KK = Bou kk m' k' H' KK := by rw [h1, h2, h4]
theorem ByM {kk : MK} {m k : Opd} : sop P (.delM kk m k) e H KK = Bou kk (m.ev e) (k.ev e) H KK := A29 rfl
theorem BtW {kk : MK} {id : Nat} {kx : TV} : Bou kk (.mp id 0) kx H KK = A3Y (BwR kk H[id]?) fun p => A3Y (A4b kk kx) fun kb => A3U (p.1.eraseIdx (BhY kb (p.1.map (·.2)))) fun zs => A3U (H.set id (.mpd kk zs p.2)) fun H' => KK .any H' := by
 unfold Bou BwR
 cases h : stO H[id]? with
 | none => cases A4b kk kx <;> simp [h, A3Y]
 | some q =>
  obtain ⟨kk', zs, cl⟩ := q
  by_cases hk : kk' = kk
  ·subst hk; cases A4b kk' kx <;> simp [h, A3Y, A3U]
  ·cases A4b kk kx <;> simp [h, A3Y, hk]
/-- A row cleared. -/
def Bz7 (H : List Ob) (x : TV) (K : TV → List Ob → Prop) [Tg K] : Prop := match x with
 | .os k id ver [] off n cp => n ≠ 0 ∧ obV H[id]? = some ver ∧ K (.os k id ver [] off n cp) H
 | _ => False
@[congr] theorem BCQ {H' : List Ob} {x x' : TV} (h0 : H = H') (h1 : x = x') : Bz7 H x KK = Bz7 H' x' KK := by rw [h0, h1]
theorem BBZ {x : Opd} : sop P (.cvS x) e H KK = Bz7 H (x.ev e) KK := A29 rfl
theorem Bu1 {k id ver off n cp : Nat} : Bz7 H (.os k id ver [] off n cp) KK = A5g (n ≠ 0) (A5g (obV H[id]? = some ver) (KK (.os k id ver [] off n cp) H)) := A29 rfl
theorem ByD {v : Nat} {y : TV} : obV (some (.obj v y)) = some v := A29 rfl
def BpA (k : Nat) (z x : TV) (H : List Ob) (K : TV → List Ob → Prop) [Tg K] : Prop := match x with
 | .os k' id ver p off n cp => Bdu k (.os k' id ver p off n cp) (List.replicate n z) H fun _ H' => K .any H'
 | .val (.slice none 0 0) => K .any H
 | _ => False
@[congr] theorem BAX {k : Nat} {z x x' : TV} {H' : List Ob} (h1 : x = x') (h2 : H = H') : BpA k z x H KK = BpA k z x' H' KK := by rw [h1, h2]
theorem Bzk {k : Nat} {z : TV} : sop P (.clrS k z x) e H KK = BpA k z (x.ev e) H KK := A29 rfl
theorem Boq {k : Nat} {z : TV} : BpA k z (.val (.slice none 0 0)) H KK = KK .any H := A29 rfl
theorem Bq0 {k id ver off n cp : Nat} {p : List (Nat × Nat)} {z : TV} : BpA k z (.os k id ver p off n cp) H KK = A3U (List.replicate n z) fun ys => Bmd k (.os k id ver p off n cp) (some ys) H fun _ H' => KK .any H' := A29 rfl
theorem BrP {kk : MK} {es : List (List UInt8 × TV)} : BgS kk (some (.mpo kk es)) = some es := by simp [BgS]
theorem Bzr {l : List UInt8} : A4b .str (.val (.string (str l))) = some l := by simp [A4b, bl, str]
theorem By5 {n : Nat} {l : List UInt8} : A4b (.arr n) (.arr n 1 (l.map by8)) = some l := by
 unfold A4b; simp only [Bfa, Bbr, and_self, if_true]
theorem Bv6 {z : TV} {r : Option TV} : Bg2 z false r = r.getD z := by simp [Bg2]
theorem BvX {z : TV} {r : Option TV} : Bg2 z true r = .tup [r.getD z, .val (.bool r.isSome)] := by simp [Bg2]
def BwS (x : TV) (A : Prop) [Tg A] : Prop := match x with
 | .val (.int _ _) => A
 | _ => False
@[congr] theorem BC2 {x x' : TV} {A : Prop} (h : x = x') : BwS x A = BwS x' A := by rw [h]
theorem Bwn {q : IntKind} {n : Int} {A : Prop} : BwS (.val (.int q n)) A = A := by simp [BwS]
theorem BzC {kk : MK} : sop P (.mkm kk none) e H KK = A3U H.length fun n => A3U (H ++ [.mpo kk []]) fun H' => KK (.mp n 0) H' := by simp [sop, A3U]
theorem Bw3 {kk : MK} : sop P (.mkm kk (some x)) e H KK = BwS (x.ev e) (A3U H.length fun n => A3U (H ++ [.mpo kk []]) fun H' => KK (.mp n 0) H') := by
 simp only [sop, A3U, BwS]
 cases x.ev e with
 | val v => cases v <;> simp
 | _ => simp
def BpY (kk : MK) (m k v : TV) (H : List Ob) (K : TV → List Ob → Prop) [Tg K] : Prop := match m, A4b kk k with
 | .mp id 0, some kb => (match H[id]? with
  | some (.mpo kk' es) => (kk' = kk ∧ lays v = true) ∧ K .any (H.set id (.mpo kk (Biz kb v es)))
  | _ => False)
 | _, _ => False
@[congr] theorem BAj {kk : MK} {H' : List Ob} {m m' k k' v v' : TV} (h1 : m = m') (h2 : k = k') (h3 : v = v') (h4 : H = H') : BpY kk m k v H KK = BpY kk m' k' v' H' KK := by rw [h1, h2, h3, h4]
theorem BxT {kk : MK} {m k : Opd} : sop P (.mupd kk m k x) e H KK = BpY kk (m.ev e) (k.ev e) (x.ev e) H KK := A29 rfl
def Bp3 (kk : MK) (z m k : TV) (H : List Ob) (K : TV → List Ob → Prop) [Tg K] : Prop := match m, A4b kk k with
 | .mp id 0, some kb => (match H[id]? with
  | some (.mpo kk' es) => kk' = kk ∧ K (.tup [(BgM kb es).getD z, .val (.int .i64 (BhY kb es))]) (H.set id (.mpo kk (Biz kb ((BgM kb es).getD z) es)))
  | _ => False)
 | _, _ => False
@[congr] theorem BBg {kk : MK} {H' : List Ob} {z m m' k k' : TV} (h1 : m = m') (h2 : k = k') (h4 : H = H') : Bp3 kk z m k H KK = Bp3 kk z m' k' H' KK := by rw [h1, h2, h4]
theorem ByN {kk : MK} {z : TV} {m k : Opd} : sop P (.ment kk z m k) e H KK = Bp3 kk z (m.ev e) (k.ev e) H KK := A29 rfl
def BpI (m st v : TV) (H : List Ob) (K : TV → List Ob → Prop) [Tg K] : Prop := match m, st with
 | .mp id 0, .val (.int _ j) => (match H[id]? with
  | some (.mpo kk es) => (0 ≤ j ∧ lays v = true) ∧ (match es[j.toNat]? with
   | some (k, _) => K .any (H.set id (.mpo kk (es.set j.toNat (k, v))))
   | none => False)
  | _ => False)
 | _, _ => False
@[congr] theorem BAH {H' : List Ob} {m m' st st' v v' : TV} (h1 : m = m') (h2 : st = st') (h3 : v = v') (h4 : H = H') : BpI m st v H KK = BpI m' st' v' H' KK := by rw [h1, h2, h3, h4]
theorem ByZ {m st : Opd} : sop P (.mest m st x) e H KK = BpI (m.ev e) (st.ev e) (x.ev e) H KK := A29 rfl
theorem BvM {sz : Nat} : sop P (.store sz x y) e H KK = Bky H sz (x.ev e) (y.ev e) KK := A29 rfl
theorem BAm {k n : Nat} {z : TV} : sop P (.mks k n z x y) e H KK = BzZ H k n z (x.ev e) (y.ev e) KK := A29 rfl
theorem BBj {k n : Nat} {et : TypeId} : sop P (.app k n et x y) e H KK = Buv k n et (x.ev e) (A4k H k (y.ev e)) H KK := A29 rfl
theorem Bzi {et : TypeId} : sop P (.appS et x y) e H KK = BsB et (x.ev e) (y.ev e) H KK := A29 rfl
theorem BxX {k : Nat} : sop P (.copy k x y) e H KK = Bmd k (x.ev e) (A4k H k (y.ev e)) H KK := A29 rfl
theorem Bvx : sop P (.copyS x y) e H KK = BmW (x.ev e) (y.ev e) H KK := A29 rfl
theorem Byn {k n : Nat} {z : TV} : sop P (.appZ k n z x y) e H KK = Bsy k n z (x.ev e) (y.ev e) H KK := A29 rfl
theorem BBE {n : Bool} : sop P (.eqS x n) e H KK = Bt6 n (x.ev e) H KK := A29 rfl
theorem BAp : sop P (.s2b x) e H KK = BzY H (x.ev e) KK := A29 rfl
theorem ByG {f : FuncId} {args : List Opd} : sop P (.call f args) e H KK = A3U (evs e args) fun xs => A5g (Bdk xs) (VC P f xs H KK) := by
 rw [BxE, Bbx]; rfl
theorem BCl {nm : String} {args : List Opd} : sop P (.inv x nm args) e H KK = A3U (evs e args) fun xs => A5g (Bdk xs) (ByV P nm (x.ev e) xs H KK) := by
 show ((∀ y ∈ args, A4t (y.ev e) = false) ∧ _) = _
 rw [Bbx]; rfl
theorem Bv2 {args : List Opd} : sop P (.callv x args) e H KK = A3U (evs e args) fun xs => A5g (Bdk xs) (Biu P (x.ev e) xs H KK) := by
 rw [BvA, Bbx]; rfl
end

section
variable {K : TV → Prop} {KK : TV → List Ob → Prop} {x y : TV} {cs ys : List TV} {n n' k k' : Nat} {id ver off cp : Nat} {p : List (Nat × Nat)} {j : Int} {q : IntKind} {lo hi : Option TV}
theorem BrA {t : Bool} : Bpl (.val (.bool t)) x y K = vif t (K x) (K y) := by cases t <;> simp [Bpl, vif]
theorem BuB {t : TypeId} {op : BinOp} {u v : Value} : Bz6 t op (.val u) (.val v) K = A5g (Brn u v = true) (A3Y (A6b t op u v) fun r => A3U (TV.val r) K) := by
 show (_ ∧ _) = _; cases A6b t op u v <;> rfl
theorem ByI {op : UnOp} {u : Value} : Pun op (.val u) K = A3Y (unV op u) fun r => A3U (TV.val r) K := by
 unfold Pun; simp only; cases unV op u <;> rfl
theorem Brm {k : IntKind} : BsZ k (.val (.int q j)) K = A3U (TV.val (.int k (k.wrap j))) K := A29 rfl
theorem BwL {s : ByteArray} : BzR (.val (.string s)) K = K (.val (.string s)) := A29 rfl
theorem Bwj : BzW (some cs) K = A5g (∀ y ∈ cs, BlB y) (A3U (TV.val (.string (str (cs.map Bgv)))) K) := A29 rfl
theorem BqZ {ag : Bool} {sz : Nat} : Bmc H ag sz (.fp y) K = A5g (BiU ag sz y) (K y) := A29 rfl
theorem Btb {ag : Bool} {sz : Nat} : Bmc H ag sz (.op id ver p) K = A3Y (A7I H[id]? ver) fun x => A3Y (A9A p x) fun y => A5g (BiU ag sz y) (K y) := by
 unfold Bmc
 simp only
 cases h : H[id]? with
 | none => simp [A7I, A3Y]
 | some o =>
  cases o with
  | gone v => simp [A7I, A3Y]
  | ice v m y => simp [A7I, A3Y]
  | fact i v t m => simp [A7I, A3Y]
  | bld v t l => simp [A7I, A3Y]
  | lp st pe fn N en ps ca cb => simp [A7I, A3Y]
  | mpo kk es => simp [A7I, A3Y]
  | mpd kk zs cl => simp [A7I, A3Y]
  | mit m sn cl => simp [A7I, A3Y]
  | sit s pos => simp [A7I, A3Y]
  | obj v x =>
   by_cases hv : v = ver
   ·subst hv; simp only [A7I, A3Y, A5g, if_true, true_and]; cases A9A p x <;> rfl
   ·simp [A7I, A3Y, hv]
theorem BnH {i o : Nat} : BfP i o (.op id ver p) K = A3U (p ++ [(i, o)]) fun p => K (.op id ver p) := A29 rfl
theorem BnE {i o : Nat} : BfP i o (.fp (.agg cs)) K = A5g (A4h (cs.take i) = o) (A3Y cs[i]? fun y => K (.fp y)) := by
 unfold BfP; simp only; cases cs[i]? <;> rfl
theorem Bqg {ag : Bool} {sz i o : Nat} : BkF ag sz i o (.agg cs) K = A5g (A4h (cs.take i) = o) (A3Y cs[i]? fun y => A5g (BiU ag sz y) (K y)) := by
 unfold BkF; simp only; cases cs[i]? <;> rfl
theorem BtN : Bnj k (.sl k cs) (.val (.int q j)) K = A5g (0 ≤ j) (A3Y cs[j.toNat]? fun y => K (.fp y)) := by
 unfold Bnj; simp only [true_and]; cases cs[j.toNat]? <;> rfl
theorem Bsa : Bnj k (.os k id ver p off n cp) (.val (.int q j)) K = A5g (0 ≤ j ∧ j < n) (A3U (off + j.toNat) fun m => A3U (p ++ [(m, m * k)]) fun p => K (.op id ver p)) := by
 show (k = k ∧ _) = _; simp [A5g, A3U, and_assoc]
theorem BoP : BiS n k (.fp (.arr n k cs)) (.val (.int q j)) K = A5g (0 ≤ j) (A3Y cs[j.toNat]? fun y => K (.fp y)) := by
 unfold BiS; simp only [true_and]; cases cs[j.toNat]? <;> rfl
theorem BpO : BiS n k (.op id ver p) (.val (.int q j)) K = A5g (0 ≤ j ∧ j < n) (A3U j.toNat fun m => A3U (p ++ [(m, m * k)]) fun p => K (.op id ver p)) := by
 show (_ ∧ _) = _; simp [A5g, A3U, and_assoc]
theorem Bvk {ag : Bool} : Bxe ag n k (.arr n k cs) (.val (.int q j)) K = A5g (0 ≤ j) (A3Y cs[j.toNat]? fun y => A5g (BiU ag k y) (K y)) := by
 unfold Bxe; simp only [true_and]; cases cs[j.toNat]? <;> rfl
theorem Brc {s : ByteArray} : BoI (.val (.string s)) (.val (.int q j)) K = A5g (0 ≤ j) (A3Y (bl s)[j.toNat]? fun b => K (by8 b)) := by
 unfold BoI; simp only; cases (bl s)[j.toNat]? <;> rfl
theorem Bvo {i : Nat} : By9 i (.tup cs) K = A3Y cs[i]? K := by
 unfold By9; simp only; cases cs[i]? <;> rfl
theorem BtT {s : ByteArray} : BrI (.val (.string s)) K = A3U (TV.val (.int .i64 (bl s).length)) K := A29 rfl
theorem BtO : Bnm (.sl k cs) K = A3U (TV.val (.int .i64 cs.length)) K := A29 rfl
theorem Brx : Bnm (.os k id ver p off n cp) K = K (.val (.int .i64 n)) := A29 rfl
theorem Bog {ad : Option Addr} {c : Nat} : Bnm (.val (.slice ad n c)) K = K (.val (.int .i64 n)) := A29 rfl
section
variable {len lim : Nat} {KN : Nat → Nat → Prop} {l h : Int} {q2 : IntKind}
theorem Bu0 : Bi7 none none len lim KN = A5g (len ≤ lim) (KN 0 len) := by
 show ((0 ≤ (0:Int) ∧ (0:Int) ≤ (len : Int) ∧ (len : Int) ≤ lim) ∧ KN (Int.toNat 0) (Int.toNat len)) = _
 simp [A5g]
theorem Bvq : Bi7 (some (.val (.int q l))) none len lim KN = A5g (0 ≤ l ∧ l ≤ len ∧ (len : Int) ≤ lim) (A3U l.toNat fun l => KN l len) := by
 show ((0 ≤ l ∧ l ≤ (len : Int) ∧ (len : Int) ≤ lim) ∧ KN l.toNat (Int.toNat len)) = _
 simp [A5g, A3U]
theorem BuR : Bi7 none (some (.val (.int q h))) len lim KN = A5g (0 ≤ h ∧ h ≤ lim) (A3U h.toNat fun h => KN 0 h) := by
 show ((0 ≤ (0:Int) ∧ 0 ≤ h ∧ h ≤ lim) ∧ KN (Int.toNat 0) h.toNat) = _
 simp [A5g, A3U]
theorem Bwa : Bi7 (some (.val (.int q l))) (some (.val (.int q2 h))) len lim KN = A5g (0 ≤ l ∧ l ≤ h ∧ h ≤ lim) (A3U l.toNat fun l => A3U h.toNat fun h => KN l h) := A29 rfl
end
theorem BuG {s : ByteArray} : BzX (.val (.string s)) lo hi K = Bi7 lo hi (bl s).length (bl s).length fun l h => A3U (((bl s).drop l).take (h - l)) fun r => K (.val (.string (str r))) := A29 rfl
theorem BvE : BwP k (.sl k cs) lo hi K = Bi7 lo hi cs.length cs.length fun l h => A3U ((cs.drop l).take (h - l)) fun r => K (.sl k r) := by
 exact propext ⟨fun h => h.2, fun h => ⟨rfl, h⟩⟩
theorem Bwp : BwP k (.os k id ver p off n cp) lo hi K = Bi7 lo hi n cp fun l h => A3U (off + l) fun o => A3U (h - l) fun m => A3U (cp - l) fun c => K (.os k id ver p o m c) := by
 exact propext ⟨fun h => h.2, fun h => ⟨rfl, h⟩⟩
theorem Bt4 {ad : Option Addr} : BwP k (.val (.slice ad 0 0)) lo hi K = Bi7 lo hi 0 0 fun l h => K (.val (.slice ad 0 0)) := A29 rfl
theorem BvG : BwW H n k (.fp (.arr n k cs)) lo hi K = A5g (n ≤ 9223372036854775807) (Bi7 lo hi n n fun l h => A3U ((cs.drop l).take (h - l)) fun r => K (.sl k r)) := by
 exact propext ⟨fun h => ⟨h.2.2.1, h.2.2.2⟩, fun h => ⟨rfl, rfl, h.1, h.2⟩⟩
/-- An array at the end of a way. -/
def Bkd : Option TV → Nat → Nat → Option (List TV)
 | some (.arr n' k' cs), n, k => if n' = n ∧ k' = k then some cs else none
 | _, _, _ => none
theorem BsW : Bkd (some (.arr n k cs)) n k = some cs := by simp [Bkd]
theorem Bwl : BwW H n k (.op id ver p) lo hi K = A3Y (A7I H[id]? ver) fun x => A5g (n ≤ 9223372036854775807) (A3Y (Bkd (A9A p x) n k) fun _ => Bi7 lo hi n n fun l h => A3U (h - l) fun m => A3U (n - l) fun c => K (.os k id ver p l m c)) := by
 unfold BwW
 simp only
 cases h : H[id]? with
 | none => simp [A7I, A3Y]
 | some o =>
  cases o with
  | gone v => simp [A7I, A3Y]
  | ice v m y => simp [A7I, A3Y]
  | fact i v t m => simp [A7I, A3Y]
  | bld v t l => simp [A7I, A3Y]
  | lp st pe fn N en ps ca cb => simp [A7I, A3Y]
  | mpo kk es => simp [A7I, A3Y]
  | mpd kk zs cl => simp [A7I, A3Y]
  | mit m sn cl => simp [A7I, A3Y]
  | sit s pos => simp [A7I, A3Y]
  | obj v x =>
   by_cases hv : v = ver
   ·simp only [A7I, A3Y, hv, A5g, A3U, if_true, true_and]
    congr 1
    cases hg : A9A p x with
    | none => simp [Bkd]
    | some y =>
     cases y with
     | arr n2 k2 ds =>
      by_cases h1 : n2 = n
      ·by_cases h2 : k2 = k
       ·simp [Bkd, h1, h2]; exact Iff.rfl
       ·simp [Bkd, h1, h2]
      ·simp [Bkd, h1]
     | _ => simp [Bkd]
   ·simp [A7I, A3Y, hv]
theorem BoN {t : TypeId} : Bms t x K = A5g (lays x = true) (K (.ifc t x)) := A29 rfl
theorem BwI {f : Fn} : BzB f cs ys K = A5g (Bdk (cs ++ ys)) (K (.fn f cs ys)) := A29 rfl
theorem BsY : BkJ (.op id ver p) K = K (.op id ver p) := A29 rfl
theorem Brz : BkJ (.fp y) K = K (.fp y) := A29 rfl
theorem Btf {f : FuncId} {a b : List TV} : BkJ (.fn (.func f) a b) K = K (.fn (.func f) a b) := A29 rfl
theorem BpU {t : TypeId} : BkJ (.ifc t y) K = K (.ifc t y) := A29 rfl
theorem BnU {f : FuncId} {a b : Array Value} : BkJ (.val (.func (.func f) a b)) K = K (.val (.func (.func f) a b)) := A29 rfl
section
variable {a b : Int} {q2 : IntKind}
theorem Bwq : Bz3 (.val (.int q a)) (.val (.int q2 b)) K = vif (decide (b < a)) (K (.val (.int q b))) (K (.val (.int q a))) := by
 show K _ = _
 by_cases h : b < a <;> simp [vif, h]
theorem Bu3 : BzT (.val (.int q a)) (.val (.int q2 b)) K = vif (decide (a < b)) (K (.val (.int q b))) (K (.val (.int q a))) := by
 show K _ = _
 by_cases h : a < b <;> simp [vif, h]
theorem Br3 {q1 q2 q3 : IntKind} {l h m : Int} : BhF (.sl3 k) H [.sl k cs, .val (.int q1 l), .val (.int q2 h), .val (.int q3 m)] K = A5g (0 ≤ l ∧ l ≤ h ∧ h ≤ m ∧ m ≤ cs.length) (A3U ((cs.drop l.toNat).take (h.toNat - l.toNat)) fun r => K (.sl k r)) := by
 unfold BhF gev A5g A3U
 simp only [true_and]
 by_cases hc : 0 ≤ l ∧ l ≤ h ∧ h ≤ m ∧ m ≤ cs.length
 ·rw [if_pos hc]; simp [hc]
 ·rw [if_neg hc]; simp only [hc, false_and]
theorem BsE {sh : List EL} {b : Bool} {xs ys : List TV} : BhF (.eqR sh b) H [.agg xs, .agg ys] K = A3Y (BjN sh xs ys) fun r => A3U (TV.val (.bool (xor b r))) K := by
 have hg : gev (.eqR sh b) H [.agg xs, .agg ys] = (BjN sh xs ys).map fun r => .val (.bool (xor b r)) := by unfold gev; rfl
 unfold BhF A3Y A3U
 rw [hg]
 cases BjN sh xs ys <;> rfl
theorem Bsx : BjN [] [] [] = some true := A29 rfl
theorem ByR {l : List EL} {k : IntKind} {a b : Int} {xs ys : List TV} : BjN (.i :: l) (.val (.int k a) :: xs) (.val (.int k b) :: ys) = (BjN l xs ys).map fun r => (a == b) && r := by rw [BjN, if_pos rfl]
theorem Byp {l : List EL} {a b : ByteArray} {xs ys : List TV} : BjN (.s :: l) (.val (.string a) :: xs) (.val (.string b) :: ys) = (BjN l xs ys).map fun r => (a == b) && r := A29 rfl
theorem Bxv {l : List EL} {n : Nat} {a b : List UInt8} {xs ys : List TV} : BjN (.b n :: l) (.arr n 1 (a.map by8) :: xs) (.arr n 1 (b.map by8) :: ys) = (BjN l xs ys).map fun r => (a == b) && r := by
 rw [BjN]
 simp only [Bfa, Bbr, and_self, if_true]
theorem BqQ {n : Nat} {b : Bool} {xs ys : List UInt8} : BhF (.eqA n b) H [.arr n 1 (xs.map by8), .arr n 1 (ys.map by8)] K = A3U (TV.val (.bool (xor b (xs == ys)))) K := by
 unfold BhF gev A3U
 simp only [Bfa, Bbr, and_self, if_true]
theorem Bsj {q : IntKind} {n : Int} : BhF .r2s H [.val (.int q n)] K = A3U (TV.val (.string (Utf8.encode n))) K := A29 rfl
theorem BrH {t t' : TypeId} : BhF (.tas t) H [.ifc t' x] K = A5g (t' = t) (K x) := by
 unfold BhF gev A5g
 by_cases h : t' = t <;> simp [h]
theorem Bpe {a : Option Addr} {l n : Nat} : BhF .capV H [.val (.slice a l n)] K = A3U (TV.val (.int .i64 (n : Int))) K := A29 rfl
theorem Btp {n : Nat} : BhF (.s2a n k) H [.sl k cs] K = A5g (0 < n ∧ n ≤ cs.length) (A3U (cs.take n) fun r => K (.fp (.arr n k r))) := by
 unfold BhF gev A5g A3U
 simp only [true_and]
 by_cases hc : 0 < n ∧ n ≤ cs.length
 ·rw [if_pos hc]; simp [hc]
 ·rw [if_neg hc]; simp only [hc, false_and]
theorem Bw8 {s t : Bool} : Byv false (.val (.bool s)) (.val (.bool t)) K = A3U (TV.val (.bool (s == t))) K := by
 show K _ = _; simp [A3U]
theorem Bzq {s t : Bool} : Byv true (.val (.bool s)) (.val (.bool t)) K = A3U (TV.val (.bool (!(s == t)))) K := by
 show K _ = _; simp [A3U]
theorem Bx0 {m b : Bool} : BzF m (some true) (some b) K = A3U (TV.val (.bool (xor m b))) K := A29 rfl
theorem Bw6 {m : Bool} : BzF m (some false) (some true) K = A3U (TV.val (.bool (xor m false))) K := A29 rfl
end
theorem Bsh {kk : MK} {m : Nat} {kx v : TV} : BpY kk (.mp m 0) kx v H KK = A3Y (BgS kk H[m]?) fun es => A3Y (A4b kk kx) fun kb => A5g (lays v = true) (A3U (Biz kb v es) fun es' => A3U (H.set m (.mpo kk es')) fun H' => KK .any H') := by
 unfold BpY
 cases hh : H[m]? with
 | none => cases A4b kk kx <;> simp [hh, BgS, A3Y]
 | some o =>
  cases o with
  | mpo kk' es =>
   by_cases hk : kk' = kk
   ·subst hk; cases A4b kk' kx <;> simp [hh, BgS, A3Y, A5g, A3U]
   ·cases A4b kk kx <;> simp [hh, BgS, A3Y, hk]
  | _ => cases A4b kk kx <;> simp [hh, BgS, A3Y]
theorem Brl {kk : MK} {m : Nat} {kx z : TV} : Bp3 kk z (.mp m 0) kx H KK = A3Y (BgS kk H[m]?) fun es => A3Y (A4b kk kx) fun kb => A3U ((BgM kb es).getD z) fun y => A3U (BhY kb es) fun p => A3U (Biz kb y es) fun es' => A3U (H.set m (.mpo kk es')) fun H' => KK (.tup [y, .val (.int .i64 (p : Int))]) H' := by
 unfold Bp3
 cases hh : H[m]? with
 | none => cases A4b kk kx <;> simp [hh, BgS, A3Y]
 | some o =>
  cases o with
  | mpo kk' es =>
   by_cases hk : kk' = kk
   ·subst hk; cases A4b kk' kx <;> simp [hh, BgS, A3Y, A3U]
   ·cases A4b kk kx <;> simp [hh, BgS, A3Y, hk]
  | _ => cases A4b kk kx <;> simp [hh, BgS, A3Y]
def BiC : Option Ob → Option (MK × List (List UInt8 × TV))
 | some (.mpo kk es) => some (kk, es)
 | _ => none
theorem Bpd {kk : MK} {es : List (List UInt8 × TV)} : BiC (some (.mpo kk es)) = some (kk, es) := by simp [BiC]
theorem Br9 {m j : Nat} {q : IntKind} {v : TV} : BpI (.mp m 0) (.val (.int q (j : Int))) v H KK = A3Y (BiC H[m]?) fun p => A5g (lays v = true) (A3Y p.2[j]? fun y => A3U (p.2.set j (y.1, v)) fun es' => A3U (H.set m (.mpo p.1 es')) fun H' => KK .any H') := by
 unfold BpI
 cases hh : H[m]? with
 | none => simp [hh, BiC, A3Y]
 | some o =>
  cases o with
  | mpo kk' es =>
   simp only [hh, BiC, A3Y, A5g, A3U, Int.natCast_nonneg, true_and, Int.toNat_natCast]
   cases es[j]? <;> simp
  | _ => simp [hh, BiC, A3Y]
theorem BqD {kk : MK} {z kx : TV} {ok : Bool} {m : Nat} : BhF (.look kk z ok) H [.mp m 0, kx] K = A3Y (BhM kk H[m]?) fun es => A3Y (A4b kk kx) fun kb => A3U (Bg2 z ok (BgM kb es)) K := by
 unfold BhF gev BjR
 cases hh : H[m]? with
 | none => cases hb : A4b kk kx <;> simp [hh, hb, BhM, A3Y]
 | some o =>
  cases o with
  | mpo kk' es =>
   by_cases hk : kk' = kk
   ·subst hk; cases hb : A4b kk' kx <;> simp [hh, hb, BhM, A3Y, A3U]
   ·cases hb : A4b kk kx <;> simp [hh, hb, BhM, A3Y, hk]
  | mpd kk' zs cl =>
   by_cases hk : kk' = kk
   ·subst hk; cases hb : A4b kk' kx <;> simp [hh, hb, BhM, A3Y, A3U]
   ·cases hb : A4b kk kx <;> simp [hh, hb, BhM, A3Y, hk]
  | _ => cases hb : A4b kk kx <;> simp [hh, hb, BhM, A3Y]
theorem BnQ {kk : MK} {z kx : TV} {ok : Bool} : BhF (.look kk z ok) H [.val (.map none), kx] K = A3Y (A4b kk kx) fun kb => A3U (Bg2 z ok none) K := by
 unfold BhF gev BjR
 cases hb : A4b kk kx <;> simp [hb, A3Y, A3U]
theorem Bp4 {m : Nat} : BhF .lenM H [.mp m 0] K = A3Y (Bmf H[m]?) fun p => A3U p.length fun n => A3U (TV.val (.int .i64 (n : Int))) K := by
 unfold BhF gev BqS
 cases hh : H[m]? with
 | none => simp [hh, Bmf, A3Y]
 | some o => cases o <;> simp [hh, Bmf, A3Y, A3U]
theorem Bp6 {id : Nat} : BhF .entM H [.op id 0 []] K = A3Y (BiX H[id]?) fun p => A3Y (stO H[p.1]?) fun q => A3Y (Byb p q) K := by
 unfold BhF gev BzS
 cases hh : H[id]? with
 | none => simp [hh, BiX, A3Y]
 | some o =>
  cases o with
  | mit m sn cl =>
   simp only [hh, BiX, A3Y, Byb]
   cases h2 : stO H[m]? with
   | none => simp
   | some q =>
    obtain ⟨kk, zs, cl'⟩ := q
    cases h3 : sn.getLast? with
    | none => simp
    | some s =>
     by_cases hc : cl' = cl
     ·subst hc; cases hf : zs.find? (·.1 == s) <;> simp [hf]
     ·simp [hc]
  | _ => simp [hh, BiX, A3Y]
theorem Bn7 {sz : Nat} : Bky H sz (.op id ver p) y KK = A5g (lays y = true ∧ A3r y = sz) (A3Y (A7I H[id]? ver) fun z => A3Y (Bex p z y) fun z' => A3U (H.set id (.obj ver z')) fun H' => KK .any H') := by
 unfold Bky
 simp only [A5g]
 congr 1
 cases h : H[id]? with
 | none => simp [A7I, A3Y]
 | some o =>
  cases o with
  | gone v => simp [A7I, A3Y]
  | ice v m y => simp [A7I, A3Y]
  | fact i v t m => simp [A7I, A3Y]
  | bld v t l => simp [A7I, A3Y]
  | lp st pe fn N en ps ca cb => simp [A7I, A3Y]
  | mpo kk es => simp [A7I, A3Y]
  | mpd kk zs cl => simp [A7I, A3Y]
  | mit m sn cl => simp [A7I, A3Y]
  | sit s pos => simp [A7I, A3Y]
  | obj v x =>
   by_cases hv : v = ver
   ·subst hv; simp only [A7I, A3Y, A3U, if_true, true_and]; cases Bex p x y <;> rfl
   ·simp [A7I, A3Y, hv]
theorem BvT {z : TV} {l c : Int} {q2 : IntKind} {bytes : Nat} : BzZ H k bytes z (.val (.int q l)) (.val (.int q2 c)) KK = A5g (0 ≤ l ∧ l ≤ c ∧ (bytes : Int) * c ≤ 281474976710656 ∧ c ≤ 9223372036854775807) (A3U l.toNat fun l => A3U c.toNat fun c => A3U H.length fun m => A3U (H ++ [.obj 0 (.arr c k (List.replicate c z))]) fun H' => KK (.os k m 0 [] 0 l c) H') := A29 rfl
/-- A row that may grow: a nil slice, or an object of one's own. -/
theorem BtB {bytes : Nat} {et : TypeId} : Buv k bytes et (.val (.slice none 0 0)) (some ys) H KK = A5g (ys.length * bytes ≤ 140737488355328 ∧ ys.length ≤ 9223372036854775807) (A3U ys.length fun n => A3U H.length fun m => A3U (H ++ [.obj 1 (.arr n k ys)]) fun H' => KK (.os k m 1 [] 0 n n) H') := A29 rfl
/-- The array in an object. -/
def BlL : Option TV → Nat → Option (List TV)
 | some (.arr _ k' cs), k => if k' = k then some cs else none
 | _, _ => none
theorem BtC : BlL (some (.arr n k cs)) k = some cs := by simp [BlL]
theorem BrN {v n2 : Nat} {et : TypeId} : BsR (some (.obj v (.arr n2 k cs))) v k et off n ys = some (.obj (v + 1) (.arr (n + ys.length) k ((cs.drop off).take n ++ ys))) := by simp [BsR]
theorem BmI {v : Nat} {et : TypeId} {l m : List UInt8} : BsR (some (.bld v et l)) v 1 et 0 n (m.map by8) = some (.bld (v + 1) et (l.take n ++ m)) := by
 simp only [BsR, Bfa, Bbr, and_self, if_true]
theorem BqA {v : Nat} {et : TypeId} {l : List UInt8} {b : UInt8} : BsR (some (.bld v et l)) v 1 et 0 n [by8 b] = some (.bld (v + 1) et (l.take n ++ [b])) := BmI (m := [b])
theorem BsF {v n2 : Nat} : BwT (some (.obj v (.arr n2 k cs))) = cs.length := by simp [BwT]
theorem BqN {v : Nat} {et : TypeId} {l : List UInt8} : BwT (some (.bld v et l)) = l.length := by simp [BwT]
theorem BvP {bytes : Nat} {et : TypeId} : Buv k bytes et (.os k id ver [] off n cp) (some ys) H KK = A3Y (BsR H[id]? ver k et off n ys) fun o => A5g (off + n ≤ BwT H[id]? ∧ (n + ys.length) * bytes ≤ 140737488355328 ∧ n + ys.length ≤ 9223372036854775807)
   (A3U (n + ys.length) fun m => A3U (H.set id o) fun H' => KK (.os k id (ver + 1) [] 0 m m) H') := by
 unfold Buv BkA
 simp only [true_and]
 cases h : BsR H[id]? ver k et off n ys with
 | none => simp [A3Y]
 | some o => simp [A3Y, A5g, A3U]
theorem Btr {s : ByteArray} {et : TypeId} : BsB et x (.val (.string s)) H KK = A3U ((bl s).map by8) fun ys => Buv 1 1 et x (some ys) H KK := A29 rfl
/-- How many elements an array has. -/
def BAy : Option TV → Option Nat
 | some (.arr n _ _) => some n
 | _ => none
theorem BvC : BAy (some (.arr n k cs)) = some n := A29 rfl
theorem Brb : Bmd k (.os k id ver p off n cp) (some ys) H KK = A3Y (A7I H[id]? ver) fun z => A3Y (BlL (A9A p z) k) fun cs => A3Y (BAy (A9A p z)) fun N => A5g (off + n ≤ cs.length) (A3Y (Bex p z (.arr N k (cs.take off ++ (ys.take n ++ cs.drop (off + min ys.length n))))) fun z' =>
  A3U (H.set id (.obj ver z')) fun H' => A3U (TV.val (.int .i64 (min ys.length n : Nat))) fun r => KK r H') := by
 unfold Bmd Bdu
 simp only [true_and]
 cases h : H[id]? with
 | none => simp [A7I, A3Y]
 | some o =>
  cases o with
  | gone v => simp [A7I, A3Y]
  | ice v m y => simp [A7I, A3Y]
  | fact i v t m => simp [A7I, A3Y]
  | bld v t l => simp [A7I, A3Y]
  | lp st pe fn N en ps ca cb => simp [A7I, A3Y]
  | mpo kk es => simp [A7I, A3Y]
  | mpd kk zs cl => simp [A7I, A3Y]
  | mit m sn cl => simp [A7I, A3Y]
  | sit s pos => simp [A7I, A3Y]
  | obj v x =>
   by_cases hv : v = ver
   ·simp only [A7I, A3Y, hv, if_true, true_and]
    cases hg : A9A p x with
    | none => simp [BlL]
    | some y =>
     cases y with
     | arr n2 k2 ds =>
      by_cases h1 : k2 = k
      ·subst h1; simp only [BlL, BAy, A5g, A3U, if_true, true_and]; refine congrArg (_ ∧ ·) ?_; cases Bex p x (.arr n2 k2 (ds.take off ++ (ys.take n ++ ds.drop (off + min ys.length n)))) <;> rfl
      ·simp [BlL, h1]
     | _ => simp [BlL]
   ·simp [A7I, A3Y, hv]
theorem BpP {s : ByteArray} : BmW x (.val (.string s)) H KK = A3U ((bl s).map by8) fun ys => Bmd 1 x (some ys) H KK := A29 rfl
theorem BsL {f : FuncId} {j v : Nat} {l : List UInt8} : BsX P f (some (j, v, l)) H KK = A5g (BAL P f) (A5g (l.length ≤ 9223372036854775807) (A3U (H.set j (.gone v)) fun H' => KK (.val (.string (str l))) H')) := A29 rfl
def ByY (o : Option Ob) (j v n : Nat) (a : TV) : Option (Nat × Nat × List UInt8) := match o with
 | some (.bld v3 t l) => if v3 = v ∧ t = Bk7 ∧ n = l.length ∧ A3r a = 1 then some (j, v, l) else none
 | _ => none
def BqK (H : List Ob) (j v n : Nat) (a : TV) : Option (Nat × Nat × List UInt8) := ByY H[j]? j v n a
def Bny (H : List Ob) (q : Option TV) : Option (Nat × Nat × List UInt8) := match q with
 | some (.agg [a, .os 1 j v2 [] 0 n cp]) => BqK H j v2 n a
 | _ => none
theorem BrY {id ver : Nat} {p : List (Nat × Nat)} : Bm9 H (.op id ver p) = Bny H ((A7I H[id]? ver).bind (A9A p)) := by
 unfold Bm9
 simp only []
 cases h : H[id]? with
 | none => simp [A7I, Bny]
 | some o =>
  cases o with
  | obj v y =>
   by_cases hv : v = ver
   ·simp only [A7I, hv, if_true, Option.bind_some]
    unfold Bny BqK ByY
    rfl
   ·simp [A7I, Bny, hv]
  | _ => simp [A7I, Bny]
theorem Bq7 {a : TV} {j v n cp : Nat} : Bny H (some (.agg [a, .os 1 j v [] 0 n cp])) = BqK H j v n a := A29 rfl
theorem Bta {a : TV} {j v n : Nat} : BqK H j v n a = ByY H[j]? j v n a := A29 rfl
theorem BuF {a : TV} {j v n : Nat} {l : List UInt8} (hn : n = l.length) (ha : A3r a = 1) : ByY (some (.bld v 5 l)) j v n a = some (j, v, l) := by
 simp [ByY, hn, ha, Bk7]
theorem Buu {s : ByteArray} : BzY H (.val (.string s)) KK = A5g ((bl s).length ≤ 9223372036854775807) (A3U (bl s).length fun n => A3U ((bl s).map by8) fun r => A3U H.length fun m => A3U (H ++ [.obj 0 (.arr n 1 r)]) fun H' => KK (.os 1 m 0 [] 0 n n) H') := A29 rfl
theorem Btc {z : TV} {j : Int} {bytes : Nat} : Bsy k bytes z (.val (.slice none 0 0)) (.val (.int .i64 j)) H KK = A5g (0 ≤ j ∧ (bytes : Int) * j ≤ 140737488355328 ∧ j ≤ 9223372036854775807) (A3U j.toNat fun n => A3U H.length fun m => A3U (H ++ [.obj 0 (.arr n k (List.replicate n z))]) fun H' => KK (.os k m 0 [] 0 n n) H') := A29 rfl
theorem Bri {n : Bool} {a : Option Addr} {l c : Nat} : Bt6 n (.val (.slice a l c)) H KK = KK (.val (.bool (xor n a.isNone))) H := A29 rfl
theorem Bwx {n : Bool} : Bt6 n (.sl k cs) H KK = vif (decide (cs.length = 0)) (Blg H KK) (KK (.val (.bool n)) H) := by
 unfold Bt6 vif Blg
 by_cases h : cs = []
 ·subst h; simp
 ·have h2 : ¬ cs.length = 0 := fun e => h (List.length_eq_zero_iff.1 e)
  simp [h, h2]
theorem Bwt {n : Bool} {m off l cp : Nat} {p : List (Nat × Nat)} : Bt6 n (.os k m ver p off l cp) H KK = vif (decide (l = 0)) (Blg H KK) (KK (.val (.bool n)) H) := by
 unfold Bt6 vif Blg
 by_cases h : l = 0
 ·subst h; simp
 ·simp [h]
theorem Blf (h1 : KK (.val (.bool true)) H) (h2 : KK (.val (.bool false)) H) : Blg H KK := ⟨h1, h2⟩
theorem Bo5 {f : FuncId} {a b : List TV} : Biu P (.fn (.func f) a b) cs H KK = A5g (BgR P f = true) (A3U (a ++ cs ++ b) fun xs => VC P f xs H KK) := A29 rfl
theorem BnA {f : FuncId} : Biu P (.val (.func (.func f) #[] #[])) cs H KK = A5g (BgR P f = true) (VC P f cs H KK) := by
 exact propext ⟨fun h => ⟨h.2.1, h.2.2⟩, fun h => ⟨rfl, h.1, h.2⟩⟩
theorem BoO : Biu P (.yl id ver) cs H KK = VY P id ver cs H KK := A29 rfl
theorem BvL {nm : String} {t : TypeId} : ByV P nm (.ifc t x) cs H KK = BwV P (BrK P t nm) x cs H KK := by
 unfold ByV Bz1 BwV
 show (match BrK P t nm with | some (f, none) => _ | some (f, some (ag, sz)) => _ | none => False) = _
 rcases BrK P t nm with _ | ⟨f, _ | ⟨ag, sz⟩⟩ <;> rfl
theorem Bzd {f : FuncId} : BwV P (some (f, none)) x cs H KK = A5g (BgR P f = true) (A3U (x :: cs) fun xs => VC P f xs H KK) := A29 rfl
theorem Byl {f : FuncId} {ag : Bool} {sz : Nat} : BwV P (some (f, some (ag, sz))) x cs H KK = A5g (BgR P f = true) (Bmc H ag sz x fun y => A3U (y :: cs) fun xs => VC P f xs H KK) := A29 rfl
theorem BCp {t : Bool} {A B : Prop} : Gd (some t) true A B = vif t A B := A29 rfl
theorem BAl {t : Bool} {A B : Prop} : Gd (some t) false A B = vif t B A := by cases t <;> simp [Gd, vif]
theorem BDA {b : Bool} {A B : Prop} : Gd none b A B = B := A29 rfl
end

section
variable {Q : VEx → Env → List Ob → Prop} {l : List VO} {kp : List Nat} {a b : A3d}
def Brs (x : TV) (A B : Prop) [Tg A] [Tg B] : Prop := match x with
  | .val (.bool t) => if t = true then A else B
  | _ => False
@[congr] theorem BCo {x x' : TV} {A B : Prop} (h : x = x') : Brs x A B = Brs x' A B := by rw [h]
theorem BrU {t : Bool} {A B : Prop} : Brs (.val (.bool t)) A B = vif t A B := A29 rfl
theorem BBW : vwp P (.ops l kp) Q e H = BgX P l (fun e H => A3U (forget kp e) fun e => Q .nor e H) e H := A29 rfl
def BlK (zs : List Nat) (e : Env) (H : List Ob) (K : Env → List Ob → Prop) [Tg K] : Prop := BvB zs K e H
@[congr] theorem BCg {zs : List Nat} {e e' : Env} {H H' : List Ob} {K : Env → List Ob → Prop} (h1 : e = e') (h2 : H = H') : BlK zs e H K = BlK zs e' H' K := by rw [h1, h2]
theorem BtI {K : Env → List Ob → Prop} : BlK [] e H K = K e H := A29 rfl
theorem Bqt {s k id ver off n cp m : Nat} {zs : List Nat} {xs : List TV} {K : Env → List Ob → Prop} (hg : get e s = .os k id ver [] off n cp) (ho : H[id]? = some (.obj ver (.arr m k xs))) (hn : off + n ≤ xs.length) (h : BlK zs ((s, .sl k ((xs.drop off).take n)) :: e) (H.set id (.gone ver)) K) : BlK (s :: zs) e H K := by
 unfold BlK at h ⊢
 rw [BvB, hg]
 simp only [ho]
 refine ⟨trivial, ?_⟩
 have : A5S [] k off n (.arr m k xs) = some ((xs.drop off).take n) := by unfold A5S; simp [A9A, hn]
 rw [this]; exact h
theorem By3 {l r : List VO} {zs kp : List Nat} : vwp P (.opsZ l zs r kp) Q e H = BgX P l (fun e H => BlK zs e H fun e H => BgX P r (fun e H => A3U (forget kp e) fun e => Q .nor e H) e H) e H := A29 rfl
theorem By0 {n : Nat} : vwp P (.draw n l kp) Q e H = (vq P (l.take n) (fun e => BgX P (l.drop n) (fun e H => A3U (forget kp e) fun e => Q .nor e H) e H) e H) := A29 rfl
/-- What follows. -/
def Thn (P : Program) (b : A3d) (Q : VEx → Env → List Ob → Prop) : VEx → Env → List Ob → Prop := fun x e H => match x with | .nor => vwp P b Q e H | .exit i => Q (.exit i) e H | .ret => Q .ret e H | .pan u => Q (.pan u) e H
theorem Bwy : Thn P b Q .nor e H = vwp P b Q e H := A29 rfl
theorem Bt3 {i : Nat} : Thn P b Q (.exit i) e H = Q (.exit i) e H := A29 rfl
theorem Bu7 : Thn P b Q .ret e H = Q .ret e H := A29 rfl
theorem BA0 : vwp P (.seq a b) Q e H = vwp P a (Thn P b Q) e H := A29 rfl
/-- The end of a block. -/
def Blk (id : Nat) (Q : VEx → Env → List Ob → Prop) : VEx → Env → List Ob → Prop := fun x e H => match x with | .nor => Q .nor e H | .exit i => if i = id then Q .nor e H else Q (.exit i) e H | .ret => Q .ret e H | .pan u => Q (.pan u) e H
theorem BuN {id : Nat} : Blk id Q .nor e H = Q .nor e H := A29 rfl
theorem BqP {id : Nat} : Blk id Q (.exit id) e H = Q .nor e H := by simp [Blk]
theorem Bma {id i : Nat} (h : i ≠ id) : Blk id Q (.exit i) e H = Q (.exit i) e H := by simp [Blk, h]
theorem Buz {id : Nat} : Blk id Q .ret e H = Q .ret e H := A29 rfl
theorem BvK {id : Nat} : vwp P (.block id a) Q e H = vwp P a (Blk id Q) e H := A29 rfl
theorem BxL {c : Opd} : vwp P (.cond c a b) Q e H = Brs (c.ev e) (vwp P a Q e H) (vwp P b Q e H) := A29 rfl
/-- The end of a round, from a beginning with n0 objects on. -/
def Rnd (n0 : Nat) (lv : List Nat) (Q : VEx → Env → List Ob → Prop) (I : Nat → Env → List Ob → Prop) (n : Nat) : VEx → Env → List Ob → Prop := fun x e H => match x with
 | .nor => ∃ m g, m < n ∧ (n0 ≤ g ∧ (H.length ≤ g ∨ (Bgo g (forget lv e) = true ∧ Bgs g (H.take g) = true))) ∧ I m (forget lv e) (H.take g)
 | .exit i => Q (.exit i) e H | .ret => Q .ret e H | .pan u => Q (.pan u) e H
section
variable {n0 : Nat} {lv : List Nat} {I : Nat → Env → List Ob → Prop} {n : Nat}
theorem Bs2 {i : Nat} : Rnd n0 lv Q I n (.exit i) e H = Q (.exit i) e H := A29 rfl
theorem BwO : Rnd n0 lv Q I n .ret e H = Q .ret e H := A29 rfl
/-- A round's end, all objects kept. -/
theorem A6g (m : Nat) (hm : m < n) (h : n0 ≤ H.length) (hR : I m (forget lv e) H) : Rnd n0 lv Q I n .nor e H := by
 refine ⟨m, H.length, hm, ⟨h, .inl (Nat.le_refl _)⟩, ?_⟩
 rw [List.take_length]; exact hR
/-- A round's end; the objects from the g-th on are forgotten. -/
theorem Bvp (m g : Nat) (hm : m < n) (h : n0 ≤ g) (he : Bgo g (forget lv e) = true) (hH : Bgs g (H.take g) = true) (hR : I m (forget lv e) (H.take g)) : Rnd n0 lv Q I n .nor e H :=
 ⟨m, g, hm, ⟨h, .inr ⟨he, hH⟩⟩, hR⟩
end
/-- A LOOP: what holds ahead of each round. -/
theorem Bgt {lv : List Nat} {H0 : List Ob} (I : Nat → Env → List Ob → Prop) (n : Nat) (h0 : I n (forget lv e) H0)
  (hs : ∀ n e H, I n e H → vwp P a (Rnd H0.length lv Q I n) e H) : vwp P (.loop lv a) Q e H0 := by
 rw [Bw2]
 exact ⟨I, n, h0, hs⟩
theorem o_g {d s : Nat} {o : VOp} {b : Bool} {r : List VO} {K : Env → List Ob → Prop} : BgX P (⟨some d, o, some (s, b)⟩ :: r) K e H = Bil e s fun e q => Gd q b (vop P o e H (fun x H => BgX P r K ((d, x) :: e) H)) (BgX P r K ((d, .val undef) :: e) H) := by
 rw [Bw0]; refine congrArg (Bil e s) ?_; funext e q; cases q <;> rfl
def BpK (x : TV) (e : Env) (s : Nat) (Q : Env → Option Bool → Prop) [Tg Q] : Prop := match x with
 | .val v => Q e (isB v)
 | .any => (∀ t, Q ((s, .val (.bool t)) :: e) (some t)) ∧ ∀ v, isB v = none → Q ((s, .val v) :: e) none
 | _ => False
@[congr] theorem BBJ {x x' : TV} {s : Nat} {Q : Env → Option Bool → Prop} (h : x = x') : BpK x e s Q = BpK x' e s Q := by rw [h]
theorem BxN {s : Nat} {Q : Env → Option Bool → Prop} : Bil e s Q = BpK (get e s) e s Q := A29 rfl
theorem Buq {b : Bool} {s : Nat} {Q : Env → Option Bool → Prop} : BpK (.val (.bool b)) e s Q = Q e (some b) := A29 rfl
theorem BvJ {s : Nat} {Q : Env → Option Bool → Prop} : BpK (.val undef) e s Q = Q e none := A29 rfl
theorem u_c {d : Nat} {f : FuncId} {args : List Opd} {r : List VO} {K : Env → Prop} : vq P (⟨some d, .s (.call f args), none⟩ :: r) K e H = A3U (evs e args) fun xs => A5g (Bdk xs) (vex fun x => VC P f xs H (fun y H' => y = x ∧ H' = H) ∧ vq P r K ((d, x) :: e) H) := by
 rw [BDa, Bbx]; rfl
def Gq (x : TV) (b : Bool) (A B : Prop) [Tg A] [Tg B] : Prop := match x with
 | .val v => if isB v = some b then A else B
 | _ => False
@[congr] theorem BDC {x x' : TV} {b : Bool} {A B : Prop} (h : x = x') : Gq x b A B = Gq x' b A B := by rw [h]
theorem BDy {t : Bool} {A B : Prop} : Gq (.val (.bool t)) true A B = vif t A B := by cases t <;> simp [Gq, vif, isB]
theorem BDf {b : Bool} {A B : Prop} : Gq (.val undef) b A B = B := by simp [Gq, isB, undef]
theorem BDp {t : Bool} {A B : Prop} : Gq (.val (.bool t)) false A B = vif t B A := by cases t <;> simp [Gq, vif, isB]
theorem u_g {d s : Nat} {o : VOp} {b : Bool} {r : List VO} {K : Env → Prop} : vq P (⟨some d, o, some (s, b)⟩ :: r) K e H = Gq (get e s) b (Bh4 P o e H fun x => vq P r K ((d, x) :: e) H) (vq P r K ((d, .val undef) :: e) H) := A29 rfl
theorem BDd {f : FuncId} {args : List Opd} {k : TV → Prop} : Bh4 P (.s (.call f args)) e H k = A3U (evs e args) fun xs => A5g (Bdk xs) (vex fun x => VC P f xs H (fun y H' => y = x ∧ H' = H) ∧ k x) := by
 rw [BwE, Bbx]; rfl
def Bxl (P : Program) (x : TV) (s k : Nat) (c : A3d) (Q : VEx → Env → List Ob → Prop) (e : Env) (H : List Ob) : Prop := match x with
  | .val (.slice none 0 0) => vwp P c Q ((s, .os k H.length 0 [] 0 0 0) :: e) (H ++ [.obj 0 (.arr 0 k [])])
  | _ => vwp P c Q e H
@[congr] theorem BCF {x x' : TV} {s k : Nat} (h : x = x') : Bxl P x s k a Q e H = Bxl P x' s k a Q e H := by rw [h]
theorem BA6 {s k : Nat} : vwp P (.own s k a) Q e H = Bxl P (get e s) s k a Q e H := A29 rfl
theorem Bte {s k : Nat} : Bxl P (.val (.slice none 0 0)) s k a Q e H = vwp P a Q ((s, .os k H.length 0 [] 0 0 0) :: e) (H ++ [.obj 0 (.arr 0 k [])]) := A29 rfl
theorem BvV {s k k' id ver off n cp : Nat} {p : List (Nat × Nat)} : Bxl P (.os k' id ver p off n cp) s k a Q e H = vwp P a Q e H := A29 rfl
end
/-- Results. -/
theorem BBF {t : Nat} {K : TV → Prop} : res [.tmp t] e H K = A3U (get e t) K := A29 rfl
theorem Bzx {t : Nat} {r : List VR} {K : List TV → Prop} : Blb (.tmp t :: r) e H K = A3U (get e t) fun x => Blb r e H fun xs => K (x :: xs) := A29 rfl
def BCS (K : TV → Prop) (xs : List TV) : Prop := match xs with
 | [x] => K x
 | xs => (∀ x ∈ xs, A4t x = false) ∧ K (.tup xs)
theorem BrM {x y : TV} {l : List TV} {K : TV → Prop} : BCS K (x :: y :: l) = A5g (Bdk (x :: y :: l)) (A3U (TV.tup (x :: y :: l)) K) := A29 rfl
theorem Bxs {r s : VR} {l : List VR} {K : TV → Prop} : res (r :: s :: l) e H K = Blb (r :: s :: l) e H (BCS K) := A29 rfl
theorem Bzo {a sz : Nat} {ag : Bool} {K : TV → Prop} : res [.cell a ag sz] e H K = pop (.load ag sz (.t a)) e H K := A29 rfl
theorem BAP {K : TV → Prop} : res [] e H K = K (.tup []) := by rw [Bp2]; simp
end

def VCP (P : Program) (f : FuncId) (xs : List TV) (H : List Ob) (K : TV → List Ob → Prop) (KP : Value → List Ob → Prop) [Tg K] [Tg KP] : Prop := Bge P f xs H K KP
@[congr] theorem BzA {P : Program} {f : FuncId} {xs xs' : List TV} {H H' : List Ob} {K : TV → List Ob → Prop} {KP : Value → List Ob → Prop} (he : xs = xs') (hH : H = H') : VCP P f xs H K KP = VCP P f xs' H' K KP := by rw [he, hH]
def BwQ (x : TV) (K : Value → Prop) [Tg K] : Prop := match x with
 | .val (.iface t v) => K (.iface t v)
 | .ifc t (.val v) => K (.iface t v)
 | _ => False
@[congr] theorem BCX {x x' : TV} {K : Value → Prop} (h : x = x') : BwQ x K = BwQ x' K := by rw [h]
theorem Bt0 {t : TypeId} {v : Value} {K : Value → Prop} : BwQ (.ifc t (.val v)) K = K (.iface t v) := A29 rfl
theorem Bvh {t : TypeId} {v : Value} {K : Value → Prop} : BwQ (.val (.iface t v)) K = K (.iface t v) := A29 rfl
section
variable {P : Program} {e : Env} {H : List Ob} {r : List VO} {K : Env → List Ob → Prop} {PP : Value → List Ob → Prop} {Q : VEx → Env → List Ob → Prop}
@[congr] theorem BvI {l : List VO} {e' : Env} {H' : List Ob} (he : e = e') (hH : H = H') : Bc8 P PP l K e H = Bc8 P PP l K e' H' := by rw [he, hH]
@[congr] theorem Bwc {o : VOp} {e' : Env} {H' : List Ob} {KK : TV → List Ob → Prop} (he : e = e') (hH : H = H') : pvop P PP o e H KK = pvop P PP o e' H' KK := by rw [he, hH]
theorem BxU {l : List VO} {kp : List Nat} : vwp P (.pops l kp) Q e H = Bc8 P (fun u H => Q (.pan u) (Bl5 l e) H) l (fun e H => A3U (forget kp e) fun e => Q .nor e H) e H := A29 rfl
theorem BuZ {n : Nat} {l : List VO} {kp : List Nat} : vwp P (.pdraw n l kp) Q e H = (vq P (l.take n) (fun e => Bc8 P (fun u H => Q (.pan u) [] H) (l.drop n) (fun e H => A3U (forget kp e) fun e => Q .nor e H) e H) e H) := A29 rfl
theorem Byi : Bc8 P PP [] K e H = K e H := A29 rfl
theorem BDc {d : Nat} {o : VOp} : Bc8 P PP (⟨some d, o, none⟩ :: r) K e H = pvop P PP o e H (fun x H => Bc8 P PP r K ((d, x) :: e) H) := A29 rfl
theorem BA7 {o : VOp} : Bc8 P PP (⟨none, o, none⟩ :: r) K e H = pvop P PP o e H (fun x H => Bc8 P PP r K e H) := A29 rfl
theorem BDl {d s : Nat} {o : VOp} {b : Bool} : Bc8 P PP (⟨some d, o, some (s, b)⟩ :: r) K e H = Bil e s fun e q => Gd q b (pvop P PP o e H (fun x H => Bc8 P PP r K ((d, x) :: e) H)) (Bc8 P PP r K ((d, .val undef) :: e) H) := by
 show A98 (pvop P PP) _ K e H = _
 rw [A98]
 refine congrArg (Bil e s) ?_; funext e q; cases q <;> rfl
theorem ByX {o : POp} {KK : TV → List Ob → Prop} : pvop P PP (.p o) e H KK = pop o e H fun x => KK x H := A29 rfl
theorem Bp9 {f : FuncId} {args : List Opd} {KK : TV → List Ob → Prop} : pvop P PP (.s (.call f args)) e H KK = A3U (evs e args) fun xs => A5g (Bdk xs) (VCP P f xs H KK PP) := by
 show ((∀ x ∈ args, A4t (x.ev e) = false) ∧ _) = _
 rw [Bbx]; rfl
theorem Br4 {x : Opd} {KK : TV → List Ob → Prop} : pvop P PP (.s (.pan x)) e H KK = BwQ (x.ev e) (fun u => PP u H) := by
 show (match x.ev e with | .val (.iface t v) => PP (.iface t v) H | .ifc t (.val v) => PP (.iface t v) H | _ => False) = _
 unfold BwQ
 split <;> simp_all
theorem BnV {z : TV} {KK : TV → List Ob → Prop} : pvop P PP (.s (.alloc z)) e H KK = sop P (.alloc z) e H KK := A29 rfl
theorem BtF {x : Opd} {KK : TV → List Ob → Prop} : pvop P PP (.s (.box x)) e H KK = sop P (.box x) e H KK := A29 rfl
theorem BlO {k n : Nat} {z : TV} {ps : List (Nat × Opd)} {KK : TV → List Ob → Prop} : pvop P PP (.s (.bslice k n z ps)) e H KK = sop P (.bslice k n z ps) e H KK := A29 rfl
theorem BnL {sz : Nat} {x v : Opd} {KK : TV → List Ob → Prop} : pvop P PP (.s (.store sz x v)) e H KK = sop P (.store sz x v) e H KK := A29 rfl
theorem Btl {k bytes : Nat} {z : TV} {l c : Opd} {KK : TV → List Ob → Prop} : pvop P PP (.s (.mks k bytes z l c)) e H KK = sop P (.mks k bytes z l c) e H KK := A29 rfl
theorem BsJ {k bytes : Nat} {et : TypeId} {x y : Opd} {KK : TV → List Ob → Prop} : pvop P PP (.s (.app k bytes et x y)) e H KK = sop P (.app k bytes et x y) e H KK := A29 rfl
theorem BpJ {et : TypeId} {x y : Opd} {KK : TV → List Ob → Prop} : pvop P PP (.s (.appS et x y)) e H KK = sop P (.appS et x y) e H KK := A29 rfl
theorem Bqw {k n : Nat} {z : TV} {x y : Opd} {KK : TV → List Ob → Prop} : pvop P PP (.s (.appZ k n z x y)) e H KK = sop P (.appZ k n z x y) e H KK := A29 rfl
theorem BrS {x : Opd} {n : Bool} {KK : TV → List Ob → Prop} : pvop P PP (.s (.eqS x n)) e H KK = sop P (.eqS x n) e H KK := A29 rfl
theorem BrE {x : Opd} {KK : TV → List Ob → Prop} : pvop P PP (.s (.s2b x)) e H KK = sop P (.s2b x) e H KK := A29 rfl
theorem Bqm {k : Nat} {x y : Opd} {KK : TV → List Ob → Prop} : pvop P PP (.s (.copy k x y)) e H KK = sop P (.copy k x y) e H KK := A29 rfl
theorem BnZ {x y : Opd} {KK : TV → List Ob → Prop} : pvop P PP (.s (.copyS x y)) e H KK = sop P (.copyS x y) e H KK := A29 rfl
theorem Bnp {x : Opd} {args : List Opd} {KK : TV → List Ob → Prop} : pvop P PP (.s (.callv x args)) e H KK = sop P (.callv x args) e H KK := A29 rfl
theorem Bs3 {x : Opd} {nm : String} {args : List Opd} {KK : TV → List Ob → Prop} : pvop P PP (.s (.inv x nm args)) e H KK = sop P (.inv x nm args) e H KK := A29 rfl
theorem Btv {kk : MK} {h : Option Opd} {KK : TV → List Ob → Prop} : pvop P PP (.s (.mkm kk h)) e H KK = sop P (.mkm kk h) e H KK := A29 rfl
theorem BoU {kk : MK} {m k x : Opd} {KK : TV → List Ob → Prop} : pvop P PP (.s (.mupd kk m k x)) e H KK = sop P (.mupd kk m k x) e H KK := A29 rfl
theorem Bov {kk : MK} {z : TV} {m k : Opd} {KK : TV → List Ob → Prop} : pvop P PP (.s (.ment kk z m k)) e H KK = sop P (.ment kk z m k) e H KK := A29 rfl
theorem Bpi {m st x : Opd} {KK : TV → List Ob → Prop} : pvop P PP (.s (.mest m st x)) e H KK = sop P (.mest m st x) e H KK := A29 rfl
theorem Bli {z : TV} {t : TypeId} {KK : TV → List Ob → Prop} : pvop P PP (.s (.allocT z t)) e H KK = sop P (.allocT z t) e H KK := A29 rfl
theorem Bph {x : Opd} {t : TypeId} {KK : TV → List Ob → Prop} : pvop P PP (.s (.boxT x t)) e H KK = sop P (.boxT x t) e H KK := A29 rfl
theorem Bpt {x : Opd} {KK : TV → List Ob → Prop} : pvop P PP (.s (.rngS x)) e H KK = sop P (.rngS x) e H KK := A29 rfl
theorem Bpa {x : Opd} {KK : TV → List Ob → Prop} : pvop P PP (.s (.nxtS x)) e H KK = sop P (.nxtS x) e H KK := A29 rfl
theorem Boi {x : Opd} {KK : TV → List Ob → Prop} : pvop P PP (.s (.rngM x)) e H KK = sop P (.rngM x) e H KK := A29 rfl
theorem BoE {x : Opd} {KK : TV → List Ob → Prop} : pvop P PP (.s (.nxtM x)) e H KK = sop P (.nxtM x) e H KK := A29 rfl
theorem Bo0 {kk : MK} {m k : Opd} {KK : TV → List Ob → Prop} : pvop P PP (.s (.delM kk m k)) e H KK = sop P (.delM kk m k) e H KK := A29 rfl
theorem BsN {x : Opd} {KK : TV → List Ob → Prop} : pvop P PP (.s (.cvS x)) e H KK = sop P (.cvS x) e H KK := A29 rfl
theorem BoX {k : Nat} {z : TV} {x : Opd} {KK : TV → List Ob → Prop} : pvop P PP (.s (.clrS k z x)) e H KK = sop P (.clrS k z x) e H KK := A29 rfl
theorem Bqp {f : FuncId} {x : Opd} {KK : TV → List Ob → Prop} : pvop P PP (.s (.bstr f x)) e H KK = sop P (.bstr f x) e H KK := A29 rfl
theorem Bv0 {b : A3d} {u : Value} : Thn P b Q (.pan u) e H = Q (.pan u) e H := A29 rfl
theorem Bvy {id : Nat} {u : Value} : Blk id Q (.pan u) e H = Q (.pan u) e H := A29 rfl
theorem Bwe {n0 : Nat} {lv : List Nat} {I : Nat → Env → List Ob → Prop} {n : Nat} {u : Value} : Rnd n0 lv Q I n (.pan u) e H = Q (.pan u) e H := A29 rfl
theorem Bn0 {vr : List VR} {R : TV → List Ob → Prop} {RP : Value → List Ob → Prop} : Bqy vr R RP .ret e H = res vr e H fun x => R x H := A29 rfl
theorem Bnc {vr : List VR} {R : TV → List Ob → Prop} {RP : Value → List Ob → Prop} : Bqy vr R RP .nor e H = res vr e H fun x => R x H := A29 rfl
theorem Bns {vr : List VR} {R : TV → List Ob → Prop} {RP : Value → List Ob → Prop} {u : Value} : Bqy vr R RP (.pan u) e H = RP u H := A29 rfl
def Bkx (P : Program) (PP : Value → List Ob → Prop) (Ss : SsT) (l : List VO) (K : Env → List Ob → Prop) (e : Env) (H : List Ob) : Prop := A98 (pvopS P PP Ss) l K e H
@[congr] theorem Bvi {Ss : SsT} {l : List VO} {e' : Env} {H' : List Ob} (he : e = e') (hH : H = H') : Bkx P PP Ss l K e H = Bkx P PP Ss l K e' H' := by rw [he, hH]
@[congr] theorem Bt5 {Ss : SsT} {o : VOp} {e' : Env} {H' : List Ob} {KK : TV → List Ob → Prop} (he : e = e') (hH : H = H') : pvopS P PP Ss o e H KK = pvopS P PP Ss o e' H' KK := by rw [he, hH]
theorem BuO {n : Nat} {l : List VO} {kp : List Nat} : vwp P (.sdraw n l kp) Q e H = (vq P (l.take (nOf n)) (fun e => Bkx P (fun u H => Q (.pan u) [] H) (ssN n l) (l.drop (nOf n)) (fun e H => A3U (forget kp e) fun e => Q .nor e H) e H) e H) := A29 rfl
section
variable {Ss : SsT}
theorem Byy : Bkx P PP Ss [] K e H = K e H := A29 rfl
theorem BDw {d : Nat} {o : VOp} : Bkx P PP Ss (⟨some d, o, none⟩ :: r) K e H = pvopS P PP Ss o e H (fun x H => Bkx P PP Ss r K ((d, x) :: e) H) := A29 rfl
theorem BBU {o : VOp} : Bkx P PP Ss (⟨none, o, none⟩ :: r) K e H = pvopS P PP Ss o e H (fun x H => Bkx P PP Ss r K e H) := A29 rfl
theorem Byt {o : POp} {KK : TV → List Ob → Prop} : pvopS P PP Ss (.p o) e H KK = pop o e H fun x => KK x H := A29 rfl
theorem Bom {f : FuncId} {args : List Opd} {KK : TV → List Ob → Prop} : pvopS P PP Ss (.s (.call f args)) e H KK = A3U (evs e args) fun xs => A5g (Bdk xs) (VCP P f xs H (fun x H' => KK x H' ∧ Bcd Ss.l e H H') PP) := by
 show ((∀ x ∈ args, A4t (x.ev e) = false) ∧ _) = _
 rw [Bbx]; rfl
theorem BnG {sz : Nat} {x v : Opd} {KK : TV → List Ob → Prop} : pvopS P PP Ss (.s (.store sz x v)) e H KK = sop P (.store sz x v) e H fun x H' => KK x H' ∧ Bcd Ss.l e H H' := A29 rfl
theorem BnK {z : TV} {KK : TV → List Ob → Prop} : pvopS P PP Ss (.s (.alloc z)) e H KK = sop P (.alloc z) e H KK := A29 rfl
theorem BtH {k bytes : Nat} {z : TV} {l c : Opd} {KK : TV → List Ob → Prop} : pvopS P PP Ss (.s (.mks k bytes z l c)) e H KK = sop P (.mks k bytes z l c) e H KK := A29 rfl
theorem Btt {k bytes : Nat} {et : TypeId} {x y : Opd} {KK : TV → List Ob → Prop} : pvopS P PP Ss (.s (.app k bytes et x y)) e H KK = vif Ss.ap (sop P (.app k bytes et x y) e H fun x H' => KK x H' ∧ Bcd Ss.l e H H') (sop P (.app k bytes et x y) e H KK) := by
 show sop P (.app k bytes et x y) e H (fun x H' => KK x H' ∧ (Ss.ap = true → Bcd Ss.l e H H')) = _
 unfold vif
 split
 ·rename_i h
  congr 1; funext x H'; simp [h]
 ·rename_i h
  congr 1; funext x H'; simp [h]
theorem BzD {n : Nat} : nOf n = n % 10000 := A29 rfl
theorem Bx9 {n : Nat} {l : List VO} : (ssN n l).ap = decide (10000 ≤ n) := A29 rfl
theorem Blw {k n : Nat} {z : TV} {ps : List (Nat × Opd)} {KK : TV → List Ob → Prop} : pvopS P PP Ss (.s (.bslice k n z ps)) e H KK = sop P (.bslice k n z ps) e H KK := A29 rfl
end
theorem Bmy {e : Env} {H H' : List Ob} : Bcd [] e H H' := Bcd.nil
theorem Bow {s : Nat} {Ss : List Nat} {e : Env} {H H' : List Ob} {id ver : Nat} {p : List (Nat × Nat)} (h : get e s = .op id ver p) (h1 : H'[id]? = H[id]?) (h2 : Bcd Ss e H H') : Bcd (s :: Ss) e H H' := fun t ht id' ver' p' hg => by
 rcases List.mem_cons.1 ht with rfl | ht
 ·rw [h] at hg; cases hg; exact h1
 ·exact h2 t ht id' ver' p' hg
end
def A3g := (And.intro (And.intro (And.intro (And.intro (And.intro (And.intro (And.intro (And.intro @BCh @By1) (And.intro @BA5 @BDk)) (And.intro (And.intro @Bxt @BBR) (And.intro @BCn @Byz))) (And.intro (And.intro (And.intro @Br0 @BuQ) (And.intro @Bw1 @BvW)) (And.intro (And.intro @BAB @Byc) (And.intro @BAV @Bw4)))) (And.intro (And.intro (And.intro (And.intro @Bxq @BB2) (And.intro @BB6 @BAg)) (And.intro (And.intro @Bu6 @BBV) (And.intro @BxM @BBN))) (And.intro (And.intro (And.intro @BBo @BAt) (And.intro @BAr @BAE)) (And.intro (And.intro @Bvs @Btq) (And.intro @BB0 @Bux))))) (And.intro (And.intro (And.intro (And.intro (And.intro @Brk @BA8) (And.intro @ByT @Bxy)) (And.intro (And.intro @ByW @Byj) (And.intro @Bym @BxW))) (And.intro (And.intro (And.intro @ByM @Bzk) (And.intro @BBZ @Bs5)) (And.intro (And.intro @BvM @BAm) (And.intro @BBj @Bzi)))) (And.intro (And.intro (And.intro (And.intro @BxX @Bvx) (And.intro @BAp @Byn)) (And.intro (And.intro @BBE @BzC) (And.intro @Bw3 @BxT))) (And.intro (And.intro (And.intro @ByN @ByZ) (And.intro @ByG @Bv2)) (And.intro (And.intro @BCl @BBW) (And.intro @By3 @BtI)))))) (And.intro (And.intro (And.intro (And.intro (And.intro (And.intro @By0 @By6) (And.intro @BA0 @BvK)) (And.intro (And.intro @BxL @ByP) (And.intro @BA9 @Bwv))) (And.intro (And.intro (And.intro @BA6 @Bys) (And.intro @BxI @BrO)) (And.intro (And.intro @Bxp @BxZ) (And.intro @BuY @o_g)))) (And.intro (And.intro (And.intro (And.intro @BxN @BBS) (And.intro @Bz9 @ByC)) (And.intro (And.intro @BDx @u_c) (And.intro @u_g @BuW))) (And.intro (And.intro (And.intro @BDd @Bk8) (And.intro @Bkc @BBF)) (And.intro (And.intro @Bzo @BAP) (And.intro @Bxs @BmX))))) (And.intro (And.intro (And.intro (And.intro (And.intro @Bzx @Bku) (And.intro @BrM @Bwy)) (And.intro (And.intro @Bt3 @Bu7) (And.intro @BuN @BqP))) (And.intro (And.intro (And.intro @Bma @Buz) (And.intro @Bs2 @BwO)) (And.intro (And.intro @BxU @BuZ) (And.intro @BuO @Byy)))) (And.intro (And.intro (And.intro (And.intro @BDw @BBU) (And.intro @Byt @Bom)) (And.intro (And.intro @BnG @BnK) (And.intro @BtH @Btt))) (And.intro (And.intro (And.intro @Blw @Byi) (And.intro @BDc @BA7)) (And.intro (And.intro @BDl @ByX) (And.intro @Bp9 @Br4))))))) (And.intro (And.intro (And.intro (And.intro (And.intro (And.intro @BnV @BtF) (And.intro @BlO @BnL)) (And.intro (And.intro @Btl @BsJ) (And.intro @BpJ @BrE))) (And.intro (And.intro (And.intro @Bqw @BrS) (And.intro @Bqm @BnZ)) (And.intro (And.intro @Bnp @Bs3) (And.intro @Btv @BoU)))) (And.intro (And.intro (And.intro (And.intro @Bov @Bpi) (And.intro @Bli @Bph)) (And.intro (And.intro @Bpt @Bpa) (And.intro @Boi @BoE))) (And.intro (And.intro (And.intro @Bo0 @BoX) (And.intro @BsN @Bqp)) (And.intro (And.intro @Bv0 @Bvy) (And.intro @Bwe @Bn0))))) (And.intro @Bnc @Bns)))
def A3c := (And.intro (And.intro (And.intro (And.intro (And.intro (And.intro (And.intro (And.intro @BzD @Bx9) (And.intro @Bvh @Bt0)) (And.intro (And.intro @Brv @Bqk) (And.intro @Bwr @Bu8))) (And.intro (And.intro (And.intro @Byr @Bzm) (And.intro @Bxc @Bo3)) (And.intro (And.intro @BqI @Bur) (And.intro @Bq9 @BxP)))) (And.intro (And.intro (And.intro (And.intro @Bpo @Bvv) (And.intro @BtX @Byx)) (And.intro (And.intro @Bvu @Bzn) (And.intro @Bzg @BpG))) (And.intro (And.intro (And.intro @BwA @BtG) (And.intro @Bwh @BrA)) (And.intro (And.intro @BuB @ByI) (And.intro @Brm @BwL))))) (And.intro (And.intro (And.intro (And.intro (And.intro @Bwj @BqZ) (And.intro @Btb @BnH)) (And.intro (And.intro @BnE @Bqg) (And.intro @BtN @Bsa))) (And.intro (And.intro (And.intro @BoP @BpO) (And.intro @Bvk @Brc)) (And.intro (And.intro @Bvo @BtT) (And.intro @BtO @Brx)))) (And.intro (And.intro (And.intro (And.intro @Bog @Bu0) (And.intro @Bvq @BuR)) (And.intro (And.intro @Bwa @BuG) (And.intro @BvE @Bwp))) (And.intro (And.intro (And.intro @Bt4 @BvG) (And.intro @BsW @Bwl)) (And.intro (And.intro @BoN @BwI) (And.intro @BsY @Brz)))))) (And.intro (And.intro (And.intro (And.intro (And.intro (And.intro @Btf @BpU) (And.intro @BnU @Bwq)) (And.intro (And.intro @Bu3 @Bw8) (And.intro @Bzq @Bx0))) (And.intro (And.intro (And.intro @Bw6 @Br3) (And.intro @BqQ @BsE)) (And.intro (And.intro @Bsx @ByR) (And.intro @Byp @Bxv)))) (And.intro (And.intro (And.intro (And.intro @BqD @BnQ) (And.intro @Bp4 @Bsj)) (And.intro (And.intro @Btp @Bpe) (And.intro @BrH @Btc))) (And.intro (And.intro (And.intro @Bri @Bwx) (And.intro @Bwt @BrP)) (And.intro (And.intro @Bpd @Brf) (And.intro @Bup @Bs7))))) (And.intro (And.intro (And.intro (And.intro (And.intro @BvY @BvS) (And.intro @Bvn @Br6)) (And.intro (And.intro @Br1 @BsQ) (And.intro @BtW @BrT))) (And.intro (And.intro (And.intro @Bsc @Boq) (And.intro @Bq0 @Bu1)) (And.intro (And.intro @ByD @Bp6) (And.intro @Bzr @By5)))) (And.intro (And.intro (And.intro (And.intro @Bv6 @BvX) (And.intro @Bwn @Bsh)) (And.intro (And.intro @Brl @Br9) (And.intro @Option.getD_none.{0} @Option.getD_some.{0}))) (And.intro (And.intro (And.intro @Bn7 @BvT) (And.intro @BtB @BtC)) (And.intro (And.intro @BrN @BmI) (And.intro @BqA @BsF))))))) (And.intro (And.intro (And.intro (And.intro (And.intro (And.intro @BqN @BvP) (And.intro @Btr @BvC)) (And.intro (And.intro @Brb @BpP) (And.intro @Buu @BsL))) (And.intro (And.intro (And.intro @Brg @Btj) (And.intro @Bto @BrY)) (And.intro (And.intro @Bq7 @Bta) (And.intro @BuF @Bo5)))) (And.intro (And.intro (And.intro (And.intro @BvL @Bzd) (And.intro @Byl @BnA)) (And.intro (And.intro @BoO @BCp) (And.intro @BAl @BDA))) (And.intro (And.intro (And.intro @BrU @Buq) (And.intro @BvJ @BDy)) (And.intro (And.intro @BDp @BDf) (And.intro @Bte @BvV))))) (And.intro (And.intro (And.intro @Br2 @Bsf) (And.intro @Bwz @BrL)) (And.intro @Bqb @Bm5))))
def A3e := (And.intro (And.intro (And.intro (And.intro (And.intro (And.intro (And.intro (And.intro @BqJ @Bsg) (And.intro @Bv5 @BuJ)) (And.intro (And.intro @BuV @Bwo) (And.intro @Bs0 @BsT))) (And.intro (And.intro (And.intro @BsG @Btx) (And.intro @Bv4 @Bvw)) (And.intro (And.intro @BwB @Bon) (And.intro @BqC @BtY)))) (And.intro (And.intro (And.intro (And.intro @Bry @BtP) (And.intro @Bsw @BpR)) (And.intro (And.intro @Bpg @BpX) (And.intro @Bqd @Btn))) (And.intro (And.intro (And.intro @Bre @BsD) (And.intro @BsA @BvF)) (And.intro (And.intro @BuU @Bvr) (And.intro @BuH @Bt1))))) (And.intro (And.intro (And.intro (And.intro (And.intro @Bt2 @BqR) (And.intro @Btd @Bvl)) (And.intro (And.intro @BuC @Bwm) (And.intro @BpL @BpM))) (And.intro (And.intro (And.intro @BtM @BtE) (And.intro @BrW @Bti)) (And.intro (And.intro @BpV @Br5) (And.intro @Bs4 @Bpn)))) (And.intro (And.intro (And.intro (And.intro @BoH @BqL) (And.intro @Bth @BsH)) (And.intro (And.intro @BqO @Boe) (And.intro @Bpc @Btz))) (And.intro (And.intro (And.intro @Bq4 @BrF) (And.intro @BoJ @Boz)) (And.intro (And.intro @BnT @Blm) (And.intro @Bod @Bqv)))))) (And.intro (And.intro (And.intro (And.intro (And.intro (And.intro @Bob @BpZ) (And.intro @BnM @Bsl)) (And.intro (And.intro @BpF @Bme) (And.intro @Bkw @BnF))) (And.intro (And.intro (And.intro @BrC @Bo2) (And.intro @Bks @Bi8)) (And.intro (And.intro @BDj @BDs) (And.intro @BDe @Bra)))) (And.intro (And.intro (And.intro (And.intro @Bts @Bq6) (And.intro @BmG @Brr)) (And.intro (And.intro @BqT @Bnf) (And.intro @BlY @Bpv))) (And.intro (And.intro (And.intro @Bnw @BsK) (And.intro @Bnt @Bmg)) (And.intro (And.intro @Bno @Bll) (And.intro @Boh @Bnn))))) (And.intro (And.intro (And.intro (And.intro (And.intro @Bly @Bkh) (And.intro @BjT @BhZ)) (And.intro (And.intro @Bwi @BrG) (And.intro @Bp2 @BsI))) (And.intro (And.intro (And.intro @BmX @Btk) (And.intro @Bku @Bk8)) (And.intro (And.intro @Bkc @BtA) (And.intro @BrJ @BuM)))) (And.intro (And.intro (And.intro (And.intro @BwJ @BsO) (And.intro @Bvb @Bwu)) (And.intro (And.intro @Bsq @BtS) (And.intro @Br8 @Bpp))) (And.intro (And.intro (And.intro @Bnb @Bva) (And.intro @BwK @Bx7)) (And.intro (And.intro @BvQ @BvD) (And.intro @Bve @Bu2))))))) (And.intro (And.intro (And.intro @Brh @Bpz) (And.intro @BoC @Bs8)) (And.intro (And.intro @BCk @ByS) @By7)))
theorem Bnd {α β : Type} {f : α → β} {l : List α} {i : Nat} : (l.map f).drop i = (l.drop i).map f := List.map_drop.symm
theorem Bng {α β : Type} {f : α → β} {l : List α} {i : Nat} : (l.map f).take i = (l.take i).map f := List.map_take.symm
theorem Bx4 {b : UInt8} : IntKind.i64.wrap (b.toNat : Int) = b.toNat := A5X (by omega) (by have := b.toNat_lt; omega)
theorem Bug {n : Nat} : IntKind.u8.wrap (n : Int) = ((UInt8.ofNat n).toNat : Int) := by
 rw [IntKind.wrap_u8, UInt8.toNat_ofNat']; omega
theorem ByK {α : Type} {n i : Nat} {a : α} (h : i < n) : (List.replicate n a)[i]? = some a := by simp [h]
section
variable {a b c : Nat}
theorem BrB : (a : Int) * (b : Int) = ((a * b : Nat) : Int) := A29 rfl
theorem BtU (h : b ≤ a) : (a : Int) - (b : Int) = ((a - b : Nat) : Int) := by omega
theorem Btw : (a : Int) / (b : Int) = ((a / b : Nat) : Int) := A29 rfl
theorem BsV : (a : Int) % (b : Int) = ((a % b : Nat) : Int) := A29 rfl
variable {t : TypeId} {k2 : IntKind}
theorem BxG (h1 : b ≤ 63) (h2 : a * 2 ^ b ≤ 9223372036854775807) : A6b t .shl (.int .i64 (a : Int)) (.int k2 (b : Int)) = some (.int .i64 ((a * 2 ^ b : Nat) : Int)) := by
 have e : (a : Int) * 2 ^ ((b : Int).toNat) = ((a * 2 ^ b : Nat) : Int) := by rw [Int.toNat_natCast, Int.natCast_mul, Int.natCast_pow]; rfl
 rw [BAZ (by omega) (by omega) (by rw [e]; omega) (by rw [e]; omega), e]
theorem BxJ (h1 : b ≤ 63) : A6b t .shr (.int .i64 (a : Int)) (.int k2 (b : Int)) = some (.int .i64 ((a / 2 ^ b : Nat) : Int)) := by
 have e : (a : Int) / 2 ^ ((b : Int).toNat) = ((a / 2 ^ b : Nat) : Int) := by rw [Int.toNat_natCast, Int.natCast_ediv, Int.natCast_pow]; rfl
 rw [BAA (by omega) (by omega) (by omega), e]
variable {k : IntKind}
theorem Bxb (h : b ≠ 0) : A6b t .rem (.int k (a : Int)) (.int k (b : Int)) = some (.int k ((a % b : Nat) : Int)) := by rw [BBi (by omega) (by omega), Int.natCast_emod]
theorem ByJ (h : b ≠ 0) (h2 : a ≤ 9223372036854775807) : A6b t .quo (.int .i64 (a : Int)) (.int .i64 (b : Int)) = some (.int .i64 ((a / b : Nat) : Int)) := by rw [BCq (by omega) (by omega) (by omega), Int.natCast_ediv]
end
theorem A3p.toPureV {P : Program} {f : FuncId} {args : List TV} {R : TV → Prop} (h : A3p P f args [] fun x H' => A3Y (frz H' x) R) : A4p P f args R :=
 A3p.toPure (h.mono fun x H' hx => by
  cases hf : frz H' x with
  | none => rw [hf] at hx; exact hx
  | some y => rw [hf] at hx; exact hx)
abbrev mv_ (d s : Nat) : VO := ⟨some d, .p (.mov (.t s)), none⟩
abbrev po_ (d : Nat) (p : POp) : VO := ⟨some d, .p p, none⟩
abbrev so_ (d : Nat) (q : SOp) : VO := ⟨some d, .s q, none⟩
abbrev ci_ (n : Nat) : Opd := .c (.int .i64 (n : Int))
theorem A7f {P : Program} {f : FuncId} {fn : Func} {vc : A3d} {vr : List VR} (n : Nat) (hf : P.funcs[f]? = some fn) (ht : fn.body.bind (trC P fn.ntmps) = some (er vc)) (hr : trR P fn.results.toList = some vr) (hn : fn.ntmps = n) :
  ∀ ⦃args : List TV⦄ ⦃H : List Ob⦄ ⦃R : TV → List Ob → Prop⦄, args.length ≤ n → vwp P vc (Bjj vr R) (BjI 0 args) H → A3p P f args H R := fun _ _ _ h1 h2 => Bqz hf ht hr (hn ▸ h1) h2
theorem A3a {c c' : A3d} (h : c = c') : ∀ (P : Program) (Q : VEx → Env → List Ob → Prop) (e : Env) (H : List Ob), vwp P c Q e H = vwp P c' Q e H := fun _ _ _ _ => by rw [h]
theorem A3b {α : Type} : (∀ {l : List α} {i : Nat} {a : α}, (l.set i a).length = l.length) ∧ (∀ {l m : List α}, (l ++ m).length = l.length + m.length) ∧ (∀ {a : α} {l : List α}, (a :: l).length = l.length + 1) ∧ ([] : List α).length = 0 := ⟨List.length_set, List.length_append, List.length_cons, List.length_nil⟩
theorem A3p.toFreshV {P : Program} {f : FuncId} {args : List TV} {R : TV → Prop} (h : A3p P f args [] fun x H' => A3Y (frs H' x) R) : A9X P f args R :=
 A3p.toFresh (h.mono fun x H' hx => by
  cases hf : frs H' x with
  | none => rw [hf] at hx; exact hx
  | some y => rw [hf] at hx; exact hx)
theorem BrQ {α : Type} {l : List α} {n : Nat} (h : l.length ≤ n) : l.take n = l := List.take_of_length_le h
theorem BAD {α : Type} {c : Prop} [Decidable c] {a b : α} (h : c) : (if c then a else b) = a := if_pos h
theorem BB4 {α : Type} {c : Prop} [Decidable c] {a b : α} (h : ¬ c) : (if c then a else b) = b := if_neg h
theorem Ble {α : Type} {l : List α} {n : Nat} (h : n ≤ l.length) : (l.take n).length = n := by simp [h]
theorem Bjz {α : Type} {l : List α} {i : Nat} : (l.drop i).take (l.length - i) = l.drop i := List.take_of_length_le (by simp)
theorem Bq3 {a b : Nat} : a + b - a = b := Nat.add_sub_cancel_left a b
theorem Bsv {α : Type} {l m : List α} : (l ++ m).take l.length = l := List.take_left
theorem BqF {α : Type} {l m : List α} : (l ++ m).drop l.length = m := List.drop_left
theorem BsS {a b : Nat} : a + b - b = a := Nat.add_sub_cancel a b
def A3f := (And.intro (And.intro (And.intro (And.intro (And.intro (And.intro (And.intro @Bsv @BqF) (And.intro @Bq3 @Bjz)) (And.intro (And.intro @Ble @List.length_drop.{0}) (And.intro @BAD @BB4))) (And.intro (And.intro (And.intro @BrQ @BsS) (And.intro @Nat.zero_le @Bxr)) (And.intro (And.intro @List.nil_append.{0} @List.length_nil.{0}) (And.intro @List.length_cons.{0} @List.cons_append.{0})))) (And.intro (And.intro (And.intro (And.intro @List.getElem?_cons_zero.{0} @List.getElem?_cons_succ.{0}) (And.intro @List.set_cons_zero.{0} @List.set_cons_succ.{0})) (And.intro (And.intro @List.map_cons.{0,0} @List.map_nil.{0,0}) (And.intro @Brw @Bsb))) (And.intro (And.intro (And.intro @true_and @and_true) (And.intro @List.take_zero.{0} @List.take_succ_cons.{0})) (And.intro (And.intro @List.drop_succ_cons.{0} @List.take_nil.{0}) (And.intro @List.drop_nil.{0} @Nat.zero_add))))) (And.intro (And.intro (And.intro (And.intro (And.intro @BA1 @BAu) (And.intro @BBc @BAz)) (And.intro (And.intro @BCe @BBI) (And.intro @BAe @BB9))) (And.intro (And.intro (And.intro @BCi @BAq) (And.intro @BDu @Bxb)) (And.intro (And.intro @ByJ @Bua) (And.intro @Boy @BoK)))) (And.intro (And.intro (And.intro (And.intro @Bos @Bor) (And.intro @Bna @Bo7)) (And.intro (And.intro @Bqe @Bpk) (And.intro @Bp1 @BoG))) (And.intro (And.intro (And.intro @Bool.false_xor @Bool.true_xor) (And.intro @BBn @BAa)) (And.intro (And.intro @BAw @decide_true) (And.intro @decide_false @Bool.not_true)))))) (And.intro (And.intro (And.intro (And.intro (And.intro (And.intro @Bool.not_false @not_true_eq_false) (And.intro @not_false_eq_true @Bool.false_eq_true)) (And.intro (And.intro @Bool.true_eq_false @Option.bind_some.{0,0}) (And.intro @Option.map_some.{0,0} @Bool.and_self))) (And.intro (And.intro (And.intro @and_self @Nat.sub_zero) (And.intro @Nat.mul_one @List.length_map.{0,0})) (And.intro (And.intro @Int.toNat_natCast @List.getElem?_map.{0,0}) (And.intro @Int.natCast_nonneg @List.length_append.{0})))) (And.intro (And.intro (And.intro (And.intro @List.drop_zero.{0} @Bnd) (And.intro @Bng @BtZ)) (And.intro (And.intro @BsU @BqG) (And.intro @Bu9 @BuL))) (And.intro (And.intro (And.intro @Bu5 @Bv9) (And.intro @List.replicate_zero.{0} @List.take_length.{0})) (And.intro (And.intro @List.length_set.{0} @List.length_replicate.{0}) (And.intro @Bx4 @A5X))))) (And.intro (And.intro (And.intro (And.intro @Bug @List.set_set.{0}) (And.intro @List.getElem?_nil.{0} @ByK)) (And.intro (And.intro @BrB @BtU) (And.intro @Btw @BsV))) (And.intro @BxG @BxJ))))
end Go.Proofs.YtmlompedpahkjaaGreatDoor

