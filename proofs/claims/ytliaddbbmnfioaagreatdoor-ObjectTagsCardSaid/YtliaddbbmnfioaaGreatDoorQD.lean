/- What the proof of ObjectTagsCard stands on (texts merged; names shortened by a program): part 4. -/
import Derived.Test.YtliaddbbmnfioaaGreatDoorQC
import Derived.RangeFuncIn
import Derived.RangeFuncRecord
import Derived.RangeFuncLeaves
import Derived.Sort.LoopGhostIn
namespace Go.Proofs.YtliaddbbmnfioaaGreatDoor
open Go.RowKit
variable [AFG]
set_option linter.unusedSectionVars false
set_option linter.unusedSimpArgs false
set_option linter.unusedVariables false
set_option autoImplicit false

inductive AFb where
 | ops (l : List VO) (keep : List Nat)
 /-- the order is open; the first nA change no object, and the others wait for all -/
 | draw (nA : Nat) (l : List VO) (keep : List Nat)
 | skip
 /-- operations; behind the first of them rows in some slots are given away -/
 | opsZ (l : List VO) (zs : List Nat) (r : List VO) (keep : List Nat)
 /-- operations of which one may end in a panic -/
 | pops (l : List VO) (keep : List Nat)
 | pdraw (n : Nat) (l : List VO) (keep : List Nat)
 /-- the same; what is looked at while a call goes on is left aS it is by that call -/
 | sdraw (n : Nat) (l : List VO) (keep : List Nat)
 | seq (a b : AFb)
 | cond (c : Opd) (a b : AFb)
 | block (id : Nat) (c : AFb)
 | loop (live : List Nat) (c : AFb)
 | exit (id : Nat)
 | ret
 | scope (c : AFb)
 /-- (nothing is done) a nil slice in a slot is looked at aS an object of one's own that has no cells yet -/
 | own (s k : Nat) (c : AFb)
 /-- (nothing is done) the same of a nil slice within an object -/
 | ownB (s : Nat) (p : List (Nat × Nat)) (k : Nat) (c : AFb)
 /-- (nothing is done) the same of a nil slice of one-cell elements within an object; what type its blocks will have is kept in mind -/
 | ownT (s : Nat) (p : List (Nat × Nat)) (t : TypeId) (c : AFb)
 /-- (nothing is done) a row of one's own in a slot is given away: it stays aS it is from now on -/
 | frz (s : Nat) (c : AFb)
 /-- a loop over a function: the parameters' slots; the assignments to the left sides; the body -/
 | rfunc (f : Opd) (ps : List Nat) (aS bd : AFb)
 /-- what this machine does not know: nothing is said of it -/
 | dead
 deriving Inhabited

/-- Rows of one's own, in these slots, are given away. -/
def Bjo : List Nat → (Env → List Ob → Prop) → Env → List Ob → Prop
 | [], K, e, H => K e H
 | s :: zs, K, e, H => match get e s with
  | .os k id ver p off n _ => (match H[id]? with
   | some (.obj v x) => v = ver ∧ (match AJf p k off n x with
    | some cs => Bjo zs K ((s, .sl k cs) :: e) (H.set id (.gone ver))
    | none => False)
   | _ => False)
  | _ => False
/-- Without what was laid beside it. -/
def er : AFb → AFb
 | .ops l _ => .ops l []
 | .draw n l _ => .draw n l []
 | .opsZ l _ r _ => .ops (l ++ r) []
 | .pops l _ => .ops l []
 | .pdraw n l _ => .draw n l []
 | .sdraw n l _ => .sdraw n l []
 | .seq a b => .seq (er a) (er b)
 | .cond c a b => .cond c (er a) (er b)
 | .block id c => .block id (er c)
 | .loop _ c => .loop [] (er c)
 | .scope c => .scope (er c)
 | .own _ _ c => er c
 | .ownB _ _ _ c => er c
 | .ownT _ _ _ c => er c
 | .frz _ c => er c
 | .rfunc f ps aS bd => .rfunc f ps (er aS) (er bd)
 | .skip => .skip
 | .exit id => .exit id
 | .ret => .ret
 | .dead => .dead

/-- A panic of the text's own stands in it, or it writes. -/
def A09 : Code → Bool
 | .seq a b => A09 a || A09 b
 | .cond _ a b => A09 a || A09 b
 | .block _ c => A09 c
 | .loop c => A09 c
 | .scope c => A09 c
 | .region _ ops _ => ops.toList.any fun o => match o.op with | .panic _ => true | .store .. => true | _ => false
 | _ => false
/-- Functions that write through others. -/
def Bm3 : List String := ["(*gitlike/pack.reader).number", "(*gitlike/pack.reader).byte", "(*gitlike/pack.reader).head", "(*gitlike/pack.reader).distance", "(*gitlike/pack.reader).entry"]
/-- A call of a function that panics, or writes. -/
def Bb2 (P : Program) (v : VO) : Bool := match v.op with
 | .s (.call f _) => (match P.funcs[f]? with | some fn => fn.body.any A09 || Bm3.contains fn.name | none => false)
 | .s (.store _ _ _) => true
 | _ => false
/-- How many (from 10000 on: so many more; there may be appends in between). -/
def nOf (n : Nat) : Nat := n % 10000
def ssN (n : Nat) (l : List VO) : SsT := ⟨Bhg l, Baf l, decide (10000 ≤ n)⟩
theorem Bi4 {n : Nat} (h : n < 10000) : nOf n = n := Nat.mod_eq_of_lt h
theorem BhT {n : Nat} (h : n < 10000) : nOf (10000 + n) = n := by unfold nOf; omega
theorem BhI {n : Nat} {l : List VO} (h : n < 10000) : ssN n l = ⟨Bhg l, Baf l, false⟩ := by unfold ssN; rw [decide_eq_false (by omega)]
theorem Bhr {n : Nat} {l : List VO} : ssN (10000 + n) l = ⟨Bhg l, Baf l, true⟩ := by unfold ssN; rw [decide_eq_true (by omega)]
/-- The first number of operations at which the checks pass. -/
def A8q (chk : Nat → Bool) (n : Nat) : Option Nat := (List.range (n + 1)).find? fun j => chk j && decide (j < 10000)
theorem AYd {chk : Nat → Bool} {n j : Nat} (h : A8q chk n = some j) : chk j = true ∧ j < 10000 := by
 have := List.find?_some h
 simpa using this
def Bov (v : VO) : Bool := match v.op with
 | .s (.app _ _ _ _ _) => true
 | _ => false
/-- Which operations are to be A3l: none that panics, if what they look at may be looked at later on. -/
def A5j (P : Program) (ops : List Oper) (l : List VO) (n : Nat) : Option AFb := match (List.range (n + 1)).find? (AVG ss0 ops l) with
 | some k => if (l.take k).any (Bb2 P) then (match A8q (AVG ⟨Bhg l, Baf l, false⟩ ops l) n with
   | some j => if (l.take j).any (Bb2 P) then (match A8q (AHM ⟨Bhg l, Baf l, false⟩ ops l) n with
     | some j' => some (.sdraw j' l [])
     | none => some (.sdraw j l [])) else some (.sdraw j l [])
   | none => none) else some (.draw k l [])
 | none => none
theorem A5e {P : Program} {ops : List Oper} {l : List VO} {n : Nat} {c : AFb} (h : A5j P ops l n = some c) : ∃ k, (c = .draw k l [] ∧ AHM ss0 ops l k = true) ∨ (c = .sdraw k l [] ∧ AHM (ssN k l) ops l (nOf k) = true) := by
 have low : ∀ {j}, AHM ⟨Bhg l, Baf l, false⟩ ops l j = true → j < 10000 → AHM (ssN j l) ops l (nOf j) = true := fun h1 h2 => by rw [BhI h2, Bi4 h2]; exact h1
 unfold A5j at h
 split at h
 ·rename_i k hk
  split at h
  ·split at h
   ·rename_i j hj
    obtain ⟨hj, hj2⟩ := AYd hj
    split at h
    ·split at h
     ·rename_i j' hj'
      obtain ⟨hj', hj2'⟩ := AYd hj'
      cases h; exact ⟨j', .inr ⟨rfl, low hj' hj2'⟩⟩
     ·cases h; exact ⟨j, .inr ⟨rfl, low (AOB hj) hj2⟩⟩
    ·cases h; exact ⟨j, .inr ⟨rfl, low (AOB hj) hj2⟩⟩
   ·cases h
  ·cases h; exact ⟨k, .inl ⟨rfl, AOB (List.find?_some hk)⟩⟩
 ·cases h
/-- Appends among what is to be A3l: what is loaded may be loaded while they go on. -/
def Bcm (ops : List Oper) (l : List VO) (n : Nat) : Option AFb := (A8q (AVG ⟨Bhg l, Baf l, true⟩ ops l) n).map fun j => .sdraw (10000 + j) l []
theorem A5Q {ops : List Oper} {l : List VO} {n : Nat} {c : AFb} (h : Bcm ops l n = some c) : ∃ k, c = .sdraw k l [] ∧ AHM (ssN k l) ops l (nOf k) = true := by
 obtain ⟨j, hj, rfl⟩ := Option.map_eq_some_iff.1 h
 obtain ⟨hj, hj2⟩ := AYd hj
 exact ⟨10000 + j, rfl, by rw [Bhr, BhT hj2]; exact AOB hj⟩
def A4t (bz : Bool) (P : Program) (N : Nat) (ops : Array Oper) : Option AFb := match trL bz P N ops.toList ops.toList with
 | some l => if P.follows .mixedOrders then (if l.any Bmh || l.any (Bb2 P) then (match trL bz P N (AFP ops.toList (Bgm ops.toList l)) (AFP ops.toList (Bgm ops.toList l)) with
   | some l' => if ATE (Bgm ops.toList l) ops.toList.length then A5j P (AFP ops.toList (Bgm ops.toList l)) l' ops.size else none
   | none => none)
  else (match (List.range (ops.size + 1)).find? (AVG ss0 ops.toList l) with
   | some n => if (l.take n).any Bov then (match trL bz P N (AFP ops.toList (Bgm ops.toList l)) (AFP ops.toList (Bgm ops.toList l)) with
     | some l' => if ATE (Bgm ops.toList l) ops.toList.length then (match Bcm (AFP ops.toList (Bgm ops.toList l)) l' ops.size with
       | some c => some c
       | none => some (.draw n l [])) else some (.draw n l [])
     | none => some (.draw n l [])) else some (.draw n l [])
   | none => none)) else none
 | none => none
theorem AVd {bz : Bool} {P : Program} {N : Nat} {ops : Array Oper} {c : AFb} (h : A4t bz P N ops = some c) : (∃ n l, c = .draw n l [] ∧ P.follows .mixedOrders = true ∧
  ((trL bz P N ops.toList ops.toList = some l ∧ AHM ss0 ops.toList l n = true) ∨ ∃ π, ATE π ops.toList.length = true ∧ trL bz P N (AFP ops.toList π) (AFP ops.toList π) = some l ∧ AHM ss0 (AFP ops.toList π) l n = true)) ∨
  ∃ n l, c = .sdraw n l [] ∧ P.follows .mixedOrders = true ∧ ∃ π, ATE π ops.toList.length = true ∧ trL bz P N (AFP ops.toList π) (AFP ops.toList π) = some l ∧ AHM (ssN n l) (AFP ops.toList π) l (nOf n) = true := by
 unfold A4t at h
 split at h
 ·rename_i l hl
  split at h
  ·rename_i hm
   split at h
   ·split at h
    ·rename_i l' hl'
     split at h
     ·rename_i hp
      obtain ⟨k, ⟨rfl, hk⟩ | ⟨rfl, hk⟩⟩ := A5e h
      ·exact .inl ⟨k, l', rfl, hm, .inr ⟨_, hp, hl', hk⟩⟩
      ·exact .inr ⟨k, l', rfl, hm, _, hp, hl', hk⟩
     ·cases h
    ·cases h
   ·split at h
    ·rename_i n hn
     have plain : ∀ {c : AFb}, some (AFb.draw n l []) = some c → _ := fun {c} (h : some (AFb.draw n l []) = some c) => (Or.inl ⟨n, l, (Option.some.inj h).symm, hm, .inl ⟨hl, AOB (List.find?_some hn)⟩⟩ : (∃ n l, c = .draw n l [] ∧ P.follows .mixedOrders = true ∧
  ((trL bz P N ops.toList ops.toList = some l ∧ AHM ss0 ops.toList l n = true) ∨ ∃ π, ATE π ops.toList.length = true ∧ trL bz P N (AFP ops.toList π) (AFP ops.toList π) = some l ∧ AHM ss0 (AFP ops.toList π) l n = true)) ∨
  ∃ n l, c = .sdraw n l [] ∧ P.follows .mixedOrders = true ∧ ∃ π, ATE π ops.toList.length = true ∧ trL bz P N (AFP ops.toList π) (AFP ops.toList π) = some l ∧ AHM (ssN n l) (AFP ops.toList π) l (nOf n) = true)
     split at h
     ·split at h
      ·rename_i l' hl'
       split at h
       ·rename_i hp
        split at h
        ·rename_i c' hc'
         cases h
         obtain ⟨k, rfl, hk⟩ := A5Q hc'
         exact .inr ⟨k, l', rfl, hm, _, hp, hl', hk⟩
        ·exact plain h
       ·exact plain h
      ·exact plain h
     ·exact plain h
    ·cases h
  ·cases h
 ·cases h
/-- A slice is made where all is to be A3l: it cannot be shown so. -/
def Bg0 : AFb → Bool
 | .draw n l _ => (l.take n).any fun v => match v.op with | .s (.bslice _ _ _ _) => true | _ => false
 | .sdraw n l _ => (l.take (nOf n)).any fun v => match v.op with | .s (.bslice _ _ _ _) => true | _ => false
 | _ => false
def A5D (P : Program) (N : Nat) (ops : Array Oper) : Option AFb := match A4t false P N ops with
 | some c => if Bg0 c then (match A4t true P N ops with | some c' => some c' | none => some c) else some c
 | none => none
theorem ATg {P : Program} {N : Nat} {ops : Array Oper} {c : AFb} (h : A5D P N ops = some c) : ∃ bz : Bool, (∃ n l, c = .draw n l [] ∧ P.follows .mixedOrders = true ∧
  ((trL bz P N ops.toList ops.toList = some l ∧ AHM ss0 ops.toList l n = true) ∨ ∃ π, ATE π ops.toList.length = true ∧ trL bz P N (AFP ops.toList π) (AFP ops.toList π) = some l ∧ AHM ss0 (AFP ops.toList π) l n = true)) ∨
  ∃ n l, c = .sdraw n l [] ∧ P.follows .mixedOrders = true ∧ ∃ π, ATE π ops.toList.length = true ∧ trL bz P N (AFP ops.toList π) (AFP ops.toList π) = some l ∧ AHM (ssN n l) (AFP ops.toList π) l (nOf n) = true := by
 unfold A5D at h
 split at h
 ·rename_i c1 h1
  split at h
  ·split at h
   ·rename_i c2 h2; cases h; exact ⟨true, AVd h2⟩
   ·cases h; exact ⟨false, AVd h1⟩
  ·cases h; exact ⟨false, AVd h1⟩
 ·cases h
theorem Bag {P : Program} {N : Nat} {ops : Array Oper} {c : AFb} (h : A5D P N ops = some c) (hc : ∀ n l, c ≠ .draw n l []) (hc2 : ∀ n l, c ≠ .sdraw n l []) : False := by
 obtain ⟨bz, ⟨n, l, e, _⟩ | ⟨n, l, e, _⟩⟩ := ATg h
 ·exact hc n l e
 ·exact hc2 n l e
def trC (P : Program) (N : Nat) : Code → Option AFb
 | .skip => some .skip
 | .region _ ops false => some (match trL false P N ops.toList ops.toList with | some l => .ops l [] | none => .dead)
 | .region _ ops true => some (match A5D P N ops with | some c => c | none => .dead)
 | .seq a b => match trC P N a, trC P N b with
  | some a, some b => some (.seq a b)
  | _, _ => none
 | .cond c a b => match trC P N a, trC P N b with
  | some a, some b => some (.cond (trO c) a b)
  | _, _ => none
 | .block id c => (trC P N c).map (.block id)
 | .loop c => (trC P N c).map (.loop [])
 | .exit id => some (.exit id)
 | .scope c => (trC P N c).map .scope
 | .label _ => some .skip
 | .ret => some .ret
 | .rangeFunc f ps aS bd => if ps.toList.all (· < N) then (match trC P N aS, trC P N bd with
  | some aS, some bd => some (.rfunc (trO f) ps.toList aS bd)
  | _, _ => none) else none
 | _ => some .dead
theorem Bdp {P : Program} {N id : Nat} {ops : Array Oper} {c : AFb} (h : trC P N (.region id ops false) = some c) : (∃ l, trL false P N ops.toList ops.toList = some l ∧ c = .ops l []) ∨ c = .dead := by
 simp only [trC, Option.some.injEq] at h
 split at h
 ·rename_i l hl; exact .inl ⟨l, hl, h.symm⟩
 ·exact .inr h.symm
theorem Bgd {P : Program} {N id : Nat} {ops : Array Oper} {c : AFb} (h : trC P N (.region id ops true) = some c) : A5D P N ops = some c ∨ c = .dead := by
 simp only [trC, Option.some.injEq] at h
 split at h
 ·rename_i l hl; exact .inl (hl.trans (by rw [h]))
 ·exact .inr h.symm
theorem AJP {P : Program} {N id : Nat} {ops : Array Oper} {c : AFb} (h : trC P N (.region id ops false) = some c) (hc : ∀ l, c ≠ .ops l []) (hd : c ≠ .dead) : False := by
 rcases Bdp h with ⟨l, _, e⟩ | e
 ·exact hc l e
 ·exact hd e
theorem AJQ {P : Program} {N id : Nat} {ops : Array Oper} {c : AFb} (h : trC P N (.region id ops true) = some c) (hc : ∀ n l, c ≠ .draw n l []) (hc2 : ∀ n l, c ≠ .sdraw n l []) (hd : c ≠ .dead) : False := by
 rcases Bgd h with e | e
 ·exact Bag e hc hc2
 ·exact hd e

/-- No loop over a function in it. -/
def A15 : AFb → Bool
 | .seq a b => A15 a && A15 b
 | .cond _ a b => A15 a && A15 b
 | .block _ c => A15 c
 | .loop _ c => A15 c
 | .scope c => A15 c
 | .own _ _ c => A15 c
 | .ownB _ _ _ c => A15 c
 | .ownT _ _ _ c => A15 c
 | .frz _ c => A15 c
 | .rfunc _ _ _ _ => false
 | _ => true

inductive VEx where
 | nor
 | exit (id : Nat)
 | ret
 | pan (u : Value)

def VEx.ex : VEx → Exit
 | .nor => .normal
 | .exit id => .exit id
 | .ret => .ret
 | .pan u => .panic [{ v := u, recovered := false }]

mutual
/-- It refers to no object from g on. -/
def AMJ (g : Nat) : TV → Bool
 | .op id _ _ => decide (id < g)
 | .os _ id _ _ _ _ _ => decide (id < g)
 | .mp id _ => decide (id < g)
 | .yl id _ => decide (id < g)
 | .agg cs => ASu g cs
 | .tup cs => ASu g cs
 | .ifc _ x => AMJ g x
 | .fn _ a b => ASu g a && ASu g b
 | _ => true
def ASu (g : Nat) : List TV → Bool
 | [] => true
 | x :: xs => AMJ g x && ASu g xs
end
def A1g (g : Nat) : Env → Bool
 | [] => true
 | (_, x) :: e => AMJ g x && A1g g e
def A5I (g : Nat) : Ob → Bool
 | .obj _ x => AMJ g x
 | .ice _ _ x => AMJ g x
 | .fact id _ _ _ => decide (id < g)
 | .lp _ _ _ _ e _ _ _ => A1g g e
 | .mpo _ es => ASu g (es.map (·.2))
 | .bld _ _ _ => true
 | .sit _ _ => true
 | .mpd _ zs _ => ASu g (zs.map (·.2.2))
 | .mit m _ _ => decide (m < g)
 | .gone _ => true
def AZr (g : Nat) : List Ob → Bool
 | [] => true
 | o :: H => A5I g o && AZr g H
/-- How a loop over a function is left. -/
def A8s (Q : VEx → Env → List Ob → Prop) (e : Env) (L : Nat) : TV → List Ob → Prop := fun _ H' => match H'[L]? with
 | some (.lp .ready none fn N e1 ps ca cb) => Q .nor e (H'.set L (.lp .exhausted none fn N e1 ps ca cb))
 | some (.lp .done (some .ret) fn N e1 ps ca cb) => Q .ret e (H'.set L (.lp .exhausted (some .ret) fn N e1 ps ca cb))
 | some (.lp .done (some (.exit i)) fn N e1 ps ca cb) => Q (.exit i) e (H'.set L (.lp .exhausted (some (.exit i)) fn N e1 ps ca cb))
 | _ => False
/-- The code of a loop's record is this. -/
structure Bgw (P : Program) (N : Nat) (ps : List Nat) (ca cb : Code) (aS bd : AFb) : Prop where
 a : trC P N ca = some (er aS)
 b : trC P N cb = some (er bd)
 p : ps.all (· < N) = true

def vwp (P : Program) : AFb → (VEx → Env → List Ob → Prop) → Env → List Ob → Prop
 | .ops l kp, Q, e, H => A1y P l (fun e H => Q .nor (forget kp e) H) e H
 | .opsZ l zs r kp, Q, e, H => A1y P l (Bjo zs (A1y P r (fun e H => Q .nor (forget kp e) H))) e H
 | .pops l kp, Q, e, H => AWl P (fun u H => Q (.pan u) (A7m l e) H) l (fun e H => Q .nor (forget kp e) H) e H
 | .pdraw n l kp, Q, e, H => vq P (l.take n) (fun e => AWl P (fun u H => Q (.pan u) [] H) (l.drop n) (fun e H => Q .nor (forget kp e) H) e H) e H
 | .sdraw n l kp, Q, e, H => vq P (l.take (nOf n)) (fun e => AQF (pvopS P (fun u H => Q (.pan u) [] H) (ssN n l)) (l.drop (nOf n)) (fun e H => Q .nor (forget kp e) H) e H) e H
 | .draw n l kp, Q, e, H => vq P (l.take n) (fun e => A1y P (l.drop n) (fun e H => Q .nor (forget kp e) H) e H) e H
 | .skip, Q, e, H => Q .nor e H
 | .seq a b, Q, e, H => vwp P a (fun x e H => match x with | .nor => vwp P b Q e H | .exit i => Q (.exit i) e H | .ret => Q .ret e H | .pan u => Q (.pan u) e H) e H
 | .cond c a b, Q, e, H => match c.ev e with
  | .val (.bool t) => if t = true then vwp P a Q e H else vwp P b Q e H
  | _ => False
 | .block id c, Q, e, H => vwp P c (fun x e H => match x with | .nor => Q .nor e H | .exit i => if i = id then Q .nor e H else Q (.exit i) e H | .ret => Q .ret e H | .pan u => Q (.pan u) e H) e H
 | .loop lv c, Q, e, H0 => ∃ (I : Nat → Env → List Ob → Prop) (n : Nat), I n (forget lv e) H0 ∧
   ∀ n e H, I n e H → vwp P c (fun x e H => match x with | .nor => ∃ m g, m < n ∧ (H0.length ≤ g ∧ (H.length ≤ g ∨ (A1g g (forget lv e) = true ∧ AZr g (H.take g) = true))) ∧ I m (forget lv e) (H.take g) | .exit i => Q (.exit i) e H | .ret => Q .ret e H | .pan u => Q (.pan u) e H) e H
 | .exit id, Q, e, H => Q (.exit id) e H
 | .ret, Q, e, H => Q .ret e H
 | .scope c, Q, e, H => vwp P c Q e H
 | .dead, _, _, _ => False
 | .own s k c, Q, e, H => match get e s with
  | .val (.slice none 0 0) => vwp P c Q ((s, .os k H.length 0 [] 0 0 0) :: e) (H ++ [.obj 0 (.arr 0 k [])])
  | _ => vwp P c Q e H
 | .ownB s p k c, Q, e, H => match get e s with
  | .op id ver p0 => (match H[id]? with
   | some (.obj v x) => v = ver ∧ (match AJ9 (p0 ++ p) x with
    | some (.val (.slice none 0 0)) => (match ANf (p0 ++ p) x (.os k H.length 0 [] 0 0 0) with
     | some x' => vwp P c Q e (H.set id (.obj ver x') ++ [.obj 0 (.arr 0 k [])])
     | none => False)
    | _ => vwp P c Q e H)
   | _ => False)
  | _ => False
 | .ownT s p t c, Q, e, H => match get e s with
  | .op id ver p0 => (match H[id]? with
   | some (.obj v x) => v = ver ∧ (match AJ9 (p0 ++ p) x with
    | some (.val (.slice none 0 0)) => (match ANf (p0 ++ p) x (.os 1 H.length 0 [] 0 0 0) with
     | some x' => vwp P c Q e (H.set id (.obj ver x') ++ [.bld 0 t []])
     | none => False)
    | _ => vwp P c Q e H)
   | _ => False)
  | _ => False
 | .frz s c, Q, e, H => match get e s with
  | .os k id ver p off n _ => (match H[id]? with
   | some (.obj v x) => v = ver ∧ (match AJf p k off n x with
    | some cs => vwp P c Q ((s, .sl k cs) :: e) (H.set id (.gone ver))
    | none => False)
   | _ => False)
  | _ => False
 | .rfunc f ps aS bd, Q, e, H => A15 aS = true ∧ A15 bd = true ∧ (match f.ev e with
  | .fn (.func g) first caps => A1T P g = true ∧ ∀ (N : Nat) (fn : FuncId) (ca cb : Code), Bgw P N ps ca cb aS bd → AFk P g (first ++ [.yl H.length 0] ++ caps) (H ++ [.lp .ready none fn N e ps ca cb]) (A8s Q e H.length)
  | .val (.func (.func g) xs ys) => (xs.isEmpty && ys.isEmpty) = true ∧ A1T P g = true ∧ ∀ (N : Nat) (fn : FuncId) (ca cb : Code), Bgw P N ps ca cb aS bd → AFk P g [.yl H.length 0] (H ++ [.lp .ready none fn N e ps ca cb]) (A8s Q e H.length)
  | _ => False)

section sound
variable {P : Program}
/-- The same cells, read otherwise. -/
theorem AY9 {c : Ctx} {w : World} : ∀ {p : List (Nat × Nat)} {x y z x' : TV} {us : List Value}, AFh c w x us → AJ9 p x = some z → (∀ m, AFh c w z m → AFh c w y m) → ANf p x y = some x' → AFh c w x' us := by
 intro p x y z x' us h hg hm hs
 obtain ⟨a, m, b, rfl, h1, h2⟩ := AMS h hg
 obtain ⟨a', m', b', e, h3, h4, h5, _⟩ := AUK h hs (hm m h2)
 have e1 : a = a' := by
  have := congrArg (List.take a.length) e
  rw [List.append_assoc, List.append_assoc, List.take_left] at this
  rw [this, List.take_left' (by omega)]
 subst e1
 rw [List.append_assoc, List.append_assoc] at e
 have e2 := List.append_cancel_left e
 have e3 : m = m' := by
  have := congrArg (List.take m.length) e2
  rw [List.take_left] at this
  rw [this, List.take_left' (by omega)]
 subst e3
 have e4 := List.append_cancel_left e2
 subst e4
 exact h5

/-- A row that is given away, read aS it stays. -/
theorem Sim.give {β : Nat → Nat → Option (Nat × Nat)} {H : List Ob} {F : Nat → Prop} {w : World} (hs : Sim ⟨β, H, F⟩ w) {k id ver off n cp : Nat} {p : List (Nat × Nat)} {x : TV} {cs : List TV} (hid : H[id]? = some (.obj ver x)) (hcs : AJf p k off n x = some cs) {us : List Value} (hr : AFh ⟨β, H, F⟩ w (.os k id ver p off n cp) us) :
  AFh ⟨β, H.set id (.gone ver), fun b => F b ∨ ∃ off, β id ver = some (b, off)⟩ w (.sl k cs) us := by
 have hm : AMv (Ctx.bare ⟨β, H, F⟩) w (Ctx.bare ⟨β, H.set id (.gone ver), fun b => F b ∨ ∃ off, β id ver = some (b, off)⟩) w :=
  ⟨fun b hb => ⟨.inl hb, rfl⟩, fun _ _ k => (Ctx.bare_has k).elim, fun _ _ => rfl⟩
 rw [AFh] at hr
 obtain ⟨hr1, hr2⟩ := hr
 rcases hr2 with ⟨rfl, a0, hr2, _⟩ | ⟨b0, o0, cap, t0, m0, hr2, hr3, hr4, hr5, hr6, hr7⟩
 ·have : cs = [] := by
   unfold AJf at hcs
   split at hcs
   ·split at hcs
    ·cases hcs; simp
    ·cases hcs
   ·cases hcs
  subst this
  rw [AFh]
  exact ⟨by simp, .inl ⟨rfl, a0, 0, hr2, by omega⟩⟩
 rcases hs.ob id _ hid with ⟨h0, _⟩ | ⟨b, off', pre, vs, post, t, fr, h0, h1, h2, h3, h4⟩
 ·have h0' : β id ver = none := h0
  have hr2' : β id ver = some (b0, o0) := hr2
  rw [h0'] at hr2'; cases hr2'
 have h0' : β id ver = some (b, off') := h0
 have hr2' : β id ver = some (b0, o0) := hr2
 rw [h0'] at hr2'
 obtain ⟨rfl, rfl⟩ : b = b0 ∧ off' = o0 := by simpa using hr2'
 obtain ⟨a, m, q, rfl, k1, k2, k3, k4⟩ := APF h4 hcs
 rw [AFh]
 refine ⟨k3, .inr ⟨b, off' + AGT p + off * k, cap, m, by rw [k4]; exact hr3, by omega, hr5, .inr ⟨off', h0'⟩, AFj.mono hm k2, ?_⟩⟩
 have e : off' + AGT p + off * k = pre.length + a.length := by rw [h3, k1]; omega
 rw [e]; exact AMy h1

theorem A35 {N : Nat} {D : List Deferred} : ∀ {zs : List Nat} {K : Env → List Ob → Prop} {e : Env} {H : List Ob} {β : Nat → Nat → Option (Nat × Nat)} {F : Nat → Prop} {w : World} {a : Act}, Bjo zs K e H → Sim ⟨β, H, F⟩ w → Fr N D ⟨β, H, F⟩ w e a →
  ∃ e' H' F', K e' H' ∧ Sim ⟨β, H', F'⟩ w ∧ Fr N D ⟨β, H', F'⟩ w e' a ∧ AFC ⟨β, H, F⟩ w ⟨β, H', F'⟩ w
 | [], K, e, H, β, F, w, a, h, hs, hf => ⟨e, H, F, h, hs, hf, AFC.refl _ _⟩
 | s :: zs, K, e, H, β, F, w, a, h, hs, hf => by
  rw [Bjo] at h
  split at h
  ·rename_i k id ver p off n cp hg
   split at h
   ·rename_i v y hid
    obtain ⟨rfl, h⟩ := h
    split at h
    ·rename_i cs hcs
     obtain ⟨k1, k2⟩ := hs.freeze hid rfl
     have hr : Rep ⟨β, H, F⟩ w (get e s) (a.tmps.getD s undef) := hf.env.1 s
     rw [hg] at hr
     have hr' : Rep ⟨β, H.set id (.gone v), fun b => F b ∨ ∃ off, β id v = some (b, off)⟩ w (.sl k cs) (a.tmps.getD s undef) := by
      rcases hr with (hr | hr | ⟨us, hr, hr2⟩) | ⟨xs, vs, hr, _⟩
      ·cases hr
      ·cases hr
      ·exact .inl (.inr (.inr ⟨us, hs.give hid hcs hr, by rw [hr2]; rfl⟩))
      ·cases hr
     obtain ⟨e', H', F', q1, q2, q3, q4⟩ := A35 h k1 (a := a) ⟨⟨fun s' => by
      rw [AGB]
      by_cases hss : s = s'
      ·subst hss; rw [if_pos rfl]; exact hr'
      ·rw [if_neg hss]; exact Rep.mono (k2.mono hs) (hf.env.1 s'), k1.glob⟩, hf.size, hf.defers⟩
     exact ⟨e', H', F', q1, q2, q3, k2.trans q4⟩
    ·exact h.elim
   ·exact h.elim
  ·exact h.elim
theorem BaT {P : Program} {N : Nat} {all : List Oper} : ∀ {os : List Oper} {l1 l2 : List VO}, trL false P N all os = some (l1 ++ l2) → ∃ o1 o2, os = o1 ++ o2 ∧ trL false P N all o1 = some l1 ∧ trL false P N all o2 = some l2
 | os, [], l2, h => ⟨[], os, rfl, rfl, h⟩
 | [], v :: l1, l2, h => by simp [trL] at h
 | o :: os, v :: l1, l2, h => by
  rw [trL] at h
  split at h
  ·rename_i v' g r hv hg hr
   split at h
   ·rename_i hd
    simp only [List.cons_append, Option.some.injEq, List.cons.injEq] at h
    obtain ⟨rfl, rfl⟩ := h
    obtain ⟨o1, o2, rfl, h1, h2⟩ := BaT hr
    refine ⟨o :: o1, o2, rfl, ?_, h2⟩
    rw [trL, hv, hg, h1]
    simp [hd]
   ·cases h
  ·cases h
theorem A69 {N : Nat} {D : List Deferred} {ro : Option Nat} {nn : Nat} {all : Array Oper} {os : List Oper} {l1 l2 : List VO} {zs : List Nat} (ht : trL false P N all.toList os = some (l1 ++ l2)) {K : Env → List Ob → Prop} {e : Env} {H : List Ob} {β : Nat → Nat → Option (Nat × Nat)} {F : Nat → Prop} {w : World} {a : Act} {QQ : Exit → Act → World → Prop}
  (h : A1y P l1 (Bjo zs (A1y P l2 K)) e H) (hs : Sim ⟨β, H, F⟩ w) (hf : Fr N D ⟨β, H, F⟩ w e a)
  (hk : ∀ e' H' β' F' w' a', K e' H' → Sim ⟨β', H', F'⟩ w' → Fr N D ⟨β', H', F'⟩ w' e' a' → AFC ⟨β, H, F⟩ w ⟨β', H', F'⟩ w' → QQ .normal a' w') : wpListIn (fz ro) nn P all QQ os a w := by
 obtain ⟨o1, o2, rfl, h1, h2⟩ := BaT ht
 refine A2W (ASt.vop (KP := fun _ _ => False)) h1 h hs hf (fun e' H' β' F' w' a' k1 k2 k3 k4 => ?_) (fun _ _ _ _ _ _ h => h.elim)
 obtain ⟨e2, H2, F2, q1, q2, q3, q4⟩ := A35 k1 k2 k3
 exact A32 h2 q1 q2 q3 fun e3 H3 β3 F3 w3 a3 m1 m2 m3 m4 => hk e3 H3 β3 F3 w3 a3 m1 m2 m3 ((k4.trans q4).trans m4)

theorem Sim.own {β : Nat → Nat → Option (Nat × Nat)} {H : List Ob} {F : Nat → Prop} {w : World} (hs : Sim ⟨β, H, F⟩ w) (k : Nat) :
  Sim ⟨upd β H.length 0 none, H ++ [.obj 0 (.arr 0 k [])], F⟩ w ∧ AFC ⟨β, H, F⟩ w ⟨upd β H.length 0 none, H ++ [.obj 0 (.arr 0 k [])], F⟩ w ∧
   AFh ⟨upd β H.length 0 none, H ++ [.obj 0 (.arr 0 k [])], F⟩ w (.os k H.length 0 [] 0 0 0) [.slice none 0 0] := by
 obtain ⟨k1, k2⟩ := hs.newNone (x := .arr 0 k []) (by rw [AFh]; exact ⟨rfl, by simp, by rw [AFj]⟩)
 exact ⟨k1, k2, by rw [AFh]; exact ⟨AJS _ _ _ _ _ (Nat.le_refl _), .inl ⟨rfl, none, rfl, rfl, fun _ h => by cases h⟩⟩⟩

theorem Sim.ownBld {β : Nat → Nat → Option (Nat × Nat)} {H : List Ob} {F : Nat → Prop} {w : World} (hs : Sim ⟨β, H, F⟩ w) (t : TypeId) :
  Sim ⟨upd β H.length 0 none, H ++ [.bld 0 t []], F⟩ w ∧ AFC ⟨β, H, F⟩ w ⟨upd β H.length 0 none, H ++ [.bld 0 t []], F⟩ w ∧
   AFh ⟨upd β H.length 0 none, H ++ [.bld 0 t []], F⟩ w (.os 1 H.length 0 [] 0 0 0) [.slice none 0 0] := by
 obtain ⟨k1, k2⟩ := hs.new (.bld 0 t []) rfl none (w' := w) (fun b off e => by cases e) rfl rfl rfl (Nat.le_refl _) (fun b hb => rfl) fun hm => .inl ⟨AFH, rfl⟩
 exact ⟨k1, k2, by rw [AFh]; exact ⟨AJS _ _ _ _ _ (Nat.le_refl _), .inl ⟨rfl, none, rfl, rfl, fun _ h => by cases h⟩⟩⟩

/-- Objects that nobody knows any more are forgotten. -/
def Ctx.cut (c : Ctx) (g : Nat) : Ctx := ⟨c.β, c.H.take g, c.F⟩
theorem Ctx.cut_has {c : Ctx} {g id ver : Nat} (h : c.has id ver) (hg : id < g) : (c.cut g).has id ver := by
 obtain ⟨o, h1, h2⟩ := h
 exact ⟨o, by show (c.H.take g)[id]? = some o; rw [List.getElem?_take, if_pos hg]; exact h1, h2⟩
theorem Ctx.cut_get {c : Ctx} {g id : Nat} {o : Ob} (h : (c.cut g).H[id]? = some o) : id < g ∧ c.H[id]? = some o := by
 have h' : (c.H.take g)[id]? = some o := h
 rw [List.getElem?_take] at h'
 split at h'
 ·exact ⟨‹_›, h'⟩
 ·cases h'
mutual
theorem AFh.cut {c : Ctx} {w : World} {g : Nat} : ∀ {x : TV} {us : List Value}, AMJ g x = true → AFh c w x us → AFh (c.cut g) w x us
 | .val y, us, hf, hr => by rw [AFh] at hr ⊢; exact hr
 | .any, us, hf, hr => by rw [AFh] at hr ⊢; exact hr
 | .sl k cs, us, hf, hr => by rw [AFh] at hr ⊢; exact hr
 | .fp x, us, hf, hr => by rw [AFh] at hr ⊢; exact hr
 | .arr n k cs, us, hf, hr => by rw [AFh] at hr ⊢; exact hr
 | .op id ver p, us, hf, hr => by
  rw [AMJ, decide_eq_true_eq] at hf; rw [AFh] at hr ⊢; exact ⟨Ctx.cut_has hr.1 hf, hr.2⟩
 | .os k id ver p off n cp, us, hf, hr => by
  rw [AMJ, decide_eq_true_eq] at hf; rw [AFh] at hr ⊢; exact ⟨Ctx.cut_has hr.1 hf, hr.2⟩
 | .mp id ver, us, hf, hr => by
  rw [AMJ, decide_eq_true_eq] at hf; rw [AFh] at hr ⊢; exact ⟨Ctx.cut_has hr.1 hf, hr.2⟩
 | .yl id ver, us, hf, hr => by
  rw [AMJ, decide_eq_true_eq] at hf; rw [AFh] at hr ⊢; exact ⟨Ctx.cut_has hr.1 hf, hr.2⟩
 | .agg cs, us, hf, hr => by rw [AMJ] at hf; rw [AFh] at hr ⊢; exact AFj.cut hf hr
 | .tup cs, us, hf, hr => by rw [AFh] at hr; exact hr.elim
 | .ifc t x, us, hf, hr => by
  rw [AMJ] at hf; rw [AFh] at hr ⊢
  obtain ⟨u, h1, vs, h2, h3⟩ := hr
  exact ⟨u, h1, vs, AFh.cut hf h2, h3⟩
 | .fn f a b, us, hf, hr => by
  rw [AMJ, Bool.and_eq_true] at hf; rw [AFh] at hr ⊢
  obtain ⟨aS, bs, h1, h2, h3⟩ := hr
  exact ⟨aS, bs, h1, AF9.cut hf.1 h2, AF9.cut hf.2 h3⟩
theorem AFj.cut {c : Ctx} {w : World} {g : Nat} : ∀ {xs : List TV} {us : List Value}, ASu g xs = true → AFj c w xs us → AFj (c.cut g) w xs us
 | [], us, hf, hr => by rw [AFj] at hr ⊢; exact hr
 | x :: xs, us, hf, hr => by
  rw [ASu, Bool.and_eq_true] at hf; rw [AFj] at hr ⊢
  obtain ⟨a, b, h1, h2, h3⟩ := hr
  exact ⟨a, b, h1, AFh.cut hf.1 h2, AFj.cut hf.2 h3⟩
theorem AF9.cut {c : Ctx} {w : World} {g : Nat} : ∀ {xs : List TV} {us : List Value}, ASu g xs = true → AF9 c w xs us → AF9 (c.cut g) w xs us
 | [], us, hf, hr => by rw [AF9] at hr ⊢; exact hr
 | x :: xs, us, hf, hr => by
  rw [ASu, Bool.and_eq_true] at hf; rw [AF9] at hr ⊢
  obtain ⟨u, us, h1, h2, h3⟩ := hr
  refine ⟨u, us, h1, ?_, AF9.cut hf.2 h3⟩
  rcases h2 with h2 | h2 | ⟨aS, h2, h4⟩
  ·exact .inl h2
  ·exact .inr (.inl h2)
  ·exact .inr (.inr ⟨aS, AFh.cut hf.1 h2, h4⟩)
end
theorem Rep.cut {c : Ctx} {w : World} {g : Nat} {x : TV} {v : Value} (hf : AMJ g x = true) (hr : Rep c w x v) : Rep (c.cut g) w x v := by
 rcases hr with (h | h | ⟨us, h, h'⟩) | ⟨xs, vs, rfl, h2, h3⟩
 ·exact .inl (.inl h)
 ·exact .inl (.inr (.inl h))
 ·exact .inl (.inr (.inr ⟨us, AFh.cut hf h, h'⟩))
 ·rw [AMJ] at hf; exact .inr ⟨xs, vs, rfl, h2, AF9.cut hf h3⟩
theorem A0H {g : Nat} : ∀ {e : Env}, A1g g e = true → ∀ s, AMJ g (get e s) = true
 | [], _, s => rfl
 | (k, x) :: e, h, s => by
  rw [A1g, Bool.and_eq_true] at h
  rw [AGB]
  split
  ·exact h.1
  ·exact A0H h.2 s
theorem A4g {g : Nat} : ∀ {H : List Ob}, AZr g H = true → ∀ (i : Nat) (o : Ob), H[i]? = some o → A5I g o = true
 | [], _, i, o, h => by simp at h
 | o :: H, h, i, o', hi => by
  rw [AZr, Bool.and_eq_true] at h
  cases i with
  | zero => simp at hi; subst hi; exact h.1
  | succ i => exact A4g h.2 i o' (by simpa using hi)
theorem AFM.cut {c : Ctx} {w : World} {g : Nat} {kk : MK} : ∀ {es : List (List UInt8 × TV)} {ms : List MapEntry}, ASu g (es.map (·.2)) = true → AFM c w kk es ms → AFM (c.cut g) w kk es ms
 | [], ms, _, h => h
 | (k, x) :: es, ms, hb, h => by
  rw [List.map_cons, ASu, Bool.and_eq_true] at hb
  obtain ⟨m, r, rfl, h1, h2, h3⟩ := h
  exact ⟨m, r, rfl, h1, ⟨AFh.cut hb.1 h2.1, h2.2⟩, AFM.cut hb.2 h3⟩
theorem Sim.cut {c : Ctx} {w : World} {g : Nat} (hs : Sim c w) (hg : AZr g (c.H.take g) = true) : Sim (c.cut g) w := by
 have hown : ∀ b, (c.cut g).own b → c.own b := by
  rintro b ⟨i, o, off, h1, h2, h3⟩
  exact ⟨i, o, off, (Ctx.cut_get h1).2, h2, h3⟩
 refine ⟨fun id o ho => ?_, fun i j x y b o o' hx hy hlx hly e e' => hs.inj i j x y b o o' (Ctx.cut_get hx).2 (Ctx.cut_get hy).2 hlx hly e e', fun b hb => hs.apart b (hown b hb), hs.lt, hs.glob⟩
 have h1 := hs.ob id o (Ctx.cut_get ho).2
 have hb := A4g hg id o ho
 cases o with
 | gone v => trivial
 | ice v m x =>
  obtain ⟨b, off, pre, vs, post, t, fr, h0, h1, h2, h3, h4⟩ := h1
  exact ⟨b, off, pre, vs, post, t, fr, h0, h1, h2, h3, AFh.cut hb h4⟩
 | bld v t l => exact h1
 | fact i v t m =>
  obtain ⟨h0, h2⟩ := h1
  exact ⟨Ctx.cut_has h0 (by simpa [A5I] using hb), h2⟩
 | lp st pend fn N en ps ca cb =>
  obtain ⟨b, tmps, D, h0, h1, h2, h3⟩ := h1
  exact ⟨b, tmps, D, h0, h1, h2, fun s => Rep.cut (A0H hb s) (h3 s)⟩
 | mpo kk es =>
  obtain ⟨b, ms, cl, h0, h1, h2, h3⟩ := h1
  exact ⟨b, ms, cl, h0, h1, AFM.cut hb h2, h3⟩
 | sit s pos => exact h1
 | mpd kk zs cl =>
  obtain ⟨b, ms, h0, h1, h2, h3⟩ := h1
  exact ⟨b, ms, h0, h1, AFM.cut (by rw [List.map_map]; exact hb) h2, h3⟩
 | mit m sn cl =>
  obtain ⟨r, b, h0, ⟨g0, g1⟩, h1⟩ := h1
  exact ⟨r, b, h0, ⟨Ctx.cut_has g0 (by simpa [A5I] using hb), g1⟩, h1⟩
 | obj v x =>
  rcases h1 with ⟨h0, h4⟩ | ⟨b, off, pre, vs, post, t, fr, h0, h1, h2, h3, h4⟩
  ·exact .inl ⟨h0, AFh.cut hb h4⟩
  ·exact .inr ⟨b, off, pre, vs, post, t, fr, h0, h1, h2, h3, AFh.cut hb h4⟩
theorem AFC.cut {c0 c : Ctx} {w0 w : World} {g : Nat} (hl : AFC c0 w0 c w) (hg : c0.H.length ≤ g) : AFC c0 w0 (c.cut g) w :=
 ⟨hl.os, hl.tape, hl.output, hl.size, fun id ver h => by
  obtain ⟨h1, h2⟩ := hl.has id ver h
  exact ⟨Ctx.cut_has h1 (Nat.lt_of_lt_of_le (Ctx.has_lt h) hg), h2⟩, hl.shape, hl.same, hl.keepF, hl.oldF, fun b hb ⟨i, o, off, h1, h2, h3⟩ => hl.oldOwn b hb ⟨i, o, off, (Ctx.cut_get h1).2, h2, h3⟩⟩

/-- The blocks for the calls that rounds defer: each holds none. -/
def ASN (D0 : List Deferred) (B : Nat) (c : Ctx) (w : World) (D : List Deferred) : Prop := ∃ ds : List Nat, D = ds.map (fun r => { target := .collected r, args := #[] }) ++ D0 ∧ ds.Nodup ∧ ∀ r ∈ ds, B ≤ r ∧ r < w.heap.size ∧ ¬ c.own r ∧ ¬ c.F r ∧ w.heap[r]? = some (.deferred (some []))
theorem ASN.nil {D0 : List Deferred} {B : Nat} {c : Ctx} {w : World} : ASN D0 B c w D0 := ⟨[], rfl, List.nodup_nil, fun r h => by cases h⟩
theorem ASN.later {D0 : List Deferred} {B : Nat} {c c' : Ctx} {w w' : World} {D : List Deferred} (h : ASN D0 B c w D) (hl : AFC c w c' w') : ASN D0 B c' w' D := by
 obtain ⟨ds, h1, h2, h3⟩ := h
 refine ⟨ds, h1, h2, fun r hr => ?_⟩
 obtain ⟨k1, k2, k3, k4, k5⟩ := h3 r hr
 exact ⟨k1, Nat.lt_of_lt_of_le k2 hl.size, fun h => k3 (hl.oldOwn r k2 h), fun h => (hl.oldF r k2 h).elim k4 k3, (hl.same r k2 k3).trans k5⟩
theorem ASN.cut {D0 : List Deferred} {B g : Nat} {c : Ctx} {w : World} {D : List Deferred} (h : ASN D0 B c w D) : ASN D0 B (c.cut g) w D := by
 obtain ⟨ds, h1, h2, h3⟩ := h
 refine ⟨ds, h1, h2, fun r hr => ?_⟩
 obtain ⟨k1, k2, k3, k4, k5⟩ := h3 r hr
 exact ⟨k1, k2, fun ⟨i, o, off, h1, h2, h3⟩ => k3 ⟨i, o, off, (Ctx.cut_get h1).2, h2, h3⟩, k4, k5⟩

theorem AVa (w : World) (r : Nat) (o : Obj) : (w.putObj r o).os = w.os ∧ (w.putObj r o).tape = w.tape ∧ (w.putObj r o).output = w.output ∧ (w.putObj r o).heap.size = w.heap.size := ⟨rfl, rfl, rfl, by simp [World.putObj]⟩
theorem A4c {w : World} {b : Nat} {r : Loop} (h : w.heap[b]? = some (.loop r)) : w.shape? b = none := by simp [World.shape?, h]

/-- A loop's record turns. -/
theorem Sim.loopTurn {β : Nat → Nat → Option (Nat × Nat)} {H : List Ob} {F : Nat → Prop} {w : World} (hs : Sim ⟨β, H, F⟩ w) {id N : Nat} {fn : FuncId} {e : Env} {ps : List Nat} {ca cb : Code} {st st' : LoopState} {pe pe' : Option Code}
  (ho : H[id]? = some (.lp st pe fn N e ps ca cb)) : ∃ (b : Nat) (r : Loop), β id 0 = some (b, 0) ∧ w.heap[b]? = some (.loop r) ∧ r.state = st ∧ r.pending = pe ∧ r.fn = fn ∧ r.tmps.size = N ∧ r.params = ps.toArray ∧ r.assign = ca ∧ r.body = cb ∧ (∀ s, Rep ⟨β, H, F⟩ w (get e s) (r.tmps.getD s undef)) ∧
   Sim ⟨β, H.set id (.lp st' pe' fn N e ps ca cb), F⟩ (w.putObj b (.loop { r with state := st', pending := pe' })) ∧
   AFC ⟨β, H, F⟩ w ⟨β, H.set id (.lp st' pe' fn N e ps ca cb), F⟩ (w.putObj b (.loop { r with state := st', pending := pe' })) := by
 obtain ⟨b, tmps, D, h1, h2, h3, h4⟩ := hs.ob id _ ho
 have hlt : b < w.heap.size := (Array.getElem?_eq_some_iff.1 h2).1
 have hid : id < H.length := (List.getElem?_eq_some_iff.1 ho).1
 have hput := World.putObj_heap_same (w := w) (o := .loop { state := st', pending := pe', fn := fn, tmps := tmps, params := ps.toArray, assign := ca, body := cb, defers := D }) hlt
 obtain ⟨k1, k2⟩ := hs.turn (β' := β) (w' := w.putObj b (.loop { state := st', pending := pe', fn := fn, tmps := tmps, params := ps.toArray, assign := ca, body := cb, defers := D })) ho (o' := .lp st' pe' fn N e ps ca cb) rfl rfl (Nat.le_refl _) (fun _ _ _ => rfl) (fun b' off hb => .inl ⟨off, hb⟩) rfl rfl rfl
  (by rw [(AVa _ _ _).2.2.2]; exact Nat.le_refl _) (fun b' hb' => by
   by_cases hbb : b' = b
   ·subst hbb; rw [A4c h2, A4c hput]
   ·exact AGv (World.putObj_heap_other hbb)) (fun b' hb' hne => World.putObj_heap_other (fun e => hne 0 (by subst e; exact h1)))
  (fun hm => ⟨b, tmps, D, h1, hput, h3, fun s => Rep.mono hm (h4 s)⟩)
 exact ⟨b, { state := st, pending := pe, fn := fn, tmps := tmps, params := ps.toArray, assign := ca, body := cb, defers := D }, h1, h2, rfl, rfl, rfl, h3, rfl, rfl, rfl, h4, k1, k2⟩


/-- THE STATEMENT 'for .. := range g'. -/
theorem A2I {N nn : Nat} {f0 : Operand} {ps0 : Array Tmp} {ca cb : Code} {Q : VEx → Env → List Ob → Prop} {e : Env} {H : List Ob} {β : Nat → Nat → Option (Nat × Nat)} {F : Nat → Prop} {w : World} {a : Act} {QQ : Exit → Act → World → Prop} {B : Nat} {D D0 : List Deferred}
  (hs : Sim ⟨β, H, F⟩ w) (hf : Fr N D ⟨β, H, F⟩ w e a) (hm : ASN D0 B ⟨β, H, F⟩ w D) (hB : B ≤ w.heap.size) {g : FuncId} {us vs : List Value} {first caps : List TV} (hv : a.eval f0 = .func (.func g) us.toArray vs.toArray) (hgo : A1T P g = true) (hfi : AF9 ⟨β, H, F⟩ w first us) (hc : AF9 ⟨β, H, F⟩ w caps vs)
  (h : ∀ fn, AFk P g (first ++ [.yl H.length 0] ++ caps) (H ++ [.lp .ready none fn N e ps0.toList ca cb]) (A8s Q e H.length))
  (hk : ∀ x e' H' β' F' w' a' D', Q x e' H' → Sim ⟨β', H', F'⟩ w' → Fr N D' ⟨β', H', F'⟩ w' e' a' → ASN D0 B ⟨β', H', F'⟩ w' D' → AFC ⟨β, H, F⟩ w ⟨β', H', F'⟩ w' → QQ x.ex a' w') : (Code.rangeFunc f0 ps0 ca cb).wpIn (fz none) nn P QQ a w := by
 refine wpIn_rangeFunc ?_
 intro fn hfn
 obtain ⟨rec, hrec⟩ : ∃ rec : Loop, rec = { state := .ready, pending := none, fn := fn, tmps := a.tmps, params := ps0, assign := ca, body := cb, defers := w.heap.size } := ⟨_, rfl⟩
 obtain ⟨W1, hW1⟩ : ∃ W1, (w.alloc (.deferred (some []))).alloc (.loop rec) = W1 := ⟨_, rfl⟩
 have hL1 : W1.heap[w.heap.size + 1]? = some (.loop rec) := by
  rw [← hW1]; have := World.alloc_heap_new (w.alloc (.deferred (some []))) (.loop rec); rwa [World.size_alloc] at this
 have hK1 : W1.heap[w.heap.size]? = some (.deferred (some [])) := by
  rw [← hW1]; exact (Below.heap_alloc _ _ _ (by simp)).trans (World.alloc_heap_new w _)
 have hsz : W1.heap.size = w.heap.size + 2 := by rw [← hW1]; simp
 have hold : ∀ b, b < w.heap.size → W1.heap[b]? = w.heap[b]? := fun b hb => by
  rw [← hW1]; exact (Below.heap_alloc _ _ _ (by simp; omega)).trans (Below.heap_alloc _ _ _ hb)
 obtain ⟨k1, k2⟩ := hs.new (w' := W1) (.lp .ready none fn N e ps0.toList ca cb) rfl (some (w.heap.size + 1, 0)) (fun b off h => by simp at h; omega) (by rw [← hW1]; rfl) (by rw [← hW1]; rfl) (by rw [← hW1]; rfl) (by omega) hold
  (fun hmo => ⟨w.heap.size + 1, a.tmps, w.heap.size, AFH, by rw [hL1, hrec], hf.size, fun s => Rep.mono hmo (hf.env.1 s)⟩)
 have hmo := k2.mono hs
 have hown1 : ∀ b, Ctx.own ⟨upd β H.length 0 (some (w.heap.size + 1, 0)), H ++ [.lp .ready none fn N e ps0.toList ca cb], F⟩ b → b ≠ w.heap.size := by
  rintro b ⟨i, o, off, h1, h2, h3⟩ rfl
  by_cases hi : i < H.length
  ·rw [List.getElem?_append_left hi] at h1
   have h3' : β i o.ver = some (w.heap.size, off) := by
    have h3 : upd β H.length 0 (some (w.heap.size + 1, 0)) i o.ver = some (w.heap.size, off) := h3
    rw [AY2 (fun h => by omega)] at h3; exact h3
   have := hs.own_lt ⟨i, o, off, h1, h2, h3'⟩
   omega
  ·have hil : i = H.length := by
    have := (List.getElem?_eq_some_iff.1 h1).1
    simp at this; omega
   subst hil
   simp at h1
   subst h1
   have h3 : upd β H.length 0 (some (w.heap.size + 1, 0)) H.length 0 = some (w.heap.size, off) := h3
   rw [AFH] at h3
   simp at h3
 refine ⟨w.heap.size + 1, [{ target := .collected w.heap.size, args := #[] }], W1, { target := .fn (.func g) vs.toArray, args := us.toArray ++ #[.func (.yield (w.heap.size + 1)) #[] #[]] }, W1, g,
  us.toArray ++ #[.func (.yield (w.heap.size + 1)) #[] #[]] ++ vs.toArray, W1, ?_, ?_, ?_, ?_, ?_, ?_⟩
 ·rw [← hW1, hrec]; exact run_enterLoop_outer _ _ _ _ _
 ·simp only [resolve, hv]
  simp [go_sem]
 ·intro f' hf'; trivial
 ·simp only [invoke, AMf hgo]
 ·intro h; simp [fz, Fence.wide] at h
 ·refine (callsIn_wide (n := nn - 1)).2 ?_
  have hargs : AF9 ⟨upd β H.length 0 (some (w.heap.size + 1, 0)), H ++ [.lp .ready none fn N e ps0.toList ca cb], F⟩ W1 (first ++ [.yl H.length 0] ++ caps) (us ++ [.func (.yield (w.heap.size + 1)) #[] #[]] ++ vs) := by
   refine AF9.append (AF9.append (AF9.mono hmo hfi) (AF9.cons.2 ⟨_, [], rfl, .inr (.inr ⟨[.func (.yield (w.heap.size + 1)) #[] #[]], ?_, rfl⟩), by rw [AF9]⟩)) (AF9.mono hmo hc)
   rw [AFh]
   exact ⟨AJS _ _ _ _ _ (Nat.le_refl _), _, _, AFH, rfl⟩
  have hcall := h fn _ _ W1 _ k1 hargs
  rw [show (us ++ [Value.func (.yield (w.heap.size + 1)) #[] #[]] ++ vs).toArray = us.toArray ++ #[.func (.yield (w.heap.size + 1)) #[] #[]] ++ vs.toArray from by simp] at hcall
  refine hcall.mono ?_
  rintro _ w3 ⟨v, x, β', H', F', rfl, hR, hs', hl', hx⟩
  have hmk : ASN D0 B ⟨β', H', F'⟩ w3 ({ target := .collected w.heap.size, args := #[] } :: D) := by
   have h1 : ASN D0 B ⟨upd β H.length 0 (some (w.heap.size + 1, 0)), H ++ [.lp .ready none fn N e ps0.toList ca cb], F⟩ W1 ({ target := .collected w.heap.size, args := #[] } :: D) := by
    obtain ⟨ds, d1, d2, d3⟩ := hm.later k2
    refine ⟨w.heap.size :: ds, by rw [d1]; rfl, List.nodup_cons.2 ⟨fun hin => ?_, d2⟩, fun r hr => ?_⟩
    ·obtain ⟨ds', e1, e2, e3⟩ := hm
     have : ds' = ds := by
      have : ds'.map (fun r => ({ target := .collected r, args := #[] } : Deferred)) = ds.map (fun r => { target := .collected r, args := #[] }) := List.append_cancel_right (e1.symm.trans d1)
      exact (List.map_inj_right (fun a b h => by simpa using h)).1 this
     rw [← this] at hin
     have := (e3 _ hin).2.1
     omega
    ·rcases List.mem_cons.1 hr with rfl | hr
     ·exact ⟨hB, by omega, fun ho => hown1 _ ho rfl, fun hF => absurd (hs.lt _ hF) (by omega), hK1⟩
     ·exact d3 r hr
   exact h1.later hl'
  have fin : ∀ (st : LoopState) (pe : Option Code) (fn' : FuncId) (N' : Nat) (e1 : Env) (ps1 : List Nat) (c1 c2 : Code), st ≠ .busy → H'[H.length]? = some (.lp st pe fn' N' e1 ps1 c1 c2) →
    ∃ w4, (Instr.endLoop (w.heap.size + 1)).run P w3 = .ok pe w4 ∧ Sim ⟨β', H'.set H.length (.lp .exhausted pe fn' N' e1 ps1 c1 c2), F'⟩ w4 ∧ AFC ⟨β', H', F'⟩ w3 ⟨β', H'.set H.length (.lp .exhausted pe fn' N' e1 ps1 c1 c2), F'⟩ w4 := by
   intro st pe fn' N' e1 ps1 c1 c2 hst hob
   obtain ⟨b, r, r1, r2, r3, r4, _, _, _, _, _, _, r5, r6⟩ := hs'.loopTurn (st' := .exhausted) (pe' := pe) hob
   have hβ : β' H.length 0 = some (w.heap.size + 1, 0) := ((hl'.has H.length 0 (AJS _ _ _ _ _ (Nat.le_refl _))).2).trans AFH
   rw [hβ] at r1
   obtain ⟨rfl, _⟩ : w.heap.size + 1 = b ∧ True := by simpa using r1
   subst r4
   exact ⟨_, run_endLoop (P := P) r2 (by rw [r3]; exact hst), r5, r6⟩
  have hfr : ∀ {c : Ctx} {w4 : World}, AFC ⟨β, H, F⟩ w c w4 → AJB c.F w4 → Fr N ({ target := .collected w.heap.size, args := #[] } :: D) c w4 e { a with defers := { target := .collected w.heap.size, args := #[] } :: a.defers } := fun {c w4} hl hgl =>
   ⟨⟨fun s => Rep.mono (hl.mono hs) (hf.env.1 s), hgl⟩, hf.size, by rw [hf.defers]⟩
  unfold A8s at hR
  simp only [rangePost]
  split at hR
  ·rename_i hob
   obtain ⟨w4, e1, e2, e3⟩ := fin .ready none _ _ _ _ _ _ (by simp) hob
   exact ⟨none, w4, e1, hk .nor _ _ _ _ _ _ _ hR e2 (hfr ((k2.trans hl').trans e3) e2.glob) (hmk.later e3) ((k2.trans hl').trans e3)⟩
  ·rename_i hob
   obtain ⟨w4, e1, e2, e3⟩ := fin .done (some .ret) _ _ _ _ _ _ (by simp) hob
   exact ⟨some .ret, w4, e1, wpIn_ret (hk .ret _ _ _ _ _ _ _ hR e2 (hfr ((k2.trans hl').trans e3) e2.glob) (hmk.later e3) ((k2.trans hl').trans e3))⟩
  ·rename_i i _ _ _ _ _ _ hob
   obtain ⟨w4, e1, e2, e3⟩ := fin .done (some (.exit _)) _ _ _ _ _ _ (by simp) hob
   exact ⟨some (.exit _), w4, e1, wpIn_exit (hk (.exit _) _ _ _ _ _ _ _ hR e2 (hfr ((k2.trans hl').trans e3) e2.glob) (hmk.later e3) ((k2.trans hl').trans e3))⟩
  ·exact hR.elim

theorem AJ2 {b : Frame} {a : Act} {k : List Item} {cs : List Frame} {w : World} {c : Code} : step P (lone (b.atR a (.code (.scope c) :: k)) cs w) = .next (lone (b.atR a (.code c :: .inScope c :: k)) cs w) :=
 step_lone_go (by simp [stepG, stepG.exec, Frame.atR])
theorem A3f {b : Frame} {a : Act} {k : List Item} {cs : List Frame} {w : World} {c : Code} : step P (lone (b.atR a (.inScope c :: k)) cs w) = .next (lone (b.atR a k) cs w) :=
 step_lone_go (by simp [stepG, stepG.exec, Frame.atR])
/-- A scope through which the run goes without a jump. -/
theorem A7J {F : Fence} {n : Nat} {Q : Exit → Act → World → Prop} {a : Act} {w : World} {c : Code} (h : c.wpIn F n P (Exit.noGoto Q) a w) : (Code.scope c).wpIn F n P Q a w := by
 intro b k cs hro hb hr
 have h0 : (lone (b.atR a (.code (.scope c) :: k)) cs w).fenced P F := fenced_calm hb hr rfl
 obtain ⟨e, a₁, w₁, hq, harr⟩ := h b (.inScope c :: k) cs hro hb hr
 cases e with
 | normal => exact ⟨.normal, a₁, w₁, hq, .head h0 AJ2 (StepsIn.trans harr (.one (fenced_calm hb hr rfl) A3f))⟩
 | exit id' =>
  have hx : exitTo id' (.inScope c :: k) = exitTo id' k := by simp [exitTo]
  exact ⟨.exit id', a₁, w₁, hq, fun k' hk => .head h0 AJ2 (harr.1 k' (by rw [hx]; exact hk)),
   fun hr' hk => let ⟨k₁, h1, h2⟩ := harr.2 hr' (by rw [hx]; exact hk); ⟨k₁, h1, .head h0 AJ2 h2⟩⟩
 | goto l => exact hq.elim
 | ret => exact ⟨_, a₁, w₁, hq, .of_steps (.one h0 AJ2) harr⟩
 | panic ch => exact ⟨_, a₁, w₁, hq, .of_steps (.one h0 AJ2) harr⟩
 | outgrown => exact ⟨_, a₁, w₁, hq, .of_steps (.one h0 AJ2) harr⟩

theorem Bcz {N : Nat} {ro : Option Nat} {nn : Nat} : ∀ (vc : AFb) {code : Code}, (ro = none ∨ A15 vc = true) → trC P N code = some (er vc) → ∀ {Q : VEx → Env → List Ob → Prop} {e : Env} {H : List Ob} {β : Nat → Nat → Option (Nat × Nat)} {F : Nat → Prop} {w : World} {a : Act} {QQ : Exit → Act → World → Prop} {B : Nat} {D D0 : List Deferred},
  vwp P vc Q e H → Sim ⟨β, H, F⟩ w → Fr N D ⟨β, H, F⟩ w e a → ASN D0 B ⟨β, H, F⟩ w D → B ≤ w.heap.size →
  (∀ x e' H' β' F' w' a' D', Q x e' H' → Sim ⟨β', H', F'⟩ w' → Fr N D' ⟨β', H', F'⟩ w' e' a' → ASN D0 B ⟨β', H', F'⟩ w' D' → AFC ⟨β, H, F⟩ w ⟨β', H', F'⟩ w' → QQ x.ex a' w') → code.wpIn (fz ro) nn P QQ a w := by
 intro vc
 have inv : ∀ {code : Code} {v : AFb}, trC P N code = some v → True := fun _ => trivial
 induction vc with
 | ops l kp =>
  intro code hrf ht Q e H β F w a QQ B D D0 h hs hf hm hB hk
  rw [er] at ht
  cases code with
  | region id ops d =>
   cases d with
   | true => exact (AJQ ht (by simp) (by simp) (by simp)).elim
   | false =>
    obtain ⟨l', hl, e9⟩ := (Bdp ht).resolve_right (by simp)
    simp only [AFb.ops.injEq, and_true] at e9
    subst e9
    rw [vwp] at h
    exact wpIn_region_list (A32 hl h hs hf fun e' H' β' F' w' a' k1 k2 k3 k4 => hk .nor _ _ _ _ _ _ _ k1 k2 (k3.forget kp) (hm.later k4) k4)
  | seq x y => simp only [trC] at ht; split at ht <;> simp at ht
  | cond c x y => simp only [trC] at ht; split at ht <;> simp at ht
  | rangeFunc f ps x y => simp only [trC] at ht; split at ht <;> (try split at ht) <;> simp at ht
  | _ => simp [trC] at ht
 | opsZ l zs r kp =>
  intro code hrf ht Q e H β F w a QQ B D D0 h hs hf hm hB hk
  rw [er] at ht
  cases code with
  | region id ops d =>
   cases d with
   | true => exact (AJQ ht (by simp) (by simp) (by simp)).elim
   | false =>
    obtain ⟨l', hl, e9⟩ := (Bdp ht).resolve_right (by simp)
    simp only [AFb.ops.injEq, and_true] at e9
    subst e9
    rw [vwp] at h
    exact wpIn_region_list (A69 hl h hs hf fun e' H' β' F' w' a' k1 k2 k3 k4 => hk .nor _ _ _ _ _ _ _ k1 k2 (k3.forget kp) (hm.later k4) k4)
  | seq x y => simp only [trC] at ht; split at ht <;> simp at ht
  | cond c x y => simp only [trC] at ht; split at ht <;> simp at ht
  | rangeFunc f ps x y => simp only [trC] at ht; split at ht <;> (try split at ht) <;> simp at ht
  | _ => simp [trC] at ht
 | pops l kp =>
  intro code hrf ht Q e H β F w a QQ B D D0 h hs hf hm hB hk
  rw [er] at ht
  cases code with
  | region id ops d =>
   cases d with
   | true => exact (AJQ ht (by simp) (by simp) (by simp)).elim
   | false =>
    obtain ⟨l', hl, e9⟩ := (Bdp ht).resolve_right (by simp)
    simp only [AFb.ops.injEq, and_true] at e9
    subst e9
    rw [vwp] at h
    exact wpIn_region_list (A7N hl h hs hf (fun e' H' β' F' w' a' k1 k2 k3 k4 => hk .nor _ _ _ _ _ _ _ k1 k2 (k3.forget kp) (hm.later k4) k4) fun u H' β' F' w' a' k1 k2 k3 k4 => hk (.pan u) _ _ _ _ _ _ _ k1 k2 k3 (hm.later k4) k4)
  | seq x y => simp only [trC] at ht; split at ht <;> simp at ht
  | cond c x y => simp only [trC] at ht; split at ht <;> simp at ht
  | rangeFunc f ps x y => simp only [trC] at ht; split at ht <;> (try split at ht) <;> simp at ht
  | _ => simp [trC] at ht
 | draw n l kp =>
  intro code hrf ht Q e H β F w a QQ B D D0 h hs hf hm hB hk
  rw [er] at ht
  cases code with
  | region id ops d =>
   cases d with
   | false => exact (AJP ht (by simp) (by simp)).elim
   | true =>
    obtain ⟨bz, hsp⟩ := ATg ((Bgd ht).resolve_right (by simp))
    obtain ⟨n', l', e9, hmo, hh⟩ := hsp.resolve_right (by simp)
    simp only [AFb.draw.injEq, and_true] at e9
    obtain ⟨rfl, rfl⟩ := e9
    rw [vwp] at h
    rcases hh with ⟨hl, hck⟩ | ⟨π, hp, hl, hck⟩
    ·exact A4e WOk.vop hmo hl hck h hs hf ⟨fun e' H' β' F' w' a' k1 k2 k3 k4 => hk .nor _ _ _ _ _ _ _ k1 k2 (k3.forget kp) (hm.later k4) k4, fun _ _ _ _ _ _ (h : False) => h.elim⟩
    ·exact AXy WOk.vop hmo hp hl hck h hs hf ⟨fun e' H' β' F' w' a' k1 k2 k3 k4 => hk .nor _ _ _ _ _ _ _ k1 k2 (k3.forget kp) (hm.later k4) k4, fun _ _ _ _ _ _ (h : False) => h.elim⟩
  | seq x y => simp only [trC] at ht; split at ht <;> simp at ht
  | cond c x y => simp only [trC] at ht; split at ht <;> simp at ht
  | rangeFunc f ps x y => simp only [trC] at ht; split at ht <;> (try split at ht) <;> simp at ht
  | _ => simp [trC] at ht
 | pdraw n l kp =>
  intro code hrf ht Q e H β F w a QQ B D D0 h hs hf hm hB hk
  rw [er] at ht
  cases code with
  | region id ops d =>
   cases d with
   | false => exact (AJP ht (by simp) (by simp)).elim
   | true =>
    obtain ⟨bz, hsp⟩ := ATg ((Bgd ht).resolve_right (by simp))
    obtain ⟨n', l', e9, hmo, hh⟩ := hsp.resolve_right (by simp)
    simp only [AFb.draw.injEq, and_true] at e9
    obtain ⟨rfl, rfl⟩ := e9
    rw [vwp] at h
    rcases hh with ⟨hl, hck⟩ | ⟨π, hp, hl, hck⟩
    ·exact A4e WOk.pvop hmo hl hck h hs hf ⟨fun e' H' β' F' w' a' k1 k2 k3 k4 => hk .nor _ _ _ _ _ _ _ k1 k2 (k3.forget kp) (hm.later k4) k4, fun u H' β' F' w' a' k1 k2 k3 k4 => hk (.pan u) _ _ _ _ _ _ _ k1 k2 k3 (hm.later k4) k4⟩
    ·exact AXy WOk.pvop hmo hp hl hck h hs hf ⟨fun e' H' β' F' w' a' k1 k2 k3 k4 => hk .nor _ _ _ _ _ _ _ k1 k2 (k3.forget kp) (hm.later k4) k4, fun u H' β' F' w' a' k1 k2 k3 k4 => hk (.pan u) _ _ _ _ _ _ _ k1 k2 k3 (hm.later k4) k4⟩
  | seq x y => simp only [trC] at ht; split at ht <;> simp at ht
  | cond c x y => simp only [trC] at ht; split at ht <;> simp at ht
  | rangeFunc f ps x y => simp only [trC] at ht; split at ht <;> (try split at ht) <;> simp at ht
  | _ => simp [trC] at ht
 | sdraw n l kp =>
  intro code hrf ht Q e H β F w a QQ B D D0 h hs hf hm hB hk
  rw [er] at ht
  cases code with
  | region id ops d =>
   cases d with
   | false => exact (AJP ht (by simp) (by simp)).elim
   | true =>
    obtain ⟨bz, hsp⟩ := ATg ((Bgd ht).resolve_right (by simp))
    obtain ⟨n', l', e9, hmo, π, hp, hl, hck⟩ := hsp.resolve_left (by simp)
    simp only [AFb.sdraw.injEq, and_true] at e9
    obtain ⟨rfl, rfl⟩ := e9
    rw [vwp] at h
    exact AXy WOk.pvopS hmo hp hl hck h hs hf ⟨fun e' H' β' F' w' a' k1 k2 k3 k4 => hk .nor _ _ _ _ _ _ _ k1 k2 (k3.forget kp) (hm.later k4) k4, fun u H' β' F' w' a' k1 k2 k3 k4 => hk (.pan u) _ _ _ _ _ _ _ k1 k2 k3 (hm.later k4) k4⟩
  | seq x y => simp only [trC] at ht; split at ht <;> simp at ht
  | cond c x y => simp only [trC] at ht; split at ht <;> simp at ht
  | rangeFunc f ps x y => simp only [trC] at ht; split at ht <;> (try split at ht) <;> simp at ht
  | _ => simp [trC] at ht
 | skip =>
  intro code hrf ht Q e H β F w a QQ B D D0 h hs hf hm hB hk
  rw [er] at ht
  cases code with
  | skip => exact wpIn_skip (hk .nor _ _ _ _ _ _ _ h hs hf hm (AFC.refl _ _))
  | label l => exact wpIn_label (hk .nor _ _ _ _ _ _ _ h hs hf hm (AFC.refl _ _))
  | region id ops d =>
   cases d
   ·exact (AJP ht (by simp) (by simp)).elim
   ·exact (AJQ ht (by simp) (by simp) (by simp)).elim
  | seq x y => simp only [trC] at ht; split at ht <;> simp at ht
  | cond c x y => simp only [trC] at ht; split at ht <;> simp at ht
  | rangeFunc f ps x y => simp only [trC] at ht; split at ht <;> (try split at ht) <;> simp at ht
  | _ => simp [trC] at ht
 | seq x y ihx ihy =>
  intro code hrf ht Q e H β F w a QQ B D D0 h hs hf hm hB hk
  rw [er] at ht
  cases code with
  | region id ops d =>
   cases d
   ·exact (AJP ht (by simp) (by simp)).elim
   ·exact (AJQ ht (by simp) (by simp) (by simp)).elim
  | seq cx cy =>
   simp only [trC] at ht
   split at ht
   ·rename_i vx vy hx hy
    simp only [Option.some.injEq, AFb.seq.injEq] at ht
    obtain ⟨rfl, rfl⟩ := ht
    rw [vwp] at h
    have hrx : ro = none ∨ A15 x = true := hrf.imp id fun h => by simp only [A15, Bool.and_eq_true] at h; exact h.1
    have hry : ro = none ∨ A15 y = true := hrf.imp id fun h => by simp only [A15, Bool.and_eq_true] at h; exact h.2
    refine wpIn_seq (ihx hrx hx h hs hf hm hB ?_)
    intro x e' H' β' F' w' a' D' k1 k2 k3 km k4
    cases x with
    | nor => exact ihy hry hy k1 k2 k3 km (Nat.le_trans hB k4.size) fun x e2 H2 β2 F2 w2 a2 D2 m1 m2 m3 mm m4 => hk _ _ _ _ _ _ _ _ m1 m2 m3 mm (k4.trans m4)
    | exit i => exact hk (.exit i) _ _ _ _ _ _ _ k1 k2 k3 km k4
    | ret => exact hk .ret _ _ _ _ _ _ _ k1 k2 k3 km k4
    | pan u => exact hk (.pan u) _ _ _ _ _ _ _ k1 k2 k3 km k4
   ·simp at ht
  | cond c x y => simp only [trC] at ht; split at ht <;> simp at ht
  | rangeFunc f ps x y => simp only [trC] at ht; split at ht <;> (try split at ht) <;> simp at ht
  | _ => simp [trC] at ht
 | cond c x y ihx ihy =>
  intro code hrf ht Q e H β F w a QQ B D D0 h hs hf hm hB hk
  rw [er] at ht
  cases code with
  | region id ops d =>
   cases d
   ·exact (AJP ht (by simp) (by simp)).elim
   ·exact (AJQ ht (by simp) (by simp) (by simp)).elim
  | seq x y => simp only [trC] at ht; split at ht <;> simp at ht
  | cond cc cx cy =>
   simp only [trC] at ht
   split at ht
   ·rename_i vx vy hx hy
    simp only [Option.some.injEq, AFb.cond.injEq] at ht
    obtain ⟨rfl, rfl, rfl⟩ := ht
    rw [vwp] at h
    split at h
    ·rename_i t hc
     have hrx : ro = none ∨ A15 x = true := hrf.imp id fun h => by simp only [A15, Bool.and_eq_true] at h; exact h.1
     have hry : ro = none ∨ A15 y = true := hrf.imp id fun h => by simp only [A15, Bool.and_eq_true] at h; exact h.2
     refine wpIn_cond_split (hf.env.val hc) (fun htt => ?_) (fun htf => ?_)
     ·rw [if_pos htt] at h; exact ihx hrx hx h hs hf hm hB hk
     ·rw [if_neg (by rw [htf]; simp)] at h; exact ihy hry hy h hs hf hm hB hk
    ·exact h.elim
   ·simp at ht
  | rangeFunc f ps x y => simp only [trC] at ht; split at ht <;> (try split at ht) <;> simp at ht
  | _ => simp [trC] at ht
 | block id x ih =>
  intro code hrf ht Q e H β F w a QQ B D D0 h hs hf hm hB hk
  rw [er] at ht
  cases code with
  | region id ops d =>
   cases d
   ·exact (AJP ht (by simp) (by simp)).elim
   ·exact (AJQ ht (by simp) (by simp) (by simp)).elim
  | seq x y => simp only [trC] at ht; split at ht <;> simp at ht
  | cond c x y => simp only [trC] at ht; split at ht <;> simp at ht
  | rangeFunc f ps x y => simp only [trC] at ht; split at ht <;> (try split at ht) <;> simp at ht
  | block id' c =>
   simp only [trC, Option.map_eq_some_iff, AFb.block.injEq] at ht
   obtain ⟨vx, hx, rfl, rfl⟩ := ht
   rw [vwp] at h
   refine wpIn_block (ih hrf hx h hs hf hm hB ?_)
   intro x e' H' β' F' w' a' D' k1 k2 k3 km k4
   cases x with
   | nor => exact hk .nor _ _ _ _ _ _ _ k1 k2 k3 km k4
   | exit i =>
    show Exit.inBlock _ QQ (.exit i) a' w'
    simp only [Exit.inBlock]
    simp only at k1
    split at k1
    ·rename_i hi; rw [if_pos hi]; exact hk .nor _ _ _ _ _ _ _ k1 k2 k3 km k4
    ·rename_i hi; rw [if_neg hi]; exact hk (.exit i) _ _ _ _ _ _ _ k1 k2 k3 km k4
   | ret => exact hk .ret _ _ _ _ _ _ _ k1 k2 k3 km k4
   | pan u => exact hk (.pan u) _ _ _ _ _ _ _ k1 k2 k3 km k4
  | _ => simp [trC] at ht
 | loop lv x ih =>
  intro code hrf ht Q e H β F w a QQ B D D0 h hs hf hm hB hk
  rw [er] at ht
  cases code with
  | region id ops d =>
   cases d
   ·exact (AJP ht (by simp) (by simp)).elim
   ·exact (AJQ ht (by simp) (by simp) (by simp)).elim
  | seq x y => simp only [trC] at ht; split at ht <;> simp at ht
  | cond c x y => simp only [trC] at ht; split at ht <;> simp at ht
  | rangeFunc f ps x y => simp only [trC] at ht; split at ht <;> (try split at ht) <;> simp at ht
  | loop c =>
   simp only [trC, Option.map_eq_some_iff, AFb.loop.injEq] at ht
   obtain ⟨vx, hx, _, rfl⟩ := ht
   rw [vwp] at h
   obtain ⟨I, n, h0, hstep⟩ := h
   refine wpIn_loop_ghost (fun n a' w' => ∃ e' H' β' F' D', I n e' H' ∧ Sim ⟨β', H', F'⟩ w' ∧ Fr N D' ⟨β', H', F'⟩ w' e' a' ∧ ASN D0 B ⟨β', H', F'⟩ w' D' ∧ AFC ⟨β, H, F⟩ w ⟨β', H', F'⟩ w') n ⟨_, _, _, _, _, h0, hs, hf.forget lv, hm, AFC.refl _ _⟩ ?_
   rintro n a' w' ⟨e', H', β', F', D', k1, k2, k3, km, k4⟩
   refine ih hrf hx (hstep n e' H' k1) k2 k3 km (Nat.le_trans hB k4.size) ?_
   intro x e2 H2 β2 F2 w2 a2 D2 m1 m2 m3 mm m4
   cases x with
   | nor =>
    obtain ⟨m, g, hmn, ⟨hg, hb⟩, hI⟩ := m1
    have hf3 := m3.forget lv
    rcases hb with hle | ⟨hbe, hbh⟩
    ·rw [List.take_of_length_le hle] at hI
     exact ⟨m, hmn, _, _, _, _, _, hI, m2, hf3, mm, k4.trans m4⟩
    exact ⟨m, hmn, _, _, _, _, _, hI, m2.cut hbh, ⟨⟨fun s => Rep.cut (A0H hbe s) (hf3.env.1 s), hf3.env.2⟩, hf3.size, hf3.defers⟩, mm.cut, (k4.trans m4).cut hg⟩
   | exit i => exact hk (.exit i) _ _ _ _ _ _ _ m1 m2 m3 mm (k4.trans m4)
   | ret => exact hk .ret _ _ _ _ _ _ _ m1 m2 m3 mm (k4.trans m4)
   | pan u => exact hk (.pan u) _ _ _ _ _ _ _ m1 m2 m3 mm (k4.trans m4)
  | _ => simp [trC] at ht
 | exit id =>
  intro code hrf ht Q e H β F w a QQ B D D0 h hs hf hm hB hk
  rw [er] at ht
  cases code with
  | region id ops d =>
   cases d
   ·exact (AJP ht (by simp) (by simp)).elim
   ·exact (AJQ ht (by simp) (by simp) (by simp)).elim
  | seq x y => simp only [trC] at ht; split at ht <;> simp at ht
  | cond c x y => simp only [trC] at ht; split at ht <;> simp at ht
  | rangeFunc f ps x y => simp only [trC] at ht; split at ht <;> (try split at ht) <;> simp at ht
  | exit id' =>
   simp only [trC, Option.some.injEq, AFb.exit.injEq] at ht; subst ht
   exact wpIn_exit (hk (.exit _) _ _ _ _ _ _ _ h hs hf hm (AFC.refl _ _))
  | _ => simp [trC] at ht
 | ret =>
  intro code hrf ht Q e H β F w a QQ B D D0 h hs hf hm hB hk
  rw [er] at ht
  cases code with
  | region id ops d =>
   cases d
   ·exact (AJP ht (by simp) (by simp)).elim
   ·exact (AJQ ht (by simp) (by simp) (by simp)).elim
  | seq x y => simp only [trC] at ht; split at ht <;> simp at ht
  | cond c x y => simp only [trC] at ht; split at ht <;> simp at ht
  | rangeFunc f ps x y => simp only [trC] at ht; split at ht <;> (try split at ht) <;> simp at ht
  | ret => exact wpIn_ret (hk .ret _ _ _ _ _ _ _ h hs hf hm (AFC.refl _ _))
  | _ => simp [trC] at ht
 | dead =>
  intro code hrf ht Q e H β F w a QQ B D D0 h
  rw [vwp] at h; exact h.elim
 | scope x ih =>
  intro code hrf ht Q e H β F w a QQ B D D0 h hs hf hm hB hk
  rw [er] at ht
  cases code with
  | region id ops d =>
   cases d
   ·exact (AJP ht (by simp) (by simp)).elim
   ·exact (AJQ ht (by simp) (by simp) (by simp)).elim
  | seq x y => simp only [trC] at ht; split at ht <;> simp at ht
  | cond c x y => simp only [trC] at ht; split at ht <;> simp at ht
  | rangeFunc f ps x y => simp only [trC] at ht; split at ht <;> (try split at ht) <;> simp at ht
  | scope c =>
   simp only [trC, Option.map_eq_some_iff, AFb.scope.injEq] at ht
   obtain ⟨vx, hx, rfl⟩ := ht
   rw [vwp] at h
   refine A7J (ih hrf hx h hs hf hm hB ?_)
   intro x e' H' β' F' w' a' D' k1 k2 k3 km k4
   cases x with
   | nor => exact hk .nor _ _ _ _ _ _ _ k1 k2 k3 km k4
   | exit i => exact hk (.exit i) _ _ _ _ _ _ _ k1 k2 k3 km k4
   | ret => exact hk .ret _ _ _ _ _ _ _ k1 k2 k3 km k4
   | pan u => exact hk (.pan u) _ _ _ _ _ _ _ k1 k2 k3 km k4
  | _ => simp [trC] at ht
 | own s k x ih =>
  intro code hrf ht Q e H β F w a QQ B D D0 h hs hf hm hB hk
  rw [er] at ht
  rw [vwp] at h
  split at h
  ·rename_i hg
   obtain ⟨k1, k2, k3⟩ := hs.own k
   have hv : a.tmps.getD s undef = .slice none 0 0 := by
    have := hf.env.1 s; rw [hg, Rep.val] at this; exact this
   refine ih hrf ht h k1 ⟨⟨fun s' => ?_, k1.glob⟩, hf.size, hf.defers⟩ (hm.later k2) hB fun x' e' H' β' F' w' a' D' m1 m2 m3 mm m4 => hk x' e' H' β' F' w' a' D' m1 m2 m3 mm (k2.trans m4)
   rw [AGB]
   by_cases hss : s = s'
   ·subst hss; rw [if_pos rfl, hv]; exact Rep.of1 k3 (by simp) (by simp)
   ·rw [if_neg hss]; exact Rep.mono (k2.mono hs) (hf.env.1 s')
  ·exact ih hrf ht h hs hf hm hB hk
 | ownB s p k x ih =>
  intro code hrf ht Q e H β F w a QQ B D D0 h hs hf hm hB hk
  rw [er] at ht
  rw [vwp] at h
  split at h
  ·rename_i id ver p0 hg
   split at h
   ·rename_i v y hid
    obtain ⟨rfl, h⟩ := h
    split at h
    ·rename_i hgp
     split at h
     ·rename_i x' hsp
      obtain ⟨k1, k2, k3⟩ := hs.own k
      have hlt : id < H.length := (List.getElem?_eq_some_iff.1 hid).1
      have hid' : (H ++ [Ob.obj 0 (.arr 0 k [])])[id]? = some (.obj v y) := by rw [List.getElem?_append_left hlt]; exact hid
      obtain ⟨q1, q2⟩ := k1.turn (o' := .obj v x') (w' := w) (β' := upd β H.length 0 none) hid' rfl rfl (Nat.le_refl _) (fun _ _ _ => rfl) (fun b off e => .inl ⟨off, e⟩) rfl rfl rfl (Nat.le_refl _) (fun _ _ => rfl) (fun _ _ _ => rfl) (fun hm => by
       rcases k1.ob id _ hid' with ⟨r0, r1⟩ | ⟨b, off, pre, vs, post, t, fr, r0, r1, r2, r3, r4⟩
       ·refine .inl ⟨r0, ?_⟩
        exact AFh.mono hm (AY9 r1 hgp (fun m hm' => by rw [AFh] at hm'; rw [hm'.1]; exact k3) hsp)
       ·refine .inr ⟨b, off, pre, vs, post, t, fr, r0, r1, r2, r3, ?_⟩
        exact AFh.mono hm (AY9 r4 hgp (fun m hm' => by rw [AFh] at hm'; rw [hm'.1]; exact k3) hsp))
      rw [List.set_append_left _ _ hlt] at q1 q2
      exact ih hrf ht h q1 ⟨⟨fun s' => Rep.mono (q2.mono k1) (Rep.mono (k2.mono hs) (hf.env.1 s')), q1.glob⟩, hf.size, hf.defers⟩ (hm.later (k2.trans q2)) hB fun x' e' H' β' F' w' a' D' m1 m2 m3 mm m4 => hk x' e' H' β' F' w' a' D' m1 m2 m3 mm ((k2.trans q2).trans m4)
     ·exact h.elim
    ·exact ih hrf ht h hs hf hm hB hk
   ·exact h.elim
  ·exact h.elim
 | frz s x ih =>
  intro code hrf ht Q e H β F w a QQ B D D0 h hs hf hm hB hk
  rw [er] at ht
  rw [vwp] at h
  split at h
  ·rename_i k id ver p off n cp hg
   split at h
   ·rename_i v y hid
    obtain ⟨rfl, h⟩ := h
    split at h
    ·rename_i cs hcs
     obtain ⟨k1, k2⟩ := hs.freeze hid rfl
     have hr : Rep ⟨β, H, F⟩ w (get e s) (a.tmps.getD s undef) := hf.env.1 s
     rw [hg] at hr
     have hr' : Rep ⟨β, H.set id (.gone v), fun b => F b ∨ ∃ off, β id v = some (b, off)⟩ w (.sl k cs) (a.tmps.getD s undef) := by
      rcases hr with (hr | hr | ⟨us, hr, hr2⟩) | ⟨xs, vs, hr, _⟩
      ·cases hr
      ·cases hr
      ·exact .inl (.inr (.inr ⟨us, hs.give hid hcs hr, by rw [hr2]; rfl⟩))
      ·cases hr
     refine ih hrf ht h k1 ⟨⟨fun s' => ?_, k1.glob⟩, hf.size, hf.defers⟩ (hm.later k2) hB fun x' e' H' β' F' w' a' D' m1 m2 m3 mm m4 => hk x' e' H' β' F' w' a' D' m1 m2 m3 mm (k2.trans m4)
     rw [AGB]
     by_cases hss : s = s'
     ·subst hss; rw [if_pos rfl]; exact hr'
     ·rw [if_neg hss]; exact Rep.mono (k2.mono hs) (hf.env.1 s')
    ·exact h.elim
   ·exact h.elim
  ·exact h.elim
 | ownT s p t x ih =>
  intro code hrf ht Q e H β F w a QQ B D D0 h hs hf hm hB hk
  rw [er] at ht
  rw [vwp] at h
  split at h
  ·rename_i id ver p0 hg
   split at h
   ·rename_i v y hid
    obtain ⟨rfl, h⟩ := h
    split at h
    ·rename_i hgp
     split at h
     ·rename_i x' hsp
      obtain ⟨k1, k2, k3⟩ := hs.ownBld t
      have hlt : id < H.length := (List.getElem?_eq_some_iff.1 hid).1
      have hid' : (H ++ [Ob.bld 0 t []])[id]? = some (.obj v y) := by rw [List.getElem?_append_left hlt]; exact hid
      obtain ⟨q1, q2⟩ := k1.turn (o' := .obj v x') (w' := w) (β' := upd β H.length 0 none) hid' rfl rfl (Nat.le_refl _) (fun _ _ _ => rfl) (fun b off e => .inl ⟨off, e⟩) rfl rfl rfl (Nat.le_refl _) (fun _ _ => rfl) (fun _ _ _ => rfl) (fun hm => by
       rcases k1.ob id _ hid' with ⟨r0, r1⟩ | ⟨b, off, pre, vs, post, t, fr, r0, r1, r2, r3, r4⟩
       ·refine .inl ⟨r0, ?_⟩
        exact AFh.mono hm (AY9 r1 hgp (fun m hm' => by rw [AFh] at hm'; rw [hm'.1]; exact k3) hsp)
       ·refine .inr ⟨b, off, pre, vs, post, t, fr, r0, r1, r2, r3, ?_⟩
        exact AFh.mono hm (AY9 r4 hgp (fun m hm' => by rw [AFh] at hm'; rw [hm'.1]; exact k3) hsp))
      rw [List.set_append_left _ _ hlt] at q1 q2
      exact ih hrf ht h q1 ⟨⟨fun s' => Rep.mono (q2.mono k1) (Rep.mono (k2.mono hs) (hf.env.1 s')), q1.glob⟩, hf.size, hf.defers⟩ (hm.later (k2.trans q2)) hB fun x' e' H' β' F' w' a' D' m1 m2 m3 mm m4 => hk x' e' H' β' F' w' a' D' m1 m2 m3 mm ((k2.trans q2).trans m4)
     ·exact h.elim
    ·exact ih hrf ht h hs hf hm hB hk
   ·exact h.elim
  ·exact h.elim
 | rfunc g0 ps aS bd iha ihb =>
  intro code hrf ht Q e H β F w a QQ B D D0 h hs hf hm hB hk
  obtain rfl : ro = none := hrf.resolve_right (by simp [A15])
  rw [er] at ht
  cases code with
  | region id ops d =>
   cases d
   ·exact (AJP ht (by simp) (by simp)).elim
   ·exact (AJQ ht (by simp) (by simp) (by simp)).elim
  | seq x y => simp only [trC] at ht; split at ht <;> simp at ht
  | cond c x y => simp only [trC] at ht; split at ht <;> simp at ht
  | rangeFunc f0 ps0 ca cb =>
   simp only [trC] at ht
   split at ht
   ·rename_i hps
    split at ht
    ·rename_i va vb hca hcb
     simp only [Option.some.injEq, AFb.rfunc.injEq] at ht
     obtain ⟨rfl, rfl, rfl, rfl⟩ := ht
     rw [vwp] at h
     obtain ⟨-, -, h⟩ := h
     split at h
     ·rename_i g first caps hg
      obtain ⟨hgo, h⟩ := h
      have hr : Rep ⟨β, H, F⟩ w (.fn (.func g) first caps) (a.eval f0) := hf.env.rep (x := f0) hg
      have h1 := hr.inv1 (by simp) (by simp) (by simp) (by simp) (by simp)
      rw [AFh] at h1
      obtain ⟨us, vs, hv1, hfi, hc⟩ := h1
      have hv' : a.eval f0 = .func (.func g) us.toArray vs.toArray := by simpa using hv1
      refine A2I hs hf hm hB hv' hgo hfi hc (fun fn => h N fn ca cb ⟨hca, hcb, hps⟩) hk
     ·rename_i g xs ys hg
      obtain ⟨hxy, hgo, h⟩ := h
      rw [Bool.and_eq_true, Array.isEmpty_iff, Array.isEmpty_iff] at hxy
      obtain ⟨rfl, rfl⟩ := hxy
      have hv' : a.eval f0 = .func (.func g) #[] #[] := hf.env.val hg
      refine A2I (us := []) (vs := []) (first := []) (caps := []) hs hf hm hB hv' hgo (by rw [AF9]) (by rw [AF9]) (fun fn => by simpa using h N fn ca cb ⟨hca, hcb, hps⟩) hk
     ·exact h.elim
    ·cases ht
   ·cases ht
  | _ => simp [trC] at ht
end sound
end Go.Proofs.YtliaddbbmnfioaaGreatDoor


namespace Go.Proofs.YtliaddbbmnfioaaGreatDoor
open Go.RowKit
variable [AFG]
set_option linter.unusedSectionVars false
set_option linter.unusedSimpArgs false
set_option linter.unusedVariables false
set_option autoImplicit false

inductive VR where
 | tmp (t : Nat)
 | cell (a : Nat) (ag : Bool) (sz : Nat)
 deriving Inhabited
def trR (P : Program) : List ResultVar → Option (List VR)
 | [] => some []
 | .tmp t :: r => (trR P r).map (.tmp t :: ·)
 | .cell a t :: r => match A1X P t, AT9 P t, trR P r with
  | some ag, some sz, some r => some (.cell a ag sz :: r)
  | _, _, _ => none

def A6Z : List VR → Env → List Ob → (List TV → Prop) → Prop
 | [], e, H, K => K []
 | .tmp t :: r, e, H, K => A6Z r e H fun xs => K (get e t :: xs)
 | .cell a ag sz :: r, e, H, K => pop (.load ag sz (.t a)) e H fun x => A6Z r e H fun xs => K (x :: xs)
def res (r : List VR) (e : Env) (H : List Ob) (K : TV → Prop) : Prop := A6Z r e H fun xs => match xs with
 | [x] => K x
 | xs => (∀ x ∈ xs, AGZ x = false) ∧ K (.tup xs)

section
variable {P : Program}
/-- A result that is read. -/
def rv (a : Act) (r : ResultVar) : Sem Value := match r with
 | .tmp t => pure (a.tmps.getD t undef)
 | .cell x t => do loadVar t (← asAddr (a.tmps.getD x undef))

theorem A4m {c : Ctx} {w : World} {e : Env} {a : Act} (hs : Sim c w) (he : AFL c w e a) : ∀ {rs : List ResultVar} {vr : List VR} {K : List TV → Prop}, trR P rs = some vr → A6Z vr e c.H K →
  ∃ (xs : List TV) (vs : List Value), (rs.mapM (rv a)).run P w = .ok vs w ∧ xs.length = vs.length ∧ (∀ (i : Nat) x v, xs[i]? = some x → vs[i]? = some v → Rep c w x v) ∧ K xs
 | [], vr, K, ht, h => by
  simp only [trR, Option.some.injEq] at ht; subst ht
  exact ⟨[], [], rfl, rfl, by simp, h⟩
 | .tmp t :: rs, vr, K, ht, h => by
  simp only [trR, Option.map_eq_some_iff] at ht
  obtain ⟨r, hr, rfl⟩ := ht
  rw [A6Z] at h
  obtain ⟨xs, vs, h1, h2, h3, h4⟩ := A4m hs he hr h
  refine ⟨get e t :: xs, a.tmps.getD t undef :: vs, by rw [List.mapM_cons]; simp only [rv, Sem.run_bind, Sem.run_pure, Result.andThen_ok, h1], by simp [h2], ?_, h4⟩
  intro i x v hx hv
  cases i with
  | zero => simp at hx hv; subst hx; subst hv; simpa using he.1 t
  | succ i => exact h3 i x v (by simpa using hx) (by simpa using hv)
 | .cell b t :: rs, vr, K, ht, h => by
  simp only [trR] at ht
  split at ht
  ·rename_i ag sz r h1 h2 hr
   cases ht
   rw [A6Z] at h
   have hy := Bgk (P := P) (a := a) (ty := 0) hs he h1 h2 (x := .tmp b) h
   obtain ⟨x, v, hrun, hx, hK⟩ := hy ⟨none, .load t (.tmp b), 0, "", #[], none⟩ rfl rfl
   have hload : (do loadVar t (← asAddr (a.tmps.getD b undef)) : Sem Value).run P w = .ok v w := by
    simp only [execOp, Instr.loadAt, Sem.run_bind, Act.eval] at hrun
    simp only [Sem.run_bind]
    cases hp : a.tmps.getD b undef with
    | pointer p =>
     rw [hp] at hrun
     cases p with
     | none => simp [Instr.sureAddr, stuck] at hrun
     | some ad =>
      simp only [Instr.sureAddr, Sem.run_pure, Result.andThen_ok, asAddr] at hrun ⊢
      cases hl : (loadVar t ad).run P w with
      | ok u w2 => rw [hl] at hrun; simp only [Result.andThen_ok, Sem.run_pure] at hrun; cases hrun; rfl
      | halt hh w2 => rw [hl] at hrun; simp at hrun
    | _ => rw [hp] at hrun; simp [Instr.sureAddr, stuck] at hrun
   obtain ⟨xs, vs, h3, h4, h5, h6⟩ := A4m hs he hr hK
   refine ⟨x :: xs, v :: vs, by rw [List.mapM_cons, Sem.run_bind]; show Result.andThen ((rv a (.cell b t)).run P w) _ = _; rw [show (rv a (.cell b t)).run P w = .ok v w from hload]; simp only [Result.andThen_ok, Sem.run_bind, h3, Sem.run_pure], by simp [h4], ?_, h6⟩
   intro i y u hy hu
   cases i with
   | zero => simp at hy hu; subst hy; subst hu; exact hx
   | succ i => exact h5 i y u (by simpa using hy) (by simpa using hu)
  ·cases ht

theorem Bg8 {c : Ctx} {w : World} {e : Env} {a : Act} (hs : Sim c w) (he : AFL c w e a) {fn : Func} {vr : List VR} {K : TV → Prop} (ht : trR P fn.results.toList = some vr) (h : res vr e c.H K) :
  ∃ x v, (results fn a.tmps).run P w = .ok v w ∧ Rep c w x v ∧ K x := by
 obtain ⟨xs, vs, h1, h2, h3, h4⟩ := A4m hs he ht h
 have hrun : (fn.results.mapM (rv a)).run P w = .ok vs.toArray w := by
  rw [Array.mapM_eq_mapM_toList]
  simp only [Sem.run_map, h1, Result.andThen_ok]
 have hres : (results fn a.tmps).run P w = .ok (if h : vs.toArray.size = 1 then vs.toArray[0] else .tuple vs.toArray) w := by
  have : results fn a.tmps = (do let vs ← fn.results.mapM (rv a); pure (if h : vs.size = 1 then vs[0] else .tuple vs)) := rfl
  rw [this, Sem.run_bind, hrun]; rfl
 rcases xs with _ | ⟨x, _ | ⟨y, xs⟩⟩
 ·have hv : vs = [] := List.length_eq_zero_iff.1 (by simpa using h2.symm)
  subst hv
  exact ⟨_, _, hres, .inr ⟨[], [], rfl, rfl, by rw [AF9]⟩, h4.2⟩
 ·obtain ⟨v, rfl⟩ := List.length_eq_one_iff.1 (by simpa using h2.symm)
  exact ⟨_, _, hres, h3 0 x v rfl rfl, h4⟩
 ·rcases vs with _ | ⟨u, _ | ⟨v, vs⟩⟩
  ·simp at h2
  ·simp at h2
  ·refine ⟨_, _, hres, .inr ⟨_, u :: v :: vs, rfl, by simp, ?_⟩, h4.2⟩
   have key : ∀ (xs : List TV) (vs : List Value), xs.length = vs.length → (∀ x ∈ xs, AGZ x = false) → (∀ (i : Nat) x v, xs[i]? = some x → vs[i]? = some v → Rep c w x v) → AF9 c w xs vs := by
    intro xs
    induction xs with
    | nil => intro vs h _ _; rw [AF9]; exact List.length_eq_zero_iff.1 h.symm
    | cons x xs ih =>
     intro vs hl ht hr
     cases vs with
     | nil => simp at hl
     | cons v vs =>
      refine AF9.cons.2 ⟨v, vs, rfl, ?_, ih vs (by simpa using hl) (fun y hy => ht y (by simp [hy])) fun i y u hy hu => hr (i + 1) y u (by simpa using hy) (by simpa using hu)⟩
      rcases hr 0 x v rfl rfl with h | ⟨ys, us, rfl, _⟩
      ·exact h
      ·have := ht (.tup ys) (by simp); simp [AGZ] at this
   exact key _ _ h2 h4.1 h3

def A4n : Nat → List TV → Env
 | _, [] => []
 | i, x :: xs => (i, x) :: A4n (i + 1) xs
theorem A55 : ∀ (xs : List TV) (i s : Nat), get (A4n i xs) s = if i ≤ s then (xs[s - i]?).getD .any else .any
 | [], i, s => by simp [A4n, get]
 | x :: xs, i, s => by
  rw [A4n, AGB, A55 xs (i + 1) s]
  by_cases h : i = s
  ·subst h; simp
  ·rw [if_neg h]
   by_cases h2 : i ≤ s
   ·rw [if_pos (by omega), if_pos h2, show s - i = (s - (i + 1)) + 1 from by omega, List.getElem?_cons_succ]
   ·rw [if_neg (by omega), if_neg h2]

theorem AF9.get {c : Ctx} {w : World} : ∀ {xs : List TV} {vs : List Value}, AF9 c w xs vs → xs.length = vs.length ∧ ∀ (i : Nat) x, xs[i]? = some x → ∃ v, vs[i]? = some v ∧ Rep c w x v
 | [], vs, h => by rw [AF9] at h; subst h; simp
 | x :: xs, vs, h => by
  obtain ⟨u, us, rfl, h1, h2⟩ := AF9.cons.1 h
  obtain ⟨h3, h4⟩ := AF9.get h2
  refine ⟨by simp [h3], fun i y hy => ?_⟩
  cases i with
  | zero => simp at hy; subst hy; exact ⟨u, rfl, .inl h1⟩
  | succ i => simpa using h4 i y (by simpa using hy)

/-- The end of a body. -/
def A50 (vr : List VR) (R : TV → List Ob → Prop) : VEx → Env → List Ob → Prop
 | .nor, e, H => res vr e H fun x => R x H
 | .ret, e, H => res vr e H fun x => R x H
 | .exit _, _, _ => False
 | .pan _, _, _ => False

/-- A block that is nobody's turns. -/
theorem Sim.nobody {c : Ctx} {w : World} (hs : Sim c w) {r : Nat} {o o' : Obj} (hr : w.heap[r]? = some o) (h1 : ¬ c.own r) (h2 : ¬ c.F r) (hsh : (w.putObj r o').shape? r = w.shape? r) : Sim c (w.putObj r o') ∧ AMv c w c (w.putObj r o') := by
 have hoth : ∀ b, b ≠ r → (w.putObj r o').heap[b]? = w.heap[b]? := fun b hb => World.putObj_heap_other hb
 have hm : AMv c w c (w.putObj r o') := ⟨fun b hb => ⟨hb, hoth b fun e => h2 (e ▸ hb)⟩, fun _ _ h => ⟨h, rfl⟩, fun b _ => by
  by_cases hb : b = r
  ·subst hb; exact hsh
  ·exact AGv (hoth b hb)⟩
 refine ⟨⟨fun id ob ho => A5s.mono hm (Ctx.has_of ho) (fun hl b off hb => hoth b fun e => h1 (e ▸ Ctx.own_of ho hl hb)) (hs.ob id ob ho), hs.inj, hs.apart, fun b hb => ?_, hs.glob.keep hm.stay⟩, hm⟩
 rw [(AVa w r o').2.2.2]; exact hs.lt b hb
theorem AFC.nobody {c0 c : Ctx} {w0 w : World} (h : AFC c0 w0 c w) {r : Nat} {o' : Obj} (hr : w0.heap.size ≤ r) : AFC c0 w0 c (w.putObj r o') :=
 ⟨h.os, h.tape, h.output, by rw [(AVa w r o').2.2.2]; exact h.size, h.has, fun b hb => (AGv (World.putObj_heap_other (by omega))).trans (h.shape b hb), fun b hb ho => (World.putObj_heap_other (by omega)).trans (h.same b hb ho), h.keepF, h.oldF, h.oldOwn⟩
/-- The blocks are shut on the way out. -/
theorem ASN.shut {D0 : List Deferred} {u : FrameMode} (hu : u ≠ .run) {FF : Fence} {n : Nat} {fn : Func} {tmps : Array Value} {R : Ending → World → Prop} {B : Nat} {c : Ctx} : ∀ {D : List Deferred} {w : World}, ASN D0 B c w D → Sim c w →
  ∃ wF, (LeavesInM FF n P fn tmps R D0 u wF → LeavesInM FF n P fn tmps R D u w) ∧ Sim c wF ∧ AMv c w c wF ∧ ∀ (c0 : Ctx) (w0 : World), w0.heap.size ≤ B → AFC c0 w0 c w → AFC c0 w0 c wF := by
 rintro D w ⟨ds, rfl, hnd, hds⟩ hs
 induction ds generalizing w with
 | nil => exact ⟨w, fun h => h, hs, AMv.heap rfl, fun c0 w0 _ h => h⟩
 | cons r ds ih =>
  obtain ⟨k1, k2, k3, k4, k5⟩ := hds r (by simp)
  rw [List.nodup_cons] at hnd
  have hput := World.putObj_heap_same (w := w) (o := .deferred none) k2
  obtain ⟨s1, s2⟩ := hs.nobody (o' := .deferred none) k5 k3 k4 (by simp [World.shape?, hput, k5])
  obtain ⟨wF, e1, e2, e3, e4⟩ := ih (w := w.putObj r (.deferred none)) hnd.2 (fun q hq => by
   obtain ⟨q1, q2, q3, q4, q5⟩ := hds q (by simp [hq])
   have hne : q ≠ r := fun e => hnd.1 (e ▸ hq)
   exact ⟨q1, by rw [(AVa w r _).2.2.2]; exact q2, q3, q4, (World.putObj_heap_other hne).trans q5⟩) s1
  refine ⟨wF, fun h => ⟨hu, .inl ⟨r, _, rfl, run_takeDeferred k5, e1 h⟩⟩, e2, ⟨fun b hb => ⟨hb, ((e3.stay b hb).2).trans (s2.stay b hb).2⟩, fun _ _ h => ⟨h, rfl⟩, fun b hb => (e3.shape b (by rw [(AVa w r _).2.2.2]; exact hb)).trans (s2.shape b hb)⟩, fun c0 w0 hB hl => e4 c0 w0 hB (hl.nobody (by omega))⟩

/-- A FUNCTION: out of its body's condition. -/
theorem Baa {f : FuncId} {fn : Func} {vc : AFb} {vr : List VR} {args : List TV} {H : List Ob} {R : TV → List Ob → Prop} (hf : P.funcs[f]? = some fn) (ht : fn.body.bind (trC P fn.ntmps) = some (er vc)) (hr : trR P fn.results.toList = some vr)
  (hn : args.length ≤ fn.ntmps) (h : vwp P vc (A50 vr R) (A4n 0 args) H) : AFk P f args H R := by
 obtain ⟨code, hb, ht⟩ := Option.bind_eq_some_iff.1 ht
 intro β F w vs hs hv
 obtain ⟨hl, hget⟩ := AF9.get hv
 refine (callsIn_wide (n := 0)).1 (callsIn_of_wp_marks hf hb trivial ?_)
 refine Bcz (ro := none) (nn := 0) (B := w.heap.size) (D := []) (D0 := []) vc (.inl rfl) ht h hs ⟨⟨fun s => ?_, hs.glob⟩, by simp; omega, rfl⟩ ASN.nil (Nat.le_refl _) ?_
 ·rw [A55]
  simp only [Nat.zero_le, if_true, Nat.sub_zero]
  cases hx : args[s]? with
  | none => exact Rep.any
  | some x =>
   obtain ⟨v, hv1, hv2⟩ := hget s x hx
   have hs' : s < vs.length := (List.getElem?_eq_some_iff.1 hv1).1
   have : ((vs.toArray ++ Array.replicate (fn.ntmps - vs.toArray.size) undef).getD s undef) = v := by
    rw [Array.getD_eq_getD_getElem?, Array.getElem?_append_left (by simpa using hs')]
    simp [hv1]
   rw [this]; exact hv2
 ·intro x e' H' β' F' w' a' D' k1 k2 k3 km k4
  have fin : res vr e' H' (fun x => R x H') → LeavesInM Fence.wide 0 P fn a'.tmps (fun e w' => ∃ v x β' H' F', e = .returned v ∧ R x H' ∧ Sim ⟨β', H', F'⟩ w' ∧ AFC ⟨β, H, F⟩ w ⟨β', H', F'⟩ w' ∧ Rep ⟨β', H', F'⟩ w' x v) a'.defers .returning w' := fun h => by
   rw [k3.defers]
   obtain ⟨wF, e1, e2, e3, e4⟩ := ASN.shut (D0 := []) (u := .returning) (by simp) (P := P) (FF := Fence.wide) (n := 0) (fn := fn) (tmps := a'.tmps) (R := fun e w' => ∃ v x β' H' F', e = .returned v ∧ R x H' ∧ Sim ⟨β', H', F'⟩ w' ∧ AFC ⟨β, H, F⟩ w ⟨β', H', F'⟩ w' ∧ Rep ⟨β', H', F'⟩ w' x v) km k2
   obtain ⟨y, v, r1, r2, r3⟩ := Bg8 (fn := fn) (a := a') e2 ⟨fun s => Rep.mono e3 (k3.env.1 s), e2.glob⟩ hr h
   exact e1 ⟨v, r1, v, y, β', H', F', rfl, r3, e2, e4 _ _ (Nat.le_refl _) k4, r2⟩
  cases x with
  | nor => exact fin k1
  | ret => exact fin k1
  | exit i => exact k1.elim
  | pan u => exact k1.elim

/-- The end of a body that may panic. -/
def BaH (vr : List VR) (R : TV → List Ob → Prop) (RP : Value → List Ob → Prop) : VEx → Env → List Ob → Prop
 | .nor, e, H => res vr e H fun x => R x H
 | .ret, e, H => res vr e H fun x => R x H
 | .exit _, _, _ => False
 | .pan u, _, H => RP u H



/-- Nothing that was there has turned. -/
structure ATn (F : Nat → Prop) (w : World) (F' : Nat → Prop) (w' : World) : Prop where
 os : w'.os = w.os
 tape : w'.tape = w.tape
 output : w'.output = w.output
 size : w.heap.size ≤ w'.heap.size
 same : ∀ b, b < w.heap.size → w'.heap[b]? = w.heap[b]?
 keepF : ∀ b, F b → F' b
 oldF : ∀ b, b < w.heap.size → F' b → F b
 ltF : ∀ b, F' b → b < w'.heap.size

/-- A CALL THAT LEAVES NOTHING BEHIND but new memory that nobody changes any more. -/
def AFE (P : Program) (f : FuncId) (args : List TV) (R : TV → Prop) : Prop :=
 ∀ (β : Nat → Nat → Option (Nat × Nat)) (F : Nat → Prop) (w : World) (vs : List Value), ((∀ b, F b → b < w.heap.size) ∧ AJB F w) → AF9 ⟨β, [], F⟩ w args vs →
  Calls P f vs.toArray w fun e w' => ∃ v x F', e = .returned v ∧ R x ∧ Rep ⟨β, [], F'⟩ w' x v ∧ ATn F w F' w'

theorem AFE.mono {f : FuncId} {args : List TV} {R R' : TV → Prop} (h : AFE P f args R) (hr : ∀ x, R x → R' x) : AFE P f args R' :=
 fun β F w vs hF hv => (h β F w vs hF hv).mono fun _ _ ⟨v, x, F', h1, h2, h3⟩ => ⟨v, x, F', h1, hr _ h2, h3⟩

theorem AFk.toPure {f : FuncId} {args : List TV} {R : TV → Prop} (h : AFk P f args [] fun x H' => match frz H' x with | some y => R y | none => False) : AFE P f args R := by
 intro β F w vs hF hv
 have hs : Sim ⟨β, [], F⟩ w := ⟨fun id o ho => by simp at ho, fun i j x y b o o' hx => by simp at hx, fun b hb => by obtain ⟨i, o, off, h1, _⟩ := hb; simp at h1, hF.1, hF.2⟩
 refine (h β F w vs hs hv).mono ?_
 rintro _ w' ⟨v, x, β', H', F', rfl, hR, hs', hl, hx⟩
 split at hR
 ·rename_i y hy
  have hno : ∀ b, ¬ Ctx.own ⟨β, [], F⟩ b := fun b hb => by obtain ⟨i, o, off, h1, _⟩ := hb; simp at h1
  have hr := BhY hs' hy hx
  refine ⟨v, y, fun b => F' b ∨ Ctx.own ⟨β', H', F'⟩ b, rfl, hR, Rep.mono (AMv.toBare [] β) hr, ⟨hl.os, hl.tape, hl.output, hl.size, fun b hb => hl.same b hb (hno b), fun b hb => .inl (hl.keepF b hb), fun b hb hF' => ?_, fun b hF' => hF'.elim (hs'.lt b) hs'.own_lt⟩⟩
  rcases hF' with hF' | hF'
  ·exact (hl.oldF b hb hF').resolve_right (hno b)
  ·exact absurd (hl.oldOwn b hb hF') (hno b)
 ·exact hR.elim

theorem ATn.later {β : Nat → Nat → Option (Nat × Nat)} {H : List Ob} {F F' : Nat → Prop} {w w' : World} (h : ATn F w F' w') : AFC ⟨β, H, F⟩ w ⟨β, H, F'⟩ w' :=
 ⟨h.os, h.tape, h.output, h.size, fun id v ⟨o, h1, h2⟩ => ⟨⟨o, h1, h2⟩, rfl⟩, fun b hb => AGv (h.same b hb), fun b hb _ => h.same b hb, h.keepF, fun b hb hF => .inl (h.oldF b hb hF), fun b hb ⟨i, o, off, h1, h2, h3⟩ => ⟨i, o, off, h1, h2, h3⟩⟩
theorem ATn.sim {β : Nat → Nat → Option (Nat × Nat)} {H : List Ob} {F F' : Nat → Prop} {w w' : World} (hs : Sim ⟨β, H, F⟩ w) (h : ATn F w F' w') : Sim ⟨β, H, F'⟩ w' := by
 have hm : AMv ⟨β, H, F⟩ w ⟨β, H, F'⟩ w' := ⟨fun b hb => ⟨h.keepF b hb, h.same b (hs.lt b hb)⟩, fun id v ⟨o, h1, h2⟩ => ⟨⟨o, h1, h2⟩, rfl⟩, fun b hb => AGv (h.same b hb)⟩
 refine ⟨fun id o ho => A5s.mono hm ⟨o, ho, Nat.le_refl _⟩ (fun hl b off hb => h.same b (hs.own_lt ⟨id, o, off, ho, hl, hb⟩)) (hs.ob id o ho), hs.inj, fun b hb hF => ?_, h.ltF, hs.glob.keep hm.stay⟩
 obtain ⟨i, o, off, h1, h2, h3⟩ := hb
 have ho : Ctx.own ⟨β, H, F⟩ b := ⟨i, o, off, h1, h2, h3⟩
 exact hs.apart b ho (h.oldF b (hs.own_lt ho) hF)

/-- Such a call, with nothing lent. -/
theorem AFE.calls {f : FuncId} {args : List TV} {R : TV → Prop} {H : List Ob} {K : TV → List Ob → Prop} (h : AFE P f args R) (hp : AHk args = true) (hk : ∀ x, R x → K x H) : AFk P f args H K := by
 intro β F w vs hs hv
 refine (h β F w vs ⟨hs.lt, hs.glob⟩ (AF9.pure hp hv)).mono ?_
 rintro _ w' ⟨v, x, F', rfl, hR, hx, hst⟩
 exact ⟨v, x, β, H, F', rfl, hk x hR, hst.sim hs, hst.later, Rep.mono (AMv.toBare H β) hx⟩

/-- Such a call, to which objects are lent: it yields no memory. -/
theorem AFE.lends {f : FuncId} {args args' : List TV} {R : TV → Prop} {H : List Ob} {K : TV → List Ob → Prop} (h : AFE P f args' R) (hp : BmC H args = some args') (hk : ∀ x, R x → A5a x = true ∧ K x H) : AFk P f args H K := by
 intro β F w vs hs hv
 refine (h β (fun b => F b ∨ Ctx.own ⟨β, H, F⟩ b) w vs ⟨fun b hb => hb.elim (hs.lt b) hs.own_lt, hs.glob.keep fun b hb => ⟨.inl hb, rfl⟩⟩ (A8b hs hp hv)).mono ?_
 rintro _ w' ⟨v, x, F', rfl, hR, hx, hst⟩
 obtain ⟨hsc, hK⟩ := hk x hR
 have hst' : ATn F w F w' := ⟨hst.os, hst.tape, hst.output, hst.size, hst.same, fun _ h => h, fun _ _ h => h, fun b hb => Nat.lt_of_lt_of_le (hs.lt b hb) hst.size⟩
 exact ⟨v, x, β, H, F, rfl, hK, hst'.sim hs, hst'.later, BdM hsc hx⟩

theorem AMv.ofF {β β' : Nat → Nat → Option (Nat × Nat)} {H : List Ob} {F F' : Nat → Prop} {w : World} (h : ∀ b, F b → F' b) : AMv ⟨β, [], F⟩ w ⟨β', H, F'⟩ w :=
 ⟨fun b hb => ⟨h b hb, rfl⟩, fun id v h => by obtain ⟨o, h, _⟩ := h; simp at h, fun _ _ => rfl⟩
mutual
/-- The reading of a result, where all memory in it is one's own, its elements without memory. -/
def frs (H : List Ob) : TV → Option TV
 | .val v => some (.val v)
 | .any => some .any
 | .os k id ver p off n cp => match H[id]? with
  | some (.obj v x) => if v = ver then (match AJf p k off n x with
   | some cs => if AQl cs then some (.sl k cs) else none
   | none => none) else none
  | _ => none
 | .agg cs => (A6X H cs).map .agg
 | .arr n k cs => if AQl cs then some (.arr n k cs) else none
 | .tup cs => (A6X H cs).map .tup
 | .ifc t x => (frs H x).map (.ifc t)
 | _ => none
def A6X (H : List Ob) : List TV → Option (List TV)
 | [] => some []
 | x :: xs => match frs H x, A6X H xs with
  | some x, some xs => some (x :: xs)
  | _, _ => none
end

/-- Only one's own blocks. -/
def Ctx.mine (c : Ctx) : Ctx := ⟨c.β, [], c.own⟩

theorem A4B {p : List (Nat × Nat)} {k off : Nat} {x : TV} {cs : List TV} (h : AJf p k off 0 x = some cs) : cs = [] := by
 unfold AJf at h
 split at h
 ·split at h
  ·cases h; simp
  ·cases h
 ·cases h

mutual
theorem A45 {c : Ctx} {w : World} (hs : Sim c w) : ∀ {x x' : TV} {us : List Value}, frs c.H x = some x' → AFh c w x us → AFh c.mine w x' us
 | .val y, x', us, hf, hr => by simp only [frs, Option.some.injEq] at hf; subst hf; rw [AFh] at hr ⊢; exact hr
 | .any, x', us, hf, hr => by simp only [frs, Option.some.injEq] at hf; subst hf; rw [AFh] at hr ⊢; exact hr
 | .mp _ _, x', us, hf, hr => by simp [frs] at hf
 | .yl _ _, x', us, hf, hr => by simp [frs] at hf
 | .sl k cs, x', us, hf, hr => by simp [frs] at hf
 | .fp x, x', us, hf, hr => by simp [frs] at hf
 | .op id ver p, x', us, hf, hr => by simp [frs] at hf
 | .fn f a b, x', us, hf, hr => by simp [frs] at hf
 | .os k id ver p off n cp, x', us, hf, hr => by
  rw [AFh] at hr
  obtain ⟨hr1, hr2⟩ := hr
  rw [frs] at hf
  split at hf
  ·rename_i ver' x hid
   split at hf
   ·rename_i e; subst e
    split at hf
    ·rename_i cs hcs
     split at hf
     ·rename_i hsc
      cases hf
      rcases hr2 with ⟨rfl, a0, hr2, _⟩ | ⟨b0, o0, cap, t0, m0, hr2, hr3, hr4, hr5, hr6, hr7⟩
      ·have := A4B hcs
       subst this
       rw [AFh]
       exact ⟨by simp, .inl ⟨rfl, a0, 0, hr2, by omega⟩⟩
      rcases hs.ob id _ hid with ⟨h0, _⟩ | ⟨b, off', pre, vs, post, t, fr, h0, h1, h2, h3, h4⟩
      ·rw [h0] at hr2; cases hr2
      rw [h0] at hr2
      obtain ⟨rfl, rfl⟩ : b = b0 ∧ off' = o0 := by simpa using hr2
      obtain ⟨a, m, q, rfl, k1, k2, k3, k4⟩ := APF h4 hcs
      rw [AFh]
      refine ⟨k3, .inr ⟨b, off' + AGT p + off * k, cap, m, by rw [k4]; exact hr3, by omega, hr5, ⟨id, _, off', hid, rfl, h0⟩, AOs hsc k2, ?_⟩⟩
      have e : off' + AGT p + off * k = pre.length + a.length := by rw [h3, k1]; omega
      rw [e]; exact AMy h1
     ·cases hf
    ·cases hf
   ·cases hf
  ·cases hf
 | .agg cs, x', us, hf, hr => by
  simp only [frs, Option.map_eq_some_iff] at hf
  obtain ⟨ds, hds, rfl⟩ := hf
  rw [AFh] at hr ⊢
  exact A6F hs hds hr
 | .arr n k cs, x', us, hf, hr => by
  rw [frs] at hf
  split at hf
  ·rename_i hsc; cases hf; rw [AFh] at hr ⊢; exact ⟨hr.1, hr.2.1, AOs hsc hr.2.2⟩
  ·cases hf
 | .tup cs, x', us, hf, hr => by rw [AFh] at hr; exact hr.elim
 | .ifc t x, x', us, hf, hr => by
  simp only [frs, Option.map_eq_some_iff] at hf
  obtain ⟨y, hy, rfl⟩ := hf
  rw [AFh] at hr ⊢
  obtain ⟨u, h1, vs, h2, h3⟩ := hr
  exact ⟨u, h1, vs, A45 hs hy h2, by rw [h3]; exact A7L hy vs⟩
theorem A6F {c : Ctx} {w : World} (hs : Sim c w) : ∀ {xs xs' : List TV} {us : List Value}, A6X c.H xs = some xs' → AFj c w xs us → AFj c.mine w xs' us
 | [], xs', us, hf, hr => by simp only [A6X, Option.some.injEq] at hf; subst hf; rw [AFj] at hr ⊢; exact hr
 | x :: xs, xs', us, hf, hr => by
  rw [A6X] at hf
  split at hf
  ·rename_i y ys hy hys
   cases hf
   rw [AFj] at hr ⊢
   obtain ⟨u, us, h1, h2, h3⟩ := hr
   exact ⟨u, us, h1, A45 hs hy h2, A6F hs hys h3⟩
  ·cases hf
theorem A7L {H : List Ob} : ∀ {x x' : TV} (hf : frs H x = some x') (us : List Value), mkV x us = mkV x' us
 | .val y, x', hf, us => by simp only [frs, Option.some.injEq] at hf; subst hf; rfl
 | .any, x', hf, us => by simp only [frs, Option.some.injEq] at hf; subst hf; rfl
 | .mp _ _, x', hf, us => by simp [frs] at hf
 | .yl _ _, x', hf, us => by simp [frs] at hf
 | .sl k cs, x', hf, us => by simp [frs] at hf
 | .fp x, x', hf, us => by simp [frs] at hf
 | .op id ver p, x', hf, us => by simp [frs] at hf
 | .fn f a b, x', hf, us => by simp [frs] at hf
 | .os k id ver p off n cp, x', hf, us => by
  rw [frs] at hf
  split at hf
  ·split at hf
   ·split at hf
    ·split at hf
     ·cases hf; rfl
     ·cases hf
    ·cases hf
   ·cases hf
  ·cases hf
 | .agg cs, x', hf, us => by
  simp only [frs, Option.map_eq_some_iff] at hf
  obtain ⟨ds, hds, rfl⟩ := hf; rfl
 | .arr n k cs, x', hf, us => by
  rw [frs] at hf
  split at hf
  ·cases hf; rfl
  ·cases hf
 | .tup cs, x', hf, us => by
  simp only [frs, Option.map_eq_some_iff] at hf
  obtain ⟨ds, hds, rfl⟩ := hf; rfl
 | .ifc t x, x', hf, us => by
  simp only [frs, Option.map_eq_some_iff] at hf
  obtain ⟨y, hy, rfl⟩ := hf; rfl
end
theorem A8k {c : Ctx} {w : World} (hs : Sim c w) : ∀ {xs xs' : List TV} {vs : List Value}, A6X c.H xs = some xs' → AF9 c w xs vs → AF9 c.mine w xs' vs
 | [], xs', vs, hf, hr => by simp only [A6X, Option.some.injEq] at hf; subst hf; rw [AF9] at hr ⊢; exact hr
 | x :: xs, xs', vs, hf, hr => by
  rw [A6X] at hf
  split at hf
  ·rename_i y ys hy hys
   cases hf
   rw [AF9] at hr ⊢
   obtain ⟨u, us, h1, h2, h3⟩ := hr
   refine ⟨u, us, h1, ?_, A8k hs hys h3⟩
   rcases h2 with rfl | rfl | ⟨aS, h2, h4⟩
   ·simp only [frs, Option.some.injEq] at hy; subst hy; exact .inl rfl
   ·simp only [frs, Option.some.injEq] at hy; subst hy; exact .inr (.inl rfl)
   ·exact .inr (.inr ⟨aS, A45 hs hy h2, by rw [h4]; exact A7L hy aS⟩)
  ·cases hf
theorem BfJ {c : Ctx} {w : World} (hs : Sim c w) {x x' : TV} {v : Value} (hf : frs c.H x = some x') (hr : Rep c w x v) : Rep c.mine w x' v := by
 rcases hr with (h | h | ⟨us, h, h'⟩) | ⟨xs, vs, rfl, h2, h3⟩
 ·subst h; simp only [frs, Option.some.injEq] at hf; subst hf; exact Rep.any
 ·subst h; simp only [frs, Option.some.injEq] at hf; subst hf; exact Rep.of_val
 ·exact .inl (.inr (.inr ⟨us, A45 hs hf h, by rw [h']; exact A7L hf us⟩))
 ·simp only [frs, Option.map_eq_some_iff] at hf
  obtain ⟨ds, hds, rfl⟩ := hf
  exact .inr ⟨ds, vs, rfl, h2, A8k hs hds h3⟩

/-- A CALL THAT LEAVES NOTHING BEHIND, AND YIELDS NEW MEMORY ALONE. -/
def AUt (P : Program) (f : FuncId) (args : List TV) (R : TV → Prop) : Prop :=
 ∀ (β : Nat → Nat → Option (Nat × Nat)) (F : Nat → Prop) (w : World) (vs : List Value), ((∀ b, F b → b < w.heap.size) ∧ AJB F w) → AF9 ⟨β, [], F⟩ w args vs →
  Calls P f vs.toArray w fun e w' => ∃ v x F', e = .returned v ∧ R x ∧ Rep ⟨β, [], fun b => F' b ∧ w.heap.size ≤ b⟩ w' x v ∧ ATn F w F' w'

theorem AUt.mono {f : FuncId} {args : List TV} {R R' : TV → Prop} (h : AUt P f args R) (hr : ∀ x, R x → R' x) : AUt P f args R' :=
 fun β F w vs hF hv => (h β F w vs hF hv).mono fun _ _ ⟨v, x, F', h1, h2, h3⟩ => ⟨v, x, F', h1, hr _ h2, h3⟩
theorem AUt.pure {f : FuncId} {args : List TV} {R : TV → Prop} (h : AUt P f args R) : AFE P f args R :=
 fun β F w vs hF hv => (h β F w vs hF hv).mono fun _ _ ⟨v, x, F', h1, h2, h3, h4⟩ => ⟨v, x, F', h1, h2, Rep.mono (AMv.ofF (F := fun b => F' b ∧ w.heap.size ≤ b) (F' := F') fun b hb => hb.1) h3, h4⟩

theorem AFk.toFresh {f : FuncId} {args : List TV} {R : TV → Prop} (h : AFk P f args [] fun x H' => match frs H' x with | some y => R y | none => False) : AUt P f args R := by
 intro β F w vs hF hv
 have hs : Sim ⟨β, [], F⟩ w := ⟨fun id o ho => by simp at ho, fun i j x y b o o' hx => by simp at hx, fun b hb => by obtain ⟨i, o, off, h1, _⟩ := hb; simp at h1, hF.1, hF.2⟩
 refine (h β F w vs hs hv).mono ?_
 rintro _ w' ⟨v, x, β', H', F', rfl, hR, hs', hl, hx⟩
 split at hR
 ·rename_i y hy
  have hno : ∀ b, ¬ Ctx.own ⟨β, [], F⟩ b := fun b hb => by obtain ⟨i, o, off, h1, _⟩ := hb; simp at h1
  have hr := BfJ hs' hy hx
  have hnew : ∀ b, Ctx.own ⟨β', H', F'⟩ b → w.heap.size ≤ b := fun b hb => by
   rcases Nat.lt_or_ge b w.heap.size with h1 | h1
   ·exact absurd (hl.oldOwn b h1 hb) (hno b)
   ·exact h1
  refine ⟨v, y, fun b => F b ∨ Ctx.own ⟨β', H', F'⟩ b, rfl, hR, ?_, ⟨hl.os, hl.tape, hl.output, hl.size, fun b hb => hl.same b hb (hno b), fun b hb => .inl hb, fun b hb hF' => hF'.elim id fun h => ?_, fun b hF' => hF'.elim (fun h => Nat.lt_of_lt_of_le (hF.1 b h) hl.size) hs'.own_lt⟩⟩
  ·exact Rep.mono (AMv.ofF (F := Ctx.own ⟨β', H', F'⟩) (F' := fun b => (F b ∨ Ctx.own ⟨β', H', F'⟩ b) ∧ w.heap.size ≤ b) fun b hb => ⟨.inr hb, hnew b hb⟩) hr
  ·have := hnew b h; omega
 ·exact hR.elim

/-- Such a call, to which objects are lent. -/
theorem AUt.lends {f : FuncId} {args args' : List TV} {R : TV → Prop} {H : List Ob} {K : TV → List Ob → Prop} (h : AUt P f args' R) (hp : BmC H args = some args') (hk : ∀ x, R x → K x H) : AFk P f args H K := by
 intro β F w vs hs hv
 refine (h β (fun b => F b ∨ Ctx.own ⟨β, H, F⟩ b) w vs ⟨fun b hb => hb.elim (hs.lt b) hs.own_lt, hs.glob.keep fun b hb => ⟨.inl hb, rfl⟩⟩ (A8b hs hp hv)).mono ?_
 rintro _ w' ⟨v, x, F', rfl, hR, hx, hst⟩
 have hst' : ATn F w (fun b => F b ∨ (F' b ∧ w.heap.size ≤ b)) w' := ⟨hst.os, hst.tape, hst.output, hst.size, hst.same, fun _ h => .inl h, fun b hb h => h.elim id fun h => by omega, fun b hb => hb.elim (fun h => Nat.lt_of_lt_of_le (hs.lt b h) hst.size) fun h => hst.ltF b h.1⟩
 refine ⟨v, x, β, H, _, rfl, hk x hR, hst'.sim hs, hst'.later, Rep.mono (AMv.ofF (F := fun b => F' b ∧ w.heap.size ≤ b) (F' := fun b => F b ∨ (F' b ∧ w.heap.size ≤ b)) fun b hb => .inr hb) hx⟩
end
end Go.Proofs.YtliaddbbmnfioaaGreatDoor


namespace Go.Proofs.YtliaddbbmnfioaaGreatDoor
open Go.RowKit
variable [AFG]
set_option linter.unusedSectionVars false
set_option linter.unusedSimpArgs false
set_option linter.unusedVariables false
set_option autoImplicit false

/-- An equation that simp is to take for no definition. -/
theorem AE9 {α : Sort _} {a b : α} (h : a = b) : a = b := h

/-- Numbers, truth values, strings. -/
abbrev i64 (n : Int) : TV := .val (.int .i64 n)
abbrev tb (b : Bool) : TV := .val (.bool b)
abbrev ts (l : List UInt8) : TV := .val (.string (str l))
/-- Bytes, strings, numbers in memory. -/
abbrev slB (l : List UInt8) : TV := .sl 1 (l.map by8)
abbrev slS (l : List (List UInt8)) : TV := .sl 1 (l.map ts)

section
variable {P : Program} {e : Env} {H : List Ob}
theorem Bpz {c : Opd} {a : Opd} {b : Opd} {K : TV → Prop} : pop (.pick c a b) e H K = (match c.ev e with
  | .val (.bool t) => K (if t then a.ev e else b.ev e)
  | _ => False) := AE9 rfl
theorem Bp1 {x : Opd} {K : TV → Prop} : pop (.b2s x) e H K = (match AGy H 1 (x.ev e) with
  | some cs => (∀ y ∈ cs, A7a y) ∧ K (.val (.string (str (cs.map AZi))))
  | none => False) := AE9 rfl
theorem BpH {ag : Bool} {sz : Nat} {x : Opd} {K : TV → Prop} : pop (.load ag sz x) e H K = (match x.ev e with
  | .fp y => A3F ag sz y ∧ K y
  | .op id ver p => (match H[id]? with
   | some (.obj v x) => v = ver ∧ (match AJ9 p x with | some y => A3F ag sz y ∧ K y | none => False)
   | _ => False)
  | _ => False) := AE9 rfl
theorem Bob {n : Nat} {k : Nat} {x : Opd} {i : Opd} {K : TV → Prop} : pop (.idxAA n k x i) e H K = (match x.ev e, i.ev e with
  | .fp (.arr n' k' cs), .val (.int _ j) => k' = k ∧ n' = n ∧ 0 ≤ j ∧ (match cs[j.toNat]? with | some y => K (.fp y) | none => False)
  | .op id ver p, .val (.int _ j) => 0 ≤ j ∧ j < n ∧ K (.op id ver (p ++ [(j.toNat, j.toNat * k)]))
  | _, _ => False) := AE9 rfl
theorem Bpi {x : Opd} {K : TV → Prop} : pop (.lenV x) e H K = (match x.ev e with
  | .val (.slice _ n _) => K (.val (.int .i64 n))
  | .sl _ cs => K (.val (.int .i64 cs.length))
  | .os _ _ _ _ _ n _ => K (.val (.int .i64 n))
  | _ => False) := AE9 rfl
theorem BoP {k : Nat} {x : Opd} {lo : Option Opd} {hi : Option Opd} {K : TV → Prop} : pop (.slV k x lo hi) e H K = (match x.ev e with
  | .sl k' cs => k' = k ∧ bnd e lo hi cs.length cs.length fun l h => K (.sl k ((cs.drop l).take (h - l)))
  | .os k' id ver p off n cp => k' = k ∧ bnd e lo hi n cp fun l h => K (.os k id ver p (off + l) (h - l) (cp - l))
  | .val (.slice ad 0 0) => bnd e lo hi 0 0 fun l h => K (.val (.slice ad 0 0))
  | _ => False) := AE9 rfl
theorem Bn5 {n : Nat} {k : Nat} {x : Opd} {lo : Option Opd} {hi : Option Opd} {K : TV → Prop} : pop (.slA n k x lo hi) e H K = (match x.ev e with
  | .fp (.arr n' k' cs) => k' = k ∧ n' = n ∧ n ≤ 9223372036854775807 ∧ bnd e lo hi n n fun l h => K (.sl k ((cs.drop l).take (h - l)))
  | .op id ver p => (match H[id]? with
   | some (.obj v x) => v = ver ∧ n ≤ 9223372036854775807 ∧ (match AJ9 p x with | some (.arr n' k' cs) => k' = k ∧ n' = n ∧ bnd e lo hi n n fun l h => K (.os k id ver p l (h - l) (n - l)) | _ => False)
   | _ => False)
  | _ => False) := AE9 rfl
theorem Bo3 {f : Fn} {first : List Opd} {caps : List Opd} {K : TV → Prop} : pop (.mkf f first caps) e H K = ((∀ x ∈ first ++ caps, AGZ (x.ev e) = false) ∧ K (.fn f (first.map (·.ev e)) (caps.map (·.ev e)))) := AE9 rfl
theorem Bpd {x : Opd} {K : TV → Prop} : pop (.nilc x) e H K = (match x.ev e with
  | .op id ver p => K (.op id ver p)
  | .fp y => K (.fp y)
  | .fn (.func f) a b => K (.fn (.func f) a b)
  | .ifc t y => K (.ifc t y)
  | .val (.func (.func f) a b) => K (.val (.func (.func f) a b))
  | _ => False) := AE9 rfl
theorem Bex {k : Nat} {n : Nat} {z : TV} {ps : List (Nat × Opd)} {K : TV → List Ob → Prop} : sop P (.bslice k n z ps) e H K = ((AII e (List.replicate n k) ps ∧ AGm e ps ∧ n ≤ 1000) ∧ K (.os k H.length 0 [] 0 n n) (H ++ [.obj 0 (.arr n k (AJo e (List.replicate n z) ps))])) := AE9 rfl
theorem Bnu {sz : Nat} {x : Opd} {v : Opd} {K : TV → List Ob → Prop} : sop P (.store sz x v) e H K = ((lays (v.ev e) = true ∧ AFo (v.ev e) = sz) ∧ (match x.ev e with
  | .op id ver p => (match H[id]? with
   | some (.obj vr y) => vr = ver ∧ (match ANf p y (v.ev e) with | some y' => K .any (H.set id (.obj ver y')) | none => False)
   | _ => False)
  | _ => False)) := AE9 rfl
theorem BkH {f : FuncId} {args : List Opd} {K : TV → List Ob → Prop} : sop P (.call f args) e H K = ((∀ x ∈ args, AGZ (x.ev e) = false) ∧ AFk P f (args.map (·.ev e)) H K) := AE9 rfl
theorem BiS {x : Opd} {args : List Opd} {K : TV → List Ob → Prop} : sop P (.callv x args) e H K = ((∀ x ∈ args, AGZ (x.ev e) = false) ∧ (match x.ev e with
  | .fn (.func f) first caps => A1T P f = true ∧ AFk P f (first ++ args.map (·.ev e) ++ caps) H K
  | .val (.func (.func f) xs ys) => (xs.isEmpty && ys.isEmpty) = true ∧ A1T P f = true ∧ AFk P f (args.map (·.ev e)) H K
  | .yl id ver => A2F P id ver (args.map (·.ev e)) H K
  | _ => False)) := AE9 rfl
theorem Bmc  {Q : VEx → Env → List Ob → Prop} : vwp P (.skip ) Q e H = (Q .nor e H) := AE9 rfl
theorem BpU {a : AFb} {b : AFb} {Q : VEx → Env → List Ob → Prop} : vwp P (.seq a b) Q e H = (vwp P a (fun x e H => match x with | .nor => vwp P b Q e H | .exit i => Q (.exit i) e H | .ret => Q .ret e H | .pan u => Q (.pan u) e H) e H) := AE9 rfl
theorem BlE {lv : List Nat} {c : AFb} {Q : VEx → Env → List Ob → Prop} {H0 : List Ob} : vwp P (.loop lv c) Q e H0 = (∃ (I : Nat → Env → List Ob → Prop) (n : Nat), I n (forget lv e) H0 ∧
   ∀ n e H, I n e H → vwp P c (fun x e H => match x with | .nor => ∃ m g, m < n ∧ (H0.length ≤ g ∧ (H.length ≤ g ∨ (A1g g (forget lv e) = true ∧ AZr g (H.take g) = true))) ∧ I m (forget lv e) (H.take g) | .exit i => Q (.exit i) e H | .ret => Q .ret e H | .pan u => Q (.pan u) e H) e H) := AE9 rfl
theorem BjY {id : Nat} {Q : VEx → Env → List Ob → Prop} : vwp P (.exit id) Q e H = (Q (.exit id) e H) := AE9 rfl
theorem BmP  {Q : VEx → Env → List Ob → Prop} : vwp P (.ret ) Q e H = (Q .ret e H) := AE9 rfl
theorem Bh6 {c : AFb} {Q : VEx → Env → List Ob → Prop} : vwp P (.scope c) Q e H = (vwp P c Q e H) := AE9 rfl
theorem BpR {s k : Nat} {c : AFb} {Q : VEx → Env → List Ob → Prop} : vwp P (.own s k c) Q e H = (match get e s with
  | .val (.slice none 0 0) => vwp P c Q ((s, .os k H.length 0 [] 0 0 0) :: e) (H ++ [.obj 0 (.arr 0 k [])])
  | _ => vwp P c Q e H) := AE9 rfl
theorem Bl7 {s k : Nat} {p : List (Nat × Nat)} {c : AFb} {Q : VEx → Env → List Ob → Prop} : vwp P (.ownB s p k c) Q e H = (match get e s with
  | .op id ver p0 => (match H[id]? with
   | some (.obj v x) => v = ver ∧ (match AJ9 (p0 ++ p) x with
    | some (.val (.slice none 0 0)) => (match ANf (p0 ++ p) x (.os k H.length 0 [] 0 0 0) with
     | some x' => vwp P c Q e (H.set id (.obj ver x') ++ [.obj 0 (.arr 0 k [])])
     | none => False)
    | _ => vwp P c Q e H)
   | _ => False)
  | _ => False) := AE9 rfl
theorem Bgl {s : Nat} {t : TypeId} {p : List (Nat × Nat)} {c : AFb} {Q : VEx → Env → List Ob → Prop} : vwp P (.ownT s p t c) Q e H = (match get e s with
  | .op id ver p0 => (match H[id]? with
   | some (.obj v x) => v = ver ∧ (match AJ9 (p0 ++ p) x with
    | some (.val (.slice none 0 0)) => (match ANf (p0 ++ p) x (.os 1 H.length 0 [] 0 0 0) with
     | some x' => vwp P c Q e (H.set id (.obj ver x') ++ [.bld 0 t []])
     | none => False)
    | _ => vwp P c Q e H)
   | _ => False)
  | _ => False) := AE9 rfl
theorem Bfi {K : Env → List Ob → Prop} : A1y P [] K e H = K e H := AE9 rfl
theorem BjT {d : Nat} {o : POp} {r : List VO} {K : Env → List Ob → Prop} : A1y P (⟨some d, .p o, none⟩ :: r) K e H = pop o e H fun x => A1y P r K ((d, x) :: e) H := AE9 rfl
theorem Blr {d : Nat} {o : SOp} {r : List VO} {K : Env → List Ob → Prop} : A1y P (⟨some d, .s o, none⟩ :: r) K e H = sop P o e H fun x H => A1y P r K ((d, x) :: e) H := AE9 rfl
theorem Bhc {o : SOp} {r : List VO} {K : Env → List Ob → Prop} : A1y P (⟨none, .s o, none⟩ :: r) K e H = sop P o e H fun x H => A1y P r K e H := AE9 rfl
theorem BkP {d s : Nat} {o : VOp} {b : Bool} {r : List VO} {K : Env → List Ob → Prop} : A1y P (⟨some d, o, some (s, b)⟩ :: r) K e H = A29 e s fun e q => match q with
 | some t => if t = b then vop P o e H (fun x H => A1y P r K ((d, x) :: e) H) else A1y P r K ((d, .val undef) :: e) H
 | none => A1y P r K ((d, .val undef) :: e) H := AE9 rfl
theorem BoL {o : POp} {K : TV → List Ob → Prop} : vop P (.p o) e H K = pop o e H fun x => K x H := AE9 rfl
theorem BnB {o : SOp} {K : TV → List Ob → Prop} : vop P (.s o) e H K = sop P o e H K := AE9 rfl
theorem Bk3 {K : Env → Prop} : vq P [] K e H = K e := AE9 rfl
theorem Bp3 {d : Nat} {o : POp} {r : List VO} {K : Env → Prop} : vq P (⟨some d, .p o, none⟩ :: r) K e H = pop o e H fun x => vq P r K ((d, x) :: e) H := AE9 rfl
theorem BpZ {d : Nat} {f : FuncId} {args : List Opd} {r : List VO} {K : Env → Prop} : vq P (⟨some d, .s (.call f args), none⟩ :: r) K e H = ((∀ x ∈ args, AGZ (x.ev e) = false) ∧ ∃ x, AFk P f (args.map (·.ev e)) H (fun y H' => y = x ∧ H' = H) ∧ vq P r K ((d, x) :: e) H) := AE9 rfl
theorem BgY {o : POp} {k : TV → Prop} : A3l P (.p o) e H k = pop o e H k := AE9 rfl
theorem Bhf {f : FuncId} {args : List Opd} {k : TV → Prop} : A3l P (.s (.call f args)) e H k = ((∀ x ∈ args, AGZ (x.ev e) = false) ∧ ∃ x, AFk P f (args.map (·.ev e)) H (fun y H' => y = x ∧ H' = H) ∧ k x) := AE9 rfl
variable {t : TypeId} {a b : Int} {k : IntKind}
theorem AGD {n : Int} (h1 : -9223372036854775808 ≤ n) (h2 : n ≤ 9223372036854775807) : IntKind.i64.wrap n = n := by rw [IntKind.wrap_i64]; omega
theorem BmO (h1 : -9223372036854775808 ≤ a + b) (h2 : a + b ≤ 9223372036854775807) : AHA t .add (.int .i64 a) (.int .i64 b) = some (.int .i64 (a + b)) := by
 rw [show AHA t .add (.int .i64 a) (.int .i64 b) = some (.int .i64 (IntKind.i64.wrap (a + b))) from rfl, AGD h1 h2]
theorem Bn0 (h1 : -9223372036854775808 ≤ a - b) (h2 : a - b ≤ 9223372036854775807) : AHA t .sub (.int .i64 a) (.int .i64 b) = some (.int .i64 (a - b)) := by
 rw [show AHA t .sub (.int .i64 a) (.int .i64 b) = some (.int .i64 (IntKind.i64.wrap (a - b))) from rfl, AGD h1 h2]
theorem Bn9 (h1 : -9223372036854775808 ≤ a * b) (h2 : a * b ≤ 9223372036854775807) : AHA t .mul (.int .i64 a) (.int .i64 b) = some (.int .i64 (a * b)) := by
 rw [show AHA t .mul (.int .i64 a) (.int .i64 b) = some (.int .i64 (IntKind.i64.wrap (a * b))) from rfl, AGD h1 h2]
theorem Bns : AHA t .eql (.int k a) (.int k b) = some (.bool (decide (a = b))) := by
 rw [show AHA t .eql (.int k a) (.int k b) = some (.bool (a == b)) from by simp [AHA, binOp, Op.intCmp]; rfl]; rfl
theorem BnY : AHA t .neq (.int k a) (.int k b) = some (.bool (!decide (a = b))) := by
 rw [show AHA t .neq (.int k a) (.int k b) = some (.bool (a != b)) from by simp [AHA, binOp, Op.intCmp]; rfl]; rfl
theorem Bm4 : AHA t .lss (.int k a) (.int k b) = some (.bool (decide (a < b))) := by simp [AHA, binOp, Op.intCmp]; rfl
theorem Bo2 : AHA t .leq (.int k a) (.int k b) = some (.bool (decide (a ≤ b))) := by simp [AHA, binOp, Op.intCmp]; rfl
theorem Bom : AHA t .gtr (.int k a) (.int k b) = some (.bool (decide (b < a))) := by simp [AHA, binOp, Op.intCmp]; rfl
theorem Bm8 : AHA t .geq (.int k a) (.int k b) = some (.bool (decide (b ≤ a))) := by simp [AHA, binOp, Op.intCmp]; rfl
theorem Bak : AIE 0 (.val (.pointer none)) = some true := AE9 rfl
theorem BcA {i v : Nat} {p : List (Nat × Nat)} : AIE 0 (.op i v p) = some false := AE9 rfl
theorem BaM {x : TV} : AIE 0 (.fp x) = some false := AE9 rfl
theorem Bbw : AIE 1 (.val .nilIface) = some true := AE9 rfl
theorem A9x {t : TypeId} {x : TV} : AIE 1 (.ifc t x) = some false := AE9 rfl
theorem BbV : AIE 2 (.val (.map none)) = some true := AE9 rfl
theorem Bck {i v : Nat} : AIE 2 (.mp i v) = some false := AE9 rfl
theorem BbB {i v : Nat} : AIE 3 (.yl i v) = some false := AE9 rfl
theorem Bbq : AIE 3 (.val .nilFunc) = some true := AE9 rfl
theorem BcU {f : Fn} {a b : List TV} : AIE 3 (.fn f a b) = some false := AE9 rfl
theorem BmH {n : Int} (h0 : 0 ≤ n) (h1 : n < 18446744073709551616) : (BitVec.ofInt 64 n).toNat = n.toNat := by
 rw [BitVec.toNat_ofInt]
 have : n % ((2 ^ 64 : Nat) : Int) = n := Int.emod_eq_of_lt h0 (by simpa using h1)
 rw [this]
theorem Bo4 (h1 : 0 ≤ a) (h2 : a ≤ 9223372036854775807) (h3 : 0 ≤ b) (h4 : b ≤ 9223372036854775807) : AHA t .and (.int .i64 a) (.int .i64 b) = some (.int .i64 ((a.toNat &&& b.toNat : Nat) : Int)) := by
 rw [show AHA t .and (.int .i64 a) (.int .i64 b) = some (.int .i64 (IntKind.i64.wrap ((BitVec.ofInt 64 a &&& BitVec.ofInt 64 b).toNat : Int))) from rfl, BitVec.toNat_and, BmH h1 (by omega), BmH h3 (by omega)]
 have := Nat.and_le_left (n := a.toNat) (m := b.toNat)
 rw [AGD (by omega) (by omega)]
theorem BpK (h1 : 0 ≤ a) (h2 : a ≤ 9223372036854775807) (h3 : 0 ≤ b) (h4 : b ≤ 9223372036854775807) : AHA t .or (.int .i64 a) (.int .i64 b) = some (.int .i64 ((a.toNat ||| b.toNat : Nat) : Int)) := by
 rw [show AHA t .or (.int .i64 a) (.int .i64 b) = some (.int .i64 (IntKind.i64.wrap ((BitVec.ofInt 64 a ||| BitVec.ofInt 64 b).toNat : Int))) from rfl, BitVec.toNat_or, BmH h1 (by omega), BmH h3 (by omega)]
 have := Nat.or_lt_two_pow (n := 63) (x := a.toNat) (y := b.toNat) (by omega) (by omega)
 rw [AGD (by omega) (by omega)]
theorem BnG {k2 : IntKind} (h1 : 0 ≤ b) (h2 : b ≤ 63) (h3 : 0 ≤ a * 2 ^ b.toNat) (h4 : a * 2 ^ b.toNat ≤ 9223372036854775807) : AHA t .shl (.int .i64 a) (.int k2 b) = some (.int .i64 (a * 2 ^ b.toNat)) := by
 have e : binOp .shl t (.int .i64 a) (.int k2 b) = pure (.int .i64 (a * 2 ^ b.toNat)) := by
  show Op.shift .shl .i64 a k2 b = _
  unfold Op.shift
  rw [if_neg (by omega)]
  have hm : min b.toNat IntKind.i64.bits = b.toNat := by
   have : IntKind.i64.bits = 64 := rfl
   omega
  simp only [hm]
  rw [AGD (by omega) h4]
 unfold AHA; rw [e]; rfl
theorem BoZ {k2 : IntKind} (h1 : 0 ≤ b) (h2 : b ≤ 63) (h3 : 0 ≤ a) : AHA t .shr (.int .i64 a) (.int k2 b) = some (.int .i64 (a / 2 ^ b.toNat)) := by
 have e : binOp .shr t (.int .i64 a) (.int k2 b) = pure (.int .i64 (a / 2 ^ b.toNat)) := by
  show Op.shift .shr .i64 a k2 b = _
  unfold Op.shift
  rw [if_neg (by omega)]
  have hm : min b.toNat IntKind.i64.bits = b.toNat := by
   have : IntKind.i64.bits = 64 := rfl
   omega
  simp only [hm]
  rw [Int.fdiv_eq_ediv_of_nonneg _ (by exact Int.le_of_lt (Int.pow_pos (by omega)))]
 unfold AHA; rw [e]; rfl
theorem Bod (h1 : 0 ≤ a) (h2 : b ≠ 0) : AHA t .rem (.int k a) (.int k b) = some (.int k (a % b)) := by
 have e : binOp .rem t (.int k a) (.int k b) = pure (.int k (a % b)) := by
  unfold binOp
  simp only [ne_eq, not_true_eq_false, if_false, Op.intDiv, h2, Int.tmod_eq_emod_of_nonneg h1]
 unfold AHA; rw [e]; rfl
theorem Bos (h1 : 0 ≤ a) (h2 : 0 < b) (h3 : a ≤ 9223372036854775807) : AHA t .quo (.int .i64 a) (.int .i64 b) = some (.int .i64 (a / b)) := by
 have e : binOp .quo t (.int .i64 a) (.int .i64 b) = pure (.int .i64 (a / b)) := by
  unfold binOp
  simp only [ne_eq, not_true_eq_false, if_false, Op.intDiv, show ¬ b = 0 from by omega, Int.tdiv_eq_ediv_of_nonneg h1]
  have h4 : a / b ≤ a := Int.ediv_le_self _ h1
  have h5 : 0 ≤ a / b := Int.ediv_nonneg h1 (by omega)
  rw [AGD (by omega) (by omega)]
 unfold AHA; rw [e]; rfl
theorem Bgx {x y : UInt8} : AHA t .xor (.int .u8 (x.toNat : Int)) (.int .u8 (y.toNat : Int)) = some (.int .u8 ((x ^^^ y).toNat : Int)) := by
 rw [show AHA t .xor (.int .u8 (x.toNat : Int)) (.int .u8 (y.toNat : Int)) = some (.int .u8 (IntKind.u8.wrap ((BitVec.ofInt 8 (x.toNat : Int) ^^^ BitVec.ofInt 8 (y.toNat : Int)).toNat : Int))) from rfl]
 rw [BitVec.ofInt_natCast, BitVec.ofInt_natCast, UInt8.toNat_xor, BitVec.toNat_xor, BitVec.toNat_ofNat, BitVec.toNat_ofNat, Nat.mod_eq_of_lt x.toNat_lt, Nat.mod_eq_of_lt y.toNat_lt]
 have := Nat.xor_lt_two_pow (n := 8) x.toNat_lt y.toNat_lt
 rw [IntKind.wrap_u8]; congr 2; omega
theorem AVD (l : List UInt8) : (str l).toList = l := by simp [str, ByteArray.toList_eq]
theorem A8d {l m : List UInt8} : (l == m) = decide (l = m) := by
 by_cases h : l = m <;> simp [h]
theorem Bnt {l m : List UInt8} : AHA t .eql (.string (str l)) (.string (str m)) = some (.bool (decide (l = m))) := by
 rw [show AHA t .eql (.string (str l)) (.string (str m)) = some (.bool ((str l).toList == (str m).toList)) from rfl, AVD, AVD, A8d]
theorem Bm0 {l m : List UInt8} : AHA t .neq (.string (str l)) (.string (str m)) = some (.bool (!decide (l = m))) := by
 rw [show AHA t .neq (.string (str l)) (.string (str m)) = some (.bool (!((str l).toList == (str m).toList))) from rfl, AVD, AVD, A8d]
theorem Bn3 {b : Bool} : unV .not (.bool b) = some (.bool (!b)) := AE9 rfl
theorem Bf0 {u : Value} : BdN (.int k a) u = true := by cases u <;> rfl
theorem Bc1 {s : ByteArray} {u : Value} : BdN (.string s) u = true := by cases u <;> rfl

theorem Bea {v : Value} : AZ5 (TV.val v) = false := AE9 rfl
theorem BeL  : AZ5 (TV.any) = false := AE9 rfl
theorem Bis {k : Nat} {cs : List TV} : AZ5 (TV.sl k cs) = false := AE9 rfl
theorem Bi6 {x : TV} : AZ5 (TV.fp x) = false := AE9 rfl
theorem BhS {i : Nat} {v : Nat} {p : List (Nat × Nat)} : AZ5 (TV.op i v p) = false := AE9 rfl
theorem Bh9 {k : Nat} {i : Nat} {v : Nat} {p : List (Nat × Nat)} {o : Nat} {n : Nat} {cp : Nat} : AZ5 (TV.os k i v p o n cp) = false := AE9 rfl
theorem BfX {cs : List TV} : AZ5 (TV.agg cs) = true := AE9 rfl
theorem Bet {n : Nat} {k : Nat} {cs : List TV} : AZ5 (TV.arr n k cs) = true := AE9 rfl
theorem Bf6 {vs : List TV} : AZ5 (TV.tup vs) = false := AE9 rfl
theorem Bdv {t : TypeId} {x : TV} : AZ5 (TV.ifc t x) = false := AE9 rfl
theorem Bie {f : Fn} {a : List TV} {b : List TV} : AZ5 (TV.fn f a b) = false := AE9 rfl
theorem Bg4 {i : Nat} {v : Nat} : AZ5 (TV.mp i v) = false := AE9 rfl
theorem BiZ {i : Nat} {v : Nat} : AZ5 (TV.yl i v) = false := AE9 rfl
theorem Bbb {v : Value} : AGZ (TV.val v) = false := AE9 rfl
theorem BbD  : AGZ (TV.any) = false := AE9 rfl
theorem Bfg {k : Nat} {cs : List TV} : AGZ (TV.sl k cs) = false := AE9 rfl
theorem Bee {x : TV} : AGZ (TV.fp x) = false := AE9 rfl
theorem Bd6 {i : Nat} {v : Nat} {p : List (Nat × Nat)} : AGZ (TV.op i v p) = false := AE9 rfl
theorem BdK {k : Nat} {i : Nat} {v : Nat} {p : List (Nat × Nat)} {o : Nat} {n : Nat} {cp : Nat} : AGZ (TV.os k i v p o n cp) = false := AE9 rfl
theorem Bca {cs : List TV} : AGZ (TV.agg cs) = false := AE9 rfl
theorem BcG {n : Nat} {k : Nat} {cs : List TV} : AGZ (TV.arr n k cs) = false := AE9 rfl
theorem Ba3 {vs : List TV} : AGZ (TV.tup vs) = true := AE9 rfl
theorem Ba7 {t : TypeId} {x : TV} : AGZ (TV.ifc t x) = false := AE9 rfl
theorem BdX {f : Fn} {a : List TV} {b : List TV} : AGZ (TV.fn f a b) = false := AE9 rfl
theorem BfU {i : Nat} {v : Nat} : AGZ (TV.mp i v) = false := AE9 rfl
theorem Bdy {i : Nat} {v : Nat} : AGZ (TV.yl i v) = false := AE9 rfl
theorem BeP  : lays (TV.any) = false := AE9 rfl
theorem Bhw {k : Nat} {cs : List TV} : lays (TV.sl k cs) = true := AE9 rfl
theorem Bh7 {x : TV} : lays (TV.fp x) = true := AE9 rfl
theorem Bho {i : Nat} {v : Nat} {p : List (Nat × Nat)} : lays (TV.op i v p) = true := AE9 rfl
theorem Bix {k : Nat} {i : Nat} {v : Nat} {p : List (Nat × Nat)} {o : Nat} {n : Nat} {cp : Nat} : lays (TV.os k i v p o n cp) = true := AE9 rfl
theorem BfR {cs : List TV} : lays (TV.agg cs) = true := AE9 rfl
theorem BfC {n : Nat} {k : Nat} {cs : List TV} : lays (TV.arr n k cs) = true := AE9 rfl
theorem BdF {vs : List TV} : lays (TV.tup vs) = false := AE9 rfl
theorem Bfa {t : TypeId} {x : TV} : lays (TV.ifc t x) = true := AE9 rfl
theorem Bg1 {f : Fn} {a : List TV} {b : List TV} : lays (TV.fn f a b) = true := AE9 rfl
theorem BgP {i : Nat} {v : Nat} : lays (TV.mp i v) = true := AE9 rfl
theorem Bit {i : Nat} {v : Nat} : lays (TV.yl i v) = true := AE9 rfl
theorem BcB {v : Value} : AIK (TV.val v) = true := AE9 rfl
theorem BcW  : AIK (TV.any) = true := AE9 rfl
theorem BeR {k : Nat} {cs : List TV} : AIK (TV.sl k cs) = true := AE9 rfl
theorem BeZ {x : TV} : AIK (TV.fp x) = true := AE9 rfl
theorem Bf9 {i : Nat} {v : Nat} {p : List (Nat × Nat)} : AIK (TV.op i v p) = false := AE9 rfl
theorem BdD {k : Nat} {i : Nat} {v : Nat} {p : List (Nat × Nat)} {o : Nat} {n : Nat} {cp : Nat} : AIK (TV.os k i v p o n cp) = false := AE9 rfl
theorem BcF {n : Nat} {k : Nat} {cs : List TV} : AIK (TV.arr n k cs) = true := AE9 rfl
theorem Bc2 {i : Nat} {v : Nat} : AIK (TV.mp i v) = false := AE9 rfl
theorem Bd5 {i : Nat} {v : Nat} : AIK (TV.yl i v) = false := AE9 rfl
theorem BcD {v : Value} : AFo (TV.val v) = 1 := AE9 rfl
theorem Bce  : AFo (TV.any) = 1 := AE9 rfl
theorem Ber {k : Nat} {cs : List TV} : AFo (TV.sl k cs) = 1 := AE9 rfl
theorem BeQ {x : TV} : AFo (TV.fp x) = 1 := AE9 rfl
theorem BeY {i : Nat} {v : Nat} {p : List (Nat × Nat)} : AFo (TV.op i v p) = 1 := AE9 rfl
theorem Bf7 {k : Nat} {i : Nat} {v : Nat} {p : List (Nat × Nat)} {o : Nat} {n : Nat} {cp : Nat} : AFo (TV.os k i v p o n cp) = 1 := AE9 rfl
theorem BaF {vs : List TV} : AFo (TV.tup vs) = 1 := AE9 rfl
theorem Bbs {t : TypeId} {x : TV} : AFo (TV.ifc t x) = 1 := AE9 rfl
theorem Bc3 {f : Fn} {a : List TV} {b : List TV} : AFo (TV.fn f a b) = 1 := AE9 rfl
theorem BeF {i : Nat} {v : Nat} : AFo (TV.mp i v) = 1 := AE9 rfl
theorem Bdg {i : Nat} {v : Nat} : AFo (TV.yl i v) = 1 := AE9 rfl
theorem Bcy {cs : List TV} : AFo (.agg cs) = AFU cs := by rw [AFo]
theorem Bb5 {n k : Nat} {cs : List TV} : AFo (.arr n k cs) = n * k := by rw [AFo]
theorem A9f : AFU [] = 0 := AE9 rfl
theorem A7R {x : TV} {xs : List TV} : AFU (x :: xs) = AFo x + AFU xs := by rw [AFU]
theorem BbL {cs : List TV} : AIK (.agg cs) = AHk cs := by rw [AIK]
theorem Bat {t : TypeId} {x : TV} : AIK (.ifc t x) = AIK x := by rw [AIK]
theorem Bbg {cs : List TV} : AIK (.tup cs) = AHk cs := by rw [AIK]
theorem Bap : AHk [] = true := AE9 rfl
theorem A9N {x : TV} {xs : List TV} : AHk (x :: xs) = (AIK x && AHk xs) := by rw [AHk]
theorem BeT {k : IntKind} {n : Int} : lays (.val (.int k n)) = true := AE9 rfl
theorem Bbt {b : Bool} : lays (.val (.bool b)) = true := AE9 rfl
theorem A7A {s : ByteArray} : lays (.val (.string s)) = true := AE9 rfl
theorem A5A {p : Option Addr} : lays (.val (.pointer p)) = true := AE9 rfl
theorem A9V {p : Option Addr} {n c : Nat} : lays (.val (.slice p n c)) = true := AE9 rfl
theorem Bdb {r : Option Nat} : lays (.val (.map r)) = true := AE9 rfl
theorem BbC {f : Fn} {a b : Array Value} : lays (.val (.func f a b)) = true := AE9 rfl
theorem A5M : lays (.val .nilFunc) = true := AE9 rfl
theorem A4S : lays (.val .nilIface) = true := AE9 rfl
theorem Bp8 {e : Env} {n : Nat} : (Opd.t n).ev e = get e n := AE9 rfl
theorem Bp4 {e : Env} {n : Nat} : (Opd.g n).ev e = (match AKT n with | some x => .fp x.tv | none => .val (.pointer (some ⟨n, 0, none⟩))) := AE9 rfl
theorem BpM {e : Env} {v : Value} : (Opd.c v).ev e = .val v := AE9 rfl
theorem ASM {x : TV} : AJ9 [] x = some x := AE9 rfl
theorem AKo {i d : Nat} {p : List (Nat × Nat)} {cs : List TV} : AJ9 ((i, d) :: p) (.agg cs) = if AFU (cs.take i) = d then (cs[i]?).bind (AJ9 p) else none := by rw [AJ9]
theorem A4E {i d n k : Nat} {p : List (Nat × Nat)} {cs : List TV} : AJ9 ((i, d) :: p) (.arr n k cs) = if d = i * k then (cs[i]?).bind (AJ9 p) else none := by rw [AJ9]
theorem AJi {x y : TV} : ANf [] x y = if AFo y = AFo x then some y else none := by rw [ANf]
theorem AJR {i d : Nat} {p : List (Nat × Nat)} {cs : List TV} {y : TV} : ANf ((i, d) :: p) (.agg cs) y = if AFU (cs.take i) = d then (cs[i]?).bind fun c => (ANf p c y).map fun c' => .agg (cs.set i c') else none := by rw [ANf]
theorem A8E {i d n k : Nat} {p : List (Nat × Nat)} {cs : List TV} {y : TV} : ANf ((i, d) :: p) (.arr n k cs) y = if d = i * k ∧ AIK y = true then (cs[i]?).bind fun c => (ANf p c y).map fun c' => .arr n k (cs.set i c') else none := by rw [ANf]
theorem A9v {e : Env} : forget [] e = [] := AE9 rfl
theorem A7B {e : Env} {s : Nat} {ks : List Nat} : forget (s :: ks) e = (s, get e s) :: forget ks e := AE9 rfl
theorem Bbx {i : Nat} : A4n i [] = [] := AE9 rfl
theorem A9U {i : Nat} {x : TV} {xs : List TV} : A4n i (x :: xs) = (i, x) :: A4n (i + 1) xs := AE9 rfl
theorem Bdi {ag : Bool} {sz : Nat} {y : TV} : A3F ag sz y = (AFo y = sz ∧ AZ5 y = ag) := AE9 rfl
theorem A9n {H : List Ob} {k k2 : Nat} {cs : List TV} : AGy H k (.sl k2 cs) = if k2 = k then some cs else none := AE9 rfl
theorem A7h {H : List Ob} {k : Nat} {p : Option Addr} {n c : Nat} : AGy H k (.val (.slice p n c)) = if n = 0 ∧ p.isNone ∧ c = 0 then some [] else none := AE9 rfl
theorem A92 {H : List Ob} {k k2 i v o n cp : Nat} {p : List (Nat × Nat)} : AGy H k (.os k2 i v p o n cp) = if k2 = k then (match H[i]? with | some (.obj vr x) => if vr = v then AJf p k o n x else none | _ => none) else none := AE9 rfl
theorem A7t {k k2 o n N : Nat} {cs : List TV} : AJf [] k o n (.arr N k2 cs) = if k2 = k ∧ o + n ≤ cs.length then some ((cs.drop o).take n) else none := AE9 rfl
theorem Baw {e : Env} {zs : List TV} : AJo e zs [] = zs := AE9 rfl
theorem A9C {e : Env} {zs : List TV} {i : Nat} {x : Opd} {ps : List (Nat × Opd)} : AJo e zs ((i, x) :: ps) = AJo e (zs.set i (x.ev e)) ps := AE9 rfl
theorem A7E {e : Env} {ks : List Nat} : AII e ks [] = True := AE9 rfl
theorem A6t {e : Env} {ks : List Nat} {i : Nat} {x : Opd} {ps : List (Nat × Opd)} : AII e ks ((i, x) :: ps) = ((lays (x.ev e) = true ∧ ks[i]? = some (AFo (x.ev e))) ∧ AII e ks ps) := AE9 rfl
theorem A4X {e : Env} : AGm e [] = True := AE9 rfl
theorem A3q {e : Env} {i : Nat} {x : Opd} {ps : List (Nat × Opd)} : AGm e ((i, x) :: ps) = (AIK (x.ev e) = true ∧ AGm e ps) := AE9 rfl
theorem BgL {t : Nat} {e : Env} {H : List Ob} {K : TV → Prop} : res [.tmp t] e H K = K (get e t) := AE9 rfl
theorem BdA {a sz : Nat} {ag : Bool} {e : Env} {H : List Ob} {K : TV → Prop} : res [.cell a ag sz] e H K = pop (.load ag sz (.t a)) e H K := AE9 rfl
theorem BbN {e : Env} {H : List Ob} {K : TV → Prop} : res [] e H K = ((∀ x ∈ ([] : List TV), AGZ x = false) ∧ K (.tup [])) := AE9 rfl
theorem Boz {r s : VR} {e : Env} {H : List Ob} {K : TV → Prop} : res [r, s] e H K = A6Z [r, s] e H fun xs => match xs with | [x] => K x | xs => (∀ x ∈ xs, AGZ x = false) ∧ K (.tup xs) := AE9 rfl
theorem BcZ {r s : VR} {l : List VR} {e : Env} {H : List Ob} {K : TV → Prop} : res (r :: s :: l) e H K = A6Z (r :: s :: l) e H fun xs => match xs with | [x] => K x | xs => (∀ x ∈ xs, AGZ x = false) ∧ K (.tup xs) := AE9 rfl
theorem A8B {e : Env} {H : List Ob} {K : List TV → Prop} : A6Z [] e H K = K [] := AE9 rfl
theorem Bgi {t : Nat} {r : List VR} {e : Env} {H : List Ob} {K : List TV → Prop} : A6Z (.tmp t :: r) e H K = A6Z r e H fun xs => K (get e t :: xs) := AE9 rfl
theorem A6r {a sz : Nat} {ag : Bool} {r : List VR} {e : Env} {H : List Ob} {K : List TV → Prop} : A6Z (.cell a ag sz :: r) e H K = pop (.load ag sz (.t a)) e H fun x => A6Z r e H fun xs => K (x :: xs) := AE9 rfl
theorem A6s {vr : List VR} {R : TV → List Ob → Prop} {e : Env} {H : List Ob} : A50 vr R .ret e H = res vr e H fun x => R x H := AE9 rfl
theorem A5y {vr : List VR} {R : TV → List Ob → Prop} {e : Env} {H : List Ob} : A50 vr R .nor e H = res vr e H fun x => R x H := AE9 rfl
theorem Beu {H : List Ob} {g : TV → Option TV} {v : Value} : AJW H g (TV.val v) = some (.val v) := by rw [AJW]
theorem Bfm {H : List Ob} {g : TV → Option TV}  : AJW H g (TV.any) = some (.any) := by rw [AJW]
theorem Bid {H : List Ob} {g : TV → Option TV} {k : Nat} {cs : List TV} : AJW H g (TV.sl k cs) = some (.sl k cs) := by rw [AJW]
theorem Bhl {H : List Ob} {g : TV → Option TV} {x : TV} : AJW H g (TV.fp x) = some (.fp x) := by rw [AJW]
theorem BfO {H : List Ob} {g : TV → Option TV} {n : Nat} {k : Nat} {cs : List TV} : AJW H g (TV.arr n k cs) = some (.arr n k cs) := by rw [AJW]
theorem BhW {H : List Ob} {g : TV → Option TV} {k i v o n cp : Nat} {p : List (Nat × Nat)} : AJW H g (.os k i v p o n cp) = (match H[i]? with | some (.obj vr x) => if vr = v then (AJf p k o n x).map (.sl k) else none | _ => none) := by rw [AJW]; rfl
theorem BiD {H : List Ob} {g : TV → Option TV} {i v : Nat} {p : List (Nat × Nat)} : AJW H g (.op i v p) = (match H[i]? with | some (.obj vr x) => if vr = v then (AJ9 p x).bind fun y => (g y).map .fp else none | _ => none) := by rw [AJW]; rfl
theorem BfN {H : List Ob} {g : TV → Option TV} {cs : List TV} : AJW H g (.agg cs) = (ATc H g cs).map .agg := by rw [AJW]
theorem Bec {H : List Ob} {g : TV → Option TV} {cs : List TV} : AJW H g (.tup cs) = (ATc H g cs).map .tup := by rw [AJW]
theorem BdY {H : List Ob} {g : TV → Option TV} {t : TypeId} {x : TV} : AJW H g (.ifc t x) = (AJW H g x).map (.ifc t) := by rw [AJW]
theorem BcQ {H : List Ob} {g : TV → Option TV} : ATc H g [] = some [] := AE9 rfl
theorem A9P {H : List Ob} {g : TV → Option TV} {x : TV} {xs : List TV} : ATc H g (x :: xs) = (match AJW H g x, ATc H g xs with | some x, some xs => some (x :: xs) | _, _ => none) := by rw [ATc]; rfl
theorem BnC {H : List Ob} {x : TV} : frz H x = AJW H (A8h H 2) x := AE9 rfl
theorem BjQ {H : List Ob} {x : List TV} : BmC H x = ATc H (A8h H 2) x := AE9 rfl
theorem BkM {H : List Ob} {d : Nat} {x : TV} : A8h H (d + 1) x = AJW H (A8h H d) x := AE9 rfl
theorem Bjb {H : List Ob} {v : Value} : frs H (.val v) = some (.val v) := by rw [frs]
theorem BgO {H : List Ob} : frs H .any = some .any := by rw [frs]
theorem BkF {H : List Ob} {k i v o n cp : Nat} {p : List (Nat × Nat)} : frs H (.os k i v p o n cp) = (match H[i]? with | some (.obj vr x) => if vr = v then (match AJf p k o n x with | some cs => if AQl cs then some (.sl k cs) else none | none => none) else none | _ => none) := by rw [frs]; try rfl
theorem Bja {H : List Ob} {cs : List TV} : frs H (.agg cs) = (A6X H cs).map .agg := by rw [frs]
theorem BiW {H : List Ob} {n k : Nat} {cs : List TV} : frs H (.arr n k cs) = if AQl cs then some (.arr n k cs) else none := by rw [frs]
theorem Bif {H : List Ob} {cs : List TV} : frs H (.tup cs) = (A6X H cs).map .tup := by rw [frs]
theorem BgK {H : List Ob} {t : TypeId} {x : TV} : frs H (.ifc t x) = (frs H x).map (.ifc t) := by rw [frs]
theorem Bc5 {H : List Ob} : A6X H [] = some [] := by rw [A6X]
theorem BaA {H : List Ob} {x : TV} {xs : List TV} : A6X H (x :: xs) = (match frs H x, A6X H xs with | some x, some xs => some (x :: xs) | _, _ => none) := by rw [A6X]; try rfl
theorem BaO {l : List UInt8} : AQl (l.map by8) = true := by
 induction l with
 | nil => rfl
 | cons x l ih => rw [List.map_cons, AQl, ih]; rfl
theorem BdV {l : List (List UInt8)} : AQl (l.map ts) = true := by
 induction l with
 | nil => rfl
 | cons x l ih => rw [List.map_cons, AQl, ih]; rfl
theorem BfF {l : List UInt8} {i : Nat} {b : UInt8} : (l.map by8).set i (.val (.int .u8 (b.toNat : Int))) = (l.set i b).map by8 := by rw [List.map_set]
theorem Bej {l : List UInt8} : (l.map by8).map AZi = l := by
 rw [List.map_map]
 have : (AZi ∘ by8) = id := by funext b; simp
 rw [this, List.map_id]
theorem Bdl {l : List UInt8} : (∀ y ∈ l.map by8, A7a y) = True := by simp
theorem Bev {a b : Nat} : ((a : Int) + (b : Int)) = ((a + b : Nat) : Int) := by omega
theorem BhR {a b : Nat} : ((a : Int) < (b : Int)) = (a < b) := by simp
theorem BiN {a b : Nat} : ((a : Int) ≤ (b : Int)) = (a ≤ b) := by simp
theorem BiO {a b : Nat} : ((a : Int) = (b : Int)) = (a = b) := propext ⟨fun h => by omega, fun h => by omega⟩
theorem BhQ {a : Nat} : (0 ≤ (a : Int)) = True := by simp

theorem BkZ {d s : Nat} {x : TV} : get ((d, x) :: e) s = if d = s then x else get e s := AE9 rfl
end
end Go.Proofs.YtliaddbbmnfioaaGreatDoor


namespace Go.Proofs.YtliaddbbmnfioaaGreatDoor
open Go.RowKit
variable [AFG]
set_option linter.unusedSectionVars false
set_option linter.unusedSimpArgs false
set_option linter.unusedVariables false
set_option autoImplicit false
universe u
set_option linter.defProp false

/-- (What it marks is not looked into by simp.) -/
class Tg {α : Sort u} (a : α) : Type where
instance tg {α : Sort u} (a : α) : Tg a := {}
def vif (t : Bool) (A B : Prop) [Tg A] [Tg B] : Prop := if t = true then A else B
def AGg {α : Type} (o : Option α) (K : α → Prop) [Tg K] : Prop := match o with | some y => K y | none => False
def AH9 (A K : Prop) [Tg K] : Prop := A ∧ K
def AGc {α : Type} (x : α) (K : α → Prop) [Tg K] : Prop := K x
def vex (K : TV → Prop) [Tg K] : Prop := ∃ x, K x
def VC (P : Program) (f : FuncId) (xs : List TV) (H : List Ob) (K : TV → List Ob → Prop) [Tg K] : Prop := AFk P f xs H K
def VY (P : Program) (id ver : Nat) (xs : List TV) (H : List Ob) (K : TV → List Ob → Prop) [Tg K] : Prop := A2F P id ver xs H K
theorem AZW {P : Program} {f : FuncId} {xs : List TV} {H : List Ob} {K : TV → List Ob → Prop} (h : AFk P f xs H K) : VC P f xs H K := h
section
variable {A A' B K : Prop} {α : Type}
@[congr] theorem Bkp {t t' : Bool} (h : t = t') : vif t A B = vif t' A B := by rw [h]
@[congr] theorem Bji {o o' : Option α} {K : α → Prop} (h : o = o') : AGg o K = AGg o' K := by rw [h]
@[congr] theorem Bjj (h : A = A') : AH9 A K = AH9 A' K := by rw [h]
@[congr] theorem Bjp {x x' : α} {K : α → Prop} (h : x = x') : AGc x K = AGc x' K := by rw [h]
@[congr] theorem BlS {P : Program} {c : AFb} {Q : VEx → Env → List Ob → Prop} {e e' : Env} {H H' : List Ob} (he : e = e') (hH : H = H') : vwp P c Q e H = vwp P c Q e' H' := by rw [he, hH]
@[congr] theorem BmN {P : Program} {f : FuncId} {xs xs' : List TV} {H H' : List Ob} {K : TV → List Ob → Prop} (he : xs = xs') (hH : H = H') : VC P f xs H K = VC P f xs' H' K := by rw [he, hH]
@[congr] theorem BmI {P : Program} {id ver : Nat} {xs xs' : List TV} {H H' : List Ob} {K : TV → List Ob → Prop} (he : xs = xs') (hH : H = H') : VY P id ver xs H K = VY P id ver xs' H' K := by rw [he, hH]
theorem Bdt : vif true A B = A := by simp [vif]
theorem Bad : vif false A B = B := by simp [vif]
theorem Bku {p : Prop} [Decidable p] (h : p) : vif (decide p) A B = A := by simp [vif, h]
theorem Bmn {p : Prop} [Decidable p] (h : ¬ p) : vif (decide p) A B = B := by simp [vif, h]
theorem Biu {t : Bool} : vif (!t) A B = vif t B A := by cases t <;> simp [vif]
theorem Bh4 {s t : Bool} : vif (s && t) A B = vif s (vif t A B) B := by cases s <;> simp [vif]
theorem Blv {s t : Bool} : vif (s || t) A B = vif s A (vif t A B) := by cases s <;> simp [vif]
theorem BaY {y : α} {K : α → Prop} : AGg (some y) K = K y := rfl
theorem BdC {β : Type} {f : α → β} {o : Option α} {K : β → Prop} : AGg (o.map f) K = AGg o fun y => K (f y) := by cases o <;> rfl
theorem BhJ {cs : List α} {i : Nat} {K : α → Prop} (h : i < cs.length) : AGg cs[i]? K = K cs[i] := by rw [List.getElem?_eq_getElem h]; rfl
theorem BbG (h : A) : AH9 A K = K := by simp [AH9, h]
theorem BkQ : AH9 True K = K := by simp [AH9]
theorem Bfn : AH9 (A ∧ B) K = AH9 A (AH9 B K) := by simp [AH9, and_assoc]
theorem Bh2 {x : α} {K : α → Prop} : AGc x K = K x := rfl
end

def AKR : Option Ob → Nat → Option TV
 | some (.obj v x), ver => if v = ver then some x else none
 | _, _ => none
theorem BdI {v : Nat} {x : TV} : AKR (some (.obj v x)) v = some x := by simp [AKR]
section
variable {H l : List Ob} {o : Ob} {n k : Nat}
theorem BjP (h : H.length = n) : (H ++ l)[n]? = l[0]? := by rw [List.getElem?_append_right (by omega), h, Nat.sub_self]
theorem Bhz (h : H.length = n) : (H ++ l)[n + k]? = l[k]? := by rw [List.getElem?_append_right (by omega)]; congr 1; omega
theorem Bk1 (h : n < H.length) : (H ++ l)[n]? = H[n]? := List.getElem?_append_left h
theorem BlK (h : n < H.length) : (H.set n o)[n]? = some o := by simp [h]
theorem BbE {m : Nat} (h : m ≠ n) : (H.set m o)[n]? = H[n]? := by rw [List.getElem?_set_ne h]
theorem Biy (h : H.length = n) : (H ++ l).set n o = H ++ l.set 0 o := by rw [List.set_append_right _ _ (by omega), h, Nat.sub_self]
theorem Bfd (h : H.length = n) : (H ++ l).set (n + k) o = H ++ l.set k o := by rw [List.set_append_right _ _ (by omega)]; congr 2; omega
theorem BgS (h : n < H.length) : (H ++ l).set n o = H.set n o ++ l := List.set_append_left _ _ h
end

section
variable {P : Program} {e : Env} {H : List Ob}
def Bbd (c a b : TV) (K : TV → Prop) [Tg K] : Prop := match c with | .val (.bool t) => K (if t then a else b) | _ => False
def BmE (t : TypeId) (op : BinOp) (x y : TV) (K : TV → Prop) [Tg K] : Prop := match x, y with
  | .val u, .val v => BdN u v = true ∧ (match AHA t op u v with | some r => K (.val r) | none => False)
  | _, _ => False
def Pun (op : UnOp) (x : TV) (K : TV → Prop) [Tg K] : Prop := match x with
  | .val u => (match unV op u with | some r => K (.val r) | none => False)
  | _ => False
def Bdo (k : IntKind) (x : TV) (K : TV → Prop) [Tg K] : Prop := match x with
  | .val (.int _ n) => K (.val (.int k (k.wrap n)))
  | _ => False
def BmG (x : TV) (K : TV → Prop) [Tg K] : Prop := match x with
  | .val (.string s) => K (.val (.string s))
  | _ => False
def Bmw (x : Option (List TV)) (K : TV → Prop) [Tg K] : Prop := match x with
  | some cs => (∀ y ∈ cs, A7a y) ∧ K (.val (.string (str (cs.map AZi))))
  | none => False
def A7w (H : List Ob) (ag : Bool) (sz : Nat) (x : TV) (K : TV → Prop) [Tg K] : Prop := match x with
  | .fp y => A3F ag sz y ∧ K y
  | .op id ver p => (match H[id]? with
   | some (.obj v x) => v = ver ∧ (match AJ9 p x with | some y => A3F ag sz y ∧ K y | none => False)
   | _ => False)
  | _ => False
def A0a (i off : Nat) (x : TV) (K : TV → Prop) [Tg K] : Prop := match x with
  | .op id ver p => K (.op id ver (p ++ [(i, off)]))
  | .fp (.agg cs) => AFU (cs.take i) = off ∧ (match cs[i]? with | some y => K (.fp y) | none => False)
  | _ => False
def A5K (ag : Bool) (sz i off : Nat) (x : TV) (K : TV → Prop) [Tg K] : Prop := match x with
  | .agg cs => AFU (cs.take i) = off ∧ (match cs[i]? with | some y => A3F ag sz y ∧ K y | none => False)
  | _ => False
def A9W (k : Nat) (x i : TV) (K : TV → Prop) [Tg K] : Prop := match x, i with
  | .sl k' cs, .val (.int _ j) => k' = k ∧ 0 ≤ j ∧ (match cs[j.toNat]? with | some y => K (.fp y) | none => False)
  | .os k' id ver p off n cp, .val (.int _ j) => k' = k ∧ 0 ≤ j ∧ j < n ∧ K (.op id ver (p ++ [(off + j.toNat, (off + j.toNat) * k)]))
  | _, _ => False
def A3R (n k : Nat) (x i : TV) (K : TV → Prop) [Tg K] : Prop := match x, i with
  | .fp (.arr n' k' cs), .val (.int _ j) => k' = k ∧ n' = n ∧ 0 ≤ j ∧ (match cs[j.toNat]? with | some y => K (.fp y) | none => False)
  | .op id ver p, .val (.int _ j) => 0 ≤ j ∧ j < n ∧ K (.op id ver (p ++ [(j.toNat, j.toNat * k)]))
  | _, _ => False
def Bmm (ag : Bool) (n k : Nat) (x i : TV) (K : TV → Prop) [Tg K] : Prop := match x, i with
  | .arr n' k' cs, .val (.int _ j) => k' = k ∧ n' = n ∧ 0 ≤ j ∧ (match cs[j.toNat]? with | some y => A3F ag k y ∧ K y | none => False)
  | _, _ => False
def Bci (x i : TV) (K : TV → Prop) [Tg K] : Prop := match x, i with
  | .val (.string s), .val (.int _ j) => 0 ≤ j ∧ (match (bl s)[j.toNat]? with | some b => K (by8 b) | none => False)
  | _, _ => False
def BlQ (i : Nat) (x : TV) (K : TV → Prop) [Tg K] : Prop := match x with
  | .tup xs => (match xs[i]? with | some y => K y | none => False)
  | _ => False
def BeE (x : TV) (K : TV → Prop) [Tg K] : Prop := match x with
  | .val (.string s) => K (.val (.int .i64 (bl s).length))
  | _ => False
def A9p (x : TV) (K : TV → Prop) [Tg K] : Prop := match x with
  | .val (.slice _ n _) => K (.val (.int .i64 n))
  | .sl _ cs => K (.val (.int .i64 cs.length))
  | .os _ _ _ _ _ n _ => K (.val (.int .i64 n))
  | _ => False
def A4o (lo hi : Option TV) (len lim : Nat) (K : Nat → Nat → Prop) [Tg K] : Prop :=
 match (match lo with | none => some 0 | some x => (match x with | .val (.int _ i) => some i | _ => none)), (match hi with | none => some (len : Int) | some x => (match x with | .val (.int _ i) => some i | _ => none)) with
 | some l, some h => (0 ≤ l ∧ l ≤ h ∧ h ≤ lim) ∧ K l.toNat h.toNat
 | _, _ => False
def evO (e : Env) : Option Opd → Option TV
 | none => none
 | some x => some (x.ev e)
theorem BfI : evO e none = none := AE9 rfl
theorem Bdk {x : Opd} : evO e (some x) = some (x.ev e) := AE9 rfl
theorem Bb6 {lo hi : Option Opd} {len lim : Nat} {K : Nat → Nat → Prop} : bnd e lo hi len lim K = A4o (evO e lo) (evO e hi) len lim K := by
 cases lo <;> cases hi <;> rfl
def Bmx (x : TV) (lo hi : Option TV) (K : TV → Prop) [Tg K] : Prop := match x with
  | .val (.string s) => A4o lo hi (bl s).length (bl s).length fun l h => K (.val (.string (str (((bl s).drop l).take (h - l)))))
  | _ => False
def Bjr (k : Nat) (x : TV) (lo hi : Option TV) (K : TV → Prop) [Tg K] : Prop := match x with
  | .sl k' cs => k' = k ∧ A4o lo hi cs.length cs.length fun l h => K (.sl k ((cs.drop l).take (h - l)))
  | .os k' id ver p off n cp => k' = k ∧ A4o lo hi n cp fun l h => K (.os k id ver p (off + l) (h - l) (cp - l))
  | .val (.slice ad 0 0) => A4o lo hi 0 0 fun l h => K (.val (.slice ad 0 0))
  | _ => False
def Bjk (H : List Ob) (n k : Nat) (x : TV) (lo hi : Option TV) (K : TV → Prop) [Tg K] : Prop := match x with
  | .fp (.arr n' k' cs) => k' = k ∧ n' = n ∧ n ≤ 9223372036854775807 ∧ A4o lo hi n n fun l h => K (.sl k ((cs.drop l).take (h - l)))
  | .op id ver p => (match H[id]? with
   | some (.obj v x) => v = ver ∧ n ≤ 9223372036854775807 ∧ (match AJ9 p x with | some (.arr n' k' cs) => k' = k ∧ n' = n ∧ A4o lo hi n n fun l h => K (.os k id ver p l (h - l) (n - l)) | _ => False)
   | _ => False)
  | _ => False
def A8K (t : TypeId) (x : TV) (K : TV → Prop) [Tg K] : Prop := lays x = true ∧ K (.ifc t x)
def Bml (f : Fn) (first caps : List TV) (K : TV → Prop) [Tg K] : Prop := (∀ x ∈ first ++ caps, AGZ x = false) ∧ K (.fn f first caps)
def A54 (x : TV) (K : TV → Prop) [Tg K] : Prop := match x with
  | .op id ver p => K (.op id ver p)
  | .fp y => K (.fp y)
  | .fn (.func f) a b => K (.fn (.func f) a b)
  | .ifc t y => K (.ifc t y)
  | .val (.func (.func f) a b) => K (.val (.func (.func f) a b))
  | _ => False
def Bms (x y : TV) (K : TV → Prop) [Tg K] : Prop := match x, y with
  | .val (.int k a), .val (.int _ b) => K (.val (.int k (if b < a then b else a)))
  | _, _ => False
def Bmt (x y : TV) (K : TV → Prop) [Tg K] : Prop := match x, y with
  | .val (.int k a), .val (.int _ b) => K (.val (.int k (if b > a then b else a)))
  | _, _ => False
def A2c (g : GOp) (H : List Ob) (xs : List TV) (K : TV → Prop) [Tg K] : Prop := match gev g H xs with
  | some y => K y
  | none => False
def BjV (neg : Bool) (x y : TV) (K : TV → Prop) [Tg K] : Prop := match x, y with
  | .val (.bool a), .val (.bool b) => K (.val (.bool (xor neg (a == b))))
  | _, _ => False
def BkR (neg : Bool) (x y : Option Bool) (K : TV → Prop) [Tg K] : Prop := match x, y with
  | some true, some b => K (.val (.bool (xor neg b)))
  | some false, some true => K (.val (.bool (xor neg false)))
  | _, _ => False
def A5x (H : List Ob) (sz : Nat) (x v : TV) (K : TV → List Ob → Prop) [Tg K] : Prop := (lays v = true ∧ AFo v = sz) ∧ (match x with
  | .op id ver p => (match H[id]? with
   | some (.obj vr y) => vr = ver ∧ (match ANf p y v with | some y' => K .any (H.set id (.obj ver y')) | none => False)
   | _ => False)
  | _ => False)
def Bmp (H : List Ob) (k bytes : Nat) (z l c : TV) (K : TV → List Ob → Prop) [Tg K] : Prop := match l, c with
  | .val (.int _ l), .val (.int _ c) => (0 ≤ l ∧ l ≤ c ∧ (bytes : Int) * c ≤ 281474976710656 ∧ c ≤ 9223372036854775807) ∧ K (.os k H.length 0 [] 0 l.toNat c.toNat) (H ++ [.obj 0 (.arr c.toNat k (List.replicate c.toNat z))])
  | _, _ => False
def BhL (k bytes : Nat) (et : TypeId) (x : TV) (y : Option (List TV)) (H : List Ob) (K : TV → List Ob → Prop) [Tg K] : Prop := match y with
  | some ys => A6d k bytes et x ys H K
  | none => False
def A7C (k : Nat) (x : TV) (y : Option (List TV)) (H : List Ob) (K : TV → List Ob → Prop) [Tg K] : Prop := match y with
  | some ys => AWR k x ys H K
  | none => False
def Bfq (et : TypeId) (x y : TV) (H : List Ob) (K : TV → List Ob → Prop) [Tg K] : Prop := match y with
  | .val (.string s) => A6d 1 1 et x ((bl s).map by8) H K
  | _ => False
def A8o (x y : TV) (H : List Ob) (K : TV → List Ob → Prop) [Tg K] : Prop := match y with
  | .val (.string s) => AWR 1 x ((bl s).map by8) H K
  | _ => False
def Bff (P : Program) (f : FuncId) (x : Option (Nat × Nat × List UInt8)) (H : List Ob) (K : TV → List Ob → Prop) [Tg K] : Prop := Bmq P f ∧ (match x with
  | some (j, v, l) => l.length ≤ 9223372036854775807 ∧ K (.val (.string (str l))) (H.set j (.gone v))
  | none => False)
def Bmv (H : List Ob) (x : TV) (K : TV → List Ob → Prop) [Tg K] : Prop := match x with
  | .val (.string s) => (bl s).length ≤ 9223372036854775807 ∧ K (.os 1 H.length 0 [] 0 (bl s).length (bl s).length) (H ++ [.obj 0 (.arr (bl s).length 1 ((bl s).map by8))])
  | _ => False
def Bdm (k bytes : Nat) (z x n : TV) (H : List Ob) (K : TV → List Ob → Prop) [Tg K] : Prop := match x, n with
  | .val (.slice none 0 0), .val (.int .i64 j) => (0 ≤ j ∧ (bytes : Int) * j ≤ 140737488355328 ∧ j ≤ 9223372036854775807) ∧ K (.os k H.length 0 [] 0 j.toNat j.toNat) (H ++ [.obj 0 (.arr j.toNat k (List.replicate j.toNat z))])
  | _, _ => False
def A9F (H : List Ob) (K : TV → List Ob → Prop) [Tg K] : Prop := K (.val (.bool true)) H ∧ K (.val (.bool false)) H
def BgC (neg : Bool) (x : TV) (H : List Ob) (K : TV → List Ob → Prop) [Tg K] : Prop := match x with
  | .val (.slice a _ _) => K (.val (.bool (xor neg a.isNone))) H
  | .sl _ cs => (cs = [] → K (.val (.bool true)) H ∧ K (.val (.bool false)) H) ∧ (cs ≠ [] → K (.val (.bool neg)) H)
  | .os _ _ _ _ _ n _ => (n = 0 → K (.val (.bool true)) H ∧ K (.val (.bool false)) H) ∧ (n ≠ 0 → K (.val (.bool neg)) H)
  | _ => False
def A3T (P : Program) (x : TV) (args : List TV) (H : List Ob) (K : TV → List Ob → Prop) [Tg K] : Prop := match x with
  | .fn (.func f) first caps => A1T P f = true ∧ AFk P f (first ++ args ++ caps) H K
  | .val (.func (.func f) xs ys) => (xs.isEmpty && ys.isEmpty) = true ∧ A1T P f = true ∧ AFk P f args H K
  | .yl id ver => A2F P id ver args H K
  | _ => False
def BkL (P : Program) (nm : String) (x : TV) (args : List TV) (H : List Ob) (K : TV → List Ob → Prop) [Tg K] : Prop := BmA P nm H x fun f r => AFk P f (r :: args) H K
def Bjs (P : Program) (q : Option (FuncId × Option (Bool × Nat))) (r : TV) (args : List TV) (H : List Ob) (K : TV → List Ob → Prop) [Tg K] : Prop := match q with
 | some (f, none) => A1T P f = true ∧ AFk P f (r :: args) H K
 | some (f, some (ag, sz)) => A1T P f = true ∧ ldT H ag sz r fun y => AFk P f (y :: args) H K
 | none => False
def Gd (q : Option Bool) (b : Bool) (A B : Prop) [Tg A] [Tg B] : Prop := match q with
 | some t => if t = b then A else B
 | none => B
def evs (e : Env) (xs : List Opd) : List TV := xs.map (·.ev e)
theorem Bg7 : evs e [] = [] := AE9 rfl
theorem BeK {x : Opd} {xs : List Opd} : evs e (x :: xs) = x.ev e :: evs e xs := AE9 rfl
def AV8 (xs : List TV) : Prop := ∀ x ∈ xs, AGZ x = false
theorem Bb0 : AV8 [] = True := by simp [AV8]
theorem A86 {x : TV} {xs : List TV} : AV8 (x :: xs) = (AGZ x = false ∧ AV8 xs) := by simp [AV8]
theorem ATo {args : List Opd} : (∀ x ∈ args, AGZ (x.ev e) = false) = AV8 (evs e args) := by simp [AV8, evs]

section
variable {c c' a a' b b' x x' y y' : TV} {K : TV → Prop} {KK : TV → List Ob → Prop} {lo lo' hi hi' : Option TV} {ox ox' : Option (List TV)} {q q' q2 q2' : Option Bool} {xs xs' : List TV} {A B : Prop} {H' : List Ob}
@[congr] theorem BnV (h1 : c = c') (h2 : a = a') (h3 : b = b') : Bbd c a b K = Bbd c' a' b' K := by rw [h1, h2, h3]
@[congr] theorem BpC {t : TypeId} {op : BinOp} (h1 : x = x') (h2 : y = y') : BmE t op x y K = BmE t op x' y' K := by rw [h1, h2]
@[congr] theorem BpS {op : UnOp} (h1 : x = x') : Pun op x K = Pun op x' K := by rw [h1]
@[congr] theorem Bo0 {k : IntKind} (h1 : x = x') : Bdo k x K = Bdo k x' K := by rw [h1]
@[congr] theorem Bpa (h1 : x = x') : BmG x K = BmG x' K := by rw [h1]
@[congr] theorem Bpe (h1 : ox = ox') : Bmw ox K = Bmw ox' K := by rw [h1]
@[congr] theorem Boe {ag : Bool} {sz : Nat} (h1 : x = x') (h2 : H = H') : A7w H ag sz x K = A7w H' ag sz x' K := by rw [h1, h2]
@[congr] theorem BlL {i o : Nat} (h1 : x = x') : A0a i o x K = A0a i o x' K := by rw [h1]
@[congr] theorem Bmo {ag : Bool} {sz i o : Nat} (h1 : x = x') : A5K ag sz i o x K = A5K ag sz i o x' K := by rw [h1]
@[congr] theorem Bn6 {k : Nat} (h1 : x = x') (h2 : y = y') : A9W k x y K = A9W k x' y' K := by rw [h1, h2]
@[congr] theorem Bmr {n k : Nat} (h1 : x = x') (h2 : y = y') : A3R n k x y K = A3R n k x' y' K := by rw [h1, h2]
@[congr] theorem Bpc {ag : Bool} {n k : Nat} (h1 : x = x') (h2 : y = y') : Bmm ag n k x y K = Bmm ag n k x' y' K := by rw [h1, h2]
@[congr] theorem BoD (h1 : x = x') (h2 : y = y') : Bci x y K = Bci x' y' K := by rw [h1, h2]
@[congr] theorem Bps {i : Nat} (h1 : x = x') : BlQ i x K = BlQ i x' K := by rw [h1]
@[congr] theorem Boa (h1 : x = x') : BeE x K = BeE x' K := by rw [h1]
@[congr] theorem BnI (h1 : x = x') : A9p x K = A9p x' K := by rw [h1]
@[congr] theorem Bpu {n m : Nat} {K : Nat → Nat → Prop} {n' m' : Nat} (h1 : lo = lo') (h2 : hi = hi') (h3 : n = n') (h4 : m = m') : A4o lo hi n m K = A4o lo' hi' n' m' K := by rw [h1, h2, h3, h4]
@[congr] theorem BpD (h1 : x = x') (h2 : lo = lo') (h3 : hi = hi') : Bmx x lo hi K = Bmx x' lo' hi' K := by rw [h1, h2, h3]
@[congr] theorem Bpb {k : Nat} (h1 : x = x') (h2 : lo = lo') (h3 : hi = hi') : Bjr k x lo hi K = Bjr k x' lo' hi' K := by rw [h1, h2, h3]
@[congr] theorem BpB {n k : Nat} (h0 : H = H') (h1 : x = x') (h2 : lo = lo') (h3 : hi = hi') : Bjk H n k x lo hi K = Bjk H' n k x' lo' hi' K := by rw [h0, h1, h2, h3]
@[congr] theorem BmK {t : TypeId} (h1 : x = x') : A8K t x K = A8K t x' K := by rw [h1]
@[congr] theorem Bo7 {f : Fn} {ys ys' : List TV} (h1 : xs = xs') (h2 : ys = ys') : Bml f xs ys K = Bml f xs' ys' K := by rw [h1, h2]
@[congr] theorem BnN (h1 : x = x') : A54 x K = A54 x' K := by rw [h1]
@[congr] theorem Bpl (h1 : x = x') (h2 : y = y') : Bms x y K = Bms x' y' K := by rw [h1, h2]
@[congr] theorem BpG (h1 : x = x') (h2 : y = y') : Bmt x y K = Bmt x' y' K := by rw [h1, h2]
@[congr] theorem Bo9 {g : GOp} {xs xs' : List TV} (h1 : H = H') (h2 : xs = xs') : A2c g H xs K = A2c g H' xs' K := by rw [h1, h2]
@[congr] theorem BpF {n : Bool} (h1 : x = x') (h2 : y = y') : BjV n x y K = BjV n x' y' K := by rw [h1, h2]
@[congr] theorem Bpn {n : Bool} (h1 : q = q') (h2 : q2 = q2') : BkR n q q2 K = BkR n q' q2' K := by rw [h1, h2]
@[congr] theorem Bmy {sz : Nat} (h0 : H = H') (h1 : x = x') (h2 : y = y') : A5x H sz x y KK = A5x H' sz x' y' KK := by rw [h0, h1, h2]
@[congr] theorem BpE {k n : Nat} {z : TV} (h0 : H = H') (h1 : x = x') (h2 : y = y') : Bmp H k n z x y KK = Bmp H' k n z x' y' KK := by rw [h0, h1, h2]
@[congr] theorem Bph {k n : Nat} {et : TypeId} (h0 : H = H') (h1 : x = x') (h2 : ox = ox') : BhL k n et x ox H KK = BhL k n et x' ox' H' KK := by rw [h0, h1, h2]
@[congr] theorem Bnl {k : Nat} (h0 : H = H') (h1 : x = x') (h2 : ox = ox') : A7C k x ox H KK = A7C k x' ox' H' KK := by rw [h0, h1, h2]
@[congr] theorem Bol {et : TypeId} (h0 : H = H') (h1 : x = x') (h2 : y = y') : Bfq et x y H KK = Bfq et x' y' H' KK := by rw [h0, h1, h2]
@[congr] theorem Bmz (h0 : H = H') (h1 : x = x') (h2 : y = y') : A8o x y H KK = A8o x' y' H' KK := by rw [h0, h1, h2]
@[congr] theorem BmX {P : Program} {f : FuncId} {r r' : Option (Nat × Nat × List UInt8)} (h0 : H = H') (h1 : r = r') : Bff P f r H KK = Bff P f r' H' KK := by rw [h0, h1]
@[congr] theorem Bn4 {k n : Nat} {z : TV} (h0 : H = H') (h1 : x = x') (h2 : y = y') : Bdm k n z x y H KK = Bdm k n z x' y' H' KK := by rw [h0, h1, h2]
@[congr] theorem Bpq {n : Bool} (h0 : H = H') (h1 : x = x') : BgC n x H KK = BgC n x' H' KK := by rw [h0, h1]
@[congr] theorem Boj (h0 : H = H') : A9F H KK = A9F H' KK := by rw [h0]
@[congr] theorem BpA (h0 : H = H') (h1 : x = x') : Bmv H x KK = Bmv H' x' KK := by rw [h0, h1]
@[congr] theorem BmL (h0 : H = H') (h1 : x = x') (h2 : xs = xs') : A3T P x xs H KK = A3T P x' xs' H' KK := by rw [h0, h1, h2]
@[congr] theorem Bpo {P : Program} {nm : String} (h0 : H = H') (h1 : x = x') (h2 : xs = xs') : BkL P nm x xs H KK = BkL P nm x' xs' H' KK := by rw [h0, h1, h2]
@[congr] theorem Bpv {P : Program} {g g' : Option (FuncId × Option (Bool × Nat))} (h : g = g') (h0 : H = H') (h1 : x = x') (h2 : xs = xs') : Bjs P g x xs H KK = Bjs P g' x' xs' H' KK := by rw [h, h0, h1, h2]
@[congr] theorem Bqb {b : Bool} (h1 : q = q') : Gd q b A B = Gd q' b A B := by rw [h1]
end

section
variable {K : TV → Prop} {KK : TV → List Ob → Prop} {x y i a b c : Opd} {lo hi : Option Opd}
theorem BmR : pop (.mov x) e H K = AGc (x.ev e) K := AE9 rfl
theorem Bl5 : pop (.pick c a b) e H K = Bbd (c.ev e) (a.ev e) (b.ev e) K := AE9 rfl
theorem Bnj {t : TypeId} {op : BinOp} : pop (.bin t op x y) e H K = BmE t op (x.ev e) (y.ev e) K := AE9 rfl
theorem Bp2 {op : UnOp} : pop (.un op x) e H K = Pun op (x.ev e) K := AE9 rfl
theorem Bl6 {k : IntKind} : pop (.conv k x) e H K = Bdo k (x.ev e) K := AE9 rfl
theorem Bo6 : pop (.s2s x) e H K = BmG (x.ev e) K := AE9 rfl
theorem BoF : pop (.b2s x) e H K = Bmw (AGy H 1 (x.ev e)) K := AE9 rfl
theorem BjG {ag : Bool} {sz : Nat} : pop (.load ag sz x) e H K = A7w H ag sz (x.ev e) K := AE9 rfl
theorem Bc8 {n o : Nat} : pop (.fieldA n o x) e H K = A0a n o (x.ev e) K := AE9 rfl
theorem Bhm {ag : Bool} {sz n o : Nat} : pop (.field ag sz n o x) e H K = A5K ag sz n o (x.ev e) K := AE9 rfl
theorem Bjx {k : Nat} : pop (.idxA k x i) e H K = A9W k (x.ev e) (i.ev e) K := AE9 rfl
theorem BhO {n k : Nat} : pop (.idxAA n k x i) e H K = A3R n k (x.ev e) (i.ev e) K := AE9 rfl
theorem Boc {ag : Bool} {n k : Nat} : pop (.idx ag n k x i) e H K = Bmm ag n k (x.ev e) (i.ev e) K := AE9 rfl
theorem BjN : pop (.idxS x i) e H K = Bci (x.ev e) (i.ev e) K := AE9 rfl
theorem BnR {n : Nat} : pop (.ext n x) e H K = BlQ n (x.ev e) K := AE9 rfl
theorem BkI : pop (.lenS x) e H K = BeE (x.ev e) K := AE9 rfl
theorem Bkv : pop (.lenV x) e H K = A9p (x.ev e) K := AE9 rfl
theorem Bny : pop (.slS x lo hi) e H K = Bmx (x.ev e) (evO e lo) (evO e hi) K := by
 show (match x.ev e with | .val (.string s) => bnd e lo hi (bl s).length (bl s).length fun l h => K (.val (.string (str (((bl s).drop l).take (h - l))))) | _ => False) = _
 simp only [Bb6]; rfl
theorem BoR {k : Nat} : pop (.slV k x lo hi) e H K = Bjr k (x.ev e) (evO e lo) (evO e hi) K := by
 rw [BoP]; simp only [Bb6]; rfl
theorem BoS {n k : Nat} : pop (.slA n k x lo hi) e H K = Bjk H n k (x.ev e) (evO e lo) (evO e hi) K := by
 rw [Bn5]; simp only [Bb6]; rfl
theorem BiP {t : TypeId} : pop (.iface t x) e H K = A8K t (x.ev e) K := AE9 rfl
theorem Bnn {f : Fn} {xs ys : List Opd} : pop (.mkf f xs ys) e H K = Bml f (evs e xs) (evs e ys) K := by
 rw [Bo3]; unfold Bml evs; rw [← List.map_append]
 refine congrArg (· ∧ _) (propext ⟨fun h y hy => ?_, fun h y hy => h _ (List.mem_map.2 ⟨y, hy, rfl⟩)⟩)
 obtain ⟨z, hz, rfl⟩ := List.mem_map.1 hy; exact h z hz
theorem Bkf : pop (.nilc x) e H K = A54 (x.ev e) K := AE9 rfl
theorem Boy : pop (.min x y) e H K = Bms (x.ev e) (y.ev e) K := AE9 rfl
theorem BoQ : pop (.max x y) e H K = Bmt (x.ev e) (y.ev e) K := AE9 rfl
theorem Bnf {g : GOp} {xs : List Opd} : pop (.gen g xs) e H K = A2c g H (evs e xs) K := AE9 rfl
theorem BnA {n : Bool} : pop (.eqB x y n) e H K = BjV n (x.ev e) (y.ev e) K := AE9 rfl
theorem BnK {kd : Nat} {n : Bool} : pop (.eqN kd x y n) e H K = BkR n (AIE kd (x.ev e)) (AIE kd (y.ev e)) K := AE9 rfl
theorem BgN {zs : List TV} {szs : List Nat} {ps : List (Nat × Opd)} : pop (.build zs szs ps) e H K = AH9 (AII e szs ps) (AGc (TV.agg (AJo e zs ps)) K) := AE9 rfl
theorem Bey {n k : Nat} {zs : List TV} {ps : List (Nat × Opd)} : pop (.buildA n k zs ps) e H K = AH9 (AII e (List.replicate n k) ps) (AH9 (AGm e ps) (AGc (TV.arr n k (AJo e zs ps)) K)) := AE9 rfl
theorem Bog {k n : Nat} {z : TV} {ps : List (Nat × Opd)} : pop (.bsl k n z ps) e H K = AH9 (AII e (List.replicate n k) ps) (AH9 (AGm e ps ∧ n ≤ 1000) (AGc (TV.sl k (AJo e (List.replicate n z) ps)) K)) := by
 show ((_ ∧ _ ∧ _) ∧ _) = _
 simp only [AH9, AGc, and_assoc]
theorem BiM {z : TV} : sop P (.alloc z) e H KK = AGc (H.length) fun n => AGc (H ++ [.obj 0 z]) fun H' => KK (.op n 0 []) H' := AE9 rfl
theorem BeO {z : TV} {t : TypeId} : sop P (.allocT z t) e H KK = AGc (H.length) fun n => AGc (AFo z) fun m => AGc (H ++ [.obj 0 z, .fact n 0 t m]) fun H' => KK (.op n 0 []) H' := AE9 rfl
theorem Bkg {t : TypeId} : sop P (.boxT x t) e H KK = AGc (x.ev e) fun v => AH9 (lays v = true) (AGc (H.length) fun n => AGc (AFo v) fun m => AGc (H ++ [.obj 0 v, .fact n 0 t m]) fun H' => KK (.op n 0 []) H') := AE9 rfl
theorem Blj {f : FuncId} : sop P (.bstr f x) e H KK = Bff P f (A9J H (x.ev e)) H KK := AE9 rfl
def Bes (x : TV) (H : List Ob) (K : TV → List Ob → Prop) [Tg K] : Prop := match x with
 | .val (.string s) => K (.op H.length 0 []) (H ++ [.sit (bl s) 0])
 | _ => False
@[congr] theorem BoA {x x' : TV} {H' : List Ob} (h1 : x = x') (h2 : H = H') : Bes x H KK = Bes x' H' KK := by rw [h1, h2]
theorem Bls : sop P (.rngS x) e H KK = Bes (x.ev e) H KK := AE9 rfl
theorem Bgj {s : ByteArray} : Bes (.val (.string s)) H KK = AGc H.length fun n => AGc (H ++ [.sit (bl s) 0]) fun H' => KK (.op n 0 []) H' := AE9 rfl
def Bbo : Option Ob → Option (List UInt8 × Nat)
 | some (.sit s pos) => some (s, pos)
 | _ => none
theorem BdB {s : List UInt8} {pos : Nat} : Bbo (some (.sit s pos)) = some (s, pos) := AE9 rfl
def BcO (x : TV) (H : List Ob) (K : TV → List Ob → Prop) [Tg K] : Prop := match x with
 | .op id 0 [] => (match H[id]? with
  | some (.sit s pos) => if pos < s.length then K (.tup [.val (.bool true), .val (.int .i64 (pos : Int)), .val (.int .i32 ((Utf8.decode (str s) pos).1 : Int))]) (H.set id (.sit s (pos + (Utf8.decode (str s) pos).2))) else K (.tup [.val (.bool false)]) H
  | _ => False)
 | _ => False
@[congr] theorem BoT {x x' : TV} {H' : List Ob} (h1 : x = x') (h2 : H = H') : BcO x H KK = BcO x' H' KK := by rw [h1, h2]
theorem BkO : sop P (.nxtS x) e H KK = BcO (x.ev e) H KK := AE9 rfl
theorem Bgh {id : Nat} : BcO (.op id 0 []) H KK = AGg (Bbo H[id]?) fun p => vif (decide (p.2 < p.1.length))
  (AGc (H.set id (.sit p.1 (p.2 + (Utf8.decode (str p.1) p.2).2))) fun H' => KK (.tup [.val (.bool true), .val (.int .i64 (p.2 : Int)), .val (.int .i32 ((Utf8.decode (str p.1) p.2).1 : Int))]) H') (KK (.tup [.val (.bool false)]) H) := by
 unfold BcO
 cases h : H[id]? with
 | none => simp [Bbo, AGg, h]
 | some o =>
  cases o with
  | sit s pos => simp only [h, Bbo, AGg, AGc]; by_cases hp : pos < s.length <;> simp [vif, hp]
  | _ => simp [Bbo, AGg, h]
theorem Bn2 : sop P (.box x) e H KK = AGc (x.ev e) fun v => AH9 (lays v = true) (AGc (H.length) fun n => AGc (H ++ [.obj 0 v]) fun H' => KK (.op n 0 []) H') := AE9 rfl
theorem Bde {k n : Nat} {z : TV} {ps : List (Nat × Opd)} : sop P (.bslice k n z ps) e H KK = AH9 (AII e (List.replicate n k) ps) (AH9 (AGm e ps ∧ n ≤ 1000) (AGc H.length fun m => AGc (H ++ [.obj 0 (.arr n k (AJo e (List.replicate n z) ps))]) fun H' => KK (.os k m 0 [] 0 n n) H')) := by
 rw [Bex]; simp only [AH9, AGc, and_assoc]
/-- Maps. -/
def A1v (kk : MK) : Option Ob → Option (List (List UInt8 × TV))
 | some (.mpo kk' es) => if kk' = kk then some es else none
 | _ => none
def A2D (kk : MK) : Option Ob → Option (List (List UInt8 × TV))
 | some (.mpo kk' es) => if kk' = kk then some es else none
 | some (.mpd kk' zs _) => if kk' = kk then some (zs.map (·.2)) else none
 | _ => none
theorem Bga {kk : MK} {es : List (List UInt8 × TV)} : A2D kk (some (.mpo kk es)) = some es := by simp [A2D]
theorem BhD {kk : MK} {zs : List (Nat × List UInt8 × TV)} {cl : Nat} : A2D kk (some (.mpd kk zs cl)) = some (zs.map (·.2)) := by simp [A2D]
def A7Y : Option Ob → Option (List (List UInt8 × TV))
 | some (.mpo _ es) => some es
 | some (.mpd _ zs _) => some (zs.map (·.2))
 | _ => none
theorem Bf1 {kk : MK} {es : List (List UInt8 × TV)} : A7Y (some (.mpo kk es)) = some es := by simp [A7Y]
theorem Bhy {kk : MK} {zs : List (Nat × List UInt8 × TV)} {cl : Nat} : A7Y (some (.mpd kk zs cl)) = some (zs.map (·.2)) := by simp [A7Y]
theorem Bg2 {kk : MK} {es : List (List UInt8 × TV)} : stO (some (.mpo kk es)) = some (kk, A0S 0 es, es.length) := AE9 rfl
theorem Bhx {kk : MK} {zs : List (Nat × List UInt8 × TV)} {cl : Nat} : stO (some (.mpd kk zs cl)) = some (kk, zs, cl) := AE9 rfl
/-- A loop over a map begins; its next round. -/
def BaK (x : TV) (H : List Ob) (K : TV → List Ob → Prop) [Tg K] : Prop := match x with
 | .mp id 0 => (match stO H[id]? with
  | some (_, _, cl) => K (.op H.length 0 []) (H ++ [.mit id [] cl])
  | none => False)
 | _ => False
@[congr] theorem Boo {x x' : TV} {H' : List Ob} (h1 : x = x') (h2 : H = H') : BaK x H KK = BaK x' H' KK := by rw [h1, h2]
theorem Bmk : sop P (.rngM x) e H KK = BaK (x.ev e) H KK := AE9 rfl
theorem BfM {id : Nat} : BaK (.mp id 0) H KK = AGg (stO H[id]?) fun p => AGc H.length fun n => AGc (H ++ [.mit id [] p.2.2]) fun H' => KK (.op n 0 []) H' := by
 unfold BaK
 cases h : stO H[id]? with
 | none => simp [AGg, h]
 | some o => obtain ⟨a, b, c⟩ := o; simp [AGg, AGc, h]
def A4M : Option Ob → Option (Nat × List Nat × Nat)
 | some (.mit m sn cl) => some (m, sn, cl)
 | _ => none
theorem Bdr {m cl : Nat} {sn : List Nat} : A4M (some (.mit m sn cl)) = some (m, sn, cl) := AE9 rfl
def BbX (x : TV) (H : List Ob) (K : TV → List Ob → Prop) [Tg K] : Prop := match x with
 | .op id 0 [] => (match H[id]? with
  | some (.mit m sn cl) => (match stO H[m]? with
   | some (kk, zs, cl') => (cl' = cl ∧ ∀ z ∈ zs, z.1 < cl) ∧ (∀ z ∈ zs, z.1 ∉ sn → K (.tup [.val (.bool true), kTV kk z.2.1, z.2.2]) (H.set id (.mit m (sn ++ [z.1]) cl))) ∧ ((∀ z ∈ zs, z.1 ∈ sn) → K (.tup [.val (.bool false)]) H)
   | none => False)
  | _ => False)
 | _ => False
@[congr] theorem Bn7 {x x' : TV} {H' : List Ob} (h1 : x = x') (h2 : H = H') : BbX x H KK = BbX x' H' KK := by rw [h1, h2]
theorem BjF : sop P (.nxtM x) e H KK = BbX (x.ev e) H KK := AE9 rfl
/-- The next entry, whichever: any one that was not yet seen; or none, if all were. -/
def Bmu (id m : Nat) (sn : List Nat) (cl : Nat) (kk : MK) (zs : List (Nat × List UInt8 × TV)) (cl' : Nat) (H : List Ob) (K : TV → List Ob → Prop) [Tg K] : Prop :=
 (cl' = cl ∧ ∀ z ∈ zs, z.1 < cl) ∧ (∀ z ∈ zs, z.1 ∉ sn → K (.tup [.val (.bool true), kTV kk z.2.1, z.2.2]) (H.set id (.mit m (sn ++ [z.1]) cl))) ∧ ((∀ z ∈ zs, z.1 ∈ sn) → K (.tup [.val (.bool false)]) H)
@[congr] theorem Bpw {id m : Nat} {sn sn' : List Nat} {cl c2 : Nat} {kk : MK} {zs zs' : List (Nat × List UInt8 × TV)} {cl' c2' : Nat} {H' : List Ob} (h1 : sn = sn') (h2 : cl = c2) (h3 : zs = zs') (h4 : cl' = c2') (h5 : H = H') : Bmu id m sn cl kk zs cl' H KK = Bmu id m sn' c2 kk zs' c2' H' KK := by rw [h1, h2, h3, h4, h5]
theorem Bc4 {id : Nat} : BbX (.op id 0 []) H KK = AGg (A4M H[id]?) fun p => AGg (stO H[p.1]?) fun q => Bmu id p.1 p.2.1 p.2.2 q.1 q.2.1 q.2.2 H KK := by
 unfold BbX
 cases h : H[id]? with
 | none => simp [A4M, AGg, h]
 | some o =>
  cases o with
  | mit m sn cl =>
   simp only [h, A4M, AGg]
   cases h2 : stO H[m]? with
   | none => simp
   | some q => obtain ⟨a, b, c⟩ := q; simp only [Bmu]
  | _ => simp [A4M, AGg, h]
/-- The entry last taken. -/
def BlP (p : Nat × List Nat × Nat) (q : MK × List (Nat × List UInt8 × TV) × Nat) : Option TV := match p.2.1.getLast? with
 | some s => if q.2.2 = p.2.2 then (match q.2.1.find? (·.1 == s) with
  | some z => some (.tup [kTV q.1 z.2.1, z.2.2])
  | none => none) else none
 | none => none
/-- A map whose entry goes. -/
def Bjq (kk : MK) (o : Option Ob) : Option (List (Nat × List UInt8 × TV) × Nat) := match stO o with
 | some (kk', zs, cl) => if kk' = kk then some (zs, cl) else none
 | none => none
theorem Bgc {kk : MK} {es : List (List UInt8 × TV)} : Bjq kk (some (.mpo kk es)) = some (A0S 0 es, es.length) := by simp [Bjq, stO]
theorem Bfe {kk : MK} {zs : List (Nat × List UInt8 × TV)} {cl : Nat} : Bjq kk (some (.mpd kk zs cl)) = some (zs, cl) := by simp [Bjq, stO]
def BaG (kk : MK) (m k : TV) (H : List Ob) (K : TV → List Ob → Prop) [Tg K] : Prop := match m, AGu kk k with
 | .mp id 0, some kb => (match stO H[id]? with
  | some (kk', zs, cl) => kk' = kk ∧ K .any (H.set id (.mpd kk (zs.eraseIdx (A21 kb (zs.map (·.2)))) cl))
  | none => False)
 | _, _ => False
@[congr] theorem BnO {kk : MK} {H' : List Ob} {m m' k k' : TV} (h1 : m = m') (h2 : k = k') (h4 : H = H') : BaG kk m k H KK = BaG kk m' k' H' KK := by rw [h1, h2, h4]
theorem Bkh {kk : MK} {m k : Opd} : sop P (.delM kk m k) e H KK = BaG kk (m.ev e) (k.ev e) H KK := AE9 rfl
theorem Bgf {kk : MK} {id : Nat} {kx : TV} : BaG kk (.mp id 0) kx H KK = AGg (Bjq kk H[id]?) fun p => AGg (AGu kk kx) fun kb => AGc (p.1.eraseIdx (A21 kb (p.1.map (·.2)))) fun zs => AGc (H.set id (.mpd kk zs p.2)) fun H' => KK .any H' := by
 unfold BaG Bjq
 cases h : stO H[id]? with
 | none => cases AGu kk kx <;> simp [h, AGg]
 | some q =>
  obtain ⟨kk', zs, cl⟩ := q
  by_cases hk : kk' = kk
  ·subst hk; cases AGu kk' kx <;> simp [h, AGg, AGc]
  ·cases AGu kk kx <;> simp [h, AGg, hk]
/-- A row cleared. -/
def BmB (H : List Ob) (x : TV) (K : TV → List Ob → Prop) [Tg K] : Prop := match x with
 | .os k id ver [] off n cp => n ≠ 0 ∧ obV H[id]? = some ver ∧ K (.os k id ver [] off n cp) H
 | _ => False
@[congr] theorem Bpp {H' : List Ob} {x x' : TV} (h0 : H = H') (h1 : x = x') : BmB H x KK = BmB H' x' KK := by rw [h0, h1]
theorem BmU {x : Opd} : sop P (.cvS x) e H KK = BmB H (x.ev e) KK := AE9 rfl
theorem Bhj {k id ver off n cp : Nat} : BmB H (.os k id ver [] off n cp) KK = AH9 (n ≠ 0) (AH9 (obV H[id]? = some ver) (KK (.os k id ver [] off n cp) H)) := AE9 rfl
theorem BkX {v : Nat} {y : TV} : obV (some (.obj v y)) = some v := AE9 rfl
def BcK (k : Nat) (z x : TV) (H : List Ob) (K : TV → List Ob → Prop) [Tg K] : Prop := match x with
 | .os k' id ver p off n cp => AWR k (.os k' id ver p off n cp) (List.replicate n z) H fun _ H' => K .any H'
 | .val (.slice none 0 0) => K .any H
 | _ => False
@[congr] theorem BoB {k : Nat} {z x x' : TV} {H' : List Ob} (h1 : x = x') (h2 : H = H') : BcK k z x H KK = BcK k z x' H' KK := by rw [h1, h2]
theorem BlR {k : Nat} {z : TV} : sop P (.clrS k z x) e H KK = BcK k z (x.ev e) H KK := AE9 rfl
theorem BcX {k : Nat} {z : TV} : BcK k z (.val (.slice none 0 0)) H KK = KK .any H := AE9 rfl
theorem Bgb {k id ver off n cp : Nat} {p : List (Nat × Nat)} {z : TV} : BcK k z (.os k id ver p off n cp) H KK = AGc (List.replicate n z) fun ys => A7C k (.os k id ver p off n cp) (some ys) H fun _ H' => KK .any H' := AE9 rfl
theorem BfB {kk : MK} {es : List (List UInt8 × TV)} : A1v kk (some (.mpo kk es)) = some es := by simp [A1v]
theorem Bla {l : List UInt8} : AGu .str (.val (.string (str l))) = some l := by simp [AGu, bl, str]
theorem BlX {n : Nat} {l : List UInt8} : AGu (.arr n) (.arr n 1 (l.map by8)) = some l := by
 unfold AGu; simp only [AZv, AVB, and_self, if_true]
theorem BiR {z : TV} {r : Option TV} : A1F z false r = r.getD z := by simp [A1F]
theorem Bhi {z : TV} {r : Option TV} : A1F z true r = .tup [r.getD z, .val (.bool r.isSome)] := by simp [A1F]
def Bjn (x : TV) (A : Prop) [Tg A] : Prop := match x with
 | .val (.int _ _) => A
 | _ => False
@[congr] theorem Bpt {x x' : TV} {A : Prop} (h : x = x') : Bjn x A = Bjn x' A := by rw [h]
theorem BiV {q : IntKind} {n : Int} {A : Prop} : Bjn (.val (.int q n)) A = A := by simp [Bjn]
theorem Bkb {kk : MK} : sop P (.mkm kk none) e H KK = AGc H.length fun n => AGc (H ++ [.mpo kk []]) fun H' => KK (.mp n 0) H' := by simp [sop, AGc]
theorem BjA {kk : MK} : sop P (.mkm kk (some x)) e H KK = Bjn (x.ev e) (AGc H.length fun n => AGc (H ++ [.mpo kk []]) fun H' => KK (.mp n 0) H') := by
 simp only [sop, AGc, Bjn]
 cases x.ev e with
 | val v => cases v <;> simp
 | _ => simp
def Bao (kk : MK) (m k v : TV) (H : List Ob) (K : TV → List Ob → Prop) [Tg K] : Prop := match m, AGu kk k with
 | .mp id 0, some kb => (match H[id]? with
  | some (.mpo kk' es) => (kk' = kk ∧ lays v = true) ∧ K .any (H.set id (.mpo kk (A3G kb v es)))
  | _ => False)
 | _, _ => False
@[congr] theorem Bnm {kk : MK} {H' : List Ob} {m m' k k' v v' : TV} (h1 : m = m') (h2 : k = k') (h3 : v = v') (h4 : H = H') : Bao kk m k v H KK = Bao kk m' k' v' H' KK := by rw [h1, h2, h3, h4]
theorem Blq {kk : MK} {m k : Opd} : sop P (.mupd kk m k x) e H KK = Bao kk (m.ev e) (k.ev e) (x.ev e) H KK := AE9 rfl
def Bab (kk : MK) (z m k : TV) (H : List Ob) (K : TV → List Ob → Prop) [Tg K] : Prop := match m, AGu kk k with
 | .mp id 0, some kb => (match H[id]? with
  | some (.mpo kk' es) => kk' = kk ∧ K (.tup [(A1N kb es).getD z, .val (.int .i64 (A21 kb es))]) (H.set id (.mpo kk (A3G kb ((A1N kb es).getD z) es)))
  | _ => False)
 | _, _ => False
@[congr] theorem Bok {kk : MK} {H' : List Ob} {z m m' k k' : TV} (h1 : m = m') (h2 : k = k') (h4 : H = H') : Bab kk z m k H KK = Bab kk z m' k' H' KK := by rw [h1, h2, h4]
theorem Bl0 {kk : MK} {z : TV} {m k : Opd} : sop P (.ment kk z m k) e H KK = Bab kk z (m.ev e) (k.ev e) H KK := AE9 rfl
def BbO (m st v : TV) (H : List Ob) (K : TV → List Ob → Prop) [Tg K] : Prop := match m, st with
 | .mp id 0, .val (.int _ j) => (match H[id]? with
  | some (.mpo kk es) => (0 ≤ j ∧ lays v = true) ∧ (match es[j.toNat]? with
   | some (k, _) => K .any (H.set id (.mpo kk (es.set j.toNat (k, v))))
   | none => False)
  | _ => False)
 | _, _ => False
@[congr] theorem BnP {H' : List Ob} {m m' st st' v v' : TV} (h1 : m = m') (h2 : st = st') (h3 : v = v') (h4 : H = H') : BbO m st v H KK = BbO m' st' v' H' KK := by rw [h1, h2, h3, h4]
theorem BjZ {m st : Opd} : sop P (.mest m st x) e H KK = BbO (m.ev e) (st.ev e) (x.ev e) H KK := AE9 rfl
theorem Bhd {sz : Nat} : sop P (.store sz x y) e H KK = A5x H sz (x.ev e) (y.ev e) KK := AE9 rfl
theorem BmZ {k n : Nat} {z : TV} : sop P (.mks k n z x y) e H KK = Bmp H k n z (x.ev e) (y.ev e) KK := AE9 rfl
theorem Bof {k n : Nat} {et : TypeId} : sop P (.app k n et x y) e H KK = BhL k n et (x.ev e) (AGy H k (y.ev e)) H KK := AE9 rfl
theorem BlB {et : TypeId} : sop P (.appS et x y) e H KK = Bfq et (x.ev e) (y.ev e) H KK := AE9 rfl
theorem BjJ {k : Nat} : sop P (.copy k x y) e H KK = A7C k (x.ev e) (AGy H k (y.ev e)) H KK := AE9 rfl
theorem Bip : sop P (.copyS x y) e H KK = A8o (x.ev e) (y.ev e) H KK := AE9 rfl
theorem BjS {k n : Nat} {z : TV} : sop P (.appZ k n z x y) e H KK = Bdm k n z (x.ev e) (y.ev e) H KK := AE9 rfl
theorem BnJ {n : Bool} : sop P (.eqS x n) e H KK = BgC n (x.ev e) H KK := AE9 rfl
theorem BoN : sop P (.s2b x) e H KK = Bmv H (x.ev e) KK := AE9 rfl
theorem Blm {f : FuncId} {args : List Opd} : sop P (.call f args) e H KK = AGc (evs e args) fun xs => AH9 (AV8 xs) (VC P f xs H KK) := by
 rw [BkH, ATo]; rfl
theorem BnM {nm : String} {args : List Opd} : sop P (.inv x nm args) e H KK = AGc (evs e args) fun xs => AH9 (AV8 xs) (BkL P nm (x.ev e) xs H KK) := by
 show ((∀ y ∈ args, AGZ (y.ev e) = false) ∧ _) = _
 rw [ATo]; rfl
theorem Bi7 {args : List Opd} : sop P (.callv x args) e H KK = AGc (evs e args) fun xs => AH9 (AV8 xs) (A3T P (x.ev e) xs H KK) := by
 rw [BiS, ATo]; rfl
end

section
variable {K : TV → Prop} {KK : TV → List Ob → Prop} {x y : TV} {cs ys : List TV} {n n' k k' : Nat} {id ver off cp : Nat} {p : List (Nat × Nat)} {j : Int} {q : IntKind} {lo hi : Option TV}
theorem Bds {t : Bool} : Bbd (.val (.bool t)) x y K = vif t (K x) (K y) := by cases t <;> simp [Bbd, vif]
theorem Bht {t : TypeId} {op : BinOp} {u v : Value} : BmE t op (.val u) (.val v) K = AH9 (BdN u v = true) (AGg (AHA t op u v) fun r => AGc (TV.val r) K) := by
 show (_ ∧ _) = _; cases AHA t op u v <;> rfl
theorem Bjv {op : UnOp} {u : Value} : Pun op (.val u) K = AGg (unV op u) fun r => AGc (TV.val r) K := by
 unfold Pun; simp only; cases unV op u <;> rfl
theorem BdS {k : IntKind} : Bdo k (.val (.int q j)) K = AGc (TV.val (.int k (k.wrap j))) K := AE9 rfl
theorem Bhb {s : ByteArray} : BmG (.val (.string s)) K = K (.val (.string s)) := AE9 rfl
theorem Bik : Bmw (some cs) K = AH9 (∀ y ∈ cs, A7a y) (AGc (TV.val (.string (str (cs.map AZi)))) K) := AE9 rfl
theorem BfZ {ag : Bool} {sz : Nat} : A7w H ag sz (.fp y) K = AH9 (A3F ag sz y) (K y) := AE9 rfl
theorem Bdu {ag : Bool} {sz : Nat} : A7w H ag sz (.op id ver p) K = AGg (AKR H[id]? ver) fun x => AGg (AJ9 p x) fun y => AH9 (A3F ag sz y) (K y) := by
 unfold A7w
 simp only
 cases h : H[id]? with
 | none => simp [AKR, AGg]
 | some o =>
  cases o with
  | gone v => simp [AKR, AGg]
  | ice v m y => simp [AKR, AGg]
  | fact i v t m => simp [AKR, AGg]
  | bld v t l => simp [AKR, AGg]
  | lp st pe fn N en ps ca cb => simp [AKR, AGg]
  | mpo kk es => simp [AKR, AGg]
  | mpd kk zs cl => simp [AKR, AGg]
  | mit m sn cl => simp [AKR, AGg]
  | sit s pos => simp [AKR, AGg]
  | obj v x =>
   by_cases hv : v = ver
   ·subst hv; simp only [AKR, AGg, AH9, if_true, true_and]; cases AJ9 p x <;> rfl
   ·simp [AKR, AGg, hv]
theorem A96 {i o : Nat} : A0a i o (.op id ver p) K = AGc (p ++ [(i, o)]) fun p => K (.op id ver p) := AE9 rfl
theorem A9Q {i o : Nat} : A0a i o (.fp (.agg cs)) K = AH9 (AFU (cs.take i) = o) (AGg cs[i]? fun y => K (.fp y)) := by
 unfold A0a; simp only; cases cs[i]? <;> rfl
theorem Baq {ag : Bool} {sz i o : Nat} : A5K ag sz i o (.agg cs) K = AH9 (AFU (cs.take i) = o) (AGg cs[i]? fun y => AH9 (A3F ag sz y) (K y)) := by
 unfold A5K; simp only; cases cs[i]? <;> rfl
theorem BfQ : A9W k (.sl k cs) (.val (.int q j)) K = AH9 (0 ≤ j) (AGg cs[j.toNat]? fun y => K (.fp y)) := by
 unfold A9W; simp only [true_and]; cases cs[j.toNat]? <;> rfl
theorem Bft : A9W k (.os k id ver p off n cp) (.val (.int q j)) K = AH9 (0 ≤ j ∧ j < n) (AGc (off + j.toNat) fun m => AGc (p ++ [(m, m * k)]) fun p => K (.op id ver p)) := by
 show (k = k ∧ _) = _; simp [AH9, AGc, and_assoc]
theorem BbS : A3R n k (.fp (.arr n k cs)) (.val (.int q j)) K = AH9 (0 ≤ j) (AGg cs[j.toNat]? fun y => K (.fp y)) := by
 unfold A3R; simp only [true_and]; cases cs[j.toNat]? <;> rfl
theorem BcE : A3R n k (.op id ver p) (.val (.int q j)) K = AH9 (0 ≤ j ∧ j < n) (AGc j.toNat fun m => AGc (p ++ [(m, m * k)]) fun p => K (.op id ver p)) := by
 show (_ ∧ _) = _; simp [AH9, AGc, and_assoc]
theorem Bjf {ag : Bool} : Bmm ag n k (.arr n k cs) (.val (.int q j)) K = AH9 (0 ≤ j) (AGg cs[j.toNat]? fun y => AH9 (A3F ag k y) (K y)) := by
 unfold Bmm; simp only [true_and]; cases cs[j.toNat]? <;> rfl
theorem Bfu {s : ByteArray} : Bci (.val (.string s)) (.val (.int q j)) K = AH9 (0 ≤ j) (AGg (bl s)[j.toNat]? fun b => K (by8 b)) := by
 unfold Bci; simp only; cases (bl s)[j.toNat]? <;> rfl
theorem BgR {i : Nat} : BlQ i (.tup cs) K = AGg cs[i]? K := by
 unfold BlQ; simp only; cases cs[i]? <;> rfl
theorem Bd1 {s : ByteArray} : BeE (.val (.string s)) K = AGc (TV.val (.int .i64 (bl s).length)) K := AE9 rfl
theorem Bd7 : A9p (.sl k cs) K = AGc (TV.val (.int .i64 cs.length)) K := AE9 rfl
theorem BdE : A9p (.os k id ver p off n cp) K = K (.val (.int .i64 n)) := AE9 rfl
theorem BbF {ad : Option Addr} {c : Nat} : A9p (.val (.slice ad n c)) K = K (.val (.int .i64 n)) := AE9 rfl
section
variable {len lim : Nat} {KN : Nat → Nat → Prop} {l h : Int} {q2 : IntKind}
theorem BhZ : A4o none none len lim KN = AH9 (len ≤ lim) (KN 0 len) := by
 show ((0 ≤ (0:Int) ∧ (0:Int) ≤ (len : Int) ∧ (len : Int) ≤ lim) ∧ KN (Int.toNat 0) (Int.toNat len)) = _
 simp [AH9]
theorem Bje : A4o (some (.val (.int q l))) none len lim KN = AH9 (0 ≤ l ∧ l ≤ len ∧ (len : Int) ≤ lim) (AGc l.toNat fun l => KN l len) := by
 show ((0 ≤ l ∧ l ≤ (len : Int) ∧ (len : Int) ≤ lim) ∧ KN l.toNat (Int.toNat len)) = _
 simp [AH9, AGc]
theorem Bi9 : A4o none (some (.val (.int q h))) len lim KN = AH9 (0 ≤ h ∧ h ≤ lim) (AGc h.toNat fun h => KN 0 h) := by
 show ((0 ≤ (0:Int) ∧ 0 ≤ h ∧ h ≤ lim) ∧ KN (Int.toNat 0) h.toNat) = _
 simp [AH9, AGc]
theorem BiK : A4o (some (.val (.int q l))) (some (.val (.int q2 h))) len lim KN = AH9 (0 ≤ l ∧ l ≤ h ∧ h ≤ lim) (AGc l.toNat fun l => AGc h.toNat fun h => KN l h) := AE9 rfl
end
theorem Bia {s : ByteArray} : Bmx (.val (.string s)) lo hi K = A4o lo hi (bl s).length (bl s).length fun l h => AGc (((bl s).drop l).take (h - l)) fun r => K (.val (.string (str r))) := AE9 rfl
theorem Bi8 : Bjr k (.sl k cs) lo hi K = A4o lo hi cs.length cs.length fun l h => AGc ((cs.drop l).take (h - l)) fun r => K (.sl k r) := by
 exact propext ⟨fun h => h.2, fun h => ⟨rfl, h⟩⟩
theorem Bil : Bjr k (.os k id ver p off n cp) lo hi K = A4o lo hi n cp fun l h => AGc (off + l) fun o => AGc (h - l) fun m => AGc (cp - l) fun c => K (.os k id ver p o m c) := by
 exact propext ⟨fun h => h.2, fun h => ⟨rfl, h⟩⟩
theorem Bd0 {ad : Option Addr} : Bjr k (.val (.slice ad 0 0)) lo hi K = A4o lo hi 0 0 fun l h => K (.val (.slice ad 0 0)) := AE9 rfl
theorem BhG : Bjk H n k (.fp (.arr n k cs)) lo hi K = AH9 (n ≤ 9223372036854775807) (A4o lo hi n n fun l h => AGc ((cs.drop l).take (h - l)) fun r => K (.sl k r)) := by
 exact propext ⟨fun h => ⟨h.2.2.1, h.2.2.2⟩, fun h => ⟨rfl, rfl, h.1, h.2⟩⟩
/-- An array at the end of a way. -/
def A5T : Option TV → Nat → Nat → Option (List TV)
 | some (.arr n' k' cs), n, k => if n' = n ∧ k' = k then some cs else none
 | _, _, _ => none
theorem BfG : A5T (some (.arr n k cs)) n k = some cs := by simp [A5T]
theorem BgU : Bjk H n k (.op id ver p) lo hi K = AGg (AKR H[id]? ver) fun x => AH9 (n ≤ 9223372036854775807) (AGg (A5T (AJ9 p x) n k) fun _ => A4o lo hi n n fun l h => AGc (h - l) fun m => AGc (n - l) fun c => K (.os k id ver p l m c)) := by
 unfold Bjk
 simp only
 cases h : H[id]? with
 | none => simp [AKR, AGg]
 | some o =>
  cases o with
  | gone v => simp [AKR, AGg]
  | ice v m y => simp [AKR, AGg]
  | fact i v t m => simp [AKR, AGg]
  | bld v t l => simp [AKR, AGg]
  | lp st pe fn N en ps ca cb => simp [AKR, AGg]
  | mpo kk es => simp [AKR, AGg]
  | mpd kk zs cl => simp [AKR, AGg]
  | mit m sn cl => simp [AKR, AGg]
  | sit s pos => simp [AKR, AGg]
  | obj v x =>
   by_cases hv : v = ver
   ·simp only [AKR, AGg, hv, AH9, AGc, if_true, true_and]
    congr 1
    cases hg : AJ9 p x with
    | none => simp [A5T]
    | some y =>
     cases y with
     | arr n2 k2 ds =>
      by_cases h1 : n2 = n
      ·by_cases h2 : k2 = k
       ·simp [A5T, h1, h2]; exact Iff.rfl
       ·simp [A5T, h1, h2]
      ·simp [A5T, h1]
     | _ => simp [A5T]
   ·simp [AKR, AGg, hv]
theorem BcJ {t : TypeId} : A8K t x K = AH9 (lays x = true) (K (.ifc t x)) := AE9 rfl
theorem Bhe {f : Fn} : Bml f cs ys K = AH9 (AV8 (cs ++ ys)) (K (.fn f cs ys)) := AE9 rfl
theorem BfW : A54 (.op id ver p) K = K (.op id ver p) := AE9 rfl
theorem Bdz : A54 (.fp y) K = K (.fp y) := AE9 rfl
theorem BeA {f : FuncId} {a b : List TV} : A54 (.fn (.func f) a b) K = K (.fn (.func f) a b) := AE9 rfl
theorem Bcw {t : TypeId} : A54 (.ifc t y) K = K (.ifc t y) := AE9 rfl
theorem A9m {f : FuncId} {a b : Array Value} : A54 (.val (.func (.func f) a b)) K = K (.val (.func (.func f) a b)) := AE9 rfl
section
variable {a b : Int} {q2 : IntKind}
theorem BiT : Bms (.val (.int q a)) (.val (.int q2 b)) K = vif (decide (b < a)) (K (.val (.int q b))) (K (.val (.int q a))) := by
 show K _ = _
 by_cases h : b < a <;> simp [vif, h]
theorem BgZ : Bmt (.val (.int q a)) (.val (.int q2 b)) K = vif (decide (a < b)) (K (.val (.int q b))) (K (.val (.int q a))) := by
 show K _ = _
 by_cases h : a < b <;> simp [vif, h]
theorem Bd2 {q1 q2 q3 : IntKind} {l h m : Int} : A2c (.sl3 k) H [.sl k cs, .val (.int q1 l), .val (.int q2 h), .val (.int q3 m)] K = AH9 (0 ≤ l ∧ l ≤ h ∧ h ≤ m ∧ m ≤ cs.length) (AGc ((cs.drop l.toNat).take (h.toNat - l.toNat)) fun r => K (.sl k r)) := by
 unfold A2c gev AH9 AGc
 simp only [true_and]
 by_cases hc : 0 ≤ l ∧ l ≤ h ∧ h ≤ m ∧ m ≤ cs.length
 ·rw [if_pos hc]; simp [hc]
 ·rw [if_neg hc]; simp only [hc, false_and]
theorem Bep {sh : List EL} {b : Bool} {xs ys : List TV} : A2c (.eqR sh b) H [.agg xs, .agg ys] K = AGg (A42 sh xs ys) fun r => AGc (TV.val (.bool (xor b r))) K := by
 have hg : gev (.eqR sh b) H [.agg xs, .agg ys] = (A42 sh xs ys).map fun r => .val (.bool (xor b r)) := by unfold gev; rfl
 unfold A2c AGg AGc
 rw [hg]
 cases A42 sh xs ys <;> rfl
theorem Be4 : A42 [] [] [] = some true := AE9 rfl
theorem Bkz {l : List EL} {k : IntKind} {a b : Int} {xs ys : List TV} : A42 (.i :: l) (.val (.int k a) :: xs) (.val (.int k b) :: ys) = (A42 l xs ys).map fun r => (a == b) && r := by rw [A42, if_pos rfl]
theorem BlD {l : List EL} {a b : ByteArray} {xs ys : List TV} : A42 (.s :: l) (.val (.string a) :: xs) (.val (.string b) :: ys) = (A42 l xs ys).map fun r => (a == b) && r := AE9 rfl
theorem Bky {l : List EL} {n : Nat} {a b : List UInt8} {xs ys : List TV} : A42 (.b n :: l) (.arr n 1 (a.map by8) :: xs) (.arr n 1 (b.map by8) :: ys) = (A42 l xs ys).map fun r => (a == b) && r := by
 rw [A42]
 simp only [AZv, AVB, and_self, if_true]
theorem Bf3 {n : Nat} {b : Bool} {xs ys : List UInt8} : A2c (.eqA n b) H [.arr n 1 (xs.map by8), .arr n 1 (ys.map by8)] K = AGc (TV.val (.bool (xor b (xs == ys)))) K := by
 unfold A2c gev AGc
 simp only [AZv, AVB, and_self, if_true]
theorem Beg {q : IntKind} {n : Int} : A2c .r2s H [.val (.int q n)] K = AGc (TV.val (.string (Utf8.encode n))) K := AE9 rfl
theorem Bfy {t t' : TypeId} : A2c (.tas t) H [.ifc t' x] K = AH9 (t' = t) (K x) := by
 unfold A2c gev AH9
 by_cases h : t' = t <;> simp [h]
theorem Bcj {a : Option Addr} {l n : Nat} : A2c .capV H [.val (.slice a l n)] K = AGc (TV.val (.int .i64 (n : Int))) K := AE9 rfl
theorem Bge {n : Nat} : A2c (.s2a n k) H [.sl k cs] K = AH9 (0 < n ∧ n ≤ cs.length) (AGc (cs.take n) fun r => K (.fp (.arr n k r))) := by
 unfold A2c gev AH9 AGc
 simp only [true_and]
 by_cases hc : 0 < n ∧ n ≤ cs.length
 ·rw [if_pos hc]; simp [hc]
 ·rw [if_neg hc]; simp only [hc, false_and]
theorem Blh {s t : Bool} : BjV false (.val (.bool s)) (.val (.bool t)) K = AGc (TV.val (.bool (s == t))) K := by
 show K _ = _; simp [AGc]
theorem BjL {s t : Bool} : BjV true (.val (.bool s)) (.val (.bool t)) K = AGc (TV.val (.bool (!(s == t)))) K := by
 show K _ = _; simp [AGc]
theorem Blu {m b : Bool} : BkR m (some true) (some b) K = AGc (TV.val (.bool (xor m b))) K := AE9 rfl
theorem BkU {m : Bool} : BkR m (some false) (some true) K = AGc (TV.val (.bool (xor m false))) K := AE9 rfl
end
theorem BdH {kk : MK} {m : Nat} {kx v : TV} : Bao kk (.mp m 0) kx v H KK = AGg (A1v kk H[m]?) fun es => AGg (AGu kk kx) fun kb => AH9 (lays v = true) (AGc (A3G kb v es) fun es' => AGc (H.set m (.mpo kk es')) fun H' => KK .any H') := by
 unfold Bao
 cases hh : H[m]? with
 | none => cases AGu kk kx <;> simp [hh, A1v, AGg]
 | some o =>
  cases o with
  | mpo kk' es =>
   by_cases hk : kk' = kk
   ·subst hk; cases AGu kk' kx <;> simp [hh, A1v, AGg, AH9, AGc]
   ·cases AGu kk kx <;> simp [hh, A1v, AGg, hk]
  | _ => cases AGu kk kx <;> simp [hh, A1v, AGg]
theorem Bd4 {kk : MK} {m : Nat} {kx z : TV} : Bab kk z (.mp m 0) kx H KK = AGg (A1v kk H[m]?) fun es => AGg (AGu kk kx) fun kb => AGc ((A1N kb es).getD z) fun y => AGc (A21 kb es) fun p => AGc (A3G kb y es) fun es' => AGc (H.set m (.mpo kk es')) fun H' => KK (.tup [y, .val (.int .i64 (p : Int))]) H' := by
 unfold Bab
 cases hh : H[m]? with
 | none => cases AGu kk kx <;> simp [hh, A1v, AGg]
 | some o =>
  cases o with
  | mpo kk' es =>
   by_cases hk : kk' = kk
   ·subst hk; cases AGu kk' kx <;> simp [hh, A1v, AGg, AGc]
   ·cases AGu kk kx <;> simp [hh, A1v, AGg, hk]
  | _ => cases AGu kk kx <;> simp [hh, A1v, AGg]
def A33 : Option Ob → Option (MK × List (List UInt8 × TV))
 | some (.mpo kk es) => some (kk, es)
 | _ => none
theorem BbY {kk : MK} {es : List (List UInt8 × TV)} : A33 (some (.mpo kk es)) = some (kk, es) := by simp [A33]
theorem Beq {m j : Nat} {q : IntKind} {v : TV} : BbO (.mp m 0) (.val (.int q (j : Int))) v H KK = AGg (A33 H[m]?) fun p => AH9 (lays v = true) (AGg p.2[j]? fun y => AGc (p.2.set j (y.1, v)) fun es' => AGc (H.set m (.mpo p.1 es')) fun H' => KK .any H') := by
 unfold BbO
 cases hh : H[m]? with
 | none => simp [hh, A33, AGg]
 | some o =>
  cases o with
  | mpo kk' es =>
   simp only [hh, A33, AGg, AH9, AGc, Int.natCast_nonneg, true_and, Int.toNat_natCast]
   cases es[j]? <;> simp
  | _ => simp [hh, A33, AGg]
theorem Ba5 {kk : MK} {z kx : TV} {ok : Bool} {m : Nat} : A2c (.look kk z ok) H [.mp m 0, kx] K = AGg (A2D kk H[m]?) fun es => AGg (AGu kk kx) fun kb => AGc (A1F z ok (A1N kb es)) K := by
 unfold A2c gev A44
 cases hh : H[m]? with
 | none => cases hb : AGu kk kx <;> simp [hh, hb, A2D, AGg]
 | some o =>
  cases o with
  | mpo kk' es =>
   by_cases hk : kk' = kk
   ·subst hk; cases hb : AGu kk' kx <;> simp [hh, hb, A2D, AGg, AGc]
   ·cases hb : AGu kk kx <;> simp [hh, hb, A2D, AGg, hk]
  | mpd kk' zs cl =>
   by_cases hk : kk' = kk
   ·subst hk; cases hb : AGu kk' kx <;> simp [hh, hb, A2D, AGg, AGc]
   ·cases hb : AGu kk kx <;> simp [hh, hb, A2D, AGg, hk]
  | _ => cases hb : AGu kk kx <;> simp [hh, hb, A2D, AGg]
theorem A9D {kk : MK} {z kx : TV} {ok : Bool} : A2c (.look kk z ok) H [.val (.map none), kx] K = AGg (AGu kk kx) fun kb => AGc (A1F z ok none) K := by
 unfold A2c gev A44
 cases hb : AGu kk kx <;> simp [hb, AGg, AGc]
theorem Bbe {m : Nat} : A2c .lenM H [.mp m 0] K = AGg (A7Y H[m]?) fun p => AGc p.length fun n => AGc (TV.val (.int .i64 (n : Int))) K := by
 unfold A2c gev Bfc
 cases hh : H[m]? with
 | none => simp [hh, A7Y, AGg]
 | some o => cases o <;> simp [hh, A7Y, AGg, AGc]
theorem BaE {id : Nat} : A2c .entM H [.op id 0 []] K = AGg (A4M H[id]?) fun p => AGg (stO H[p.1]?) fun q => AGg (BlP p q) K := by
 unfold A2c gev BmD
 cases hh : H[id]? with
 | none => simp [hh, A4M, AGg]
 | some o =>
  cases o with
  | mit m sn cl =>
   simp only [hh, A4M, AGg, BlP]
   cases h2 : stO H[m]? with
   | none => simp
   | some q =>
    obtain ⟨kk, zs, cl'⟩ := q
    cases h3 : sn.getLast? with
    | none => simp
    | some s =>
     by_cases hc : cl' = cl
     ·subst hc; cases hf : zs.find? (·.1 == s) <;> simp [hf]
     ·simp [hc]
  | _ => simp [hh, A4M, AGg]
theorem Ba1 {sz : Nat} : A5x H sz (.op id ver p) y KK = AH9 (lays y = true ∧ AFo y = sz) (AGg (AKR H[id]? ver) fun z => AGg (ANf p z y) fun z' => AGc (H.set id (.obj ver z')) fun H' => KK .any H') := by
 unfold A5x
 simp only [AH9]
 congr 1
 cases h : H[id]? with
 | none => simp [AKR, AGg]
 | some o =>
  cases o with
  | gone v => simp [AKR, AGg]
  | ice v m y => simp [AKR, AGg]
  | fact i v t m => simp [AKR, AGg]
  | bld v t l => simp [AKR, AGg]
  | lp st pe fn N en ps ca cb => simp [AKR, AGg]
  | mpo kk es => simp [AKR, AGg]
  | mpd kk zs cl => simp [AKR, AGg]
  | mit m sn cl => simp [AKR, AGg]
  | sit s pos => simp [AKR, AGg]
  | obj v x =>
   by_cases hv : v = ver
   ·subst hv; simp only [AKR, AGg, AGc, if_true, true_and]; cases ANf p x y <;> rfl
   ·simp [AKR, AGg, hv]
theorem BhE {z : TV} {l c : Int} {q2 : IntKind} {bytes : Nat} : Bmp H k bytes z (.val (.int q l)) (.val (.int q2 c)) KK = AH9 (0 ≤ l ∧ l ≤ c ∧ (bytes : Int) * c ≤ 281474976710656 ∧ c ≤ 9223372036854775807) (AGc l.toNat fun l => AGc c.toNat fun c => AGc H.length fun m => AGc (H ++ [.obj 0 (.arr c k (List.replicate c z))]) fun H' => KK (.os k m 0 [] 0 l c) H') := AE9 rfl
/-- A row that may grow: a nil slice, or an object of one's own. -/
theorem Bdj {bytes : Nat} {et : TypeId} : BhL k bytes et (.val (.slice none 0 0)) (some ys) H KK = AH9 (ys.length * bytes ≤ 140737488355328 ∧ ys.length ≤ 9223372036854775807) (AGc ys.length fun n => AGc H.length fun m => AGc (H ++ [.obj 1 (.arr n k ys)]) fun H' => KK (.os k m 1 [] 0 n n) H') := AE9 rfl
/-- The array in an object. -/
def A7e : Option TV → Nat → Option (List TV)
 | some (.arr _ k' cs), k => if k' = k then some cs else none
 | _, _ => none
theorem Bdw : A7e (some (.arr n k cs)) k = some cs := by simp [A7e]
theorem BdW {v n2 : Nat} {et : TypeId} : BeM (some (.obj v (.arr n2 k cs))) v k et off n ys = some (.obj (v + 1) (.arr (n + ys.length) k ((cs.drop off).take n ++ ys))) := by simp [BeM]
theorem A8U {v : Nat} {et : TypeId} {l m : List UInt8} : BeM (some (.bld v et l)) v 1 et 0 n (m.map by8) = some (.bld (v + 1) et (l.take n ++ m)) := by
 simp only [BeM, AZv, AVB, and_self, if_true]
theorem BaW {v : Nat} {et : TypeId} {l : List UInt8} {b : UInt8} : BeM (some (.bld v et l)) v 1 et 0 n [by8 b] = some (.bld (v + 1) et (l.take n ++ [b])) := A8U (m := [b])
theorem Bdd {v n2 : Nat} : Bjg (some (.obj v (.arr n2 k cs))) = cs.length := by simp [Bjg]
theorem Be7 {v : Nat} {et : TypeId} {l : List UInt8} : Bjg (some (.bld v et l)) = l.length := by simp [Bjg]
theorem BiE {bytes : Nat} {et : TypeId} : BhL k bytes et (.os k id ver [] off n cp) (some ys) H KK = AGg (BeM H[id]? ver k et off n ys) fun o => AH9 (off + n ≤ Bjg H[id]? ∧ (n + ys.length) * bytes ≤ 140737488355328 ∧ n + ys.length ≤ 9223372036854775807)
   (AGc (n + ys.length) fun m => AGc (H.set id o) fun H' => KK (.os k id (ver + 1) [] 0 m m) H') := by
 unfold BhL A6d
 simp only [true_and]
 cases h : BeM H[id]? ver k et off n ys with
 | none => simp [AGg]
 | some o => simp [AGg, AH9, AGc]
theorem Bfo {s : ByteArray} {et : TypeId} : Bfq et x (.val (.string s)) H KK = AGc ((bl s).map by8) fun ys => BhL 1 1 et x (some ys) H KK := AE9 rfl
/-- How many elements an array has. -/
def Bnw : Option TV → Option Nat
 | some (.arr n _ _) => some n
 | _ => none
theorem BhU : Bnw (some (.arr n k cs)) = some n := AE9 rfl
theorem Be6 : A7C k (.os k id ver p off n cp) (some ys) H KK = AGg (AKR H[id]? ver) fun z => AGg (A7e (AJ9 p z) k) fun cs => AGg (Bnw (AJ9 p z)) fun N => AH9 (off + n ≤ cs.length) (AGg (ANf p z (.arr N k (cs.take off ++ (ys.take n ++ cs.drop (off + min ys.length n))))) fun z' =>
  AGc (H.set id (.obj ver z')) fun H' => AGc (TV.val (.int .i64 (min ys.length n : Nat))) fun r => KK r H') := by
 unfold A7C AWR
 simp only [true_and]
 cases h : H[id]? with
 | none => simp [AKR, AGg]
 | some o =>
  cases o with
  | gone v => simp [AKR, AGg]
  | ice v m y => simp [AKR, AGg]
  | fact i v t m => simp [AKR, AGg]
  | bld v t l => simp [AKR, AGg]
  | lp st pe fn N en ps ca cb => simp [AKR, AGg]
  | mpo kk es => simp [AKR, AGg]
  | mpd kk zs cl => simp [AKR, AGg]
  | mit m sn cl => simp [AKR, AGg]
  | sit s pos => simp [AKR, AGg]
  | obj v x =>
   by_cases hv : v = ver
   ·simp only [AKR, AGg, hv, if_true, true_and]
    cases hg : AJ9 p x with
    | none => simp [A7e]
    | some y =>
     cases y with
     | arr n2 k2 ds =>
      by_cases h1 : k2 = k
      ·subst h1; simp only [A7e, Bnw, AH9, AGc, if_true, true_and]; refine congrArg (_ ∧ ·) ?_; cases ANf p x (.arr n2 k2 (ds.take off ++ (ys.take n ++ ds.drop (off + min ys.length n)))) <;> rfl
      ·simp [A7e, h1]
     | _ => simp [A7e]
   ·simp [AKR, AGg, hv]
theorem Bb1 {s : ByteArray} : A8o x (.val (.string s)) H KK = AGc ((bl s).map by8) fun ys => A7C 1 x (some ys) H KK := AE9 rfl
theorem BfA {f : FuncId} {j v : Nat} {l : List UInt8} : Bff P f (some (j, v, l)) H KK = AH9 (Bmq P f) (AH9 (l.length ≤ 9223372036854775807) (AGc (H.set j (.gone v)) fun H' => KK (.val (.string (str l))) H')) := AE9 rfl
def Bmg (o : Option Ob) (j v n : Nat) (a : TV) : Option (Nat × Nat × List UInt8) := match o with
 | some (.bld v3 t l) => if v3 = v ∧ t = A6u ∧ n = l.length ∧ AFo a = 1 then some (j, v, l) else none
 | _ => none
def Bef (H : List Ob) (j v n : Nat) (a : TV) : Option (Nat × Nat × List UInt8) := Bmg H[j]? j v n a
def A9Y (H : List Ob) (q : Option TV) : Option (Nat × Nat × List UInt8) := match q with
 | some (.agg [a, .os 1 j v2 [] 0 n cp]) => Bef H j v2 n a
 | _ => none
theorem Bf5 {id ver : Nat} {p : List (Nat × Nat)} : A9J H (.op id ver p) = A9Y H ((AKR H[id]? ver).bind (AJ9 p)) := by
 unfold A9J
 simp only []
 cases h : H[id]? with
 | none => simp [AKR, A9Y]
 | some o =>
  cases o with
  | obj v y =>
   by_cases hv : v = ver
   ·simp only [AKR, hv, if_true, Option.bind_some]
    unfold A9Y Bef Bmg
    rfl
   ·simp [AKR, A9Y, hv]
  | _ => simp [AKR, A9Y]
theorem BeW {a : TV} {j v n cp : Nat} : A9Y H (some (.agg [a, .os 1 j v [] 0 n cp])) = Bef H j v n a := AE9 rfl
theorem BeG {a : TV} {j v n : Nat} : Bef H j v n a = Bmg H[j]? j v n a := AE9 rfl
theorem Bio {a : TV} {j v n : Nat} {l : List UInt8} (hn : n = l.length) (ha : AFo a = 1) : Bmg (some (.bld v 5 l)) j v n a = some (j, v, l) := by
 simp [Bmg, hn, ha, A6u]
theorem Biv {s : ByteArray} : Bmv H (.val (.string s)) KK = AH9 ((bl s).length ≤ 9223372036854775807) (AGc (bl s).length fun n => AGc ((bl s).map by8) fun r => AGc H.length fun m => AGc (H ++ [.obj 0 (.arr n 1 r)]) fun H' => KK (.os 1 m 0 [] 0 n n) H') := AE9 rfl
theorem Bdx {z : TV} {j : Int} {bytes : Nat} : Bdm k bytes z (.val (.slice none 0 0)) (.val (.int .i64 j)) H KK = AH9 (0 ≤ j ∧ (bytes : Int) * j ≤ 140737488355328 ∧ j ≤ 9223372036854775807) (AGc j.toNat fun n => AGc H.length fun m => AGc (H ++ [.obj 0 (.arr n k (List.replicate n z))]) fun H' => KK (.os k m 0 [] 0 n n) H') := AE9 rfl
theorem Beb {n : Bool} {a : Option Addr} {l c : Nat} : BgC n (.val (.slice a l c)) H KK = KK (.val (.bool (xor n a.isNone))) H := AE9 rfl
theorem Bii {n : Bool} : BgC n (.sl k cs) H KK = vif (decide (cs.length = 0)) (A9F H KK) (KK (.val (.bool n)) H) := by
 unfold BgC vif A9F
 by_cases h : cs = []
 ·subst h; simp
 ·have h2 : ¬ cs.length = 0 := fun e => h (List.length_eq_zero_iff.1 e)
  simp [h, h2]
theorem BhK {n : Bool} {m off l cp : Nat} {p : List (Nat × Nat)} : BgC n (.os k m ver p off l cp) H KK = vif (decide (l = 0)) (A9F H KK) (KK (.val (.bool n)) H) := by
 unfold BgC vif A9F
 by_cases h : l = 0
 ·subst h; simp
 ·simp [h]
theorem Bcd {f : FuncId} {a b : List TV} : A3T P (.fn (.func f) a b) cs H KK = AH9 (A1T P f = true) (AGc (a ++ cs ++ b) fun xs => VC P f xs H KK) := AE9 rfl
theorem A9c {f : FuncId} : A3T P (.val (.func (.func f) #[] #[])) cs H KK = AH9 (A1T P f = true) (VC P f cs H KK) := by
 exact propext ⟨fun h => ⟨h.2.1, h.2.2⟩, fun h => ⟨rfl, h.1, h.2⟩⟩
theorem Bcb : A3T P (.yl id ver) cs H KK = VY P id ver cs H KK := AE9 rfl
theorem Bh8 {nm : String} {t : TypeId} : BkL P nm (.ifc t x) cs H KK = Bjs P (BdG P t nm) x cs H KK := by
 unfold BkL BmA Bjs
 show (match BdG P t nm with | some (f, none) => _ | some (f, some (ag, sz)) => _ | none => False) = _
 rcases BdG P t nm with _ | ⟨f, _ | ⟨ag, sz⟩⟩ <;> rfl
theorem BlJ {f : FuncId} : Bjs P (some (f, none)) x cs H KK = AH9 (A1T P f = true) (AGc (x :: cs) fun xs => VC P f xs H KK) := AE9 rfl
theorem Ble {f : FuncId} {ag : Bool} {sz : Nat} : Bjs P (some (f, some (ag, sz))) x cs H KK = AH9 (A1T P f = true) (A7w H ag sz x fun y => AGc (y :: cs) fun xs => VC P f xs H KK) := AE9 rfl
theorem Bni {t : Bool} {A B : Prop} : Gd (some t) true A B = vif t A B := AE9 rfl
theorem BoM {t : Bool} {A B : Prop} : Gd (some t) false A B = vif t B A := by cases t <;> simp [Gd, vif]
theorem BpL {b : Bool} {A B : Prop} : Gd none b A B = B := AE9 rfl
end

section
variable {Q : VEx → Env → List Ob → Prop} {l : List VO} {kp : List Nat} {a b : AFb}
def Be9 (x : TV) (A B : Prop) [Tg A] [Tg B] : Prop := match x with
  | .val (.bool t) => if t = true then A else B
  | _ => False
@[congr] theorem BnX {x x' : TV} {A B : Prop} (h : x = x') : Be9 x A B = Be9 x' A B := by rw [h]
theorem Bfl {t : Bool} {A B : Prop} : Be9 (.val (.bool t)) A B = vif t A B := AE9 rfl
theorem Bnx : vwp P (.ops l kp) Q e H = A1y P l (fun e H => AGc (forget kp e) fun e => Q .nor e H) e H := AE9 rfl
def Bfj (zs : List Nat) (e : Env) (H : List Ob) (K : Env → List Ob → Prop) [Tg K] : Prop := Bjo zs K e H
@[congr] theorem BmY {zs : List Nat} {e e' : Env} {H H' : List Ob} {K : Env → List Ob → Prop} (h1 : e = e') (h2 : H = H') : Bfj zs e H K = Bfj zs e' H' K := by rw [h1, h2]
theorem BnU {K : Env → List Ob → Prop} : Bfj [] e H K = K e H := AE9 rfl
theorem Bk9 {l r : List VO} {zs kp : List Nat} : vwp P (.opsZ l zs r kp) Q e H = A1y P l (fun e H => Bfj zs e H fun e H => A1y P r (fun e H => AGc (forget kp e) fun e => Q .nor e H) e H) e H := AE9 rfl
theorem Bka {n : Nat} : vwp P (.draw n l kp) Q e H = (vq P (l.take n) (fun e => A1y P (l.drop n) (fun e H => AGc (forget kp e) fun e => Q .nor e H) e H) e H) := AE9 rfl
/-- What follows. -/
def Thn (P : Program) (b : AFb) (Q : VEx → Env → List Ob → Prop) : VEx → Env → List Ob → Prop := fun x e H => match x with | .nor => vwp P b Q e H | .exit i => Q (.exit i) e H | .ret => Q .ret e H | .pan u => Q (.pan u) e H
theorem BiH : Thn P b Q .nor e H = vwp P b Q e H := AE9 rfl
theorem BeV {i : Nat} : Thn P b Q (.exit i) e H = Q (.exit i) e H := AE9 rfl
theorem BiJ : Thn P b Q .ret e H = Q .ret e H := AE9 rfl
theorem Bnk : vwp P (.seq a b) Q e H = vwp P a (Thn P b Q) e H := AE9 rfl
/-- The end of a block. -/
def Blk (id : Nat) (Q : VEx → Env → List Ob → Prop) : VEx → Env → List Ob → Prop := fun x e H => match x with | .nor => Q .nor e H | .exit i => if i = id then Q .nor e H else Q (.exit i) e H | .ret => Q .ret e H | .pan u => Q (.pan u) e H
theorem Biw {id : Nat} : Blk id Q .nor e H = Q .nor e H := AE9 rfl
theorem Bez {id : Nat} : Blk id Q (.exit id) e H = Q .nor e H := by simp [Blk]
theorem A7y {id i : Nat} (h : i ≠ id) : Blk id Q (.exit i) e H = Q (.exit i) e H := by simp [Blk, h]
theorem BgT {id : Nat} : Blk id Q .ret e H = Q .ret e H := AE9 rfl
theorem Bhq {id : Nat} : vwp P (.block id a) Q e H = vwp P a (Blk id Q) e H := AE9 rfl
theorem Bju {c : Opd} : vwp P (.cond c a b) Q e H = Be9 (c.ev e) (vwp P a Q e H) (vwp P b Q e H) := AE9 rfl
/-- The end of a round, from a beginning with n0 objects on. -/
def Rnd (n0 : Nat) (lv : List Nat) (Q : VEx → Env → List Ob → Prop) (I : Nat → Env → List Ob → Prop) (n : Nat) : VEx → Env → List Ob → Prop := fun x e H => match x with
 | .nor => ∃ m g, m < n ∧ (n0 ≤ g ∧ (H.length ≤ g ∨ (A1g g (forget lv e) = true ∧ AZr g (H.take g) = true))) ∧ I m (forget lv e) (H.take g)
 | .exit i => Q (.exit i) e H | .ret => Q .ret e H | .pan u => Q (.pan u) e H
section
variable {n0 : Nat} {lv : List Nat} {I : Nat → Env → List Ob → Prop} {n : Nat}
theorem BcY {i : Nat} : Rnd n0 lv Q I n (.exit i) e H = Q (.exit i) e H := AE9 rfl
theorem BhM : Rnd n0 lv Q I n .ret e H = Q .ret e H := AE9 rfl
/-- A round's end, all objects kept. -/
theorem AFO (m : Nat) (hm : m < n) (h : n0 ≤ H.length) (hR : I m (forget lv e) H) : Rnd n0 lv Q I n .nor e H := by
 refine ⟨m, H.length, hm, ⟨h, .inl (Nat.le_refl _)⟩, ?_⟩
 rw [List.take_length]; exact hR
/-- A round's end; the objects from the g-th on are forgotten. -/
theorem A7g (m g : Nat) (hm : m < n) (h : n0 ≤ g) (he : A1g g (forget lv e) = true) (hH : AZr g (H.take g) = true) (hR : I m (forget lv e) (H.take g)) : Rnd n0 lv Q I n .nor e H :=
 ⟨m, g, hm, ⟨h, .inr ⟨he, hH⟩⟩, hR⟩
end
/-- A LOOP: what holds ahead of each round. -/
theorem AI0 {lv : List Nat} {H0 : List Ob} (I : Nat → Env → List Ob → Prop) (n : Nat) (h0 : I n (forget lv e) H0)
  (hs : ∀ n e H, I n e H → vwp P a (Rnd H0.length lv Q I n) e H) : vwp P (.loop lv a) Q e H0 := by
 rw [BlE]
 exact ⟨I, n, h0, hs⟩
theorem o_g {d s : Nat} {o : VOp} {b : Bool} {r : List VO} {K : Env → List Ob → Prop} : A1y P (⟨some d, o, some (s, b)⟩ :: r) K e H = A29 e s fun e q => Gd q b (vop P o e H (fun x H => A1y P r K ((d, x) :: e) H)) (A1y P r K ((d, .val undef) :: e) H) := by
 rw [BkP]; refine congrArg (A29 e s) ?_; funext e q; cases q <;> rfl
def BcL (x : TV) (e : Env) (s : Nat) (Q : Env → Option Bool → Prop) [Tg Q] : Prop := match x with
 | .val v => Q e (isB v)
 | .any => (∀ t, Q ((s, .val (.bool t)) :: e) (some t)) ∧ ∀ v, isB v = none → Q ((s, .val v) :: e) none
 | _ => False
@[congr] theorem Bna {x x' : TV} {s : Nat} {Q : Env → Option Bool → Prop} (h : x = x') : BcL x e s Q = BcL x' e s Q := by rw [h]
theorem BjE {s : Nat} {Q : Env → Option Bool → Prop} : A29 e s Q = BcL (get e s) e s Q := AE9 rfl
theorem BiB {b : Bool} {s : Nat} {Q : Env → Option Bool → Prop} : BcL (.val (.bool b)) e s Q = Q e (some b) := AE9 rfl
theorem Biz {s : Nat} {Q : Env → Option Bool → Prop} : BcL (.val undef) e s Q = Q e none := AE9 rfl
theorem u_c {d : Nat} {f : FuncId} {args : List Opd} {r : List VO} {K : Env → Prop} : vq P (⟨some d, .s (.call f args), none⟩ :: r) K e H = AGc (evs e args) fun xs => AH9 (AV8 xs) (vex fun x => VC P f xs H (fun y H' => y = x ∧ H' = H) ∧ vq P r K ((d, x) :: e) H) := by
 rw [BpZ, ATo]; rfl
def Gq (x : TV) (b : Bool) (A B : Prop) [Tg A] [Tg B] : Prop := match x with
 | .val v => if isB v = some b then A else B
 | _ => False
@[congr] theorem Bqc {x x' : TV} {b : Bool} {A B : Prop} (h : x = x') : Gq x b A B = Gq x' b A B := by rw [h]
theorem BpX {t : Bool} {A B : Prop} : Gq (.val (.bool t)) true A B = vif t A B := by cases t <;> simp [Gq, vif, isB]
theorem BpO {b : Bool} {A B : Prop} : Gq (.val undef) b A B = B := by simp [Gq, isB, undef]
theorem BpV {t : Bool} {A B : Prop} : Gq (.val (.bool t)) false A B = vif t B A := by cases t <;> simp [Gq, vif, isB]
theorem u_g {d s : Nat} {o : VOp} {b : Bool} {r : List VO} {K : Env → Prop} : vq P (⟨some d, o, some (s, b)⟩ :: r) K e H = Gq (get e s) b (A3l P o e H fun x => vq P r K ((d, x) :: e) H) (vq P r K ((d, .val undef) :: e) H) := AE9 rfl
theorem Bp7 {f : FuncId} {args : List Opd} {k : TV → Prop} : A3l P (.s (.call f args)) e H k = AGc (evs e args) fun xs => AH9 (AV8 xs) (vex fun x => VC P f xs H (fun y H' => y = x ∧ H' = H) ∧ k x) := by
 rw [Bhf, ATo]; rfl
def BkE (P : Program) (x : TV) (s k : Nat) (c : AFb) (Q : VEx → Env → List Ob → Prop) (e : Env) (H : List Ob) : Prop := match x with
  | .val (.slice none 0 0) => vwp P c Q ((s, .os k H.length 0 [] 0 0 0) :: e) (H ++ [.obj 0 (.arr 0 k [])])
  | _ => vwp P c Q e H
@[congr] theorem Bpf {x x' : TV} {s k : Nat} (h : x = x') : BkE P x s k a Q e H = BkE P x' s k a Q e H := by rw [h]
theorem BmW {s k : Nat} : vwp P (.own s k a) Q e H = BkE P (get e s) s k a Q e H := AE9 rfl
theorem Beo {s k : Nat} : BkE P (.val (.slice none 0 0)) s k a Q e H = vwp P a Q ((s, .os k H.length 0 [] 0 0 0) :: e) (H ++ [.obj 0 (.arr 0 k [])]) := AE9 rfl
theorem Bih {s k k' id ver off n cp : Nat} {p : List (Nat × Nat)} : BkE P (.os k' id ver p off n cp) s k a Q e H = vwp P a Q e H := AE9 rfl
end
/-- Results. -/
theorem BmS {t : Nat} {K : TV → Prop} : res [.tmp t] e H K = AGc (get e t) K := AE9 rfl
theorem Bly {t : Nat} {r : List VR} {K : List TV → Prop} : A6Z (.tmp t :: r) e H K = AGc (get e t) fun x => A6Z r e H fun xs => K (x :: xs) := AE9 rfl
def Bpr (K : TV → Prop) (xs : List TV) : Prop := match xs with
 | [x] => K x
 | xs => (∀ x ∈ xs, AGZ x = false) ∧ K (.tup xs)
theorem BeS {x y : TV} {l : List TV} {K : TV → Prop} : Bpr K (x :: y :: l) = AH9 (AV8 (x :: y :: l)) (AGc (TV.tup (x :: y :: l)) K) := AE9 rfl
theorem BkY {r s : VR} {l : List VR} {K : TV → Prop} : res (r :: s :: l) e H K = A6Z (r :: s :: l) e H (Bpr K) := AE9 rfl
theorem Bkx {a sz : Nat} {ag : Bool} {K : TV → Prop} : res [.cell a ag sz] e H K = pop (.load ag sz (.t a)) e H K := AE9 rfl
theorem BoE {K : TV → Prop} : res [] e H K = K (.tup []) := by rw [BbN]; simp
end

def VCP (P : Program) (f : FuncId) (xs : List TV) (H : List Ob) (K : TV → List Ob → Prop) (KP : Value → List Ob → Prop) [Tg K] [Tg KP] : Prop := A0y P f xs H K KP
@[congr] theorem Bli {P : Program} {f : FuncId} {xs xs' : List TV} {H H' : List Ob} {K : TV → List Ob → Prop} {KP : Value → List Ob → Prop} (he : xs = xs') (hH : H = H') : VCP P f xs H K KP = VCP P f xs' H' K KP := by rw [he, hH]
def Bjm (x : TV) (K : Value → Prop) [Tg K] : Prop := match x with
 | .val (.iface t v) => K (.iface t v)
 | .ifc t (.val v) => K (.iface t v)
 | _ => False
@[congr] theorem Bpj {x x' : TV} {K : Value → Prop} (h : x = x') : Bjm x K = Bjm x' K := by rw [h]
theorem BdO {t : TypeId} {v : Value} {K : Value → Prop} : Bjm (.ifc t (.val v)) K = K (.iface t v) := AE9 rfl
theorem Bir {t : TypeId} {v : Value} {K : Value → Prop} : Bjm (.val (.iface t v)) K = K (.iface t v) := AE9 rfl
section
variable {P : Program} {e : Env} {H : List Ob} {r : List VO} {K : Env → List Ob → Prop} {PP : Value → List Ob → Prop} {Q : VEx → Env → List Ob → Prop}
@[congr] theorem Bh1 {l : List VO} {e' : Env} {H' : List Ob} (he : e = e') (hH : H = H') : AWl P PP l K e H = AWl P PP l K e' H' := by rw [he, hH]
@[congr] theorem Bh3 {o : VOp} {e' : Env} {H' : List Ob} {KK : TV → List Ob → Prop} (he : e = e') (hH : H = H') : pvop P PP o e H KK = pvop P PP o e' H' KK := by rw [he, hH]
theorem Bj4 {l : List VO} {kp : List Nat} : vwp P (.pops l kp) Q e H = AWl P (fun u H => Q (.pan u) (A7m l e) H) l (fun e H => AGc (forget kp e) fun e => Q .nor e H) e H := AE9 rfl
theorem BiA {n : Nat} {l : List VO} {kp : List Nat} : vwp P (.pdraw n l kp) Q e H = (vq P (l.take n) (fun e => AWl P (fun u H => Q (.pan u) [] H) (l.drop n) (fun e H => AGc (forget kp e) fun e => Q .nor e H) e H) e H) := AE9 rfl
theorem BjR : AWl P PP [] K e H = K e H := AE9 rfl
theorem BpW {d : Nat} {o : VOp} : AWl P PP (⟨some d, o, none⟩ :: r) K e H = pvop P PP o e H (fun x H => AWl P PP r K ((d, x) :: e) H) := AE9 rfl
theorem Bnp {o : VOp} : AWl P PP (⟨none, o, none⟩ :: r) K e H = pvop P PP o e H (fun x H => AWl P PP r K e H) := AE9 rfl
theorem Bp6 {d s : Nat} {o : VOp} {b : Bool} : AWl P PP (⟨some d, o, some (s, b)⟩ :: r) K e H = A29 e s fun e q => Gd q b (pvop P PP o e H (fun x H => AWl P PP r K ((d, x) :: e) H)) (AWl P PP r K ((d, .val undef) :: e) H) := by
 show AQF (pvop P PP) _ K e H = _
 rw [AQF]
 refine congrArg (A29 e s) ?_; funext e q; cases q <;> rfl
theorem BjC {o : POp} {KK : TV → List Ob → Prop} : pvop P PP (.p o) e H KK = pop o e H fun x => KK x H := AE9 rfl
theorem BcC {f : FuncId} {args : List Opd} {KK : TV → List Ob → Prop} : pvop P PP (.s (.call f args)) e H KK = AGc (evs e args) fun xs => AH9 (AV8 xs) (VCP P f xs H KK PP) := by
 show ((∀ x ∈ args, AGZ (x.ev e) = false) ∧ _) = _
 rw [ATo]; rfl
theorem BfT {x : Opd} {KK : TV → List Ob → Prop} : pvop P PP (.s (.pan x)) e H KK = Bjm (x.ev e) (fun u => PP u H) := by
 show (match x.ev e with | .val (.iface t v) => PP (.iface t v) H | .ifc t (.val v) => PP (.iface t v) H | _ => False) = _
 unfold Bjm
 split <;> simp_all
theorem A9A {z : TV} {KK : TV → List Ob → Prop} : pvop P PP (.s (.alloc z)) e H KK = sop P (.alloc z) e H KK := AE9 rfl
theorem BdP {x : Opd} {KK : TV → List Ob → Prop} : pvop P PP (.s (.box x)) e H KK = sop P (.box x) e H KK := AE9 rfl
theorem A65 {k n : Nat} {z : TV} {ps : List (Nat × Opd)} {KK : TV → List Ob → Prop} : pvop P PP (.s (.bslice k n z ps)) e H KK = sop P (.bslice k n z ps) e H KK := AE9 rfl
theorem A9i {sz : Nat} {x v : Opd} {KK : TV → List Ob → Prop} : pvop P PP (.s (.store sz x v)) e H KK = sop P (.store sz x v) e H KK := AE9 rfl
theorem BfH {k bytes : Nat} {z : TV} {l c : Opd} {KK : TV → List Ob → Prop} : pvop P PP (.s (.mks k bytes z l c)) e H KK = sop P (.mks k bytes z l c) e H KK := AE9 rfl
theorem BfE {k bytes : Nat} {et : TypeId} {x y : Opd} {KK : TV → List Ob → Prop} : pvop P PP (.s (.app k bytes et x y)) e H KK = sop P (.app k bytes et x y) e H KK := AE9 rfl
theorem Bb3 {et : TypeId} {x y : Opd} {KK : TV → List Ob → Prop} : pvop P PP (.s (.appS et x y)) e H KK = sop P (.appS et x y) e H KK := AE9 rfl
theorem BbP {k n : Nat} {z : TV} {x y : Opd} {KK : TV → List Ob → Prop} : pvop P PP (.s (.appZ k n z x y)) e H KK = sop P (.appZ k n z x y) e H KK := AE9 rfl
theorem BdT {x : Opd} {n : Bool} {KK : TV → List Ob → Prop} : pvop P PP (.s (.eqS x n)) e H KK = sop P (.eqS x n) e H KK := AE9 rfl
theorem BdZ {x : Opd} {KK : TV → List Ob → Prop} : pvop P PP (.s (.s2b x)) e H KK = sop P (.s2b x) e H KK := AE9 rfl
theorem BcH {k : Nat} {x y : Opd} {KK : TV → List Ob → Prop} : pvop P PP (.s (.copy k x y)) e H KK = sop P (.copy k x y) e H KK := AE9 rfl
theorem A9X {x y : Opd} {KK : TV → List Ob → Prop} : pvop P PP (.s (.copyS x y)) e H KK = sop P (.copyS x y) e H KK := AE9 rfl
theorem A9H {x : Opd} {args : List Opd} {KK : TV → List Ob → Prop} : pvop P PP (.s (.callv x args)) e H KK = sop P (.callv x args) e H KK := AE9 rfl
theorem BdJ {x : Opd} {nm : String} {args : List Opd} {KK : TV → List Ob → Prop} : pvop P PP (.s (.inv x nm args)) e H KK = sop P (.inv x nm args) e H KK := AE9 rfl
theorem BeX {kk : MK} {h : Option Opd} {KK : TV → List Ob → Prop} : pvop P PP (.s (.mkm kk h)) e H KK = sop P (.mkm kk h) e H KK := AE9 rfl
theorem Bas {kk : MK} {m k x : Opd} {KK : TV → List Ob → Prop} : pvop P PP (.s (.mupd kk m k x)) e H KK = sop P (.mupd kk m k x) e H KK := AE9 rfl
theorem Bay {kk : MK} {z : TV} {m k : Opd} {KK : TV → List Ob → Prop} : pvop P PP (.s (.ment kk z m k)) e H KK = sop P (.ment kk z m k) e H KK := AE9 rfl
theorem Bbl {m st x : Opd} {KK : TV → List Ob → Prop} : pvop P PP (.s (.mest m st x)) e H KK = sop P (.mest m st x) e H KK := AE9 rfl
theorem A7s {z : TV} {t : TypeId} {KK : TV → List Ob → Prop} : pvop P PP (.s (.allocT z t)) e H KK = sop P (.allocT z t) e H KK := AE9 rfl
theorem Bbi {x : Opd} {t : TypeId} {KK : TV → List Ob → Prop} : pvop P PP (.s (.boxT x t)) e H KK = sop P (.boxT x t) e H KK := AE9 rfl
theorem Bav {x : Opd} {KK : TV → List Ob → Prop} : pvop P PP (.s (.rngS x)) e H KK = sop P (.rngS x) e H KK := AE9 rfl
theorem Bcq {x : Opd} {KK : TV → List Ob → Prop} : pvop P PP (.s (.nxtS x)) e H KK = sop P (.nxtS x) e H KK := AE9 rfl
theorem Bbu {x : Opd} {KK : TV → List Ob → Prop} : pvop P PP (.s (.rngM x)) e H KK = sop P (.rngM x) e H KK := AE9 rfl
theorem Bch {x : Opd} {KK : TV → List Ob → Prop} : pvop P PP (.s (.nxtM x)) e H KK = sop P (.nxtM x) e H KK := AE9 rfl
theorem BcR {kk : MK} {m k : Opd} {KK : TV → List Ob → Prop} : pvop P PP (.s (.delM kk m k)) e H KK = sop P (.delM kk m k) e H KK := AE9 rfl
theorem Bdf {x : Opd} {KK : TV → List Ob → Prop} : pvop P PP (.s (.cvS x)) e H KK = sop P (.cvS x) e H KK := AE9 rfl
theorem Bb4 {k : Nat} {z : TV} {x : Opd} {KK : TV → List Ob → Prop} : pvop P PP (.s (.clrS k z x)) e H KK = sop P (.clrS k z x) e H KK := AE9 rfl
theorem BcS {f : FuncId} {x : Opd} {KK : TV → List Ob → Prop} : pvop P PP (.s (.bstr f x)) e H KK = sop P (.bstr f x) e H KK := AE9 rfl
theorem Bh0 {b : AFb} {u : Value} : Thn P b Q (.pan u) e H = Q (.pan u) e H := AE9 rfl
theorem BiL {id : Nat} {u : Value} : Blk id Q (.pan u) e H = Q (.pan u) e H := AE9 rfl
theorem BhX {n0 : Nat} {lv : List Nat} {I : Nat → Env → List Ob → Prop} {n : Nat} {u : Value} : Rnd n0 lv Q I n (.pan u) e H = Q (.pan u) e H := AE9 rfl
theorem A9M {vr : List VR} {R : TV → List Ob → Prop} {RP : Value → List Ob → Prop} : BaH vr R RP .ret e H = res vr e H fun x => R x H := AE9 rfl
theorem A83 {vr : List VR} {R : TV → List Ob → Prop} {RP : Value → List Ob → Prop} : BaH vr R RP .nor e H = res vr e H fun x => R x H := AE9 rfl
theorem A9k {vr : List VR} {R : TV → List Ob → Prop} {RP : Value → List Ob → Prop} {u : Value} : BaH vr R RP (.pan u) e H = RP u H := AE9 rfl
def A6V (P : Program) (PP : Value → List Ob → Prop) (Ss : SsT) (l : List VO) (K : Env → List Ob → Prop) (e : Env) (H : List Ob) : Prop := AQF (pvopS P PP Ss) l K e H
@[congr] theorem BgM {Ss : SsT} {l : List VO} {e' : Env} {H' : List Ob} (he : e = e') (hH : H = H') : A6V P PP Ss l K e H = A6V P PP Ss l K e' H' := by rw [he, hH]
@[congr] theorem BgA {Ss : SsT} {o : VOp} {e' : Env} {H' : List Ob} {KK : TV → List Ob → Prop} (he : e = e') (hH : H = H') : pvopS P PP Ss o e H KK = pvopS P PP Ss o e' H' KK := by rw [he, hH]
theorem BgW {n : Nat} {l : List VO} {kp : List Nat} : vwp P (.sdraw n l kp) Q e H = (vq P (l.take (nOf n)) (fun e => A6V P (fun u H => Q (.pan u) [] H) (ssN n l) (l.drop (nOf n)) (fun e H => AGc (forget kp e) fun e => Q .nor e H) e H) e H) := AE9 rfl
section
variable {Ss : SsT}
theorem Bkn : A6V P PP Ss [] K e H = K e H := AE9 rfl
theorem BpJ {d : Nat} {o : VOp} : A6V P PP Ss (⟨some d, o, none⟩ :: r) K e H = pvopS P PP Ss o e H (fun x H => A6V P PP Ss r K ((d, x) :: e) H) := AE9 rfl
theorem Boq {o : VOp} : A6V P PP Ss (⟨none, o, none⟩ :: r) K e H = pvopS P PP Ss o e H (fun x H => A6V P PP Ss r K e H) := AE9 rfl
theorem Bkd {o : POp} {KK : TV → List Ob → Prop} : pvopS P PP Ss (.p o) e H KK = pop o e H fun x => KK x H := AE9 rfl
theorem BcV {f : FuncId} {args : List Opd} {KK : TV → List Ob → Prop} : pvopS P PP Ss (.s (.call f args)) e H KK = AGc (evs e args) fun xs => AH9 (AV8 xs) (VCP P f xs H (fun x H' => KK x H' ∧ AT7 Ss.l e H H') PP) := by
 show ((∀ x ∈ args, AGZ (x.ev e) = false) ∧ _) = _
 rw [ATo]; rfl
theorem A9L {sz : Nat} {x v : Opd} {KK : TV → List Ob → Prop} : pvopS P PP Ss (.s (.store sz x v)) e H KK = sop P (.store sz x v) e H fun x H' => KK x H' ∧ AT7 Ss.st e H H' := AE9 rfl
theorem A9g {z : TV} {KK : TV → List Ob → Prop} : pvopS P PP Ss (.s (.alloc z)) e H KK = sop P (.alloc z) e H KK := AE9 rfl
theorem BeD {k bytes : Nat} {z : TV} {l c : Opd} {KK : TV → List Ob → Prop} : pvopS P PP Ss (.s (.mks k bytes z l c)) e H KK = sop P (.mks k bytes z l c) e H KK := AE9 rfl
theorem Bfk {k bytes : Nat} {et : TypeId} {x y : Opd} {KK : TV → List Ob → Prop} : pvopS P PP Ss (.s (.app k bytes et x y)) e H KK = vif Ss.ap (sop P (.app k bytes et x y) e H fun x H' => KK x H' ∧ AT7 Ss.l e H H') (sop P (.app k bytes et x y) e H KK) := by
 show sop P (.app k bytes et x y) e H (fun x H' => KK x H' ∧ (Ss.ap = true → AT7 Ss.l e H H')) = _
 unfold vif
 split
 ·rename_i h
  congr 1; funext x H'; simp [h]
 ·rename_i h
  congr 1; funext x H'; simp [h]
theorem Bj6 {n : Nat} : nOf n = n % 10000 := AE9 rfl
theorem BjK {n : Nat} {l : List VO} : (ssN n l).ap = decide (10000 ≤ n) := AE9 rfl
theorem A7n {k n : Nat} {z : TV} {ps : List (Nat × Opd)} {KK : TV → List Ob → Prop} : pvopS P PP Ss (.s (.bslice k n z ps)) e H KK = sop P (.bslice k n z ps) e H KK := AE9 rfl
end
theorem AZC {e : Env} {H H' : List Ob} : AT7 [] e H H' := AT7.nil
theorem AQo {s : Nat} {Ss : List Nat} {e : Env} {H H' : List Ob} (h : (match get e s with | .op _ _ _ => false | .os _ _ _ _ _ _ _ => false | _ => true) = true) (h2 : AT7 Ss e H H') : AT7 (s :: Ss) e H H' := fun t ht id' hg => by
 rcases List.mem_cons.1 ht with rfl | ht
 ·revert hg h
  cases get e t <;> simp [BjH]
 ·exact h2 t ht id' hg
end
def AFe := (And.intro (And.intro (And.intro (And.intro (And.intro (And.intro (And.intro (And.intro @BmR @Bl5) (And.intro @Bnj @Bp2)) (And.intro (And.intro @Bl6 @Bo6) (And.intro @BoF @BjG))) (And.intro (And.intro (And.intro @Bc8 @Bhm) (And.intro @Bjx @BhO)) (And.intro (And.intro @Boc @BjN) (And.intro @BnR @BkI)))) (And.intro (And.intro (And.intro (And.intro @Bkv @Bny) (And.intro @BoR @BoS)) (And.intro (And.intro @BiP @Bnn) (And.intro @Bkf @Boy))) (And.intro (And.intro (And.intro @BoQ @BnA) (And.intro @BnK @Bnf)) (And.intro (And.intro @BgN @Bey) (And.intro @Bog @BiM))))) (And.intro (And.intro (And.intro (And.intro (And.intro @BeO @Bn2) (And.intro @Bkg @Blj)) (And.intro (And.intro @Bls @BkO) (And.intro @Bmk @BjF))) (And.intro (And.intro (And.intro @Bkh @BlR) (And.intro @BmU @Bde)) (And.intro (And.intro @Bhd @BmZ) (And.intro @Bof @BlB)))) (And.intro (And.intro (And.intro (And.intro @BjJ @Bip) (And.intro @BoN @BjS)) (And.intro (And.intro @BnJ @Bkb) (And.intro @BjA @Blq))) (And.intro (And.intro (And.intro @Bl0 @BjZ) (And.intro @Blm @Bi7)) (And.intro (And.intro @BnM @Bnx) (And.intro @Bk9 @BnU)))))) (And.intro (And.intro (And.intro (And.intro (And.intro (And.intro @Bka @Bmc) (And.intro @Bnk @Bhq)) (And.intro (And.intro @Bju @BjY) (And.intro @BmP @Bh6))) (And.intro (And.intro (And.intro @BmW @Bl7) (And.intro @Bgl @Bfi)) (And.intro (And.intro @BjT @Blr) (And.intro @Bhc @o_g)))) (And.intro (And.intro (And.intro (And.intro @BjE @BoL) (And.intro @BnB @Bk3)) (And.intro (And.intro @Bp3 @u_c) (And.intro @u_g @BgY))) (And.intro (And.intro (And.intro @Bp7 @A6s) (And.intro @A5y @BmS)) (And.intro (And.intro @Bkx @BoE) (And.intro @BkY @A8B))))) (And.intro (And.intro (And.intro (And.intro (And.intro @Bly @A6r) (And.intro @BeS @BiH)) (And.intro (And.intro @BeV @BiJ) (And.intro @Biw @Bez))) (And.intro (And.intro (And.intro @A7y @BgT) (And.intro @BcY @BhM)) (And.intro (And.intro @Bj4 @BiA) (And.intro @BgW @Bkn)))) (And.intro (And.intro (And.intro (And.intro @BpJ @Boq) (And.intro @Bkd @BcV)) (And.intro (And.intro @A9L @A9g) (And.intro @BeD @Bfk))) (And.intro (And.intro (And.intro @A7n @BjR) (And.intro @BpW @Bnp)) (And.intro (And.intro @Bp6 @BjC) (And.intro @BcC @BfT))))))) (And.intro (And.intro (And.intro (And.intro (And.intro (And.intro @A9A @BdP) (And.intro @A65 @A9i)) (And.intro (And.intro @BfH @BfE) (And.intro @Bb3 @BdZ))) (And.intro (And.intro (And.intro @BbP @BdT) (And.intro @BcH @A9X)) (And.intro (And.intro @A9H @BdJ) (And.intro @BeX @Bas)))) (And.intro (And.intro (And.intro (And.intro @Bay @Bbl) (And.intro @A7s @Bbi)) (And.intro (And.intro @Bav @Bcq) (And.intro @Bbu @Bch))) (And.intro (And.intro (And.intro @BcR @Bb4) (And.intro @Bdf @BcS)) (And.intro (And.intro @Bh0 @BiL) (And.intro @BhX @A9M))))) (And.intro @A83 @A9k)))
def AFa := (And.intro (And.intro (And.intro (And.intro (And.intro (And.intro (And.intro (And.intro @Bj6 @BjK) (And.intro @Bir @BdO)) (And.intro (And.intro @Bdt @Bad) (And.intro @Biu @Bh4))) (And.intro (And.intro (And.intro @Blv @Bku) (And.intro @Bmn @BaY)) (And.intro (And.intro @BdC @BhJ) (And.intro @Bfn @BkQ)))) (And.intro (And.intro (And.intro (And.intro @BbG @Bh2) (And.intro @BdI @BjP)) (And.intro (And.intro @Bhz @Bk1) (And.intro @BlK @BbE))) (And.intro (And.intro (And.intro @Biy @Bfd) (And.intro @BgS @Bds)) (And.intro (And.intro @Bht @Bjv) (And.intro @BdS @Bhb))))) (And.intro (And.intro (And.intro (And.intro (And.intro @Bik @BfZ) (And.intro @Bdu @A96)) (And.intro (And.intro @A9Q @Baq) (And.intro @BfQ @Bft))) (And.intro (And.intro (And.intro @BbS @BcE) (And.intro @Bjf @Bfu)) (And.intro (And.intro @BgR @Bd1) (And.intro @Bd7 @BdE)))) (And.intro (And.intro (And.intro (And.intro @BbF @BhZ) (And.intro @Bje @Bi9)) (And.intro (And.intro @BiK @Bia) (And.intro @Bi8 @Bil))) (And.intro (And.intro (And.intro @Bd0 @BhG) (And.intro @BfG @BgU)) (And.intro (And.intro @BcJ @Bhe) (And.intro @BfW @Bdz)))))) (And.intro (And.intro (And.intro (And.intro (And.intro (And.intro @BeA @Bcw) (And.intro @A9m @BiT)) (And.intro (And.intro @BgZ @Blh) (And.intro @BjL @Blu))) (And.intro (And.intro (And.intro @BkU @Bd2) (And.intro @Bf3 @Bep)) (And.intro (And.intro @Be4 @Bkz) (And.intro @BlD @Bky)))) (And.intro (And.intro (And.intro (And.intro @Ba5 @A9D) (And.intro @Bbe @Beg)) (And.intro (And.intro @Bge @Bcj) (And.intro @Bfy @Bdx))) (And.intro (And.intro (And.intro @Beb @Bii) (And.intro @BhK @BfB)) (And.intro (And.intro @BbY @Bga) (And.intro @BhD @Bf1))))) (And.intro (And.intro (And.intro (And.intro (And.intro @Bhy @Bg2) (And.intro @Bhx @BfM)) (And.intro (And.intro @Bc4 @Bdr) (And.intro @Bgf @Bgc))) (And.intro (And.intro (And.intro @Bfe @BcX) (And.intro @Bgb @Bhj)) (And.intro (And.intro @BkX @BaE) (And.intro @Bla @BlX)))) (And.intro (And.intro (And.intro (And.intro @BiR @Bhi) (And.intro @BiV @BdH)) (And.intro (And.intro @Bd4 @Beq) (And.intro @Option.getD_none.{0} @Option.getD_some.{0}))) (And.intro (And.intro (And.intro @Ba1 @BhE) (And.intro @Bdj @Bdw)) (And.intro (And.intro @BdW @A8U) (And.intro @BaW @Bdd))))))) (And.intro (And.intro (And.intro (And.intro (And.intro (And.intro @Be7 @BiE) (And.intro @Bfo @BhU)) (And.intro (And.intro @Be6 @Bb1) (And.intro @Biv @BfA))) (And.intro (And.intro (And.intro @Bgj @Bgh) (And.intro @BdB @Bf5)) (And.intro (And.intro @BeW @BeG) (And.intro @Bio @Bcd)))) (And.intro (And.intro (And.intro (And.intro @Bh8 @BlJ) (And.intro @Ble @A9c)) (And.intro (And.intro @Bcb @Bni) (And.intro @BoM @BpL))) (And.intro (And.intro (And.intro @Bfl @BiB) (And.intro @Biz @BpX)) (And.intro (And.intro @BpV @BpO) (And.intro @Beo @Bih))))) (And.intro (And.intro (And.intro @BfI @Bdk) (And.intro @Bg7 @BeK)) (And.intro @Bb0 @A86))))
def AFc := (And.intro (And.intro (And.intro (And.intro (And.intro (And.intro (And.intro (And.intro @Bea @BeL) (And.intro @Bis @Bi6)) (And.intro (And.intro @BhS @Bh9) (And.intro @BfX @Bet))) (And.intro (And.intro (And.intro @Bf6 @Bdv) (And.intro @Bie @Bg4)) (And.intro (And.intro @BiZ @Bbb) (And.intro @BbD @Bfg)))) (And.intro (And.intro (And.intro (And.intro @Bee @Bd6) (And.intro @BdK @Bca)) (And.intro (And.intro @BcG @Ba3) (And.intro @Ba7 @BdX))) (And.intro (And.intro (And.intro @BfU @Bdy) (And.intro @BeP @Bhw)) (And.intro (And.intro @Bh7 @Bho) (And.intro @Bix @BfR))))) (And.intro (And.intro (And.intro (And.intro (And.intro @BfC @BdF) (And.intro @Bfa @Bg1)) (And.intro (And.intro @BgP @Bit) (And.intro @BcB @BcW))) (And.intro (And.intro (And.intro @BeR @BeZ) (And.intro @Bf9 @BdD)) (And.intro (And.intro @BcF @Bc2) (And.intro @Bd5 @BcD)))) (And.intro (And.intro (And.intro (And.intro @Bce @Ber) (And.intro @BeQ @BeY)) (And.intro (And.intro @Bf7 @BaF) (And.intro @Bbs @Bc3))) (And.intro (And.intro (And.intro @BeF @Bdg) (And.intro @Bcy @Bb5)) (And.intro (And.intro @A9f @A7R) (And.intro @BbL @Bat)))))) (And.intro (And.intro (And.intro (And.intro (And.intro (And.intro @Bbg @Bap) (And.intro @A9N @BeT)) (And.intro (And.intro @Bbt @A7A) (And.intro @A5A @A9V))) (And.intro (And.intro (And.intro @Bdb @BbC) (And.intro @A5M @A4S)) (And.intro (And.intro @Bp8 @BpM) (And.intro @Bp4 @ASM)))) (And.intro (And.intro (And.intro (And.intro @AKo @A4E) (And.intro @AJi @AJR)) (And.intro (And.intro @A8E @A9v) (And.intro @A7B @Bbx))) (And.intro (And.intro (And.intro @A9U @Bdi) (And.intro @A9n @A7h)) (And.intro (And.intro @A92 @A7t) (And.intro @Baw @A9C))))) (And.intro (And.intro (And.intro (And.intro (And.intro @A7E @A6t) (And.intro @A4X @A3q)) (And.intro (And.intro @BgL @BdA) (And.intro @BbN @BcZ))) (And.intro (And.intro (And.intro @A8B @Bgi) (And.intro @A6r @A6s)) (And.intro (And.intro @A5y @Beu) (And.intro @Bfm @Bid)))) (And.intro (And.intro (And.intro (And.intro @Bhl @BfO) (And.intro @BhW @BiD)) (And.intro (And.intro @BfN @Bec) (And.intro @BdY @BcQ))) (And.intro (And.intro (And.intro @A9P @Bjb) (And.intro @BgO @BkF)) (And.intro (And.intro @Bja @BiW) (And.intro @Bif @BgK))))))) (And.intro (And.intro (And.intro @Bc5 @BaA) (And.intro @BaO @BdV)) (And.intro (And.intro @BnC @BjQ) @BkM)))
theorem A91 {α β : Type} {f : α → β} {l : List α} {i : Nat} : (l.map f).drop i = (l.drop i).map f := List.map_drop.symm
theorem A9I {α β : Type} {f : α → β} {l : List α} {i : Nat} : (l.map f).take i = (l.take i).map f := List.map_take.symm
theorem Bkm {b : UInt8} : IntKind.i64.wrap (b.toNat : Int) = b.toNat := AGD (by omega) (by have := b.toNat_lt; omega)
theorem Bgp {n : Nat} : IntKind.u8.wrap (n : Int) = ((UInt8.ofNat n).toNat : Int) := by
 rw [IntKind.wrap_u8, UInt8.toNat_ofNat']; omega
theorem Bj8 {α : Type} {n i : Nat} {a : α} (h : i < n) : (List.replicate n a)[i]? = some a := by simp [h]
section
variable {a b c : Nat}
theorem BdU : (a : Int) * (b : Int) = ((a * b : Nat) : Int) := AE9 rfl
theorem Bda (h : b ≤ a) : (a : Int) - (b : Int) = ((a - b : Nat) : Int) := by omega
theorem BfL : (a : Int) / (b : Int) = ((a / b : Nat) : Int) := AE9 rfl
theorem Beh : (a : Int) % (b : Int) = ((a % b : Nat) : Int) := AE9 rfl
variable {t : TypeId} {k2 : IntKind}
theorem Bks (h1 : b ≤ 63) (h2 : a * 2 ^ b ≤ 9223372036854775807) : AHA t .shl (.int .i64 (a : Int)) (.int k2 (b : Int)) = some (.int .i64 ((a * 2 ^ b : Nat) : Int)) := by
 have e : (a : Int) * 2 ^ ((b : Int).toNat) = ((a * 2 ^ b : Nat) : Int) := by rw [Int.toNat_natCast, Int.natCast_mul, Int.natCast_pow]; rfl
 rw [BnG (by omega) (by omega) (by rw [e]; omega) (by rw [e]; omega), e]
theorem BjI (h1 : b ≤ 63) : AHA t .shr (.int .i64 (a : Int)) (.int k2 (b : Int)) = some (.int .i64 ((a / 2 ^ b : Nat) : Int)) := by
 have e : (a : Int) / 2 ^ ((b : Int).toNat) = ((a / 2 ^ b : Nat) : Int) := by rw [Int.toNat_natCast, Int.natCast_ediv, Int.natCast_pow]; rfl
 rw [BoZ (by omega) (by omega) (by omega), e]
variable {k : IntKind}
theorem Bjw (h : b ≠ 0) : AHA t .rem (.int k (a : Int)) (.int k (b : Int)) = some (.int k ((a % b : Nat) : Int)) := by rw [Bod (by omega) (by omega), Int.natCast_emod]
theorem Ba4 (h : b ≠ 0) (h2 : a ≤ 9223372036854775807) : AHA t .quo (.int .i64 (a : Int)) (.int .i64 (b : Int)) = some (.int .i64 ((a / b : Nat) : Int)) := by rw [Bos (by omega) (by omega) (by omega), Int.natCast_ediv]
end
theorem AFk.toPureV {P : Program} {f : FuncId} {args : List TV} {R : TV → Prop} (h : AFk P f args [] fun x H' => AGg (frz H' x) R) : AFE P f args R :=
 AFk.toPure (h.mono fun x H' hx => by
  cases hf : frz H' x with
  | none => rw [hf] at hx; exact hx
  | some y => rw [hf] at hx; exact hx)
abbrev mv_ (d s : Nat) : VO := ⟨some d, .p (.mov (.t s)), none⟩
abbrev po_ (d : Nat) (p : POp) : VO := ⟨some d, .p p, none⟩
abbrev so_ (d : Nat) (q : SOp) : VO := ⟨some d, .s q, none⟩
abbrev ci_ (n : Nat) : Opd := .c (.int .i64 (n : Int))
theorem AGG {P : Program} {f : FuncId} {fn : Func} {vc : AFb} {vr : List VR} (n : Nat) (hf : P.funcs[f]? = some fn) (ht : fn.body.bind (trC P fn.ntmps) = some (er vc)) (hr : trR P fn.results.toList = some vr) (hn : fn.ntmps = n) :
  ∀ ⦃args : List TV⦄ ⦃H : List Ob⦄ ⦃R : TV → List Ob → Prop⦄, args.length ≤ n → vwp P vc (A50 vr R) (A4n 0 args) H → AFk P f args H R := fun _ _ _ h1 h2 => Baa hf ht hr (hn ▸ h1) h2
theorem AE7 {c c' : AFb} (h : c = c') : ∀ (P : Program) (Q : VEx → Env → List Ob → Prop) (e : Env) (H : List Ob), vwp P c Q e H = vwp P c' Q e H := fun _ _ _ _ => by rw [h]
theorem AE8 {α : Type} : (∀ {l : List α} {i : Nat} {a : α}, (l.set i a).length = l.length) ∧ (∀ {l m : List α}, (l ++ m).length = l.length + m.length) ∧ (∀ {a : α} {l : List α}, (a :: l).length = l.length + 1) ∧ ([] : List α).length = 0 := ⟨List.length_set, List.length_append, List.length_cons, List.length_nil⟩
theorem AFk.toFreshV {P : Program} {f : FuncId} {args : List TV} {R : TV → Prop} (h : AFk P f args [] fun x H' => AGg (frs H' x) R) : AUt P f args R :=
 AFk.toFresh (h.mono fun x H' hx => by
  cases hf : frs H' x with
  | none => rw [hf] at hx; exact hx
  | some y => rw [hf] at hx; exact hx)
theorem Bc9 {α : Type} {l : List α} {n : Nat} (h : l.length ≤ n) : l.take n = l := List.take_of_length_le h
theorem BmQ {α : Type} {c : Prop} [Decidable c] {a b : α} (h : c) : (if c then a else b) = a := if_pos h
theorem Bnh {α : Type} {c : Prop} [Decidable c] {a b : α} (h : ¬ c) : (if c then a else b) = b := if_neg h
theorem A7p {α : Type} {l : List α} {n : Nat} (h : n ≤ l.length) : (l.take n).length = n := by simp [h]
theorem A4N {α : Type} {l : List α} {i : Nat} : (l.drop i).take (l.length - i) = l.drop i := List.take_of_length_le (by simp)
theorem Be3 {a b : Nat} : a + b - a = b := Nat.add_sub_cancel_left a b
theorem Bfh {α : Type} {l m : List α} : (l ++ m).take l.length = l := List.take_left
theorem BdR {α : Type} {l m : List α} : (l ++ m).drop l.length = m := List.drop_left
theorem BfD {a b : Nat} : a + b - b = a := Nat.add_sub_cancel a b
def AFd := (And.intro (And.intro (And.intro (And.intro (And.intro (And.intro (And.intro @Bfh @BdR) (And.intro @Be3 @A4N)) (And.intro (And.intro @A7p @List.length_drop.{0}) (And.intro @BmQ @Bnh))) (And.intro (And.intro (And.intro @Bc9 @BfD) (And.intro @Nat.zero_le @BkZ)) (And.intro (And.intro @List.nil_append.{0} @List.length_nil.{0}) (And.intro @List.length_cons.{0} @List.cons_append.{0})))) (And.intro (And.intro (And.intro (And.intro @List.getElem?_cons_zero.{0} @List.getElem?_cons_succ.{0}) (And.intro @List.set_cons_zero.{0} @List.set_cons_succ.{0})) (And.intro (And.intro @List.map_cons.{0,0} @List.map_nil.{0,0}) (And.intro @Bf0 @Bc1))) (And.intro (And.intro (And.intro @true_and @and_true) (And.intro @List.take_zero.{0} @List.take_succ_cons.{0})) (And.intro (And.intro @List.drop_succ_cons.{0} @List.take_nil.{0}) (And.intro @List.drop_nil.{0} @Nat.zero_add))))) (And.intro (And.intro (And.intro (And.intro (And.intro @BmO @Bn9) (And.intro @Bn0 @Bns)) (And.intro (And.intro @BnY @Bm4) (And.intro @Bo2 @Bom))) (And.intro (And.intro (And.intro @Bm8 @Bo4) (And.intro @BpK @Bjw)) (And.intro (And.intro @Ba4 @Bgx) (And.intro @Bak @BcA)))) (And.intro (And.intro (And.intro (And.intro @BaM @Bbw) (And.intro @A9x @BbV)) (And.intro (And.intro @Bck @Bbq) (And.intro @BcU @BbB))) (And.intro (And.intro (And.intro @Bool.false_xor @Bool.true_xor) (And.intro @Bnt @Bm0)) (And.intro (And.intro @Bn3 @decide_true) (And.intro @decide_false @Bool.not_true)))))) (And.intro (And.intro (And.intro (And.intro (And.intro (And.intro @Bool.not_false @not_true_eq_false) (And.intro @not_false_eq_true @Bool.false_eq_true)) (And.intro (And.intro @Bool.true_eq_false @Option.bind_some.{0,0}) (And.intro @Option.map_some.{0,0} @Bool.and_self))) (And.intro (And.intro (And.intro @and_self @Nat.sub_zero) (And.intro @Nat.mul_one @List.length_map.{0,0})) (And.intro (And.intro @Int.toNat_natCast @List.getElem?_map.{0,0}) (And.intro @Int.natCast_nonneg @List.length_append.{0})))) (And.intro (And.intro (And.intro (And.intro @List.drop_zero.{0} @A91) (And.intro @A9I @Bej)) (And.intro (And.intro @Bdl @Bev) (And.intro @BhR @BiN))) (And.intro (And.intro (And.intro @BiO @BhQ) (And.intro @List.replicate_zero.{0} @List.take_length.{0})) (And.intro (And.intro @List.length_set.{0} @List.length_replicate.{0}) (And.intro @Bkm @AGD))))) (And.intro (And.intro (And.intro (And.intro @Bgp @List.set_set.{0}) (And.intro @List.getElem?_nil.{0} @Bj8)) (And.intro (And.intro @BdU @Bda) (And.intro @BfL @Beh))) (And.intro @Bks @BjI))))
end Go.Proofs.YtliaddbbmnfioaaGreatDoor

