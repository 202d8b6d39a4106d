/- What the proof of PackIndexesCard stands on (texts merged; names shortened by a program): part 4. -/
import Derived.Test.YtmlompedpahkjaaDoorQC
import Derived.RangeFuncIn
import Derived.RangeFuncRecord
import Derived.RangeFuncLeaves
import Derived.Sort.LoopGhostIn
namespace Go.Proofs.YtmlompedpahkjaaDoor
open Go.RowKit
variable [BA]
set_option linter.unusedSectionVars false
set_option linter.unusedSimpArgs false
set_option linter.unusedVariables false
set_option autoImplicit false

inductive Af where
 | ops (l : List VO) (keep : List Nat)
 /-- the order is open; the first nA change no object, and the others wait for all -/
 | draw (nA : Nat) (l : List VO) (keep : List Nat)
 | skip
 /-- operations; behind the first of them rows in some slots are given away -/
 | opsZ (l : List VO) (zs : List Nat) (r : List VO) (keep : List Nat)
 /-- operations of which one may end in a panic -/
 | pops (l : List VO) (keep : List Nat)
 | pdraw (n : Nat) (l : List VO) (keep : List Nat)
 /-- the same; what is looked at while a call goes on is left aS it is by that call -/
 | sdraw (n : Nat) (l : List VO) (keep : List Nat)
 | seq (a b : Af)
 | cond (c : Opd) (a b : Af)
 | block (id : Nat) (c : Af)
 | loop (live : List Nat) (c : Af)
 | exit (id : Nat)
 | ret
 | scope (c : Af)
 /-- (nothing is done) a nil slice in a slot is looked at aS an object of one's own that has no cells yet -/
 | own (s k : Nat) (c : Af)
 /-- (nothing is done) the same of a nil slice within an object -/
 | ownB (s : Nat) (p : List (Nat × Nat)) (k : Nat) (c : Af)
 /-- (nothing is done) the same of a nil slice of one-cell elements within an object; what type its Bo will have is kept in mind -/
 | ownT (s : Nat) (p : List (Nat × Nat)) (t : TypeId) (c : Af)
 /-- (nothing is done) a row of one's own in a slot is given away: it stays aS it is from now on -/
 | frz (s : Nat) (c : Af)
 /-- a loop over a function: the parameters' slots; the assignments to the left sides; the body -/
 | rfunc (f : Opd) (ps : List Nat) (aS bd : Af)
 /-- what this machine does not know: nothing is said of it -/
 | dead
 deriving Inhabited

/-- Rows of one's own, in these slots, are given away. -/
def AlQ : List Nat → (Env → List Ob → Prop) → Env → List Ob → Prop
 | [], K, e, H => K e H
 | s :: zs, K, e, H => match get e s with
  | .os k id ver p off n _ => (match H[id]? with
   | some (.obj v x) => v = ver ∧ (match Dh p k off n x with
    | some cs => AlQ zs K ((s, .sl k cs) :: e) (H.set id (.gone ver))
    | none => False)
   | _ => False)
  | _ => False
/-- Without what was laid beside it. -/
def er : Af → Af
 | .ops l _ => .ops l []
 | .draw n l _ => .draw n l []
 | .opsZ l _ r _ => .ops (l ++ r) []
 | .pops l _ => .ops l []
 | .pdraw n l _ => .draw n l []
 | .sdraw n l _ => .sdraw n l []
 | .seq a b => .seq (er a) (er b)
 | .cond c a b => .cond c (er a) (er b)
 | .block id c => .block id (er c)
 | .loop _ c => .loop [] (er c)
 | .scope c => .scope (er c)
 | .own _ _ c => er c
 | .ownB _ _ _ c => er c
 | .ownT _ _ _ c => er c
 | .frz _ c => er c
 | .rfunc f ps aS bd => .rfunc f ps (er aS) (er bd)
 | .skip => .skip
 | .exit id => .exit id
 | .ret => .ret
 | .dead => .dead

/-- A panic of the text's own stands in it, or it writes. -/
def Uw : Code → Bool
 | .seq a b => Uw a || Uw b
 | .cond _ a b => Uw a || Uw b
 | .block _ c => Uw c
 | .loop c => Uw c
 | .scope c => Uw c
 | .region _ ops _ => ops.toList.any fun o => match o.op with | .panic _ => true | .store .. => true | _ => false
 | _ => false
/-- Functions that write through others. -/
def Ark : List String := ["(*gitlike/pack.reader).number", "(*gitlike/pack.reader).byte", "(*gitlike/pack.reader).head", "(*gitlike/pack.reader).distance", "(*gitlike/pack.reader).entry"]
/-- A call of a function that panics, or writes. -/
def Aez (P : Program) (v : VO) : Bool := match v.op with
 | .s (.call f _) => (match P.funcs[f]? with | some fn => fn.body.any Uw || Ark.contains fn.name | none => false)
 | .s (.store _ _ _) => true
 | _ => false
/-- Which operations are to be YD: none that panics, if what they look at may be looked at later on. -/
def XM (P : Program) (ops : List Oper) (l : List VO) (n : Nat) : Option Af := match (List.range (n + 1)).find? (RY [] ops l) with
 | some k => if (l.take k).any (Aez P) then (match (List.range (n + 1)).find? (RY (AkW l) ops l) with
   | some j => if (l.take j).any (Aez P) then (match (List.range (n + 1)).find? (Ea (AkW l) ops l) with
     | some j' => some (.sdraw j' l [])
     | none => some (.sdraw j l [])) else some (.sdraw j l [])
   | none => none) else some (.draw k l [])
 | none => none
theorem Yu {P : Program} {ops : List Oper} {l : List VO} {n : Nat} {c : Af} (h : XM P ops l n = some c) : ∃ k, (c = .draw k l [] ∧ Ea [] ops l k = true) ∨ (c = .sdraw k l [] ∧ Ea (AkW l) ops l k = true) := by
 unfold XM at h
 split at h
 ·rename_i k hk
  split at h
  ·split at h
   ·rename_i j hj
    split at h
    ·split at h
     ·rename_i j' hj'; cases h; exact ⟨j', .inr ⟨rfl, List.find?_some hj'⟩⟩
     ·cases h; exact ⟨j, .inr ⟨rfl, MO (List.find?_some hj)⟩⟩
    ·cases h; exact ⟨j, .inr ⟨rfl, MO (List.find?_some hj)⟩⟩
   ·cases h
  ·cases h; exact ⟨k, .inl ⟨rfl, MO (List.find?_some hk)⟩⟩
 ·cases h
def Yt (bz : Bool) (P : Program) (N : Nat) (ops : Array Oper) : Option Af := match trL bz P N ops.toList ops.toList with
 | some l => if P.follows .mixedOrders then (if l.any AnI || l.any (Aez P) then (match trL bz P N (Bh ops.toList (AoZ ops.toList l)) (Bh ops.toList (AoZ ops.toList l)) with
   | some l' => if SB (AoZ ops.toList l) ops.toList.length then XM P (Bh ops.toList (AoZ ops.toList l)) l' ops.size else none
   | none => none)
  else ((List.range (ops.size + 1)).find? (RY [] ops.toList l)).map fun n => .draw n l []) else none
 | none => none
theorem O1 {bz : Bool} {P : Program} {N : Nat} {ops : Array Oper} {c : Af} (h : Yt bz P N ops = some c) : (∃ n l, c = .draw n l [] ∧ P.follows .mixedOrders = true ∧
  ((trL bz P N ops.toList ops.toList = some l ∧ Ea [] ops.toList l n = true) ∨ ∃ π, SB π ops.toList.length = true ∧ trL bz P N (Bh ops.toList π) (Bh ops.toList π) = some l ∧ Ea [] (Bh ops.toList π) l n = true)) ∨
  ∃ n l, c = .sdraw n l [] ∧ P.follows .mixedOrders = true ∧ ∃ π, SB π ops.toList.length = true ∧ trL bz P N (Bh ops.toList π) (Bh ops.toList π) = some l ∧ Ea (AkW l) (Bh ops.toList π) l n = true := by
 unfold Yt at h
 split at h
 ·rename_i l hl
  split at h
  ·rename_i hm
   split at h
   ·split at h
    ·rename_i l' hl'
     split at h
     ·rename_i hp
      obtain ⟨k, ⟨rfl, hk⟩ | ⟨rfl, hk⟩⟩ := Yu h
      ·exact .inl ⟨k, l', rfl, hm, .inr ⟨_, hp, hl', hk⟩⟩
      ·exact .inr ⟨k, l', rfl, hm, _, hp, hl', hk⟩
     ·cases h
    ·cases h
   ·obtain ⟨n, hn, rfl⟩ := Option.map_eq_some_iff.1 h
    exact .inl ⟨n, l, rfl, hm, .inl ⟨hl, MO (List.find?_some hn)⟩⟩
  ·cases h
 ·cases h
/-- A slice is made where all is to be YD: it cannot be shown so. -/
def Akk : Af → Bool
 | .draw n l _ | .sdraw n l _ => (l.take n).any fun v => match v.op with | .s (.bslice _ _ _ _) => true | _ => false
 | _ => false
def YL (P : Program) (N : Nat) (ops : Array Oper) : Option Af := match Yt false P N ops with
 | some c => if Akk c then (match Yt true P N ops with | some c' => some c' | none => some c) else some c
 | none => none
theorem MQ {P : Program} {N : Nat} {ops : Array Oper} {c : Af} (h : YL P N ops = some c) : ∃ bz : Bool, (∃ n l, c = .draw n l [] ∧ P.follows .mixedOrders = true ∧
  ((trL bz P N ops.toList ops.toList = some l ∧ Ea [] ops.toList l n = true) ∨ ∃ π, SB π ops.toList.length = true ∧ trL bz P N (Bh ops.toList π) (Bh ops.toList π) = some l ∧ Ea [] (Bh ops.toList π) l n = true)) ∨
  ∃ n l, c = .sdraw n l [] ∧ P.follows .mixedOrders = true ∧ ∃ π, SB π ops.toList.length = true ∧ trL bz P N (Bh ops.toList π) (Bh ops.toList π) = some l ∧ Ea (AkW l) (Bh ops.toList π) l n = true := by
 unfold YL at h
 split at h
 ·rename_i c1 h1
  split at h
  ·split at h
   ·rename_i c2 h2; cases h; exact ⟨true, O1 h2⟩
   ·cases h; exact ⟨false, O1 h1⟩
  ·cases h; exact ⟨false, O1 h1⟩
 ·cases h
theorem Ae3 {P : Program} {N : Nat} {ops : Array Oper} {c : Af} (h : YL P N ops = some c) (hc : ∀ n l, c ≠ .draw n l []) (hc2 : ∀ n l, c ≠ .sdraw n l []) : False := by
 obtain ⟨bz, ⟨n, l, e, _⟩ | ⟨n, l, e, _⟩⟩ := MQ h
 ·exact hc n l e
 ·exact hc2 n l e
def trC (P : Program) (N : Nat) : Code → Option Af
 | .skip => some .skip
 | .region _ ops false => some (match trL false P N ops.toList ops.toList with | some l => .ops l [] | none => .dead)
 | .region _ ops true => some (match YL P N ops with | some c => c | none => .dead)
 | .seq a b => match trC P N a, trC P N b with
  | some a, some b => some (.seq a b)
  | _, _ => none
 | .cond c a b => match trC P N a, trC P N b with
  | some a, some b => some (.cond (trO c) a b)
  | _, _ => none
 | .block id c => (trC P N c).map (.block id)
 | .loop c => (trC P N c).map (.loop [])
 | .exit id => some (.exit id)
 | .scope c => (trC P N c).map .scope
 | .label _ => some .skip
 | .ret => some .ret
 | .rangeFunc f ps aS bd => if ps.toList.all (· < N) then (match trC P N aS, trC P N bd with
  | some aS, some bd => some (.rfunc (trO f) ps.toList aS bd)
  | _, _ => none) else none
 | _ => some .dead
theorem AiJ {P : Program} {N id : Nat} {ops : Array Oper} {c : Af} (h : trC P N (.region id ops false) = some c) : (∃ l, trL false P N ops.toList ops.toList = some l ∧ c = .ops l []) ∨ c = .dead := by
 simp only [trC, Option.some.injEq] at h
 split at h
 ·rename_i l hl; exact .inl ⟨l, hl, h.symm⟩
 ·exact .inr h.symm
theorem AfH {P : Program} {N id : Nat} {ops : Array Oper} {c : Af} (h : trC P N (.region id ops true) = some c) : YL P N ops = some c ∨ c = .dead := by
 simp only [trC, Option.some.injEq] at h
 split at h
 ·rename_i l hl; exact .inl (hl.trans (by rw [h]))
 ·exact .inr h.symm
theorem Ef {P : Program} {N id : Nat} {ops : Array Oper} {c : Af} (h : trC P N (.region id ops false) = some c) (hc : ∀ l, c ≠ .ops l []) (hd : c ≠ .dead) : False := by
 rcases AiJ h with ⟨l, _, e⟩ | e
 ·exact hc l e
 ·exact hd e
theorem Ed {P : Program} {N id : Nat} {ops : Array Oper} {c : Af} (h : trC P N (.region id ops true) = some c) (hc : ∀ n l, c ≠ .draw n l []) (hc2 : ∀ n l, c ≠ .sdraw n l []) (hd : c ≠ .dead) : False := by
 rcases AfH h with e | e
 ·exact Ae3 e hc hc2
 ·exact hd e

/-- No loop over a function in it. -/
def Wn : Af → Bool
 | .seq a b => Wn a && Wn b
 | .cond _ a b => Wn a && Wn b
 | .block _ c => Wn c
 | .loop _ c => Wn c
 | .scope c => Wn c
 | .own _ _ c => Wn c
 | .ownB _ _ _ c => Wn c
 | .ownT _ _ _ c => Wn c
 | .frz _ c => Wn c
 | .rfunc _ _ _ _ => false
 | _ => true

inductive VEx where
 | nor
 | exit (id : Nat)
 | ret
 | pan (u : Value)

def VEx.ex : VEx → Exit
 | .nor => .normal
 | .exit id => .exit id
 | .ret => .ret
 | .pan u => .panic [{ v := u, recovered := false }]

mutual
/-- It refers to no object from g on. -/
def Hu (g : Nat) : TV → Bool
 | .op id _ _ => decide (id < g)
 | .os _ id _ _ _ _ _ => decide (id < g)
 | .mp id _ => decide (id < g)
 | .yl id _ => decide (id < g)
 | .agg cs => LQ g cs
 | .tup cs => LQ g cs
 | .ifc _ x => Hu g x
 | .fn _ a b => LQ g a && LQ g b
 | _ => true
def LQ (g : Nat) : List TV → Bool
 | [] => true
 | x :: xs => Hu g x && LQ g xs
end
def VD (g : Nat) : Env → Bool
 | [] => true
 | (_, x) :: e => Hu g x && VD g e
def Aby (g : Nat) : Ob → Bool
 | .obj _ x => Hu g x
 | .ice _ _ x => Hu g x
 | .fact id _ _ _ => decide (id < g)
 | .lp _ _ _ _ e _ _ _ => VD g e
 | .mpo _ es => LQ g (es.map (·.2))
 | .bld _ _ _ => true
 | .sit _ _ => true
 | .mpd _ zs _ => LQ g (zs.map (·.2.2))
 | .mit m _ _ => decide (m < g)
 | .gone _ => true
def Ws (g : Nat) : List Ob → Bool
 | [] => true
 | o :: H => Aby g o && Ws g H
/-- How a loop over a function is left. -/
def Abq (Q : VEx → Env → List Ob → Prop) (e : Env) (L : Nat) : TV → List Ob → Prop := fun _ H' => match H'[L]? with
 | some (.lp .ready none fn N e1 ps ca cb) => Q .nor e (H'.set L (.lp .exhausted none fn N e1 ps ca cb))
 | some (.lp .done (some .ret) fn N e1 ps ca cb) => Q .ret e (H'.set L (.lp .exhausted (some .ret) fn N e1 ps ca cb))
 | some (.lp .done (some (.exit i)) fn N e1 ps ca cb) => Q (.exit i) e (H'.set L (.lp .exhausted (some (.exit i)) fn N e1 ps ca cb))
 | _ => False
/-- The code of a loop's record is this. -/
structure Aje (P : Program) (N : Nat) (ps : List Nat) (ca cb : Code) (aS bd : Af) : Prop where
 a : trC P N ca = some (er aS)
 b : trC P N cb = some (er bd)
 p : ps.all (· < N) = true

def vwp (P : Program) : Af → (VEx → Env → List Ob → Prop) → Env → List Ob → Prop
 | .ops l kp, Q, e, H => UV P l (fun e H => Q .nor (forget kp e) H) e H
 | .opsZ l zs r kp, Q, e, H => UV P l (AlQ zs (UV P r (fun e H => Q .nor (forget kp e) H))) e H
 | .pops l kp, Q, e, H => PU P (fun u H => Q (.pan u) (Aad l e) H) l (fun e H => Q .nor (forget kp e) H) e H
 | .pdraw n l kp, Q, e, H => vq P (l.take n) (fun e => PU P (fun u H => Q (.pan u) [] H) (l.drop n) (fun e H => Q .nor (forget kp e) H) e H) e H
 | .sdraw n l kp, Q, e, H => vq P (l.take n) (fun e => KT (pvopS P (fun u H => Q (.pan u) [] H) (AkW l)) (l.drop n) (fun e H => Q .nor (forget kp e) H) e H) e H
 | .draw n l kp, Q, e, H => vq P (l.take n) (fun e => UV P (l.drop n) (fun e H => Q .nor (forget kp e) H) e H) e H
 | .skip, Q, e, H => Q .nor e H
 | .seq a b, Q, e, H => vwp P a (fun x e H => match x with | .nor => vwp P b Q e H | .exit i => Q (.exit i) e H | .ret => Q .ret e H | .pan u => Q (.pan u) e H) e H
 | .cond c a b, Q, e, H => match c.ev e with
  | .val (.bool t) => if t = true then vwp P a Q e H else vwp P b Q e H
  | _ => False
 | .block id c, Q, e, H => vwp P c (fun x e H => match x with | .nor => Q .nor e H | .exit i => if i = id then Q .nor e H else Q (.exit i) e H | .ret => Q .ret e H | .pan u => Q (.pan u) e H) e H
 | .loop lv c, Q, e, H0 => ∃ (I : Nat → Env → List Ob → Prop) (n : Nat), I n (forget lv e) H0 ∧
   ∀ n e H, I n e H → vwp P c (fun x e H => match x with | .nor => ∃ m g, m < n ∧ (H0.length ≤ g ∧ (H.length ≤ g ∨ (VD g (forget lv e) = true ∧ Ws g (H.take g) = true))) ∧ I m (forget lv e) (H.take g) | .exit i => Q (.exit i) e H | .ret => Q .ret e H | .pan u => Q (.pan u) e H) e H
 | .exit id, Q, e, H => Q (.exit id) e H
 | .ret, Q, e, H => Q .ret e H
 | .scope c, Q, e, H => vwp P c Q e H
 | .dead, _, _, _ => False
 | .own s k c, Q, e, H => match get e s with
  | .val (.slice none 0 0) => vwp P c Q ((s, .os k H.length 0 [] 0 0 0) :: e) (H ++ [.obj 0 (.arr 0 k [])])
  | _ => vwp P c Q e H
 | .ownB s p k c, Q, e, H => match get e s with
  | .op id ver p0 => (match H[id]? with
   | some (.obj v x) => v = ver ∧ (match Jp (p0 ++ p) x with
    | some (.val (.slice none 0 0)) => (match QX (p0 ++ p) x (.os k H.length 0 [] 0 0 0) with
     | some x' => vwp P c Q e (H.set id (.obj ver x') ++ [.obj 0 (.arr 0 k [])])
     | none => False)
    | _ => vwp P c Q e H)
   | _ => False)
  | _ => False
 | .ownT s p t c, Q, e, H => match get e s with
  | .op id ver p0 => (match H[id]? with
   | some (.obj v x) => v = ver ∧ (match Jp (p0 ++ p) x with
    | some (.val (.slice none 0 0)) => (match QX (p0 ++ p) x (.os 1 H.length 0 [] 0 0 0) with
     | some x' => vwp P c Q e (H.set id (.obj ver x') ++ [.bld 0 t []])
     | none => False)
    | _ => vwp P c Q e H)
   | _ => False)
  | _ => False
 | .frz s c, Q, e, H => match get e s with
  | .os k id ver p off n _ => (match H[id]? with
   | some (.obj v x) => v = ver ∧ (match Dh p k off n x with
    | some cs => vwp P c Q ((s, .sl k cs) :: e) (H.set id (.gone ver))
    | none => False)
   | _ => False)
  | _ => False
 | .rfunc f ps aS bd, Q, e, H => Wn aS = true ∧ Wn bd = true ∧ (match f.ev e with
  | .fn (.func g) first caps => TT P g = true ∧ ∀ (N : Nat) (fn : FuncId) (ca cb : Code), Aje P N ps ca cb aS bd → Ap P g (first ++ [.yl H.length 0] ++ caps) (H ++ [.lp .ready none fn N e ps ca cb]) (Abq Q e H.length)
  | .val (.func (.func g) xs ys) => (xs.isEmpty && ys.isEmpty) = true ∧ TT P g = true ∧ ∀ (N : Nat) (fn : FuncId) (ca cb : Code), Aje P N ps ca cb aS bd → Ap P g [.yl H.length 0] (H ++ [.lp .ready none fn N e ps ca cb]) (Abq Q e H.length)
  | _ => False)

section sound
variable {P : Program}
/-- The same cells, read otherwise. -/
theorem Sm {c : Ctx} {w : World} : ∀ {p : List (Nat × Nat)} {x y z x' : TV} {us : List Value}, Ak c w x us → Jp p x = some z → (∀ m, Ak c w z m → Ak c w y m) → QX p x y = some x' → Ak c w x' us := by
 intro p x y z x' us h hg hm hs
 obtain ⟨a, m, b, rfl, h1, h2⟩ := GN h hg
 obtain ⟨a', m', b', e, h3, h4, h5, _⟩ := Ol h hs (hm m h2)
 have e1 : a = a' := by
  have := congrArg (List.take a.length) e
  rw [List.append_assoc, List.append_assoc, List.take_left] at this
  rw [this, List.take_left' (by omega)]
 subst e1
 rw [List.append_assoc, List.append_assoc] at e
 have e2 := List.append_cancel_left e
 have e3 : m = m' := by
  have := congrArg (List.take m.length) e2
  rw [List.take_left] at this
  rw [this, List.take_left' (by omega)]
 subst e3
 have e4 := List.append_cancel_left e2
 subst e4
 exact h5

/-- A row that is given away, read aS it stays. -/
theorem Sim.give {β : Nat → Nat → Option (Nat × Nat)} {H : List Ob} {F : Nat → Prop} {w : World} (hs : Sim ⟨β, H, F⟩ w) {k id ver off n cp : Nat} {p : List (Nat × Nat)} {x : TV} {cs : List TV} (hid : H[id]? = some (.obj ver x)) (hcs : Dh p k off n x = some cs) {us : List Value} (hr : Ak ⟨β, H, F⟩ w (.os k id ver p off n cp) us) :
  Ak ⟨β, H.set id (.gone ver), fun b => F b ∨ ∃ off, β id ver = some (b, off)⟩ w (.sl k cs) us := by
 have hm : F8 (Ctx.bare ⟨β, H, F⟩) w (Ctx.bare ⟨β, H.set id (.gone ver), fun b => F b ∨ ∃ off, β id ver = some (b, off)⟩) w :=
  ⟨fun b hb => ⟨.inl hb, rfl⟩, fun _ _ k => (Ctx.bare_has k).elim, fun _ _ => rfl⟩
 rw [Ak] at hr
 obtain ⟨hr1, hr2⟩ := hr
 rcases hr2 with ⟨rfl, a0, hr2, _⟩ | ⟨b0, o0, cap, t0, m0, hr2, hr3, hr4, hr5, hr6, hr7⟩
 ·have : cs = [] := by
   unfold Dh at hcs
   split at hcs
   ·split at hcs
    ·cases hcs; simp
    ·cases hcs
   ·cases hcs
  subst this
  rw [Ak]
  exact ⟨by simp, .inl ⟨rfl, a0, 0, hr2, by omega⟩⟩
 rcases hs.ob id _ hid with ⟨h0, _⟩ | ⟨b, off', pre, vs, post, t, fr, h0, h1, h2, h3, h4⟩
 ·have h0' : β id ver = none := h0
  have hr2' : β id ver = some (b0, o0) := hr2
  rw [h0'] at hr2'; cases hr2'
 have h0' : β id ver = some (b, off') := h0
 have hr2' : β id ver = some (b0, o0) := hr2
 rw [h0'] at hr2'
 obtain ⟨rfl, rfl⟩ : b = b0 ∧ off' = o0 := by simpa using hr2'
 obtain ⟨a, m, q, rfl, k1, k2, k3, k4⟩ := Ky h4 hcs
 rw [Ak]
 refine ⟨k3, .inr ⟨b, off' + Dz p + off * k, cap, m, by rw [k4]; exact hr3, by omega, hr5, .inr ⟨off', h0'⟩, Aj.mono hm k2, ?_⟩⟩
 have e : off' + Dz p + off * k = pre.length + a.length := by rw [h3, k1]; omega
 rw [e]; exact Ff h1

theorem Xc {N : Nat} {D : List Deferred} : ∀ {zs : List Nat} {K : Env → List Ob → Prop} {e : Env} {H : List Ob} {β : Nat → Nat → Option (Nat × Nat)} {F : Nat → Prop} {w : World} {a : Act}, AlQ zs K e H → Sim ⟨β, H, F⟩ w → Fr N D ⟨β, H, F⟩ w e a →
  ∃ e' H' F', K e' H' ∧ Sim ⟨β, H', F'⟩ w ∧ Fr N D ⟨β, H', F'⟩ w e' a ∧ AA ⟨β, H, F⟩ w ⟨β, H', F'⟩ w
 | [], K, e, H, β, F, w, a, h, hs, hf => ⟨e, H, F, h, hs, hf, AA.refl _ _⟩
 | s :: zs, K, e, H, β, F, w, a, h, hs, hf => by
  rw [AlQ] at h
  split at h
  ·rename_i k id ver p off n cp hg
   split at h
   ·rename_i v y hid
    obtain ⟨rfl, h⟩ := h
    split at h
    ·rename_i cs hcs
     obtain ⟨k1, k2⟩ := hs.freeze hid rfl
     have hr : Rep ⟨β, H, F⟩ w (get e s) (a.tmps.getD s undef) := hf.env.1 s
     rw [hg] at hr
     have hr' : Rep ⟨β, H.set id (.gone v), fun b => F b ∨ ∃ off, β id v = some (b, off)⟩ w (.sl k cs) (a.tmps.getD s undef) := by
      rcases hr with (hr | hr | ⟨us, hr, hr2⟩) | ⟨xs, vs, hr, _⟩
      ·cases hr
      ·cases hr
      ·exact .inl (.inr (.inr ⟨us, hs.give hid hcs hr, by rw [hr2]; rfl⟩))
      ·cases hr
     obtain ⟨e', H', F', q1, q2, q3, q4⟩ := Xc h k1 (a := a) ⟨⟨fun s' => by
      rw [BK]
      by_cases hss : s = s'
      ·subst hss; rw [if_pos rfl]; exact hr'
      ·rw [if_neg hss]; exact Rep.mono (k2.mono hs) (hf.env.1 s'), k1.glob⟩, hf.size, hf.defers⟩
     exact ⟨e', H', F', q1, q2, q3, k2.trans q4⟩
    ·exact h.elim
   ·exact h.elim
  ·exact h.elim
theorem Adf {P : Program} {N : Nat} {all : List Oper} : ∀ {os : List Oper} {l1 l2 : List VO}, trL false P N all os = some (l1 ++ l2) → ∃ o1 o2, os = o1 ++ o2 ∧ trL false P N all o1 = some l1 ∧ trL false P N all o2 = some l2
 | os, [], l2, h => ⟨[], os, rfl, rfl, h⟩
 | [], v :: l1, l2, h => by simp [trL] at h
 | o :: os, v :: l1, l2, h => by
  rw [trL] at h
  split at h
  ·rename_i v' g r hv hg hr
   split at h
   ·rename_i hd
    simp only [List.cons_append, Option.some.injEq, List.cons.injEq] at h
    obtain ⟨rfl, rfl⟩ := h
    obtain ⟨o1, o2, rfl, h1, h2⟩ := Adf hr
    refine ⟨o :: o1, o2, rfl, ?_, h2⟩
    rw [trL, hv, hg, h1]
    simp [hd]
   ·cases h
  ·cases h
theorem Aan {N : Nat} {D : List Deferred} {ro : Option Nat} {nn : Nat} {all : Array Oper} {os : List Oper} {l1 l2 : List VO} {zs : List Nat} (ht : trL false P N all.toList os = some (l1 ++ l2)) {K : Env → List Ob → Prop} {e : Env} {H : List Ob} {β : Nat → Nat → Option (Nat × Nat)} {F : Nat → Prop} {w : World} {a : Act} {QQ : Exit → Act → World → Prop}
  (h : UV P l1 (AlQ zs (UV P l2 K)) e H) (hs : Sim ⟨β, H, F⟩ w) (hf : Fr N D ⟨β, H, F⟩ w e a)
  (hk : ∀ e' H' β' F' w' a', K e' H' → Sim ⟨β', H', F'⟩ w' → Fr N D ⟨β', H', F'⟩ w' e' a' → AA ⟨β, H, F⟩ w ⟨β', H', F'⟩ w' → QQ .normal a' w') : wpListIn (fz ro) nn P all QQ os a w := by
 obtain ⟨o1, o2, rfl, h1, h2⟩ := Adf ht
 refine Ve (Lp.vop (KP := fun _ _ => False)) h1 h hs hf (fun e' H' β' F' w' a' k1 k2 k3 k4 => ?_) (fun _ _ _ _ _ _ h => h.elim)
 obtain ⟨e2, H2, F2, q1, q2, q3, q4⟩ := Xc k1 k2 k3
 exact XD h2 q1 q2 q3 fun e3 H3 β3 F3 w3 a3 m1 m2 m3 m4 => hk e3 H3 β3 F3 w3 a3 m1 m2 m3 ((k4.trans q4).trans m4)

theorem Sim.own {β : Nat → Nat → Option (Nat × Nat)} {H : List Ob} {F : Nat → Prop} {w : World} (hs : Sim ⟨β, H, F⟩ w) (k : Nat) :
  Sim ⟨upd β H.length 0 none, H ++ [.obj 0 (.arr 0 k [])], F⟩ w ∧ AA ⟨β, H, F⟩ w ⟨upd β H.length 0 none, H ++ [.obj 0 (.arr 0 k [])], F⟩ w ∧
   Ak ⟨upd β H.length 0 none, H ++ [.obj 0 (.arr 0 k [])], F⟩ w (.os k H.length 0 [] 0 0 0) [.slice none 0 0] := by
 obtain ⟨k1, k2⟩ := hs.newNone (x := .arr 0 k []) (by rw [Ak]; exact ⟨rfl, by simp, by rw [Aj]⟩)
 exact ⟨k1, k2, by rw [Ak]; exact ⟨Ey _ _ _ _ _ (Nat.le_refl _), .inl ⟨rfl, none, rfl, rfl, fun _ h => by cases h⟩⟩⟩

theorem Sim.ownBld {β : Nat → Nat → Option (Nat × Nat)} {H : List Ob} {F : Nat → Prop} {w : World} (hs : Sim ⟨β, H, F⟩ w) (t : TypeId) :
  Sim ⟨upd β H.length 0 none, H ++ [.bld 0 t []], F⟩ w ∧ AA ⟨β, H, F⟩ w ⟨upd β H.length 0 none, H ++ [.bld 0 t []], F⟩ w ∧
   Ak ⟨upd β H.length 0 none, H ++ [.bld 0 t []], F⟩ w (.os 1 H.length 0 [] 0 0 0) [.slice none 0 0] := by
 obtain ⟨k1, k2⟩ := hs.new (.bld 0 t []) rfl none (w' := w) (fun b off e => by cases e) rfl rfl rfl (Nat.le_refl _) (fun b hb => rfl) fun hm => .inl ⟨AB, rfl⟩
 exact ⟨k1, k2, by rw [Ak]; exact ⟨Ey _ _ _ _ _ (Nat.le_refl _), .inl ⟨rfl, none, rfl, rfl, fun _ h => by cases h⟩⟩⟩

/-- Objects that nobody knows any more are forgotten. -/
def Ctx.cut (c : Ctx) (g : Nat) : Ctx := ⟨c.β, c.H.take g, c.F⟩
theorem Ctx.cut_has {c : Ctx} {g id ver : Nat} (h : c.has id ver) (hg : id < g) : (c.cut g).has id ver := by
 obtain ⟨o, h1, h2⟩ := h
 exact ⟨o, by show (c.H.take g)[id]? = some o; rw [List.getElem?_take, if_pos hg]; exact h1, h2⟩
theorem Ctx.cut_get {c : Ctx} {g id : Nat} {o : Ob} (h : (c.cut g).H[id]? = some o) : id < g ∧ c.H[id]? = some o := by
 have h' : (c.H.take g)[id]? = some o := h
 rw [List.getElem?_take] at h'
 split at h'
 ·exact ⟨‹_›, h'⟩
 ·cases h'
mutual
theorem Ak.cut {c : Ctx} {w : World} {g : Nat} : ∀ {x : TV} {us : List Value}, Hu g x = true → Ak c w x us → Ak (c.cut g) w x us
 | .val y, us, hf, hr => by rw [Ak] at hr ⊢; exact hr
 | .any, us, hf, hr => by rw [Ak] at hr ⊢; exact hr
 | .sl k cs, us, hf, hr => by rw [Ak] at hr ⊢; exact hr
 | .fp x, us, hf, hr => by rw [Ak] at hr ⊢; exact hr
 | .arr n k cs, us, hf, hr => by rw [Ak] at hr ⊢; exact hr
 | .op id ver p, us, hf, hr => by
  rw [Hu, decide_eq_true_eq] at hf; rw [Ak] at hr ⊢; exact ⟨Ctx.cut_has hr.1 hf, hr.2⟩
 | .os k id ver p off n cp, us, hf, hr => by
  rw [Hu, decide_eq_true_eq] at hf; rw [Ak] at hr ⊢; exact ⟨Ctx.cut_has hr.1 hf, hr.2⟩
 | .mp id ver, us, hf, hr => by
  rw [Hu, decide_eq_true_eq] at hf; rw [Ak] at hr ⊢; exact ⟨Ctx.cut_has hr.1 hf, hr.2⟩
 | .yl id ver, us, hf, hr => by
  rw [Hu, decide_eq_true_eq] at hf; rw [Ak] at hr ⊢; exact ⟨Ctx.cut_has hr.1 hf, hr.2⟩
 | .agg cs, us, hf, hr => by rw [Hu] at hf; rw [Ak] at hr ⊢; exact Aj.cut hf hr
 | .tup cs, us, hf, hr => by rw [Ak] at hr; exact hr.elim
 | .ifc t x, us, hf, hr => by
  rw [Hu] at hf; rw [Ak] at hr ⊢
  obtain ⟨u, h1, vs, h2, h3⟩ := hr
  exact ⟨u, h1, vs, Ak.cut hf h2, h3⟩
 | .fn f a b, us, hf, hr => by
  rw [Hu, Bool.and_eq_true] at hf; rw [Ak] at hr ⊢
  obtain ⟨aS, bs, h1, h2, h3⟩ := hr
  exact ⟨aS, bs, h1, Bg.cut hf.1 h2, Bg.cut hf.2 h3⟩
theorem Aj.cut {c : Ctx} {w : World} {g : Nat} : ∀ {xs : List TV} {us : List Value}, LQ g xs = true → Aj c w xs us → Aj (c.cut g) w xs us
 | [], us, hf, hr => by rw [Aj] at hr ⊢; exact hr
 | x :: xs, us, hf, hr => by
  rw [LQ, Bool.and_eq_true] at hf; rw [Aj] at hr ⊢
  obtain ⟨a, b, h1, h2, h3⟩ := hr
  exact ⟨a, b, h1, Ak.cut hf.1 h2, Aj.cut hf.2 h3⟩
theorem Bg.cut {c : Ctx} {w : World} {g : Nat} : ∀ {xs : List TV} {us : List Value}, LQ g xs = true → Bg c w xs us → Bg (c.cut g) w xs us
 | [], us, hf, hr => by rw [Bg] at hr ⊢; exact hr
 | x :: xs, us, hf, hr => by
  rw [LQ, Bool.and_eq_true] at hf; rw [Bg] at hr ⊢
  obtain ⟨u, us, h1, h2, h3⟩ := hr
  refine ⟨u, us, h1, ?_, Bg.cut hf.2 h3⟩
  rcases h2 with h2 | h2 | ⟨aS, h2, h4⟩
  ·exact .inl h2
  ·exact .inr (.inl h2)
  ·exact .inr (.inr ⟨aS, Ak.cut hf.1 h2, h4⟩)
end
theorem Rep.cut {c : Ctx} {w : World} {g : Nat} {x : TV} {v : Value} (hf : Hu g x = true) (hr : Rep c w x v) : Rep (c.cut g) w x v := by
 rcases hr with (h | h | ⟨us, h, h'⟩) | ⟨xs, vs, rfl, h2, h3⟩
 ·exact .inl (.inl h)
 ·exact .inl (.inr (.inl h))
 ·exact .inl (.inr (.inr ⟨us, Ak.cut hf h, h'⟩))
 ·rw [Hu] at hf; exact .inr ⟨xs, vs, rfl, h2, Bg.cut hf h3⟩
theorem Ua {g : Nat} : ∀ {e : Env}, VD g e = true → ∀ s, Hu g (get e s) = true
 | [], _, s => rfl
 | (k, x) :: e, h, s => by
  rw [VD, Bool.and_eq_true] at h
  rw [BK]
  split
  ·exact h.1
  ·exact Ua h.2 s
theorem Xb {g : Nat} : ∀ {H : List Ob}, Ws g H = true → ∀ (i : Nat) (o : Ob), H[i]? = some o → Aby g o = true
 | [], _, i, o, h => by simp at h
 | o :: H, h, i, o', hi => by
  rw [Ws, Bool.and_eq_true] at h
  cases i with
  | zero => simp at hi; subst hi; exact h.1
  | succ i => exact Xb h.2 i o' (by simpa using hi)
theorem AL.cut {c : Ctx} {w : World} {g : Nat} {kk : MK} : ∀ {es : List (List UInt8 × TV)} {ms : List MapEntry}, LQ g (es.map (·.2)) = true → AL c w kk es ms → AL (c.cut g) w kk es ms
 | [], ms, _, h => h
 | (k, x) :: es, ms, hb, h => by
  rw [List.map_cons, LQ, Bool.and_eq_true] at hb
  obtain ⟨m, r, rfl, h1, h2, h3⟩ := h
  exact ⟨m, r, rfl, h1, ⟨Ak.cut hb.1 h2.1, h2.2⟩, AL.cut hb.2 h3⟩
theorem Sim.cut {c : Ctx} {w : World} {g : Nat} (hs : Sim c w) (hg : Ws g (c.H.take g) = true) : Sim (c.cut g) w := by
 have hown : ∀ b, (c.cut g).own b → c.own b := by
  rintro b ⟨i, o, off, h1, h2, h3⟩
  exact ⟨i, o, off, (Ctx.cut_get h1).2, h2, h3⟩
 refine ⟨fun id o ho => ?_, fun i j x y b o o' hx hy hlx hly e e' => hs.inj i j x y b o o' (Ctx.cut_get hx).2 (Ctx.cut_get hy).2 hlx hly e e', fun b hb => hs.apart b (hown b hb), hs.lt, hs.glob⟩
 have h1 := hs.ob id o (Ctx.cut_get ho).2
 have hb := Xb hg id o ho
 cases o with
 | gone v => trivial
 | ice v m x =>
  obtain ⟨b, off, pre, vs, post, t, fr, h0, h1, h2, h3, h4⟩ := h1
  exact ⟨b, off, pre, vs, post, t, fr, h0, h1, h2, h3, Ak.cut hb h4⟩
 | bld v t l => exact h1
 | fact i v t m =>
  obtain ⟨h0, h2⟩ := h1
  exact ⟨Ctx.cut_has h0 (by simpa [Aby] using hb), h2⟩
 | lp st pend fn N en ps ca cb =>
  obtain ⟨b, tmps, D, h0, h1, h2, h3⟩ := h1
  exact ⟨b, tmps, D, h0, h1, h2, fun s => Rep.cut (Ua hb s) (h3 s)⟩
 | mpo kk es =>
  obtain ⟨b, ms, cl, h0, h1, h2, h3⟩ := h1
  exact ⟨b, ms, cl, h0, h1, AL.cut hb h2, h3⟩
 | sit s pos => exact h1
 | mpd kk zs cl =>
  obtain ⟨b, ms, h0, h1, h2, h3⟩ := h1
  exact ⟨b, ms, h0, h1, AL.cut (by rw [List.map_map]; exact hb) h2, h3⟩
 | mit m sn cl =>
  obtain ⟨r, b, h0, ⟨g0, g1⟩, h1⟩ := h1
  exact ⟨r, b, h0, ⟨Ctx.cut_has g0 (by simpa [Aby] using hb), g1⟩, h1⟩
 | obj v x =>
  rcases h1 with ⟨h0, h4⟩ | ⟨b, off, pre, vs, post, t, fr, h0, h1, h2, h3, h4⟩
  ·exact .inl ⟨h0, Ak.cut hb h4⟩
  ·exact .inr ⟨b, off, pre, vs, post, t, fr, h0, h1, h2, h3, Ak.cut hb h4⟩
theorem AA.cut {c0 c : Ctx} {w0 w : World} {g : Nat} (hl : AA c0 w0 c w) (hg : c0.H.length ≤ g) : AA c0 w0 (c.cut g) w :=
 ⟨hl.os, hl.tape, hl.output, hl.size, fun id ver h => by
  obtain ⟨h1, h2⟩ := hl.has id ver h
  exact ⟨Ctx.cut_has h1 (Nat.lt_of_lt_of_le (Ctx.has_lt h) hg), h2⟩, hl.shape, hl.same, hl.keepF, hl.oldF, fun b hb ⟨i, o, off, h1, h2, h3⟩ => hl.oldOwn b hb ⟨i, o, off, (Ctx.cut_get h1).2, h2, h3⟩⟩

/-- The Bo for the calls that rounds defer: each holds none. -/
def MF (D0 : List Deferred) (B : Nat) (c : Ctx) (w : World) (D : List Deferred) : Prop := ∃ ds : List Nat, D = ds.map (fun r => { target := .collected r, args := #[] }) ++ D0 ∧ ds.Nodup ∧ ∀ r ∈ ds, B ≤ r ∧ r < w.heap.size ∧ ¬ c.own r ∧ ¬ c.F r ∧ w.heap[r]? = some (.deferred (some []))
theorem MF.nil {D0 : List Deferred} {B : Nat} {c : Ctx} {w : World} : MF D0 B c w D0 := ⟨[], rfl, List.nodup_nil, fun r h => by cases h⟩
theorem MF.later {D0 : List Deferred} {B : Nat} {c c' : Ctx} {w w' : World} {D : List Deferred} (h : MF D0 B c w D) (hl : AA c w c' w') : MF D0 B c' w' D := by
 obtain ⟨ds, h1, h2, h3⟩ := h
 refine ⟨ds, h1, h2, fun r hr => ?_⟩
 obtain ⟨k1, k2, k3, k4, k5⟩ := h3 r hr
 exact ⟨k1, Nat.lt_of_lt_of_le k2 hl.size, fun h => k3 (hl.oldOwn r k2 h), fun h => (hl.oldF r k2 h).elim k4 k3, (hl.same r k2 k3).trans k5⟩
theorem MF.cut {D0 : List Deferred} {B g : Nat} {c : Ctx} {w : World} {D : List Deferred} (h : MF D0 B c w D) : MF D0 B (c.cut g) w D := by
 obtain ⟨ds, h1, h2, h3⟩ := h
 refine ⟨ds, h1, h2, fun r hr => ?_⟩
 obtain ⟨k1, k2, k3, k4, k5⟩ := h3 r hr
 exact ⟨k1, k2, fun ⟨i, o, off, h1, h2, h3⟩ => k3 ⟨i, o, off, (Ctx.cut_get h1).2, h2, h3⟩, k4, k5⟩

theorem N9 (w : World) (r : Nat) (o : Obj) : (w.putObj r o).os = w.os ∧ (w.putObj r o).tape = w.tape ∧ (w.putObj r o).output = w.output ∧ (w.putObj r o).heap.size = w.heap.size := ⟨rfl, rfl, rfl, by simp [World.putObj]⟩
theorem Xx {w : World} {b : Nat} {r : Loop} (h : w.heap[b]? = some (.loop r)) : w.shape? b = none := by simp [World.shape?, h]

/-- A loop's record turns. -/
theorem Sim.loopTurn {β : Nat → Nat → Option (Nat × Nat)} {H : List Ob} {F : Nat → Prop} {w : World} (hs : Sim ⟨β, H, F⟩ w) {id N : Nat} {fn : FuncId} {e : Env} {ps : List Nat} {ca cb : Code} {st st' : LoopState} {pe pe' : Option Code}
  (ho : H[id]? = some (.lp st pe fn N e ps ca cb)) : ∃ (b : Nat) (r : Loop), β id 0 = some (b, 0) ∧ w.heap[b]? = some (.loop r) ∧ r.state = st ∧ r.pending = pe ∧ r.fn = fn ∧ r.tmps.size = N ∧ r.params = ps.toArray ∧ r.assign = ca ∧ r.body = cb ∧ (∀ s, Rep ⟨β, H, F⟩ w (get e s) (r.tmps.getD s undef)) ∧
   Sim ⟨β, H.set id (.lp st' pe' fn N e ps ca cb), F⟩ (w.putObj b (.loop { r with state := st', pending := pe' })) ∧
   AA ⟨β, H, F⟩ w ⟨β, H.set id (.lp st' pe' fn N e ps ca cb), F⟩ (w.putObj b (.loop { r with state := st', pending := pe' })) := by
 obtain ⟨b, tmps, D, h1, h2, h3, h4⟩ := hs.ob id _ ho
 have hlt : b < w.heap.size := (Array.getElem?_eq_some_iff.1 h2).1
 have hid : id < H.length := (List.getElem?_eq_some_iff.1 ho).1
 have hput := World.putObj_heap_same (w := w) (o := .loop { state := st', pending := pe', fn := fn, tmps := tmps, params := ps.toArray, assign := ca, body := cb, defers := D }) hlt
 obtain ⟨k1, k2⟩ := hs.turn (β' := β) (w' := w.putObj b (.loop { state := st', pending := pe', fn := fn, tmps := tmps, params := ps.toArray, assign := ca, body := cb, defers := D })) ho (o' := .lp st' pe' fn N e ps ca cb) rfl rfl (Nat.le_refl _) (fun _ _ _ => rfl) (fun b' off hb => .inl ⟨off, hb⟩) rfl rfl rfl
  (by rw [(N9 _ _ _).2.2.2]; exact Nat.le_refl _) (fun b' hb' => by
   by_cases hbb : b' = b
   ·subst hbb; rw [Xx h2, Xx hput]
   ·exact Bq (World.putObj_heap_other hbb)) (fun b' hb' hne => World.putObj_heap_other (fun e => hne 0 (by subst e; exact h1)))
  (fun hm => ⟨b, tmps, D, h1, hput, h3, fun s => Rep.mono hm (h4 s)⟩)
 exact ⟨b, { state := st, pending := pe, fn := fn, tmps := tmps, params := ps.toArray, assign := ca, body := cb, defers := D }, h1, h2, rfl, rfl, rfl, h3, rfl, rfl, rfl, h4, k1, k2⟩


/-- THE STATEMENT 'for .. := range g'. -/
theorem VU {N nn : Nat} {f0 : Operand} {ps0 : Array Tmp} {ca cb : Code} {Q : VEx → Env → List Ob → Prop} {e : Env} {H : List Ob} {β : Nat → Nat → Option (Nat × Nat)} {F : Nat → Prop} {w : World} {a : Act} {QQ : Exit → Act → World → Prop} {B : Nat} {D D0 : List Deferred}
  (hs : Sim ⟨β, H, F⟩ w) (hf : Fr N D ⟨β, H, F⟩ w e a) (hm : MF D0 B ⟨β, H, F⟩ w D) (hB : B ≤ w.heap.size) {g : FuncId} {us vs : List Value} {first caps : List TV} (hv : a.eval f0 = .func (.func g) us.toArray vs.toArray) (hgo : TT P g = true) (hfi : Bg ⟨β, H, F⟩ w first us) (hc : Bg ⟨β, H, F⟩ w caps vs)
  (h : ∀ fn, Ap P g (first ++ [.yl H.length 0] ++ caps) (H ++ [.lp .ready none fn N e ps0.toList ca cb]) (Abq Q e H.length))
  (hk : ∀ x e' H' β' F' w' a' D', Q x e' H' → Sim ⟨β', H', F'⟩ w' → Fr N D' ⟨β', H', F'⟩ w' e' a' → MF D0 B ⟨β', H', F'⟩ w' D' → AA ⟨β, H, F⟩ w ⟨β', H', F'⟩ w' → QQ x.ex a' w') : (Code.rangeFunc f0 ps0 ca cb).wpIn (fz none) nn P QQ a w := by
 refine wpIn_rangeFunc ?_
 intro fn hfn
 obtain ⟨rec, hrec⟩ : ∃ rec : Loop, rec = { state := .ready, pending := none, fn := fn, tmps := a.tmps, params := ps0, assign := ca, body := cb, defers := w.heap.size } := ⟨_, rfl⟩
 obtain ⟨W1, hW1⟩ : ∃ W1, (w.alloc (.deferred (some []))).alloc (.loop rec) = W1 := ⟨_, rfl⟩
 have hL1 : W1.heap[w.heap.size + 1]? = some (.loop rec) := by
  rw [← hW1]; have := World.alloc_heap_new (w.alloc (.deferred (some []))) (.loop rec); rwa [World.size_alloc] at this
 have hK1 : W1.heap[w.heap.size]? = some (.deferred (some [])) := by
  rw [← hW1]; exact (Below.heap_alloc _ _ _ (by simp)).trans (World.alloc_heap_new w _)
 have hsz : W1.heap.size = w.heap.size + 2 := by rw [← hW1]; simp
 have hold : ∀ b, b < w.heap.size → W1.heap[b]? = w.heap[b]? := fun b hb => by
  rw [← hW1]; exact (Below.heap_alloc _ _ _ (by simp; omega)).trans (Below.heap_alloc _ _ _ hb)
 obtain ⟨k1, k2⟩ := hs.new (w' := W1) (.lp .ready none fn N e ps0.toList ca cb) rfl (some (w.heap.size + 1, 0)) (fun b off h => by simp at h; omega) (by rw [← hW1]; rfl) (by rw [← hW1]; rfl) (by rw [← hW1]; rfl) (by omega) hold
  (fun hmo => ⟨w.heap.size + 1, a.tmps, w.heap.size, AB, by rw [hL1, hrec], hf.size, fun s => Rep.mono hmo (hf.env.1 s)⟩)
 have hmo := k2.mono hs
 have hown1 : ∀ b, Ctx.own ⟨upd β H.length 0 (some (w.heap.size + 1, 0)), H ++ [.lp .ready none fn N e ps0.toList ca cb], F⟩ b → b ≠ w.heap.size := by
  rintro b ⟨i, o, off, h1, h2, h3⟩ rfl
  by_cases hi : i < H.length
  ·rw [List.getElem?_append_left hi] at h1
   have h3' : β i o.ver = some (w.heap.size, off) := by
    have h3 : upd β H.length 0 (some (w.heap.size + 1, 0)) i o.ver = some (w.heap.size, off) := h3
    rw [Rw (fun h => by omega)] at h3; exact h3
   have := hs.own_lt ⟨i, o, off, h1, h2, h3'⟩
   omega
  ·have hil : i = H.length := by
    have := (List.getElem?_eq_some_iff.1 h1).1
    simp at this; omega
   subst hil
   simp at h1
   subst h1
   have h3 : upd β H.length 0 (some (w.heap.size + 1, 0)) H.length 0 = some (w.heap.size, off) := h3
   rw [AB] at h3
   simp at h3
 refine ⟨w.heap.size + 1, [{ target := .collected w.heap.size, args := #[] }], W1, { target := .fn (.func g) vs.toArray, args := us.toArray ++ #[.func (.yield (w.heap.size + 1)) #[] #[]] }, W1, g,
  us.toArray ++ #[.func (.yield (w.heap.size + 1)) #[] #[]] ++ vs.toArray, W1, ?_, ?_, ?_, ?_, ?_, ?_⟩
 ·rw [← hW1, hrec]; exact run_enterLoop_outer _ _ _ _ _
 ·simp only [resolve, hv]
  simp [go_sem]
 ·intro f' hf'; trivial
 ·simp only [invoke, F7 hgo]
 ·intro h; simp [fz, Fence.wide] at h
 ·refine (callsIn_wide (n := nn - 1)).2 ?_
  have hargs : Bg ⟨upd β H.length 0 (some (w.heap.size + 1, 0)), H ++ [.lp .ready none fn N e ps0.toList ca cb], F⟩ W1 (first ++ [.yl H.length 0] ++ caps) (us ++ [.func (.yield (w.heap.size + 1)) #[] #[]] ++ vs) := by
   refine Bg.append (Bg.append (Bg.mono hmo hfi) (Bg.cons.2 ⟨_, [], rfl, .inr (.inr ⟨[.func (.yield (w.heap.size + 1)) #[] #[]], ?_, rfl⟩), by rw [Bg]⟩)) (Bg.mono hmo hc)
   rw [Ak]
   exact ⟨Ey _ _ _ _ _ (Nat.le_refl _), _, _, AB, rfl⟩
  have hcall := h fn _ _ W1 _ k1 hargs
  rw [show (us ++ [Value.func (.yield (w.heap.size + 1)) #[] #[]] ++ vs).toArray = us.toArray ++ #[.func (.yield (w.heap.size + 1)) #[] #[]] ++ vs.toArray from by simp] at hcall
  refine hcall.mono ?_
  rintro _ w3 ⟨v, x, β', H', F', rfl, hR, hs', hl', hx⟩
  have hmk : MF D0 B ⟨β', H', F'⟩ w3 ({ target := .collected w.heap.size, args := #[] } :: D) := by
   have h1 : MF D0 B ⟨upd β H.length 0 (some (w.heap.size + 1, 0)), H ++ [.lp .ready none fn N e ps0.toList ca cb], F⟩ W1 ({ target := .collected w.heap.size, args := #[] } :: D) := by
    obtain ⟨ds, d1, d2, d3⟩ := hm.later k2
    refine ⟨w.heap.size :: ds, by rw [d1]; rfl, List.nodup_cons.2 ⟨fun hin => ?_, d2⟩, fun r hr => ?_⟩
    ·obtain ⟨ds', e1, e2, e3⟩ := hm
     have : ds' = ds := by
      have : ds'.map (fun r => ({ target := .collected r, args := #[] } : Deferred)) = ds.map (fun r => { target := .collected r, args := #[] }) := List.append_cancel_right (e1.symm.trans d1)
      exact (List.map_inj_right (fun a b h => by simpa using h)).1 this
     rw [← this] at hin
     have := (e3 _ hin).2.1
     omega
    ·rcases List.mem_cons.1 hr with rfl | hr
     ·exact ⟨hB, by omega, fun ho => hown1 _ ho rfl, fun hF => absurd (hs.lt _ hF) (by omega), hK1⟩
     ·exact d3 r hr
   exact h1.later hl'
  have fin : ∀ (st : LoopState) (pe : Option Code) (fn' : FuncId) (N' : Nat) (e1 : Env) (ps1 : List Nat) (c1 c2 : Code), st ≠ .busy → H'[H.length]? = some (.lp st pe fn' N' e1 ps1 c1 c2) →
    ∃ w4, (Instr.endLoop (w.heap.size + 1)).run P w3 = .ok pe w4 ∧ Sim ⟨β', H'.set H.length (.lp .exhausted pe fn' N' e1 ps1 c1 c2), F'⟩ w4 ∧ AA ⟨β', H', F'⟩ w3 ⟨β', H'.set H.length (.lp .exhausted pe fn' N' e1 ps1 c1 c2), F'⟩ w4 := by
   intro st pe fn' N' e1 ps1 c1 c2 hst hob
   obtain ⟨b, r, r1, r2, r3, r4, _, _, _, _, _, _, r5, r6⟩ := hs'.loopTurn (st' := .exhausted) (pe' := pe) hob
   have hβ : β' H.length 0 = some (w.heap.size + 1, 0) := ((hl'.has H.length 0 (Ey _ _ _ _ _ (Nat.le_refl _))).2).trans AB
   rw [hβ] at r1
   obtain ⟨rfl, _⟩ : w.heap.size + 1 = b ∧ True := by simpa using r1
   subst r4
   exact ⟨_, run_endLoop (P := P) r2 (by rw [r3]; exact hst), r5, r6⟩
  have hfr : ∀ {c : Ctx} {w4 : World}, AA ⟨β, H, F⟩ w c w4 → JW c.F w4 → Fr N ({ target := .collected w.heap.size, args := #[] } :: D) c w4 e { a with defers := { target := .collected w.heap.size, args := #[] } :: a.defers } := fun {c w4} hl hgl =>
   ⟨⟨fun s => Rep.mono (hl.mono hs) (hf.env.1 s), hgl⟩, hf.size, by rw [hf.defers]⟩
  unfold Abq at hR
  simp only [rangePost]
  split at hR
  ·rename_i hob
   obtain ⟨w4, e1, e2, e3⟩ := fin .ready none _ _ _ _ _ _ (by simp) hob
   exact ⟨none, w4, e1, hk .nor _ _ _ _ _ _ _ hR e2 (hfr ((k2.trans hl').trans e3) e2.glob) (hmk.later e3) ((k2.trans hl').trans e3)⟩
  ·rename_i hob
   obtain ⟨w4, e1, e2, e3⟩ := fin .done (some .ret) _ _ _ _ _ _ (by simp) hob
   exact ⟨some .ret, w4, e1, wpIn_ret (hk .ret _ _ _ _ _ _ _ hR e2 (hfr ((k2.trans hl').trans e3) e2.glob) (hmk.later e3) ((k2.trans hl').trans e3))⟩
  ·rename_i i _ _ _ _ _ _ hob
   obtain ⟨w4, e1, e2, e3⟩ := fin .done (some (.exit _)) _ _ _ _ _ _ (by simp) hob
   exact ⟨some (.exit _), w4, e1, wpIn_exit (hk (.exit _) _ _ _ _ _ _ _ hR e2 (hfr ((k2.trans hl').trans e3) e2.glob) (hmk.later e3) ((k2.trans hl').trans e3))⟩
  ·exact hR.elim

theorem EQ {b : Frame} {a : Act} {k : List Item} {cs : List Frame} {w : World} {c : Code} : step P (lone (b.atR a (.code (.scope c) :: k)) cs w) = .next (lone (b.atR a (.code c :: .inScope c :: k)) cs w) :=
 step_lone_go (by simp [stepG, stepG.exec, Frame.atR])
theorem WG {b : Frame} {a : Act} {k : List Item} {cs : List Frame} {w : World} {c : Code} : step P (lone (b.atR a (.inScope c :: k)) cs w) = .next (lone (b.atR a k) cs w) :=
 step_lone_go (by simp [stepG, stepG.exec, Frame.atR])
/-- A scope through which the run goes without a jump. -/
theorem Aae {F : Fence} {n : Nat} {Q : Exit → Act → World → Prop} {a : Act} {w : World} {c : Code} (h : c.wpIn F n P (Exit.noGoto Q) a w) : (Code.scope c).wpIn F n P Q a w := by
 intro b k cs hro hb hr
 have h0 : (lone (b.atR a (.code (.scope c) :: k)) cs w).fenced P F := fenced_calm hb hr rfl
 obtain ⟨e, a₁, w₁, hq, harr⟩ := h b (.inScope c :: k) cs hro hb hr
 cases e with
 | normal => exact ⟨.normal, a₁, w₁, hq, .head h0 EQ (StepsIn.trans harr (.one (fenced_calm hb hr rfl) WG))⟩
 | exit id' =>
  have hx : exitTo id' (.inScope c :: k) = exitTo id' k := by simp [exitTo]
  exact ⟨.exit id', a₁, w₁, hq, fun k' hk => .head h0 EQ (harr.1 k' (by rw [hx]; exact hk)),
   fun hr' hk => let ⟨k₁, h1, h2⟩ := harr.2 hr' (by rw [hx]; exact hk); ⟨k₁, h1, .head h0 EQ h2⟩⟩
 | goto l => exact hq.elim
 | ret => exact ⟨_, a₁, w₁, hq, .of_steps (.one h0 EQ) harr⟩
 | panic ch => exact ⟨_, a₁, w₁, hq, .of_steps (.one h0 EQ) harr⟩
 | outgrown => exact ⟨_, a₁, w₁, hq, .of_steps (.one h0 EQ) harr⟩

theorem AdK {N : Nat} {ro : Option Nat} {nn : Nat} : ∀ (vc : Af) {code : Code}, (ro = none ∨ Wn vc = true) → trC P N code = some (er vc) → ∀ {Q : VEx → Env → List Ob → Prop} {e : Env} {H : List Ob} {β : Nat → Nat → Option (Nat × Nat)} {F : Nat → Prop} {w : World} {a : Act} {QQ : Exit → Act → World → Prop} {B : Nat} {D D0 : List Deferred},
  vwp P vc Q e H → Sim ⟨β, H, F⟩ w → Fr N D ⟨β, H, F⟩ w e a → MF D0 B ⟨β, H, F⟩ w D → B ≤ w.heap.size →
  (∀ x e' H' β' F' w' a' D', Q x e' H' → Sim ⟨β', H', F'⟩ w' → Fr N D' ⟨β', H', F'⟩ w' e' a' → MF D0 B ⟨β', H', F'⟩ w' D' → AA ⟨β, H, F⟩ w ⟨β', H', F'⟩ w' → QQ x.ex a' w') → code.wpIn (fz ro) nn P QQ a w := by
 intro vc
 have inv : ∀ {code : Code} {v : Af}, trC P N code = some v → True := fun _ => trivial
 induction vc with
 | ops l kp =>
  intro code hrf ht Q e H β F w a QQ B D D0 h hs hf hm hB hk
  rw [er] at ht
  cases code with
  | region id ops d =>
   cases d with
   | true => exact (Ed ht (by simp) (by simp) (by simp)).elim
   | false =>
    obtain ⟨l', hl, e9⟩ := (AiJ ht).resolve_right (by simp)
    simp only [Af.ops.injEq, and_true] at e9
    subst e9
    rw [vwp] at h
    exact wpIn_region_list (XD hl h hs hf fun e' H' β' F' w' a' k1 k2 k3 k4 => hk .nor _ _ _ _ _ _ _ k1 k2 (k3.forget kp) (hm.later k4) k4)
  | seq x y => simp only [trC] at ht; split at ht <;> simp at ht
  | cond c x y => simp only [trC] at ht; split at ht <;> simp at ht
  | rangeFunc f ps x y => simp only [trC] at ht; split at ht <;> (try split at ht) <;> simp at ht
  | _ => simp [trC] at ht
 | opsZ l zs r kp =>
  intro code hrf ht Q e H β F w a QQ B D D0 h hs hf hm hB hk
  rw [er] at ht
  cases code with
  | region id ops d =>
   cases d with
   | true => exact (Ed ht (by simp) (by simp) (by simp)).elim
   | false =>
    obtain ⟨l', hl, e9⟩ := (AiJ ht).resolve_right (by simp)
    simp only [Af.ops.injEq, and_true] at e9
    subst e9
    rw [vwp] at h
    exact wpIn_region_list (Aan hl h hs hf fun e' H' β' F' w' a' k1 k2 k3 k4 => hk .nor _ _ _ _ _ _ _ k1 k2 (k3.forget kp) (hm.later k4) k4)
  | seq x y => simp only [trC] at ht; split at ht <;> simp at ht
  | cond c x y => simp only [trC] at ht; split at ht <;> simp at ht
  | rangeFunc f ps x y => simp only [trC] at ht; split at ht <;> (try split at ht) <;> simp at ht
  | _ => simp [trC] at ht
 | pops l kp =>
  intro code hrf ht Q e H β F w a QQ B D D0 h hs hf hm hB hk
  rw [er] at ht
  cases code with
  | region id ops d =>
   cases d with
   | true => exact (Ed ht (by simp) (by simp) (by simp)).elim
   | false =>
    obtain ⟨l', hl, e9⟩ := (AiJ ht).resolve_right (by simp)
    simp only [Af.ops.injEq, and_true] at e9
    subst e9
    rw [vwp] at h
    exact wpIn_region_list (AaO hl h hs hf (fun e' H' β' F' w' a' k1 k2 k3 k4 => hk .nor _ _ _ _ _ _ _ k1 k2 (k3.forget kp) (hm.later k4) k4) fun u H' β' F' w' a' k1 k2 k3 k4 => hk (.pan u) _ _ _ _ _ _ _ k1 k2 k3 (hm.later k4) k4)
  | seq x y => simp only [trC] at ht; split at ht <;> simp at ht
  | cond c x y => simp only [trC] at ht; split at ht <;> simp at ht
  | rangeFunc f ps x y => simp only [trC] at ht; split at ht <;> (try split at ht) <;> simp at ht
  | _ => simp [trC] at ht
 | draw n l kp =>
  intro code hrf ht Q e H β F w a QQ B D D0 h hs hf hm hB hk
  rw [er] at ht
  cases code with
  | region id ops d =>
   cases d with
   | false => exact (Ef ht (by simp) (by simp)).elim
   | true =>
    obtain ⟨bz, hsp⟩ := MQ ((AfH ht).resolve_right (by simp))
    obtain ⟨n', l', e9, hmo, hh⟩ := hsp.resolve_right (by simp)
    simp only [Af.draw.injEq, and_true] at e9
    obtain ⟨rfl, rfl⟩ := e9
    rw [vwp] at h
    rcases hh with ⟨hl, hck⟩ | ⟨π, hp, hl, hck⟩
    ·exact Xa WOk.vop hmo hl hck h hs hf ⟨fun e' H' β' F' w' a' k1 k2 k3 k4 => hk .nor _ _ _ _ _ _ _ k1 k2 (k3.forget kp) (hm.later k4) k4, fun _ _ _ _ _ _ (h : False) => h.elim⟩
    ·exact QL WOk.vop hmo hp hl hck h hs hf ⟨fun e' H' β' F' w' a' k1 k2 k3 k4 => hk .nor _ _ _ _ _ _ _ k1 k2 (k3.forget kp) (hm.later k4) k4, fun _ _ _ _ _ _ (h : False) => h.elim⟩
  | seq x y => simp only [trC] at ht; split at ht <;> simp at ht
  | cond c x y => simp only [trC] at ht; split at ht <;> simp at ht
  | rangeFunc f ps x y => simp only [trC] at ht; split at ht <;> (try split at ht) <;> simp at ht
  | _ => simp [trC] at ht
 | pdraw n l kp =>
  intro code hrf ht Q e H β F w a QQ B D D0 h hs hf hm hB hk
  rw [er] at ht
  cases code with
  | region id ops d =>
   cases d with
   | false => exact (Ef ht (by simp) (by simp)).elim
   | true =>
    obtain ⟨bz, hsp⟩ := MQ ((AfH ht).resolve_right (by simp))
    obtain ⟨n', l', e9, hmo, hh⟩ := hsp.resolve_right (by simp)
    simp only [Af.draw.injEq, and_true] at e9
    obtain ⟨rfl, rfl⟩ := e9
    rw [vwp] at h
    rcases hh with ⟨hl, hck⟩ | ⟨π, hp, hl, hck⟩
    ·exact Xa WOk.pvop hmo hl hck h hs hf ⟨fun e' H' β' F' w' a' k1 k2 k3 k4 => hk .nor _ _ _ _ _ _ _ k1 k2 (k3.forget kp) (hm.later k4) k4, fun u H' β' F' w' a' k1 k2 k3 k4 => hk (.pan u) _ _ _ _ _ _ _ k1 k2 k3 (hm.later k4) k4⟩
    ·exact QL WOk.pvop hmo hp hl hck h hs hf ⟨fun e' H' β' F' w' a' k1 k2 k3 k4 => hk .nor _ _ _ _ _ _ _ k1 k2 (k3.forget kp) (hm.later k4) k4, fun u H' β' F' w' a' k1 k2 k3 k4 => hk (.pan u) _ _ _ _ _ _ _ k1 k2 k3 (hm.later k4) k4⟩
  | seq x y => simp only [trC] at ht; split at ht <;> simp at ht
  | cond c x y => simp only [trC] at ht; split at ht <;> simp at ht
  | rangeFunc f ps x y => simp only [trC] at ht; split at ht <;> (try split at ht) <;> simp at ht
  | _ => simp [trC] at ht
 | sdraw n l kp =>
  intro code hrf ht Q e H β F w a QQ B D D0 h hs hf hm hB hk
  rw [er] at ht
  cases code with
  | region id ops d =>
   cases d with
   | false => exact (Ef ht (by simp) (by simp)).elim
   | true =>
    obtain ⟨bz, hsp⟩ := MQ ((AfH ht).resolve_right (by simp))
    obtain ⟨n', l', e9, hmo, π, hp, hl, hck⟩ := hsp.resolve_left (by simp)
    simp only [Af.sdraw.injEq, and_true] at e9
    obtain ⟨rfl, rfl⟩ := e9
    rw [vwp] at h
    exact QL WOk.pvopS hmo hp hl hck h hs hf ⟨fun e' H' β' F' w' a' k1 k2 k3 k4 => hk .nor _ _ _ _ _ _ _ k1 k2 (k3.forget kp) (hm.later k4) k4, fun u H' β' F' w' a' k1 k2 k3 k4 => hk (.pan u) _ _ _ _ _ _ _ k1 k2 k3 (hm.later k4) k4⟩
  | seq x y => simp only [trC] at ht; split at ht <;> simp at ht
  | cond c x y => simp only [trC] at ht; split at ht <;> simp at ht
  | rangeFunc f ps x y => simp only [trC] at ht; split at ht <;> (try split at ht) <;> simp at ht
  | _ => simp [trC] at ht
 | skip =>
  intro code hrf ht Q e H β F w a QQ B D D0 h hs hf hm hB hk
  rw [er] at ht
  cases code with
  | skip => exact wpIn_skip (hk .nor _ _ _ _ _ _ _ h hs hf hm (AA.refl _ _))
  | label l => exact wpIn_label (hk .nor _ _ _ _ _ _ _ h hs hf hm (AA.refl _ _))
  | region id ops d =>
   cases d
   ·exact (Ef ht (by simp) (by simp)).elim
   ·exact (Ed ht (by simp) (by simp) (by simp)).elim
  | seq x y => simp only [trC] at ht; split at ht <;> simp at ht
  | cond c x y => simp only [trC] at ht; split at ht <;> simp at ht
  | rangeFunc f ps x y => simp only [trC] at ht; split at ht <;> (try split at ht) <;> simp at ht
  | _ => simp [trC] at ht
 | seq x y ihx ihy =>
  intro code hrf ht Q e H β F w a QQ B D D0 h hs hf hm hB hk
  rw [er] at ht
  cases code with
  | region id ops d =>
   cases d
   ·exact (Ef ht (by simp) (by simp)).elim
   ·exact (Ed ht (by simp) (by simp) (by simp)).elim
  | seq cx cy =>
   simp only [trC] at ht
   split at ht
   ·rename_i vx vy hx hy
    simp only [Option.some.injEq, Af.seq.injEq] at ht
    obtain ⟨rfl, rfl⟩ := ht
    rw [vwp] at h
    have hrx : ro = none ∨ Wn x = true := hrf.imp id fun h => by simp only [Wn, Bool.and_eq_true] at h; exact h.1
    have hry : ro = none ∨ Wn y = true := hrf.imp id fun h => by simp only [Wn, Bool.and_eq_true] at h; exact h.2
    refine wpIn_seq (ihx hrx hx h hs hf hm hB ?_)
    intro x e' H' β' F' w' a' D' k1 k2 k3 km k4
    cases x with
    | nor => exact ihy hry hy k1 k2 k3 km (Nat.le_trans hB k4.size) fun x e2 H2 β2 F2 w2 a2 D2 m1 m2 m3 mm m4 => hk _ _ _ _ _ _ _ _ m1 m2 m3 mm (k4.trans m4)
    | exit i => exact hk (.exit i) _ _ _ _ _ _ _ k1 k2 k3 km k4
    | ret => exact hk .ret _ _ _ _ _ _ _ k1 k2 k3 km k4
    | pan u => exact hk (.pan u) _ _ _ _ _ _ _ k1 k2 k3 km k4
   ·simp at ht
  | cond c x y => simp only [trC] at ht; split at ht <;> simp at ht
  | rangeFunc f ps x y => simp only [trC] at ht; split at ht <;> (try split at ht) <;> simp at ht
  | _ => simp [trC] at ht
 | cond c x y ihx ihy =>
  intro code hrf ht Q e H β F w a QQ B D D0 h hs hf hm hB hk
  rw [er] at ht
  cases code with
  | region id ops d =>
   cases d
   ·exact (Ef ht (by simp) (by simp)).elim
   ·exact (Ed ht (by simp) (by simp) (by simp)).elim
  | seq x y => simp only [trC] at ht; split at ht <;> simp at ht
  | cond cc cx cy =>
   simp only [trC] at ht
   split at ht
   ·rename_i vx vy hx hy
    simp only [Option.some.injEq, Af.cond.injEq] at ht
    obtain ⟨rfl, rfl, rfl⟩ := ht
    rw [vwp] at h
    split at h
    ·rename_i t hc
     have hrx : ro = none ∨ Wn x = true := hrf.imp id fun h => by simp only [Wn, Bool.and_eq_true] at h; exact h.1
     have hry : ro = none ∨ Wn y = true := hrf.imp id fun h => by simp only [Wn, Bool.and_eq_true] at h; exact h.2
     refine wpIn_cond_split (hf.env.val hc) (fun htt => ?_) (fun htf => ?_)
     ·rw [if_pos htt] at h; exact ihx hrx hx h hs hf hm hB hk
     ·rw [if_neg (by rw [htf]; simp)] at h; exact ihy hry hy h hs hf hm hB hk
    ·exact h.elim
   ·simp at ht
  | rangeFunc f ps x y => simp only [trC] at ht; split at ht <;> (try split at ht) <;> simp at ht
  | _ => simp [trC] at ht
 | block id x ih =>
  intro code hrf ht Q e H β F w a QQ B D D0 h hs hf hm hB hk
  rw [er] at ht
  cases code with
  | region id ops d =>
   cases d
   ·exact (Ef ht (by simp) (by simp)).elim
   ·exact (Ed ht (by simp) (by simp) (by simp)).elim
  | seq x y => simp only [trC] at ht; split at ht <;> simp at ht
  | cond c x y => simp only [trC] at ht; split at ht <;> simp at ht
  | rangeFunc f ps x y => simp only [trC] at ht; split at ht <;> (try split at ht) <;> simp at ht
  | block id' c =>
   simp only [trC, Option.map_eq_some_iff, Af.block.injEq] at ht
   obtain ⟨vx, hx, rfl, rfl⟩ := ht
   rw [vwp] at h
   refine wpIn_block (ih hrf hx h hs hf hm hB ?_)
   intro x e' H' β' F' w' a' D' k1 k2 k3 km k4
   cases x with
   | nor => exact hk .nor _ _ _ _ _ _ _ k1 k2 k3 km k4
   | exit i =>
    show Exit.inBlock _ QQ (.exit i) a' w'
    simp only [Exit.inBlock]
    simp only at k1
    split at k1
    ·rename_i hi; rw [if_pos hi]; exact hk .nor _ _ _ _ _ _ _ k1 k2 k3 km k4
    ·rename_i hi; rw [if_neg hi]; exact hk (.exit i) _ _ _ _ _ _ _ k1 k2 k3 km k4
   | ret => exact hk .ret _ _ _ _ _ _ _ k1 k2 k3 km k4
   | pan u => exact hk (.pan u) _ _ _ _ _ _ _ k1 k2 k3 km k4
  | _ => simp [trC] at ht
 | loop lv x ih =>
  intro code hrf ht Q e H β F w a QQ B D D0 h hs hf hm hB hk
  rw [er] at ht
  cases code with
  | region id ops d =>
   cases d
   ·exact (Ef ht (by simp) (by simp)).elim
   ·exact (Ed ht (by simp) (by simp) (by simp)).elim
  | seq x y => simp only [trC] at ht; split at ht <;> simp at ht
  | cond c x y => simp only [trC] at ht; split at ht <;> simp at ht
  | rangeFunc f ps x y => simp only [trC] at ht; split at ht <;> (try split at ht) <;> simp at ht
  | loop c =>
   simp only [trC, Option.map_eq_some_iff, Af.loop.injEq] at ht
   obtain ⟨vx, hx, _, rfl⟩ := ht
   rw [vwp] at h
   obtain ⟨I, n, h0, hstep⟩ := h
   refine wpIn_loop_ghost (fun n a' w' => ∃ e' H' β' F' D', I n e' H' ∧ Sim ⟨β', H', F'⟩ w' ∧ Fr N D' ⟨β', H', F'⟩ w' e' a' ∧ MF D0 B ⟨β', H', F'⟩ w' D' ∧ AA ⟨β, H, F⟩ w ⟨β', H', F'⟩ w') n ⟨_, _, _, _, _, h0, hs, hf.forget lv, hm, AA.refl _ _⟩ ?_
   rintro n a' w' ⟨e', H', β', F', D', k1, k2, k3, km, k4⟩
   refine ih hrf hx (hstep n e' H' k1) k2 k3 km (Nat.le_trans hB k4.size) ?_
   intro x e2 H2 β2 F2 w2 a2 D2 m1 m2 m3 mm m4
   cases x with
   | nor =>
    obtain ⟨m, g, hmn, ⟨hg, hb⟩, hI⟩ := m1
    have hf3 := m3.forget lv
    rcases hb with hle | ⟨hbe, hbh⟩
    ·rw [List.take_of_length_le hle] at hI
     exact ⟨m, hmn, _, _, _, _, _, hI, m2, hf3, mm, k4.trans m4⟩
    exact ⟨m, hmn, _, _, _, _, _, hI, m2.cut hbh, ⟨⟨fun s => Rep.cut (Ua hbe s) (hf3.env.1 s), hf3.env.2⟩, hf3.size, hf3.defers⟩, mm.cut, (k4.trans m4).cut hg⟩
   | exit i => exact hk (.exit i) _ _ _ _ _ _ _ m1 m2 m3 mm (k4.trans m4)
   | ret => exact hk .ret _ _ _ _ _ _ _ m1 m2 m3 mm (k4.trans m4)
   | pan u => exact hk (.pan u) _ _ _ _ _ _ _ m1 m2 m3 mm (k4.trans m4)
  | _ => simp [trC] at ht
 | exit id =>
  intro code hrf ht Q e H β F w a QQ B D D0 h hs hf hm hB hk
  rw [er] at ht
  cases code with
  | region id ops d =>
   cases d
   ·exact (Ef ht (by simp) (by simp)).elim
   ·exact (Ed ht (by simp) (by simp) (by simp)).elim
  | seq x y => simp only [trC] at ht; split at ht <;> simp at ht
  | cond c x y => simp only [trC] at ht; split at ht <;> simp at ht
  | rangeFunc f ps x y => simp only [trC] at ht; split at ht <;> (try split at ht) <;> simp at ht
  | exit id' =>
   simp only [trC, Option.some.injEq, Af.exit.injEq] at ht; subst ht
   exact wpIn_exit (hk (.exit _) _ _ _ _ _ _ _ h hs hf hm (AA.refl _ _))
  | _ => simp [trC] at ht
 | ret =>
  intro code hrf ht Q e H β F w a QQ B D D0 h hs hf hm hB hk
  rw [er] at ht
  cases code with
  | region id ops d =>
   cases d
   ·exact (Ef ht (by simp) (by simp)).elim
   ·exact (Ed ht (by simp) (by simp) (by simp)).elim
  | seq x y => simp only [trC] at ht; split at ht <;> simp at ht
  | cond c x y => simp only [trC] at ht; split at ht <;> simp at ht
  | rangeFunc f ps x y => simp only [trC] at ht; split at ht <;> (try split at ht) <;> simp at ht
  | ret => exact wpIn_ret (hk .ret _ _ _ _ _ _ _ h hs hf hm (AA.refl _ _))
  | _ => simp [trC] at ht
 | dead =>
  intro code hrf ht Q e H β F w a QQ B D D0 h
  rw [vwp] at h; exact h.elim
 | scope x ih =>
  intro code hrf ht Q e H β F w a QQ B D D0 h hs hf hm hB hk
  rw [er] at ht
  cases code with
  | region id ops d =>
   cases d
   ·exact (Ef ht (by simp) (by simp)).elim
   ·exact (Ed ht (by simp) (by simp) (by simp)).elim
  | seq x y => simp only [trC] at ht; split at ht <;> simp at ht
  | cond c x y => simp only [trC] at ht; split at ht <;> simp at ht
  | rangeFunc f ps x y => simp only [trC] at ht; split at ht <;> (try split at ht) <;> simp at ht
  | scope c =>
   simp only [trC, Option.map_eq_some_iff, Af.scope.injEq] at ht
   obtain ⟨vx, hx, rfl⟩ := ht
   rw [vwp] at h
   refine Aae (ih hrf hx h hs hf hm hB ?_)
   intro x e' H' β' F' w' a' D' k1 k2 k3 km k4
   cases x with
   | nor => exact hk .nor _ _ _ _ _ _ _ k1 k2 k3 km k4
   | exit i => exact hk (.exit i) _ _ _ _ _ _ _ k1 k2 k3 km k4
   | ret => exact hk .ret _ _ _ _ _ _ _ k1 k2 k3 km k4
   | pan u => exact hk (.pan u) _ _ _ _ _ _ _ k1 k2 k3 km k4
  | _ => simp [trC] at ht
 | own s k x ih =>
  intro code hrf ht Q e H β F w a QQ B D D0 h hs hf hm hB hk
  rw [er] at ht
  rw [vwp] at h
  split at h
  ·rename_i hg
   obtain ⟨k1, k2, k3⟩ := hs.own k
   have hv : a.tmps.getD s undef = .slice none 0 0 := by
    have := hf.env.1 s; rw [hg, Rep.val] at this; exact this
   refine ih hrf ht h k1 ⟨⟨fun s' => ?_, k1.glob⟩, hf.size, hf.defers⟩ (hm.later k2) hB fun x' e' H' β' F' w' a' D' m1 m2 m3 mm m4 => hk x' e' H' β' F' w' a' D' m1 m2 m3 mm (k2.trans m4)
   rw [BK]
   by_cases hss : s = s'
   ·subst hss; rw [if_pos rfl, hv]; exact Rep.of1 k3 (by simp) (by simp)
   ·rw [if_neg hss]; exact Rep.mono (k2.mono hs) (hf.env.1 s')
  ·exact ih hrf ht h hs hf hm hB hk
 | ownB s p k x ih =>
  intro code hrf ht Q e H β F w a QQ B D D0 h hs hf hm hB hk
  rw [er] at ht
  rw [vwp] at h
  split at h
  ·rename_i id ver p0 hg
   split at h
   ·rename_i v y hid
    obtain ⟨rfl, h⟩ := h
    split at h
    ·rename_i hgp
     split at h
     ·rename_i x' hsp
      obtain ⟨k1, k2, k3⟩ := hs.own k
      have hlt : id < H.length := (List.getElem?_eq_some_iff.1 hid).1
      have hid' : (H ++ [Ob.obj 0 (.arr 0 k [])])[id]? = some (.obj v y) := by rw [List.getElem?_append_left hlt]; exact hid
      obtain ⟨q1, q2⟩ := k1.turn (o' := .obj v x') (w' := w) (β' := upd β H.length 0 none) hid' rfl rfl (Nat.le_refl _) (fun _ _ _ => rfl) (fun b off e => .inl ⟨off, e⟩) rfl rfl rfl (Nat.le_refl _) (fun _ _ => rfl) (fun _ _ _ => rfl) (fun hm => by
       rcases k1.ob id _ hid' with ⟨r0, r1⟩ | ⟨b, off, pre, vs, post, t, fr, r0, r1, r2, r3, r4⟩
       ·refine .inl ⟨r0, ?_⟩
        exact Ak.mono hm (Sm r1 hgp (fun m hm' => by rw [Ak] at hm'; rw [hm'.1]; exact k3) hsp)
       ·refine .inr ⟨b, off, pre, vs, post, t, fr, r0, r1, r2, r3, ?_⟩
        exact Ak.mono hm (Sm r4 hgp (fun m hm' => by rw [Ak] at hm'; rw [hm'.1]; exact k3) hsp))
      rw [List.set_append_left _ _ hlt] at q1 q2
      exact ih hrf ht h q1 ⟨⟨fun s' => Rep.mono (q2.mono k1) (Rep.mono (k2.mono hs) (hf.env.1 s')), q1.glob⟩, hf.size, hf.defers⟩ (hm.later (k2.trans q2)) hB fun x' e' H' β' F' w' a' D' m1 m2 m3 mm m4 => hk x' e' H' β' F' w' a' D' m1 m2 m3 mm ((k2.trans q2).trans m4)
     ·exact h.elim
    ·exact ih hrf ht h hs hf hm hB hk
   ·exact h.elim
  ·exact h.elim
 | frz s x ih =>
  intro code hrf ht Q e H β F w a QQ B D D0 h hs hf hm hB hk
  rw [er] at ht
  rw [vwp] at h
  split at h
  ·rename_i k id ver p off n cp hg
   split at h
   ·rename_i v y hid
    obtain ⟨rfl, h⟩ := h
    split at h
    ·rename_i cs hcs
     obtain ⟨k1, k2⟩ := hs.freeze hid rfl
     have hr : Rep ⟨β, H, F⟩ w (get e s) (a.tmps.getD s undef) := hf.env.1 s
     rw [hg] at hr
     have hr' : Rep ⟨β, H.set id (.gone v), fun b => F b ∨ ∃ off, β id v = some (b, off)⟩ w (.sl k cs) (a.tmps.getD s undef) := by
      rcases hr with (hr | hr | ⟨us, hr, hr2⟩) | ⟨xs, vs, hr, _⟩
      ·cases hr
      ·cases hr
      ·exact .inl (.inr (.inr ⟨us, hs.give hid hcs hr, by rw [hr2]; rfl⟩))
      ·cases hr
     refine ih hrf ht h k1 ⟨⟨fun s' => ?_, k1.glob⟩, hf.size, hf.defers⟩ (hm.later k2) hB fun x' e' H' β' F' w' a' D' m1 m2 m3 mm m4 => hk x' e' H' β' F' w' a' D' m1 m2 m3 mm (k2.trans m4)
     rw [BK]
     by_cases hss : s = s'
     ·subst hss; rw [if_pos rfl]; exact hr'
     ·rw [if_neg hss]; exact Rep.mono (k2.mono hs) (hf.env.1 s')
    ·exact h.elim
   ·exact h.elim
  ·exact h.elim
 | ownT s p t x ih =>
  intro code hrf ht Q e H β F w a QQ B D D0 h hs hf hm hB hk
  rw [er] at ht
  rw [vwp] at h
  split at h
  ·rename_i id ver p0 hg
   split at h
   ·rename_i v y hid
    obtain ⟨rfl, h⟩ := h
    split at h
    ·rename_i hgp
     split at h
     ·rename_i x' hsp
      obtain ⟨k1, k2, k3⟩ := hs.ownBld t
      have hlt : id < H.length := (List.getElem?_eq_some_iff.1 hid).1
      have hid' : (H ++ [Ob.bld 0 t []])[id]? = some (.obj v y) := by rw [List.getElem?_append_left hlt]; exact hid
      obtain ⟨q1, q2⟩ := k1.turn (o' := .obj v x') (w' := w) (β' := upd β H.length 0 none) hid' rfl rfl (Nat.le_refl _) (fun _ _ _ => rfl) (fun b off e => .inl ⟨off, e⟩) rfl rfl rfl (Nat.le_refl _) (fun _ _ => rfl) (fun _ _ _ => rfl) (fun hm => by
       rcases k1.ob id _ hid' with ⟨r0, r1⟩ | ⟨b, off, pre, vs, post, t, fr, r0, r1, r2, r3, r4⟩
       ·refine .inl ⟨r0, ?_⟩
        exact Ak.mono hm (Sm r1 hgp (fun m hm' => by rw [Ak] at hm'; rw [hm'.1]; exact k3) hsp)
       ·refine .inr ⟨b, off, pre, vs, post, t, fr, r0, r1, r2, r3, ?_⟩
        exact Ak.mono hm (Sm r4 hgp (fun m hm' => by rw [Ak] at hm'; rw [hm'.1]; exact k3) hsp))
      rw [List.set_append_left _ _ hlt] at q1 q2
      exact ih hrf ht h q1 ⟨⟨fun s' => Rep.mono (q2.mono k1) (Rep.mono (k2.mono hs) (hf.env.1 s')), q1.glob⟩, hf.size, hf.defers⟩ (hm.later (k2.trans q2)) hB fun x' e' H' β' F' w' a' D' m1 m2 m3 mm m4 => hk x' e' H' β' F' w' a' D' m1 m2 m3 mm ((k2.trans q2).trans m4)
     ·exact h.elim
    ·exact ih hrf ht h hs hf hm hB hk
   ·exact h.elim
  ·exact h.elim
 | rfunc g0 ps aS bd iha ihb =>
  intro code hrf ht Q e H β F w a QQ B D D0 h hs hf hm hB hk
  obtain rfl : ro = none := hrf.resolve_right (by simp [Wn])
  rw [er] at ht
  cases code with
  | region id ops d =>
   cases d
   ·exact (Ef ht (by simp) (by simp)).elim
   ·exact (Ed ht (by simp) (by simp) (by simp)).elim
  | seq x y => simp only [trC] at ht; split at ht <;> simp at ht
  | cond c x y => simp only [trC] at ht; split at ht <;> simp at ht
  | rangeFunc f0 ps0 ca cb =>
   simp only [trC] at ht
   split at ht
   ·rename_i hps
    split at ht
    ·rename_i va vb hca hcb
     simp only [Option.some.injEq, Af.rfunc.injEq] at ht
     obtain ⟨rfl, rfl, rfl, rfl⟩ := ht
     rw [vwp] at h
     obtain ⟨-, -, h⟩ := h
     split at h
     ·rename_i g first caps hg
      obtain ⟨hgo, h⟩ := h
      have hr : Rep ⟨β, H, F⟩ w (.fn (.func g) first caps) (a.eval f0) := hf.env.rep (x := f0) hg
      have h1 := hr.inv1 (by simp) (by simp) (by simp) (by simp) (by simp)
      rw [Ak] at h1
      obtain ⟨us, vs, hv1, hfi, hc⟩ := h1
      have hv' : a.eval f0 = .func (.func g) us.toArray vs.toArray := by simpa using hv1
      refine VU hs hf hm hB hv' hgo hfi hc (fun fn => h N fn ca cb ⟨hca, hcb, hps⟩) hk
     ·rename_i g xs ys hg
      obtain ⟨hxy, hgo, h⟩ := h
      rw [Bool.and_eq_true, Array.isEmpty_iff, Array.isEmpty_iff] at hxy
      obtain ⟨rfl, rfl⟩ := hxy
      have hv' : a.eval f0 = .func (.func g) #[] #[] := hf.env.val hg
      refine VU (us := []) (vs := []) (first := []) (caps := []) hs hf hm hB hv' hgo (by rw [Bg]) (by rw [Bg]) (fun fn => by simpa using h N fn ca cb ⟨hca, hcb, hps⟩) hk
     ·exact h.elim
    ·cases ht
   ·cases ht
  | _ => simp [trC] at ht
end sound
end Go.Proofs.YtmlompedpahkjaaDoor


namespace Go.Proofs.YtmlompedpahkjaaDoor
open Go.RowKit
variable [BA]
set_option linter.unusedSectionVars false
set_option linter.unusedSimpArgs false
set_option linter.unusedVariables false
set_option autoImplicit false

inductive VR where
 | tmp (t : Nat)
 | cell (a : Nat) (ag : Bool) (sz : Nat)
 deriving Inhabited
def trR (P : Program) : List ResultVar → Option (List VR)
 | [] => some []
 | .tmp t :: r => (trR P r).map (.tmp t :: ·)
 | .cell a t :: r => match U8 P t, NW P t, trR P r with
  | some ag, some sz, some r => some (.cell a ag sz :: r)
  | _, _, _ => none

def ZQ : List VR → Env → List Ob → (List TV → Prop) → Prop
 | [], e, H, K => K []
 | .tmp t :: r, e, H, K => ZQ r e H fun xs => K (get e t :: xs)
 | .cell a ag sz :: r, e, H, K => pop (.load ag sz (.t a)) e H fun x => ZQ r e H fun xs => K (x :: xs)
def res (r : List VR) (e : Env) (H : List Ob) (K : TV → Prop) : Prop := ZQ r e H fun xs => match xs with
 | [x] => K x
 | xs => (∀ x ∈ xs, CG x = false) ∧ K (.tup xs)

section
variable {P : Program}
/-- A result that is read. -/
def rv (a : Act) (r : ResultVar) : Sem Value := match r with
 | .tmp t => pure (a.tmps.getD t undef)
 | .cell x t => do loadVar t (← asAddr (a.tmps.getD x undef))

theorem X4 {c : Ctx} {w : World} {e : Env} {a : Act} (hs : Sim c w) (he : AC c w e a) : ∀ {rs : List ResultVar} {vr : List VR} {K : List TV → Prop}, trR P rs = some vr → ZQ vr e c.H K →
  ∃ (xs : List TV) (vs : List Value), (rs.mapM (rv a)).run P w = .ok vs w ∧ xs.length = vs.length ∧ (∀ (i : Nat) x v, xs[i]? = some x → vs[i]? = some v → Rep c w x v) ∧ K xs
 | [], vr, K, ht, h => by
  simp only [trR, Option.some.injEq] at ht; subst ht
  exact ⟨[], [], rfl, rfl, by simp, h⟩
 | .tmp t :: rs, vr, K, ht, h => by
  simp only [trR, Option.map_eq_some_iff] at ht
  obtain ⟨r, hr, rfl⟩ := ht
  rw [ZQ] at h
  obtain ⟨xs, vs, h1, h2, h3, h4⟩ := X4 hs he hr h
  refine ⟨get e t :: xs, a.tmps.getD t undef :: vs, by rw [List.mapM_cons]; simp only [rv, Sem.run_bind, Sem.run_pure, Result.andThen_ok, h1], by simp [h2], ?_, h4⟩
  intro i x v hx hv
  cases i with
  | zero => simp at hx hv; subst hx; subst hv; simpa using he.1 t
  | succ i => exact h3 i x v (by simpa using hx) (by simpa using hv)
 | .cell b t :: rs, vr, K, ht, h => by
  simp only [trR] at ht
  split at ht
  ·rename_i ag sz r h1 h2 hr
   cases ht
   rw [ZQ] at h
   have hy := Ai4 (P := P) (a := a) (ty := 0) hs he h1 h2 (x := .tmp b) h
   obtain ⟨x, v, hrun, hx, hK⟩ := hy ⟨none, .load t (.tmp b), 0, "", #[], none⟩ rfl rfl
   have hload : (do loadVar t (← asAddr (a.tmps.getD b undef)) : Sem Value).run P w = .ok v w := by
    simp only [execOp, Instr.loadAt, Sem.run_bind, Act.eval] at hrun
    simp only [Sem.run_bind]
    cases hp : a.tmps.getD b undef with
    | pointer p =>
     rw [hp] at hrun
     cases p with
     | none => simp [Instr.sureAddr, stuck] at hrun
     | some ad =>
      simp only [Instr.sureAddr, Sem.run_pure, Result.andThen_ok, asAddr] at hrun ⊢
      cases hl : (loadVar t ad).run P w with
      | ok u w2 => rw [hl] at hrun; simp only [Result.andThen_ok, Sem.run_pure] at hrun; cases hrun; rfl
      | halt hh w2 => rw [hl] at hrun; simp at hrun
    | _ => rw [hp] at hrun; simp [Instr.sureAddr, stuck] at hrun
   obtain ⟨xs, vs, h3, h4, h5, h6⟩ := X4 hs he hr hK
   refine ⟨x :: xs, v :: vs, by rw [List.mapM_cons, Sem.run_bind]; show Result.andThen ((rv a (.cell b t)).run P w) _ = _; rw [show (rv a (.cell b t)).run P w = .ok v w from hload]; simp only [Result.andThen_ok, Sem.run_bind, h3, Sem.run_pure], by simp [h4], ?_, h6⟩
   intro i y u hy hu
   cases i with
   | zero => simp at hy hu; subst hy; subst hu; exact hx
   | succ i => exact h5 i y u (by simpa using hy) (by simpa using hu)
  ·cases ht

theorem Aj2 {c : Ctx} {w : World} {e : Env} {a : Act} (hs : Sim c w) (he : AC c w e a) {fn : Func} {vr : List VR} {K : TV → Prop} (ht : trR P fn.results.toList = some vr) (h : res vr e c.H K) :
  ∃ x v, (results fn a.tmps).run P w = .ok v w ∧ Rep c w x v ∧ K x := by
 obtain ⟨xs, vs, h1, h2, h3, h4⟩ := X4 hs he ht h
 have hrun : (fn.results.mapM (rv a)).run P w = .ok vs.toArray w := by
  rw [Array.mapM_eq_mapM_toList]
  simp only [Sem.run_map, h1, Result.andThen_ok]
 have hres : (results fn a.tmps).run P w = .ok (if h : vs.toArray.size = 1 then vs.toArray[0] else .tuple vs.toArray) w := by
  have : results fn a.tmps = (do let vs ← fn.results.mapM (rv a); pure (if h : vs.size = 1 then vs[0] else .tuple vs)) := rfl
  rw [this, Sem.run_bind, hrun]; rfl
 rcases xs with _ | ⟨x, _ | ⟨y, xs⟩⟩
 ·have hv : vs = [] := List.length_eq_zero_iff.1 (by simpa using h2.symm)
  subst hv
  exact ⟨_, _, hres, .inr ⟨[], [], rfl, rfl, by rw [Bg]⟩, h4.2⟩
 ·obtain ⟨v, rfl⟩ := List.length_eq_one_iff.1 (by simpa using h2.symm)
  exact ⟨_, _, hres, h3 0 x v rfl rfl, h4⟩
 ·rcases vs with _ | ⟨u, _ | ⟨v, vs⟩⟩
  ·simp at h2
  ·simp at h2
  ·refine ⟨_, _, hres, .inr ⟨_, u :: v :: vs, rfl, by simp, ?_⟩, h4.2⟩
   have key : ∀ (xs : List TV) (vs : List Value), xs.length = vs.length → (∀ x ∈ xs, CG x = false) → (∀ (i : Nat) x v, xs[i]? = some x → vs[i]? = some v → Rep c w x v) → Bg c w xs vs := by
    intro xs
    induction xs with
    | nil => intro vs h _ _; rw [Bg]; exact List.length_eq_zero_iff.1 h.symm
    | cons x xs ih =>
     intro vs hl ht hr
     cases vs with
     | nil => simp at hl
     | cons v vs =>
      refine Bg.cons.2 ⟨v, vs, rfl, ?_, ih vs (by simpa using hl) (fun y hy => ht y (by simp [hy])) fun i y u hy hu => hr (i + 1) y u (by simpa using hy) (by simpa using hu)⟩
      rcases hr 0 x v rfl rfl with h | ⟨ys, us, rfl, _⟩
      ·exact h
      ·have := ht (.tup ys) (by simp); simp [CG] at this
   exact key _ _ h2 h4.1 h3

def XH : Nat → List TV → Env
 | _, [] => []
 | i, x :: xs => (i, x) :: XH (i + 1) xs
theorem ZL : ∀ (xs : List TV) (i s : Nat), get (XH i xs) s = if i ≤ s then (xs[s - i]?).getD .any else .any
 | [], i, s => by simp [XH, get]
 | x :: xs, i, s => by
  rw [XH, BK, ZL xs (i + 1) s]
  by_cases h : i = s
  ·subst h; simp
  ·rw [if_neg h]
   by_cases h2 : i ≤ s
   ·rw [if_pos (by omega), if_pos h2, show s - i = (s - (i + 1)) + 1 from by omega, List.getElem?_cons_succ]
   ·rw [if_neg (by omega), if_neg h2]

theorem Bg.get {c : Ctx} {w : World} : ∀ {xs : List TV} {vs : List Value}, Bg c w xs vs → xs.length = vs.length ∧ ∀ (i : Nat) x, xs[i]? = some x → ∃ v, vs[i]? = some v ∧ Rep c w x v
 | [], vs, h => by rw [Bg] at h; subst h; simp
 | x :: xs, vs, h => by
  obtain ⟨u, us, rfl, h1, h2⟩ := Bg.cons.1 h
  obtain ⟨h3, h4⟩ := Bg.get h2
  refine ⟨by simp [h3], fun i y hy => ?_⟩
  cases i with
  | zero => simp at hy; subst hy; exact ⟨u, rfl, .inl h1⟩
  | succ i => simpa using h4 i y (by simpa using hy)

/-- The end of a body. -/
def NU (vr : List VR) (R : TV → List Ob → Prop) : VEx → Env → List Ob → Prop
 | .nor, e, H => res vr e H fun x => R x H
 | .ret, e, H => res vr e H fun x => R x H
 | .exit _, _, _ => False
 | .pan _, _, _ => False

/-- A block that is nobody's turns. -/
theorem Sim.nobody {c : Ctx} {w : World} (hs : Sim c w) {r : Nat} {o o' : Obj} (hr : w.heap[r]? = some o) (h1 : ¬ c.own r) (h2 : ¬ c.F r) (hsh : (w.putObj r o').shape? r = w.shape? r) : Sim c (w.putObj r o') ∧ F8 c w c (w.putObj r o') := by
 have hoth : ∀ b, b ≠ r → (w.putObj r o').heap[b]? = w.heap[b]? := fun b hb => World.putObj_heap_other hb
 have hm : F8 c w c (w.putObj r o') := ⟨fun b hb => ⟨hb, hoth b fun e => h2 (e ▸ hb)⟩, fun _ _ h => ⟨h, rfl⟩, fun b _ => by
  by_cases hb : b = r
  ·subst hb; exact hsh
  ·exact Bq (hoth b hb)⟩
 refine ⟨⟨fun id ob ho => Y8.mono hm (Ctx.has_of ho) (fun hl b off hb => hoth b fun e => h1 (e ▸ Ctx.own_of ho hl hb)) (hs.ob id ob ho), hs.inj, hs.apart, fun b hb => ?_, hs.glob.keep hm.stay⟩, hm⟩
 rw [(N9 w r o').2.2.2]; exact hs.lt b hb
theorem AA.nobody {c0 c : Ctx} {w0 w : World} (h : AA c0 w0 c w) {r : Nat} {o' : Obj} (hr : w0.heap.size ≤ r) : AA c0 w0 c (w.putObj r o') :=
 ⟨h.os, h.tape, h.output, by rw [(N9 w r o').2.2.2]; exact h.size, h.has, fun b hb => (Bq (World.putObj_heap_other (by omega))).trans (h.shape b hb), fun b hb ho => (World.putObj_heap_other (by omega)).trans (h.same b hb ho), h.keepF, h.oldF, h.oldOwn⟩
/-- The Bo are shut on the way out. -/
theorem MF.shut {D0 : List Deferred} {u : FrameMode} (hu : u ≠ .run) {FF : Fence} {n : Nat} {fn : Func} {tmps : Array Value} {R : Ending → World → Prop} {B : Nat} {c : Ctx} : ∀ {D : List Deferred} {w : World}, MF D0 B c w D → Sim c w →
  ∃ wF, (LeavesInM FF n P fn tmps R D0 u wF → LeavesInM FF n P fn tmps R D u w) ∧ Sim c wF ∧ F8 c w c wF ∧ ∀ (c0 : Ctx) (w0 : World), w0.heap.size ≤ B → AA c0 w0 c w → AA c0 w0 c wF := by
 rintro D w ⟨ds, rfl, hnd, hds⟩ hs
 induction ds generalizing w with
 | nil => exact ⟨w, fun h => h, hs, F8.heap rfl, fun c0 w0 _ h => h⟩
 | cons r ds ih =>
  obtain ⟨k1, k2, k3, k4, k5⟩ := hds r (by simp)
  rw [List.nodup_cons] at hnd
  have hput := World.putObj_heap_same (w := w) (o := .deferred none) k2
  obtain ⟨s1, s2⟩ := hs.nobody (o' := .deferred none) k5 k3 k4 (by simp [World.shape?, hput, k5])
  obtain ⟨wF, e1, e2, e3, e4⟩ := ih (w := w.putObj r (.deferred none)) hnd.2 (fun q hq => by
   obtain ⟨q1, q2, q3, q4, q5⟩ := hds q (by simp [hq])
   have hne : q ≠ r := fun e => hnd.1 (e ▸ hq)
   exact ⟨q1, by rw [(N9 w r _).2.2.2]; exact q2, q3, q4, (World.putObj_heap_other hne).trans q5⟩) s1
  refine ⟨wF, fun h => ⟨hu, .inl ⟨r, _, rfl, run_takeDeferred k5, e1 h⟩⟩, e2, ⟨fun b hb => ⟨hb, ((e3.stay b hb).2).trans (s2.stay b hb).2⟩, fun _ _ h => ⟨h, rfl⟩, fun b hb => (e3.shape b (by rw [(N9 w r _).2.2.2]; exact hb)).trans (s2.shape b hb)⟩, fun c0 w0 hB hl => e4 c0 w0 hB (hl.nobody (by omega))⟩

/-- A FUNCTION: out of its body's condition. -/
theorem AeJ {f : FuncId} {fn : Func} {vc : Af} {vr : List VR} {args : List TV} {H : List Ob} {R : TV → List Ob → Prop} (hf : P.funcs[f]? = some fn) (ht : fn.body.bind (trC P fn.ntmps) = some (er vc)) (hr : trR P fn.results.toList = some vr)
  (hn : args.length ≤ fn.ntmps) (h : vwp P vc (NU vr R) (XH 0 args) H) : Ap P f args H R := by
 obtain ⟨code, hb, ht⟩ := Option.bind_eq_some_iff.1 ht
 intro β F w vs hs hv
 obtain ⟨hl, hget⟩ := Bg.get hv
 refine (callsIn_wide (n := 0)).1 (callsIn_of_wp_marks hf hb trivial ?_)
 refine AdK (ro := none) (nn := 0) (B := w.heap.size) (D := []) (D0 := []) vc (.inl rfl) ht h hs ⟨⟨fun s => ?_, hs.glob⟩, by simp; omega, rfl⟩ MF.nil (Nat.le_refl _) ?_
 ·rw [ZL]
  simp only [Nat.zero_le, if_true, Nat.sub_zero]
  cases hx : args[s]? with
  | none => exact Rep.any
  | some x =>
   obtain ⟨v, hv1, hv2⟩ := hget s x hx
   have hs' : s < vs.length := (List.getElem?_eq_some_iff.1 hv1).1
   have : ((vs.toArray ++ Array.replicate (fn.ntmps - vs.toArray.size) undef).getD s undef) = v := by
    rw [Array.getD_eq_getD_getElem?, Array.getElem?_append_left (by simpa using hs')]
    simp [hv1]
   rw [this]; exact hv2
 ·intro x e' H' β' F' w' a' D' k1 k2 k3 km k4
  have fin : res vr e' H' (fun x => R x H') → LeavesInM Fence.wide 0 P fn a'.tmps (fun e w' => ∃ v x β' H' F', e = .returned v ∧ R x H' ∧ Sim ⟨β', H', F'⟩ w' ∧ AA ⟨β, H, F⟩ w ⟨β', H', F'⟩ w' ∧ Rep ⟨β', H', F'⟩ w' x v) a'.defers .returning w' := fun h => by
   rw [k3.defers]
   obtain ⟨wF, e1, e2, e3, e4⟩ := MF.shut (D0 := []) (u := .returning) (by simp) (P := P) (FF := Fence.wide) (n := 0) (fn := fn) (tmps := a'.tmps) (R := fun e w' => ∃ v x β' H' F', e = .returned v ∧ R x H' ∧ Sim ⟨β', H', F'⟩ w' ∧ AA ⟨β, H, F⟩ w ⟨β', H', F'⟩ w' ∧ Rep ⟨β', H', F'⟩ w' x v) km k2
   obtain ⟨y, v, r1, r2, r3⟩ := Aj2 (fn := fn) (a := a') e2 ⟨fun s => Rep.mono e3 (k3.env.1 s), e2.glob⟩ hr h
   exact e1 ⟨v, r1, v, y, β', H', F', rfl, r3, e2, e4 _ _ (Nat.le_refl _) k4, r2⟩
  cases x with
  | nor => exact fin k1
  | ret => exact fin k1
  | exit i => exact k1.elim
  | pan u => exact k1.elim

/-- The end of a body that may panic. -/
def AcU (vr : List VR) (R : TV → List Ob → Prop) (RP : Value → List Ob → Prop) : VEx → Env → List Ob → Prop
 | .nor, e, H => res vr e H fun x => R x H
 | .ret, e, H => res vr e H fun x => R x H
 | .exit _, _, _ => False
 | .pan u, _, H => RP u H



/-- Nothing that was there has turned. -/
structure NT (F : Nat → Prop) (w : World) (F' : Nat → Prop) (w' : World) : Prop where
 os : w'.os = w.os
 tape : w'.tape = w.tape
 output : w'.output = w.output
 size : w.heap.size ≤ w'.heap.size
 same : ∀ b, b < w.heap.size → w'.heap[b]? = w.heap[b]?
 keepF : ∀ b, F b → F' b
 oldF : ∀ b, b < w.heap.size → F' b → F b
 ltF : ∀ b, F' b → b < w'.heap.size

/-- A CALL THAT LEAVES NOTHING BEHIND but new memory that nobody changes any more. -/
def D5 (P : Program) (f : FuncId) (args : List TV) (R : TV → Prop) : Prop :=
 ∀ (β : Nat → Nat → Option (Nat × Nat)) (F : Nat → Prop) (w : World) (vs : List Value), ((∀ b, F b → b < w.heap.size) ∧ JW F w) → Bg ⟨β, [], F⟩ w args vs →
  Calls P f vs.toArray w fun e w' => ∃ v x F', e = .returned v ∧ R x ∧ Rep ⟨β, [], F'⟩ w' x v ∧ NT F w F' w'

theorem D5.mono {f : FuncId} {args : List TV} {R R' : TV → Prop} (h : D5 P f args R) (hr : ∀ x, R x → R' x) : D5 P f args R' :=
 fun β F w vs hF hv => (h β F w vs hF hv).mono fun _ _ ⟨v, x, F', h1, h2, h3⟩ => ⟨v, x, F', h1, hr _ h2, h3⟩

theorem Ap.toPure {f : FuncId} {args : List TV} {R : TV → Prop} (h : Ap P f args [] fun x H' => match frz H' x with | some y => R y | none => False) : D5 P f args R := by
 intro β F w vs hF hv
 have hs : Sim ⟨β, [], F⟩ w := ⟨fun id o ho => by simp at ho, fun i j x y b o o' hx => by simp at hx, fun b hb => by obtain ⟨i, o, off, h1, _⟩ := hb; simp at h1, hF.1, hF.2⟩
 refine (h β F w vs hs hv).mono ?_
 rintro _ w' ⟨v, x, β', H', F', rfl, hR, hs', hl, hx⟩
 split at hR
 ·rename_i y hy
  have hno : ∀ b, ¬ Ctx.own ⟨β, [], F⟩ b := fun b hb => by obtain ⟨i, o, off, h1, _⟩ := hb; simp at h1
  have hr := Aln hs' hy hx
  refine ⟨v, y, fun b => F' b ∨ Ctx.own ⟨β', H', F'⟩ b, rfl, hR, Rep.mono (F8.toBare [] β) hr, ⟨hl.os, hl.tape, hl.output, hl.size, fun b hb => hl.same b hb (hno b), fun b hb => .inl (hl.keepF b hb), fun b hb hF' => ?_, fun b hF' => hF'.elim (hs'.lt b) hs'.own_lt⟩⟩
  rcases hF' with hF' | hF'
  ·exact (hl.oldF b hb hF').resolve_right (hno b)
  ·exact absurd (hl.oldOwn b hb hF') (hno b)
 ·exact hR.elim

theorem NT.later {β : Nat → Nat → Option (Nat × Nat)} {H : List Ob} {F F' : Nat → Prop} {w w' : World} (h : NT F w F' w') : AA ⟨β, H, F⟩ w ⟨β, H, F'⟩ w' :=
 ⟨h.os, h.tape, h.output, h.size, fun id v ⟨o, h1, h2⟩ => ⟨⟨o, h1, h2⟩, rfl⟩, fun b hb => Bq (h.same b hb), fun b hb _ => h.same b hb, h.keepF, fun b hb hF => .inl (h.oldF b hb hF), fun b hb ⟨i, o, off, h1, h2, h3⟩ => ⟨i, o, off, h1, h2, h3⟩⟩
theorem NT.sim {β : Nat → Nat → Option (Nat × Nat)} {H : List Ob} {F F' : Nat → Prop} {w w' : World} (hs : Sim ⟨β, H, F⟩ w) (h : NT F w F' w') : Sim ⟨β, H, F'⟩ w' := by
 have hm : F8 ⟨β, H, F⟩ w ⟨β, H, F'⟩ w' := ⟨fun b hb => ⟨h.keepF b hb, h.same b (hs.lt b hb)⟩, fun id v ⟨o, h1, h2⟩ => ⟨⟨o, h1, h2⟩, rfl⟩, fun b hb => Bq (h.same b hb)⟩
 refine ⟨fun id o ho => Y8.mono hm ⟨o, ho, Nat.le_refl _⟩ (fun hl b off hb => h.same b (hs.own_lt ⟨id, o, off, ho, hl, hb⟩)) (hs.ob id o ho), hs.inj, fun b hb hF => ?_, h.ltF, hs.glob.keep hm.stay⟩
 obtain ⟨i, o, off, h1, h2, h3⟩ := hb
 have ho : Ctx.own ⟨β, H, F⟩ b := ⟨i, o, off, h1, h2, h3⟩
 exact hs.apart b ho (h.oldF b (hs.own_lt ho) hF)

/-- Such a call, with nothing lent. -/
theorem D5.calls {f : FuncId} {args : List TV} {R : TV → Prop} {H : List Ob} {K : TV → List Ob → Prop} (h : D5 P f args R) (hp : CU args = true) (hk : ∀ x, R x → K x H) : Ap P f args H K := by
 intro β F w vs hs hv
 refine (h β F w vs ⟨hs.lt, hs.glob⟩ (Bg.pure hp hv)).mono ?_
 rintro _ w' ⟨v, x, F', rfl, hR, hx, hst⟩
 exact ⟨v, x, β, H, F', rfl, hk x hR, hst.sim hs, hst.later, Rep.mono (F8.toBare H β) hx⟩

/-- Such a call, to which objects are lent: it yields no memory. -/
theorem D5.lends {f : FuncId} {args args' : List TV} {R : TV → Prop} {H : List Ob} {K : TV → List Ob → Prop} (h : D5 P f args' R) (hp : AoK H args = some args') (hk : ∀ x, R x → W9 x = true ∧ K x H) : Ap P f args H K := by
 intro β F w vs hs hv
 refine (h β (fun b => F b ∨ Ctx.own ⟨β, H, F⟩ b) w vs ⟨fun b hb => hb.elim (hs.lt b) hs.own_lt, hs.glob.keep fun b hb => ⟨.inl hb, rfl⟩⟩ (Abz hs hp hv)).mono ?_
 rintro _ w' ⟨v, x, F', rfl, hR, hx, hst⟩
 obtain ⟨hsc, hK⟩ := hk x hR
 have hst' : NT F w F w' := ⟨hst.os, hst.tape, hst.output, hst.size, hst.same, fun _ h => h, fun _ _ h => h, fun b hb => Nat.lt_of_lt_of_le (hs.lt b hb) hst.size⟩
 exact ⟨v, x, β, H, F, rfl, hK, hst'.sim hs, hst'.later, AiS hsc hx⟩

theorem F8.ofF {β β' : Nat → Nat → Option (Nat × Nat)} {H : List Ob} {F F' : Nat → Prop} {w : World} (h : ∀ b, F b → F' b) : F8 ⟨β, [], F⟩ w ⟨β', H, F'⟩ w :=
 ⟨fun b hb => ⟨h b hb, rfl⟩, fun id v h => by obtain ⟨o, h, _⟩ := h; simp at h, fun _ _ => rfl⟩
mutual
/-- The reading of a result, where all memory in it is one's own, its elements without memory. -/
def frs (H : List Ob) : TV → Option TV
 | .val v => some (.val v)
 | .any => some .any
 | .os k id ver p off n cp => match H[id]? with
  | some (.obj v x) => if v = ver then (match Dh p k off n x with
   | some cs => if Jq cs then some (.sl k cs) else none
   | none => none) else none
  | _ => none
 | .agg cs => (ZR H cs).map .agg
 | .arr n k cs => if Jq cs then some (.arr n k cs) else none
 | .tup cs => (ZR H cs).map .tup
 | .ifc t x => (frs H x).map (.ifc t)
 | _ => none
def ZR (H : List Ob) : List TV → Option (List TV)
 | [] => some []
 | x :: xs => match frs H x, ZR H xs with
  | some x, some xs => some (x :: xs)
  | _, _ => none
end

/-- Only one's own Bo. -/
def Ctx.mine (c : Ctx) : Ctx := ⟨c.β, [], c.own⟩

theorem XF {p : List (Nat × Nat)} {k off : Nat} {x : TV} {cs : List TV} (h : Dh p k off 0 x = some cs) : cs = [] := by
 unfold Dh at h
 split at h
 ·split at h
  ·cases h; simp
  ·cases h
 ·cases h

mutual
theorem XG {c : Ctx} {w : World} (hs : Sim c w) : ∀ {x x' : TV} {us : List Value}, frs c.H x = some x' → Ak c w x us → Ak c.mine w x' us
 | .val y, x', us, hf, hr => by simp only [frs, Option.some.injEq] at hf; subst hf; rw [Ak] at hr ⊢; exact hr
 | .any, x', us, hf, hr => by simp only [frs, Option.some.injEq] at hf; subst hf; rw [Ak] at hr ⊢; exact hr
 | .mp _ _, x', us, hf, hr => by simp [frs] at hf
 | .yl _ _, x', us, hf, hr => by simp [frs] at hf
 | .sl k cs, x', us, hf, hr => by simp [frs] at hf
 | .fp x, x', us, hf, hr => by simp [frs] at hf
 | .op id ver p, x', us, hf, hr => by simp [frs] at hf
 | .fn f a b, x', us, hf, hr => by simp [frs] at hf
 | .os k id ver p off n cp, x', us, hf, hr => by
  rw [Ak] at hr
  obtain ⟨hr1, hr2⟩ := hr
  rw [frs] at hf
  split at hf
  ·rename_i ver' x hid
   split at hf
   ·rename_i e; subst e
    split at hf
    ·rename_i cs hcs
     split at hf
     ·rename_i hsc
      cases hf
      rcases hr2 with ⟨rfl, a0, hr2, _⟩ | ⟨b0, o0, cap, t0, m0, hr2, hr3, hr4, hr5, hr6, hr7⟩
      ·have := XF hcs
       subst this
       rw [Ak]
       exact ⟨by simp, .inl ⟨rfl, a0, 0, hr2, by omega⟩⟩
      rcases hs.ob id _ hid with ⟨h0, _⟩ | ⟨b, off', pre, vs, post, t, fr, h0, h1, h2, h3, h4⟩
      ·rw [h0] at hr2; cases hr2
      rw [h0] at hr2
      obtain ⟨rfl, rfl⟩ : b = b0 ∧ off' = o0 := by simpa using hr2
      obtain ⟨a, m, q, rfl, k1, k2, k3, k4⟩ := Ky h4 hcs
      rw [Ak]
      refine ⟨k3, .inr ⟨b, off' + Dz p + off * k, cap, m, by rw [k4]; exact hr3, by omega, hr5, ⟨id, _, off', hid, rfl, h0⟩, IK hsc k2, ?_⟩⟩
      have e : off' + Dz p + off * k = pre.length + a.length := by rw [h3, k1]; omega
      rw [e]; exact Ff h1
     ·cases hf
    ·cases hf
   ·cases hf
  ·cases hf
 | .agg cs, x', us, hf, hr => by
  simp only [frs, Option.map_eq_some_iff] at hf
  obtain ⟨ds, hds, rfl⟩ := hf
  rw [Ak] at hr ⊢
  exact ZB hs hds hr
 | .arr n k cs, x', us, hf, hr => by
  rw [frs] at hf
  split at hf
  ·rename_i hsc; cases hf; rw [Ak] at hr ⊢; exact ⟨hr.1, hr.2.1, IK hsc hr.2.2⟩
  ·cases hf
 | .tup cs, x', us, hf, hr => by rw [Ak] at hr; exact hr.elim
 | .ifc t x, x', us, hf, hr => by
  simp only [frs, Option.map_eq_some_iff] at hf
  obtain ⟨y, hy, rfl⟩ := hf
  rw [Ak] at hr ⊢
  obtain ⟨u, h1, vs, h2, h3⟩ := hr
  exact ⟨u, h1, vs, XG hs hy h2, by rw [h3]; exact Aav hy vs⟩
theorem ZB {c : Ctx} {w : World} (hs : Sim c w) : ∀ {xs xs' : List TV} {us : List Value}, ZR c.H xs = some xs' → Aj c w xs us → Aj c.mine w xs' us
 | [], xs', us, hf, hr => by simp only [ZR, Option.some.injEq] at hf; subst hf; rw [Aj] at hr ⊢; exact hr
 | x :: xs, xs', us, hf, hr => by
  rw [ZR] at hf
  split at hf
  ·rename_i y ys hy hys
   cases hf
   rw [Aj] at hr ⊢
   obtain ⟨u, us, h1, h2, h3⟩ := hr
   exact ⟨u, us, h1, XG hs hy h2, ZB hs hys h3⟩
  ·cases hf
theorem Aav {H : List Ob} : ∀ {x x' : TV} (hf : frs H x = some x') (us : List Value), mkV x us = mkV x' us
 | .val y, x', hf, us => by simp only [frs, Option.some.injEq] at hf; subst hf; rfl
 | .any, x', hf, us => by simp only [frs, Option.some.injEq] at hf; subst hf; rfl
 | .mp _ _, x', hf, us => by simp [frs] at hf
 | .yl _ _, x', hf, us => by simp [frs] at hf
 | .sl k cs, x', hf, us => by simp [frs] at hf
 | .fp x, x', hf, us => by simp [frs] at hf
 | .op id ver p, x', hf, us => by simp [frs] at hf
 | .fn f a b, x', hf, us => by simp [frs] at hf
 | .os k id ver p off n cp, x', hf, us => by
  rw [frs] at hf
  split at hf
  ·split at hf
   ·split at hf
    ·split at hf
     ·cases hf; rfl
     ·cases hf
    ·cases hf
   ·cases hf
  ·cases hf
 | .agg cs, x', hf, us => by
  simp only [frs, Option.map_eq_some_iff] at hf
  obtain ⟨ds, hds, rfl⟩ := hf; rfl
 | .arr n k cs, x', hf, us => by
  rw [frs] at hf
  split at hf
  ·cases hf; rfl
  ·cases hf
 | .tup cs, x', hf, us => by
  simp only [frs, Option.map_eq_some_iff] at hf
  obtain ⟨ds, hds, rfl⟩ := hf; rfl
 | .ifc t x, x', hf, us => by
  simp only [frs, Option.map_eq_some_iff] at hf
  obtain ⟨y, hy, rfl⟩ := hf; rfl
end
theorem AaY {c : Ctx} {w : World} (hs : Sim c w) : ∀ {xs xs' : List TV} {vs : List Value}, ZR c.H xs = some xs' → Bg c w xs vs → Bg c.mine w xs' vs
 | [], xs', vs, hf, hr => by simp only [ZR, Option.some.injEq] at hf; subst hf; rw [Bg] at hr ⊢; exact hr
 | x :: xs, xs', vs, hf, hr => by
  rw [ZR] at hf
  split at hf
  ·rename_i y ys hy hys
   cases hf
   rw [Bg] at hr ⊢
   obtain ⟨u, us, h1, h2, h3⟩ := hr
   refine ⟨u, us, h1, ?_, AaY hs hys h3⟩
   rcases h2 with rfl | rfl | ⟨aS, h2, h4⟩
   ·simp only [frs, Option.some.injEq] at hy; subst hy; exact .inl rfl
   ·simp only [frs, Option.some.injEq] at hy; subst hy; exact .inr (.inl rfl)
   ·exact .inr (.inr ⟨aS, XG hs hy h2, by rw [h4]; exact Aav hy aS⟩)
  ·cases hf
theorem AhE {c : Ctx} {w : World} (hs : Sim c w) {x x' : TV} {v : Value} (hf : frs c.H x = some x') (hr : Rep c w x v) : Rep c.mine w x' v := by
 rcases hr with (h | h | ⟨us, h, h'⟩) | ⟨xs, vs, rfl, h2, h3⟩
 ·subst h; simp only [frs, Option.some.injEq] at hf; subst hf; exact Rep.any
 ·subst h; simp only [frs, Option.some.injEq] at hf; subst hf; exact Rep.of_val
 ·exact .inl (.inr (.inr ⟨us, XG hs hf h, by rw [h']; exact Aav hf us⟩))
 ·simp only [frs, Option.map_eq_some_iff] at hf
  obtain ⟨ds, hds, rfl⟩ := hf
  exact .inr ⟨ds, vs, rfl, h2, AaY hs hds h3⟩

/-- A CALL THAT LEAVES NOTHING BEHIND, AND YIELDS NEW MEMORY ALONE. -/
def J4 (P : Program) (f : FuncId) (args : List TV) (R : TV → Prop) : Prop :=
 ∀ (β : Nat → Nat → Option (Nat × Nat)) (F : Nat → Prop) (w : World) (vs : List Value), ((∀ b, F b → b < w.heap.size) ∧ JW F w) → Bg ⟨β, [], F⟩ w args vs →
  Calls P f vs.toArray w fun e w' => ∃ v x F', e = .returned v ∧ R x ∧ Rep ⟨β, [], fun b => F' b ∧ w.heap.size ≤ b⟩ w' x v ∧ NT F w F' w'

theorem J4.mono {f : FuncId} {args : List TV} {R R' : TV → Prop} (h : J4 P f args R) (hr : ∀ x, R x → R' x) : J4 P f args R' :=
 fun β F w vs hF hv => (h β F w vs hF hv).mono fun _ _ ⟨v, x, F', h1, h2, h3⟩ => ⟨v, x, F', h1, hr _ h2, h3⟩
theorem J4.pure {f : FuncId} {args : List TV} {R : TV → Prop} (h : J4 P f args R) : D5 P f args R :=
 fun β F w vs hF hv => (h β F w vs hF hv).mono fun _ _ ⟨v, x, F', h1, h2, h3, h4⟩ => ⟨v, x, F', h1, h2, Rep.mono (F8.ofF (F := fun b => F' b ∧ w.heap.size ≤ b) (F' := F') fun b hb => hb.1) h3, h4⟩

theorem Ap.toFresh {f : FuncId} {args : List TV} {R : TV → Prop} (h : Ap P f args [] fun x H' => match frs H' x with | some y => R y | none => False) : J4 P f args R := by
 intro β F w vs hF hv
 have hs : Sim ⟨β, [], F⟩ w := ⟨fun id o ho => by simp at ho, fun i j x y b o o' hx => by simp at hx, fun b hb => by obtain ⟨i, o, off, h1, _⟩ := hb; simp at h1, hF.1, hF.2⟩
 refine (h β F w vs hs hv).mono ?_
 rintro _ w' ⟨v, x, β', H', F', rfl, hR, hs', hl, hx⟩
 split at hR
 ·rename_i y hy
  have hno : ∀ b, ¬ Ctx.own ⟨β, [], F⟩ b := fun b hb => by obtain ⟨i, o, off, h1, _⟩ := hb; simp at h1
  have hr := AhE hs' hy hx
  have hnew : ∀ b, Ctx.own ⟨β', H', F'⟩ b → w.heap.size ≤ b := fun b hb => by
   rcases Nat.lt_or_ge b w.heap.size with h1 | h1
   ·exact absurd (hl.oldOwn b h1 hb) (hno b)
   ·exact h1
  refine ⟨v, y, fun b => F b ∨ Ctx.own ⟨β', H', F'⟩ b, rfl, hR, ?_, ⟨hl.os, hl.tape, hl.output, hl.size, fun b hb => hl.same b hb (hno b), fun b hb => .inl hb, fun b hb hF' => hF'.elim id fun h => ?_, fun b hF' => hF'.elim (fun h => Nat.lt_of_lt_of_le (hF.1 b h) hl.size) hs'.own_lt⟩⟩
  ·exact Rep.mono (F8.ofF (F := Ctx.own ⟨β', H', F'⟩) (F' := fun b => (F b ∨ Ctx.own ⟨β', H', F'⟩ b) ∧ w.heap.size ≤ b) fun b hb => ⟨.inr hb, hnew b hb⟩) hr
  ·have := hnew b h; omega
 ·exact hR.elim

/-- Such a call, to which objects are lent. -/
theorem J4.lends {f : FuncId} {args args' : List TV} {R : TV → Prop} {H : List Ob} {K : TV → List Ob → Prop} (h : J4 P f args' R) (hp : AoK H args = some args') (hk : ∀ x, R x → K x H) : Ap P f args H K := by
 intro β F w vs hs hv
 refine (h β (fun b => F b ∨ Ctx.own ⟨β, H, F⟩ b) w vs ⟨fun b hb => hb.elim (hs.lt b) hs.own_lt, hs.glob.keep fun b hb => ⟨.inl hb, rfl⟩⟩ (Abz hs hp hv)).mono ?_
 rintro _ w' ⟨v, x, F', rfl, hR, hx, hst⟩
 have hst' : NT F w (fun b => F b ∨ (F' b ∧ w.heap.size ≤ b)) w' := ⟨hst.os, hst.tape, hst.output, hst.size, hst.same, fun _ h => .inl h, fun b hb h => h.elim id fun h => by omega, fun b hb => hb.elim (fun h => Nat.lt_of_lt_of_le (hs.lt b h) hst.size) fun h => hst.ltF b h.1⟩
 refine ⟨v, x, β, H, _, rfl, hk x hR, hst'.sim hs, hst'.later, Rep.mono (F8.ofF (F := fun b => F' b ∧ w.heap.size ≤ b) (F' := fun b => F b ∨ (F' b ∧ w.heap.size ≤ b)) fun b hb => .inr hb) hx⟩
end
end Go.Proofs.YtmlompedpahkjaaDoor


namespace Go.Proofs.YtmlompedpahkjaaDoor
open Go.RowKit
variable [BA]
set_option linter.unusedSectionVars false
set_option linter.unusedSimpArgs false
set_option linter.unusedVariables false
set_option autoImplicit false

/-- An equation that simp is to take for no definition. -/
theorem Aa {α : Sort _} {a b : α} (h : a = b) : a = b := h

/-- Numbers, truth values, strings. -/
abbrev i64 (n : Int) : TV := .val (.int .i64 n)
abbrev tb (b : Bool) : TV := .val (.bool b)
abbrev ts (l : List UInt8) : TV := .val (.string (str l))
/-- Bytes, strings, numbers in memory. -/
abbrev slB (l : List UInt8) : TV := .sl 1 (l.map by8)
abbrev slS (l : List (List UInt8)) : TV := .sl 1 (l.map ts)

section
variable {P : Program} {e : Env} {H : List Ob}
theorem ArX {c : Opd} {a : Opd} {b : Opd} {K : TV → Prop} : pop (.pick c a b) e H K = (match c.ev e with
  | .val (.bool t) => K (if t then a.ev e else b.ev e)
  | _ => False) := Aa rfl
theorem Asb {x : Opd} {K : TV → Prop} : pop (.b2s x) e H K = (match BU H 1 (x.ev e) with
  | some cs => (∀ y ∈ cs, AcO y) ∧ K (.val (.string (str (cs.map UI))))
  | none => False) := Aa rfl
theorem ArV {ag : Bool} {sz : Nat} {x : Opd} {K : TV → Prop} : pop (.load ag sz x) e H K = (match x.ev e with
  | .fp y => Xl ag sz y ∧ K y
  | .op id ver p => (match H[id]? with
   | some (.obj v x) => v = ver ∧ (match Jp p x with | some y => Xl ag sz y ∧ K y | none => False)
   | _ => False)
  | _ => False) := Aa rfl
theorem Apj {n : Nat} {k : Nat} {x : Opd} {i : Opd} {K : TV → Prop} : pop (.idxAA n k x i) e H K = (match x.ev e, i.ev e with
  | .fp (.arr n' k' cs), .val (.int _ j) => k' = k ∧ n' = n ∧ 0 ≤ j ∧ (match cs[j.toNat]? with | some y => K (.fp y) | none => False)
  | .op id ver p, .val (.int _ j) => 0 ≤ j ∧ j < n ∧ K (.op id ver (p ++ [(j.toNat, j.toNat * k)]))
  | _, _ => False) := Aa rfl
theorem Ary {x : Opd} {K : TV → Prop} : pop (.lenV x) e H K = (match x.ev e with
  | .val (.slice _ n _) => K (.val (.int .i64 n))
  | .sl _ cs => K (.val (.int .i64 cs.length))
  | .os _ _ _ _ _ n _ => K (.val (.int .i64 n))
  | _ => False) := Aa rfl
theorem ApS {k : Nat} {x : Opd} {lo : Option Opd} {hi : Option Opd} {K : TV → Prop} : pop (.slV k x lo hi) e H K = (match x.ev e with
  | .sl k' cs => k' = k ∧ bnd e lo hi cs.length cs.length fun l h => K (.sl k ((cs.drop l).take (h - l)))
  | .os k' id ver p off n cp => k' = k ∧ bnd e lo hi n cp fun l h => K (.os k id ver p (off + l) (h - l) (cp - l))
  | .val (.slice ad 0 0) => bnd e lo hi 0 0 fun l h => K (.val (.slice ad 0 0))
  | _ => False) := Aa rfl
theorem Apc {n : Nat} {k : Nat} {x : Opd} {lo : Option Opd} {hi : Option Opd} {K : TV → Prop} : pop (.slA n k x lo hi) e H K = (match x.ev e with
  | .fp (.arr n' k' cs) => k' = k ∧ n' = n ∧ n ≤ 9223372036854775807 ∧ bnd e lo hi n n fun l h => K (.sl k ((cs.drop l).take (h - l)))
  | .op id ver p => (match H[id]? with
   | some (.obj v x) => v = ver ∧ n ≤ 9223372036854775807 ∧ (match Jp p x with | some (.arr n' k' cs) => k' = k ∧ n' = n ∧ bnd e lo hi n n fun l h => K (.os k id ver p l (h - l) (n - l)) | _ => False)
   | _ => False)
  | _ => False) := Aa rfl
theorem Apl {f : Fn} {first : List Opd} {caps : List Opd} {K : TV → Prop} : pop (.mkf f first caps) e H K = ((∀ x ∈ first ++ caps, CG (x.ev e) = false) ∧ K (.fn f (first.map (·.ev e)) (caps.map (·.ev e)))) := Aa rfl
theorem Arz {x : Opd} {K : TV → Prop} : pop (.nilc x) e H K = (match x.ev e with
  | .op id ver p => K (.op id ver p)
  | .fp y => K (.fp y)
  | .fn (.func f) a b => K (.fn (.func f) a b)
  | .ifc t y => K (.ifc t y)
  | .val (.func (.func f) a b) => K (.val (.func (.func f) a b))
  | _ => False) := Aa rfl
theorem AgR {k : Nat} {n : Nat} {z : TV} {ps : List (Nat × Opd)} {K : TV → List Ob → Prop} : sop P (.bslice k n z ps) e H K = ((Dt e (List.replicate n k) ps ∧ Bv e ps ∧ n ≤ 1000) ∧ K (.os k H.length 0 [] 0 n n) (H ++ [.obj 0 (.arr n k (DZ e (List.replicate n z) ps))])) := Aa rfl
theorem Apn {sz : Nat} {x : Opd} {v : Opd} {K : TV → List Ob → Prop} : sop P (.store sz x v) e H K = ((lays (v.ev e) = true ∧ Aw (v.ev e) = sz) ∧ (match x.ev e with
  | .op id ver p => (match H[id]? with
   | some (.obj vr y) => vr = ver ∧ (match QX p y (v.ev e) with | some y' => K .any (H.set id (.obj ver y')) | none => False)
   | _ => False)
  | _ => False)) := Aa rfl
theorem Aoa {f : FuncId} {args : List Opd} {K : TV → List Ob → Prop} : sop P (.call f args) e H K = ((∀ x ∈ args, CG (x.ev e) = false) ∧ Ap P f (args.map (·.ev e)) H K) := Aa rfl
theorem Akw {x : Opd} {args : List Opd} {K : TV → List Ob → Prop} : sop P (.callv x args) e H K = ((∀ x ∈ args, CG (x.ev e) = false) ∧ (match x.ev e with
  | .fn (.func f) first caps => TT P f = true ∧ Ap P f (first ++ args.map (·.ev e) ++ caps) H K
  | .val (.func (.func f) xs ys) => (xs.isEmpty && ys.isEmpty) = true ∧ TT P f = true ∧ Ap P f (args.map (·.ev e)) H K
  | .yl id ver => VG P id ver (args.map (·.ev e)) H K
  | _ => False)) := Aa rfl
theorem AnN  {Q : VEx → Env → List Ob → Prop} : vwp P (.skip ) Q e H = (Q .nor e H) := Aa rfl
theorem Asd {a : Af} {b : Af} {Q : VEx → Env → List Ob → Prop} : vwp P (.seq a b) Q e H = (vwp P a (fun x e H => match x with | .nor => vwp P b Q e H | .exit i => Q (.exit i) e H | .ret => Q .ret e H | .pan u => Q (.pan u) e H) e H) := Aa rfl
theorem AmD {lv : List Nat} {c : Af} {Q : VEx → Env → List Ob → Prop} {H0 : List Ob} : vwp P (.loop lv c) Q e H0 = (∃ (I : Nat → Env → List Ob → Prop) (n : Nat), I n (forget lv e) H0 ∧
   ∀ n e H, I n e H → vwp P c (fun x e H => match x with | .nor => ∃ m g, m < n ∧ (H0.length ≤ g ∧ (H.length ≤ g ∨ (VD g (forget lv e) = true ∧ Ws g (H.take g) = true))) ∧ I m (forget lv e) (H.take g) | .exit i => Q (.exit i) e H | .ret => Q .ret e H | .pan u => Q (.pan u) e H) e H) := Aa rfl
theorem AmN {id : Nat} {Q : VEx → Env → List Ob → Prop} : vwp P (.exit id) Q e H = (Q (.exit id) e H) := Aa rfl
theorem Aqb  {Q : VEx → Env → List Ob → Prop} : vwp P (.ret ) Q e H = (Q .ret e H) := Aa rfl
theorem Akl {c : Af} {Q : VEx → Env → List Ob → Prop} : vwp P (.scope c) Q e H = (vwp P c Q e H) := Aa rfl
theorem Ase {s k : Nat} {c : Af} {Q : VEx → Env → List Ob → Prop} : vwp P (.own s k c) Q e H = (match get e s with
  | .val (.slice none 0 0) => vwp P c Q ((s, .os k H.length 0 [] 0 0 0) :: e) (H ++ [.obj 0 (.arr 0 k [])])
  | _ => vwp P c Q e H) := Aa rfl
theorem An1 {s k : Nat} {p : List (Nat × Nat)} {c : Af} {Q : VEx → Env → List Ob → Prop} : vwp P (.ownB s p k c) Q e H = (match get e s with
  | .op id ver p0 => (match H[id]? with
   | some (.obj v x) => v = ver ∧ (match Jp (p0 ++ p) x with
    | some (.val (.slice none 0 0)) => (match QX (p0 ++ p) x (.os k H.length 0 [] 0 0 0) with
     | some x' => vwp P c Q e (H.set id (.obj ver x') ++ [.obj 0 (.arr 0 k [])])
     | none => False)
    | _ => vwp P c Q e H)
   | _ => False)
  | _ => False) := Aa rfl
theorem Am4 {s : Nat} {t : TypeId} {p : List (Nat × Nat)} {c : Af} {Q : VEx → Env → List Ob → Prop} : vwp P (.ownT s p t c) Q e H = (match get e s with
  | .op id ver p0 => (match H[id]? with
   | some (.obj v x) => v = ver ∧ (match Jp (p0 ++ p) x with
    | some (.val (.slice none 0 0)) => (match QX (p0 ++ p) x (.os 1 H.length 0 [] 0 0 0) with
     | some x' => vwp P c Q e (H.set id (.obj ver x') ++ [.bld 0 t []])
     | none => False)
    | _ => vwp P c Q e H)
   | _ => False)
  | _ => False) := Aa rfl
theorem Ag3 {K : Env → List Ob → Prop} : UV P [] K e H = K e H := Aa rfl
theorem Ant {d : Nat} {o : POp} {r : List VO} {K : Env → List Ob → Prop} : UV P (⟨some d, .p o, none⟩ :: r) K e H = pop o e H fun x => UV P r K ((d, x) :: e) H := Aa rfl
theorem Aos {d : Nat} {o : SOp} {r : List VO} {K : Env → List Ob → Prop} : UV P (⟨some d, .s o, none⟩ :: r) K e H = sop P o e H fun x H => UV P r K ((d, x) :: e) H := Aa rfl
theorem Ajn {o : SOp} {r : List VO} {K : Env → List Ob → Prop} : UV P (⟨none, .s o, none⟩ :: r) K e H = sop P o e H fun x H => UV P r K e H := Aa rfl
theorem AnA {d s : Nat} {o : VOp} {b : Bool} {r : List VO} {K : Env → List Ob → Prop} : UV P (⟨some d, o, some (s, b)⟩ :: r) K e H = WJ e s fun e q => match q with
 | some t => if t = b then vop P o e H (fun x H => UV P r K ((d, x) :: e) H) else UV P r K ((d, .val undef) :: e) H
 | none => UV P r K ((d, .val undef) :: e) H := Aa rfl
theorem Ao8 {o : POp} {K : TV → List Ob → Prop} : vop P (.p o) e H K = pop o e H fun x => K x H := Aa rfl
theorem Aqf {o : SOp} {K : TV → List Ob → Prop} : vop P (.s o) e H K = sop P o e H K := Aa rfl
theorem Am2 {K : Env → Prop} : vq P [] K e H = K e := Aa rfl
theorem Asr {d : Nat} {o : POp} {r : List VO} {K : Env → Prop} : vq P (⟨some d, .p o, none⟩ :: r) K e H = pop o e H fun x => vq P r K ((d, x) :: e) H := Aa rfl
theorem Ar8 {d : Nat} {f : FuncId} {args : List Opd} {r : List VO} {K : Env → Prop} : vq P (⟨some d, .s (.call f args), none⟩ :: r) K e H = ((∀ x ∈ args, CG (x.ev e) = false) ∧ ∃ x, Ap P f (args.map (·.ev e)) H (fun y H' => y = x ∧ H' = H) ∧ vq P r K ((d, x) :: e) H) := Aa rfl
theorem Akj {o : POp} {k : TV → Prop} : YD P (.p o) e H k = pop o e H k := Aa rfl
theorem Aji {f : FuncId} {args : List Opd} {k : TV → Prop} : YD P (.s (.call f args)) e H k = ((∀ x ∈ args, CG (x.ev e) = false) ∧ ∃ x, Ap P f (args.map (·.ev e)) H (fun y H' => y = x ∧ H' = H) ∧ k x) := Aa rfl
variable {t : TypeId} {a b : Int} {k : IntKind}
theorem Fg {n : Int} (h1 : -9223372036854775808 ≤ n) (h2 : n ≤ 9223372036854775807) : IntKind.i64.wrap n = n := by rw [IntKind.wrap_i64]; omega
theorem Aqs (h1 : -9223372036854775808 ≤ a + b) (h2 : a + b ≤ 9223372036854775807) : EF t .add (.int .i64 a) (.int .i64 b) = some (.int .i64 (a + b)) := by
 rw [show EF t .add (.int .i64 a) (.int .i64 b) = some (.int .i64 (IntKind.i64.wrap (a + b))) from rfl, Fg h1 h2]
theorem Ad2 (h1 : -9223372036854775808 ≤ a - b) (h2 : a - b ≤ 9223372036854775807) : EF t .sub (.int .i64 a) (.int .i64 b) = some (.int .i64 (a - b)) := by
 rw [show EF t .sub (.int .i64 a) (.int .i64 b) = some (.int .i64 (IntKind.i64.wrap (a - b))) from rfl, Fg h1 h2]
theorem ApR (h1 : -9223372036854775808 ≤ a * b) (h2 : a * b ≤ 9223372036854775807) : EF t .mul (.int .i64 a) (.int .i64 b) = some (.int .i64 (a * b)) := by
 rw [show EF t .mul (.int .i64 a) (.int .i64 b) = some (.int .i64 (IntKind.i64.wrap (a * b))) from rfl, Fg h1 h2]
theorem Apo : EF t .eql (.int k a) (.int k b) = some (.bool (decide (a = b))) := by
 rw [show EF t .eql (.int k a) (.int k b) = some (.bool (a == b)) from by simp [EF, binOp, Op.intCmp]; rfl]; rfl
theorem ApE : EF t .neq (.int k a) (.int k b) = some (.bool (!decide (a = b))) := by
 rw [show EF t .neq (.int k a) (.int k b) = some (.bool (a != b)) from by simp [EF, binOp, Op.intCmp]; rfl]; rfl
theorem Ap0 : EF t .lss (.int k a) (.int k b) = some (.bool (decide (a < b))) := by simp [EF, binOp, Op.intCmp]; rfl
theorem ApL : EF t .leq (.int k a) (.int k b) = some (.bool (decide (a ≤ b))) := by simp [EF, binOp, Op.intCmp]; rfl
theorem ApX : EF t .gtr (.int k a) (.int k b) = some (.bool (decide (b < a))) := by simp [EF, binOp, Op.intCmp]; rfl
theorem Aq3 : EF t .geq (.int k a) (.int k b) = some (.bool (decide (b ≤ a))) := by simp [EF, binOp, Op.intCmp]; rfl
theorem Ado : Dn 0 (.val (.pointer none)) = some true := Aa rfl
theorem AeV {i v : Nat} {p : List (Nat × Nat)} : Dn 0 (.op i v p) = some false := Aa rfl
theorem AdM {x : TV} : Dn 0 (.fp x) = some false := Aa rfl
theorem Ad9 : Dn 1 (.val .nilIface) = some true := Aa rfl
theorem AcE {t : TypeId} {x : TV} : Dn 1 (.ifc t x) = some false := Aa rfl
theorem Ac3 : Dn 2 (.val (.map none)) = some true := Aa rfl
theorem Ae0 {i v : Nat} : Dn 2 (.mp i v) = some false := Aa rfl
theorem Adx {i v : Nat} : Dn 3 (.yl i v) = some false := Aa rfl
theorem AcV : Dn 3 (.val .nilFunc) = some true := Aa rfl
theorem AcY {f : Fn} {a b : List TV} : Dn 3 (.fn f a b) = some false := Aa rfl
theorem AoQ {n : Int} (h0 : 0 ≤ n) (h1 : n < 18446744073709551616) : (BitVec.ofInt 64 n).toNat = n.toNat := by
 rw [BitVec.toNat_ofInt]
 have : n % ((2 ^ 64 : Nat) : Int) = n := Int.emod_eq_of_lt h0 (by simpa using h1)
 rw [this]
theorem Aq2 (h1 : 0 ≤ a) (h2 : a ≤ 9223372036854775807) (h3 : 0 ≤ b) (h4 : b ≤ 9223372036854775807) : EF t .and (.int .i64 a) (.int .i64 b) = some (.int .i64 ((a.toNat &&& b.toNat : Nat) : Int)) := by
 rw [show EF t .and (.int .i64 a) (.int .i64 b) = some (.int .i64 (IntKind.i64.wrap ((BitVec.ofInt 64 a &&& BitVec.ofInt 64 b).toNat : Int))) from rfl, BitVec.toNat_and, AoQ h1 (by omega), AoQ h3 (by omega)]
 have := Nat.and_le_left (n := a.toNat) (m := b.toNat)
 rw [Fg (by omega) (by omega)]
theorem Asx (h1 : 0 ≤ a) (h2 : a ≤ 9223372036854775807) (h3 : 0 ≤ b) (h4 : b ≤ 9223372036854775807) : EF t .or (.int .i64 a) (.int .i64 b) = some (.int .i64 ((a.toNat ||| b.toNat : Nat) : Int)) := by
 rw [show EF t .or (.int .i64 a) (.int .i64 b) = some (.int .i64 (IntKind.i64.wrap ((BitVec.ofInt 64 a ||| BitVec.ofInt 64 b).toNat : Int))) from rfl, BitVec.toNat_or, AoQ h1 (by omega), AoQ h3 (by omega)]
 have := Nat.or_lt_two_pow (n := 63) (x := a.toNat) (y := b.toNat) (by omega) (by omega)
 rw [Fg (by omega) (by omega)]
theorem AqJ {k2 : IntKind} (h1 : 0 ≤ b) (h2 : b ≤ 63) (h3 : 0 ≤ a * 2 ^ b.toNat) (h4 : a * 2 ^ b.toNat ≤ 9223372036854775807) : EF t .shl (.int .i64 a) (.int k2 b) = some (.int .i64 (a * 2 ^ b.toNat)) := by
 have e : binOp .shl t (.int .i64 a) (.int k2 b) = pure (.int .i64 (a * 2 ^ b.toNat)) := by
  show Op.shift .shl .i64 a k2 b = _
  unfold Op.shift
  rw [if_neg (by omega)]
  have hm : min b.toNat IntKind.i64.bits = b.toNat := by
   have : IntKind.i64.bits = 64 := rfl
   omega
  simp only [hm]
  rw [Fg (by omega) h4]
 unfold EF; rw [e]; rfl
theorem ApP {k2 : IntKind} (h1 : 0 ≤ b) (h2 : b ≤ 63) (h3 : 0 ≤ a) : EF t .shr (.int .i64 a) (.int k2 b) = some (.int .i64 (a / 2 ^ b.toNat)) := by
 have e : binOp .shr t (.int .i64 a) (.int k2 b) = pure (.int .i64 (a / 2 ^ b.toNat)) := by
  show Op.shift .shr .i64 a k2 b = _
  unfold Op.shift
  rw [if_neg (by omega)]
  have hm : min b.toNat IntKind.i64.bits = b.toNat := by
   have : IntKind.i64.bits = 64 := rfl
   omega
  simp only [hm]
  rw [Int.fdiv_eq_ediv_of_nonneg _ (by exact Int.le_of_lt (Int.pow_pos (by omega)))]
 unfold EF; rw [e]; rfl
theorem Apd (h1 : 0 ≤ a) (h2 : b ≠ 0) : EF t .rem (.int k a) (.int k b) = some (.int k (a % b)) := by
 have e : binOp .rem t (.int k a) (.int k b) = pure (.int k (a % b)) := by
  unfold binOp
  simp only [ne_eq, not_true_eq_false, if_false, Op.intDiv, h2, Int.tmod_eq_emod_of_nonneg h1]
 unfold EF; rw [e]; rfl
theorem Ape (h1 : 0 ≤ a) (h2 : 0 < b) (h3 : a ≤ 9223372036854775807) : EF t .quo (.int .i64 a) (.int .i64 b) = some (.int .i64 (a / b)) := by
 have e : binOp .quo t (.int .i64 a) (.int .i64 b) = pure (.int .i64 (a / b)) := by
  unfold binOp
  simp only [ne_eq, not_true_eq_false, if_false, Op.intDiv, show ¬ b = 0 from by omega, Int.tdiv_eq_ediv_of_nonneg h1]
  have h4 : a / b ≤ a := Int.ediv_le_self _ h1
  have h5 : 0 ≤ a / b := Int.ediv_nonneg h1 (by omega)
  rw [Fg (by omega) (by omega)]
 unfold EF; rw [e]; rfl
theorem Ai0 {x y : UInt8} : EF t .xor (.int .u8 (x.toNat : Int)) (.int .u8 (y.toNat : Int)) = some (.int .u8 ((x ^^^ y).toNat : Int)) := by
 rw [show EF t .xor (.int .u8 (x.toNat : Int)) (.int .u8 (y.toNat : Int)) = some (.int .u8 (IntKind.u8.wrap ((BitVec.ofInt 8 (x.toNat : Int) ^^^ BitVec.ofInt 8 (y.toNat : Int)).toNat : Int))) from rfl]
 rw [BitVec.ofInt_natCast, BitVec.ofInt_natCast, UInt8.toNat_xor, BitVec.toNat_xor, BitVec.toNat_ofNat, BitVec.toNat_ofNat, Nat.mod_eq_of_lt x.toNat_lt, Nat.mod_eq_of_lt y.toNat_lt]
 have := Nat.xor_lt_two_pow (n := 8) x.toNat_lt y.toNat_lt
 rw [IntKind.wrap_u8]; congr 2; omega
theorem PQ (l : List UInt8) : (str l).toList = l := by simp [str, ByteArray.toList_eq]
theorem Abp {l m : List UInt8} : (l == m) = decide (l = m) := by
 by_cases h : l = m <;> simp [h]
theorem Aq5 {l m : List UInt8} : EF t .eql (.string (str l)) (.string (str m)) = some (.bool (decide (l = m))) := by
 rw [show EF t .eql (.string (str l)) (.string (str m)) = some (.bool ((str l).toList == (str m).toList)) from rfl, PQ, PQ, Abp]
theorem ApH {l m : List UInt8} : EF t .neq (.string (str l)) (.string (str m)) = some (.bool (!decide (l = m))) := by
 rw [show EF t .neq (.string (str l)) (.string (str m)) = some (.bool (!((str l).toList == (str m).toList))) from rfl, PQ, PQ, Abp]
theorem Apt {b : Bool} : unV .not (.bool b) = some (.bool (!b)) := Aa rfl
theorem AiG {u : Value} : AgJ (.int k a) u = true := by cases u <;> rfl
theorem AhN {s : ByteArray} {u : Value} : AgJ (.string s) u = true := by cases u <;> rfl

theorem Ahe {v : Value} : Uo (TV.val v) = false := Aa rfl
theorem Agk  : Uo (TV.any) = false := Aa rfl
theorem AkN {k : Nat} {cs : List TV} : Uo (TV.sl k cs) = false := Aa rfl
theorem Ajt {x : TV} : Uo (TV.fp x) = false := Aa rfl
theorem AkQ {i : Nat} {v : Nat} {p : List (Nat × Nat)} : Uo (TV.op i v p) = false := Aa rfl
theorem AkU {k : Nat} {i : Nat} {v : Nat} {p : List (Nat × Nat)} {o : Nat} {n : Nat} {cp : Nat} : Uo (TV.os k i v p o n cp) = false := Aa rfl
theorem AgV {cs : List TV} : Uo (TV.agg cs) = true := Aa rfl
theorem Aih {n : Nat} {k : Nat} {cs : List TV} : Uo (TV.arr n k cs) = true := Aa rfl
theorem Ah9 {vs : List TV} : Uo (TV.tup vs) = false := Aa rfl
theorem AiQ {t : TypeId} {x : TV} : Uo (TV.ifc t x) = false := Aa rfl
theorem Ak3 {f : Fn} {a : List TV} {b : List TV} : Uo (TV.fn f a b) = false := Aa rfl
theorem AjR {i : Nat} {v : Nat} : Uo (TV.mp i v) = false := Aa rfl
theorem Ako {i : Nat} {v : Nat} : Uo (TV.yl i v) = false := Aa rfl
theorem Aek {v : Value} : CG (TV.val v) = false := Aa rfl
theorem AdZ  : CG (TV.any) = false := Aa rfl
theorem Agy {k : Nat} {cs : List TV} : CG (TV.sl k cs) = false := Aa rfl
theorem AiO {x : TV} : CG (TV.fp x) = false := Aa rfl
theorem AgX {i : Nat} {v : Nat} {p : List (Nat × Nat)} : CG (TV.op i v p) = false := Aa rfl
theorem Ag6 {k : Nat} {i : Nat} {v : Nat} {p : List (Nat × Nat)} {o : Nat} {n : Nat} {cp : Nat} : CG (TV.os k i v p o n cp) = false := Aa rfl
theorem AeD {cs : List TV} : CG (TV.agg cs) = false := Aa rfl
theorem AdO {n : Nat} {k : Nat} {cs : List TV} : CG (TV.arr n k cs) = false := Aa rfl
theorem Afv {vs : List TV} : CG (TV.tup vs) = true := Aa rfl
theorem Adr {t : TypeId} {x : TV} : CG (TV.ifc t x) = false := Aa rfl
theorem AgW {f : Fn} {a : List TV} {b : List TV} : CG (TV.fn f a b) = false := Aa rfl
theorem Ail {i : Nat} {v : Nat} : CG (TV.mp i v) = false := Aa rfl
theorem Agq {i : Nat} {v : Nat} : CG (TV.yl i v) = false := Aa rfl
theorem AfP  : lays (TV.any) = false := Aa rfl
theorem AjP {k : Nat} {cs : List TV} : lays (TV.sl k cs) = true := Aa rfl
theorem Aj0 {x : TV} : lays (TV.fp x) = true := Aa rfl
theorem Alo {i : Nat} {v : Nat} {p : List (Nat × Nat)} : lays (TV.op i v p) = true := Aa rfl
theorem Ali {k : Nat} {i : Nat} {v : Nat} {p : List (Nat × Nat)} {o : Nat} {n : Nat} {cp : Nat} : lays (TV.os k i v p o n cp) = true := Aa rfl
theorem AgD {cs : List TV} : lays (TV.agg cs) = true := Aa rfl
theorem AgE {n : Nat} {k : Nat} {cs : List TV} : lays (TV.arr n k cs) = true := Aa rfl
theorem AgI {vs : List TV} : lays (TV.tup vs) = false := Aa rfl
theorem Ag9 {t : TypeId} {x : TV} : lays (TV.ifc t x) = true := Aa rfl
theorem Aju {f : Fn} {a : List TV} {b : List TV} : lays (TV.fn f a b) = true := Aa rfl
theorem Akt {i : Nat} {v : Nat} : lays (TV.mp i v) = true := Aa rfl
theorem Aj4 {i : Nat} {v : Nat} : lays (TV.yl i v) = true := Aa rfl
theorem Afs {v : Value} : DD (TV.val v) = true := Aa rfl
theorem AeL  : DD (TV.any) = true := Aa rfl
theorem AiP {k : Nat} {cs : List TV} : DD (TV.sl k cs) = true := Aa rfl
theorem AiK {x : TV} : DD (TV.fp x) = true := Aa rfl
theorem Af6 {i : Nat} {v : Nat} {p : List (Nat × Nat)} : DD (TV.op i v p) = false := Aa rfl
theorem Aga {k : Nat} {i : Nat} {v : Nat} {p : List (Nat × Nat)} {o : Nat} {n : Nat} {cp : Nat} : DD (TV.os k i v p o n cp) = false := Aa rfl
theorem Adg {n : Nat} {k : Nat} {cs : List TV} : DD (TV.arr n k cs) = true := Aa rfl
theorem Aiz {i : Nat} {v : Nat} : DD (TV.mp i v) = false := Aa rfl
theorem AfL {i : Nat} {v : Nat} : DD (TV.yl i v) = false := Aa rfl
theorem Adp {v : Value} : Aw (TV.val v) = 1 := Aa rfl
theorem AdG  : Aw (TV.any) = 1 := Aa rfl
theorem Agb {k : Nat} {cs : List TV} : Aw (TV.sl k cs) = 1 := Aa rfl
theorem Agl {x : TV} : Aw (TV.fp x) = 1 := Aa rfl
theorem Ahv {i : Nat} {v : Nat} {p : List (Nat × Nat)} : Aw (TV.op i v p) = 1 := Aa rfl
theorem AfE {k : Nat} {i : Nat} {v : Nat} {p : List (Nat × Nat)} {o : Nat} {n : Nat} {cp : Nat} : Aw (TV.os k i v p o n cp) = 1 := Aa rfl
theorem Ac4 {vs : List TV} : Aw (TV.tup vs) = 1 := Aa rfl
theorem Aey {t : TypeId} {x : TV} : Aw (TV.ifc t x) = 1 := Aa rfl
theorem AfF {f : Fn} {a : List TV} {b : List TV} : Aw (TV.fn f a b) = 1 := Aa rfl
theorem AiZ {i : Nat} {v : Nat} : Aw (TV.mp i v) = 1 := Aa rfl
theorem Ahb {i : Nat} {v : Nat} : Aw (TV.yl i v) = 1 := Aa rfl
theorem Ady {cs : List TV} : Aw (.agg cs) = BD cs := by rw [Aw]
theorem Adm {n k : Nat} {cs : List TV} : Aw (.arr n k cs) = n * k := by rw [Aw]
theorem Ab5 : BD [] = 0 := Aa rfl
theorem Aaw {x : TV} {xs : List TV} : BD (x :: xs) = Aw x + BD xs := by rw [BD]
theorem AdF {cs : List TV} : DD (.agg cs) = CU cs := by rw [DD]
theorem Ae5 {t : TypeId} {x : TV} : DD (.ifc t x) = DD x := by rw [DD]
theorem Ad5 {cs : List TV} : DD (.tup cs) = CU cs := by rw [DD]
theorem AeP : CU [] = true := Aa rfl
theorem AcK {x : TV} {xs : List TV} : CU (x :: xs) = (DD x && CU xs) := by rw [CU]
theorem AfV {k : IntKind} {n : Int} : lays (.val (.int k n)) = true := Aa rfl
theorem AeM {b : Bool} : lays (.val (.bool b)) = true := Aa rfl
theorem Aam {s : ByteArray} : lays (.val (.string s)) = true := Aa rfl
theorem Zr {p : Option Addr} : lays (.val (.pointer p)) = true := Aa rfl
theorem AcH {p : Option Addr} {n c : Nat} : lays (.val (.slice p n c)) = true := Aa rfl
theorem AhC {r : Option Nat} : lays (.val (.map r)) = true := Aa rfl
theorem AeU {f : Fn} {a b : Array Value} : lays (.val (.func f a b)) = true := Aa rfl
theorem ZN : lays (.val .nilFunc) = true := Aa rfl
theorem Yl : lays (.val .nilIface) = true := Aa rfl
theorem Aso {e : Env} {n : Nat} : (Opd.t n).ev e = get e n := Aa rfl
theorem Ar3 {e : Env} {n : Nat} : (Opd.g n).ev e = (match JG n with | some x => .fp x.tv | none => .val (.pointer (some ⟨n, 0, none⟩))) := Aa rfl
theorem Ar5 {e : Env} {v : Value} : (Opd.c v).ev e = .val v := Aa rfl
theorem AhS {x : TV} : Jp [] x = some x := Aa rfl
theorem Air {i d : Nat} {p : List (Nat × Nat)} {cs : List TV} : Jp ((i, d) :: p) (.agg cs) = if BD (cs.take i) = d then (cs[i]?).bind (Jp p) else none := by rw [Jp]
theorem Abl {i d n k : Nat} {p : List (Nat × Nat)} {cs : List TV} : Jp ((i, d) :: p) (.arr n k cs) = if d = i * k then (cs[i]?).bind (Jp p) else none := by rw [Jp]
theorem Abu {x y : TV} : QX [] x y = if Aw y = Aw x then some y else none := by rw [QX]
theorem Aiu {i d : Nat} {p : List (Nat × Nat)} {cs : List TV} {y : TV} : QX ((i, d) :: p) (.agg cs) y = if BD (cs.take i) = d then (cs[i]?).bind fun c => (QX p c y).map fun c' => .agg (cs.set i c') else none := by rw [QX]
theorem Ahq {i d n k : Nat} {p : List (Nat × Nat)} {cs : List TV} {y : TV} : QX ((i, d) :: p) (.arr n k cs) y = if d = i * k ∧ DD y = true then (cs[i]?).bind fun c => (QX p c y).map fun c' => .arr n k (cs.set i c') else none := by rw [QX]
theorem AcC {e : Env} : forget [] e = [] := Aa rfl
theorem AaP {e : Env} {s : Nat} {ks : List Nat} : forget (s :: ks) e = (s, get e s) :: forget ks e := Aa rfl
theorem Aef {i : Nat} : XH i [] = [] := Aa rfl
theorem AcB {i : Nat} {x : TV} {xs : List TV} : XH i (x :: xs) = (i, x) :: XH (i + 1) xs := Aa rfl
theorem AhF {ag : Bool} {sz : Nat} {y : TV} : Xl ag sz y = (Aw y = sz ∧ Uo y = ag) := Aa rfl
theorem Acr {H : List Ob} {k k2 : Nat} {cs : List TV} : BU H k (.sl k2 cs) = if k2 = k then some cs else none := Aa rfl
theorem Z9 {H : List Ob} {k : Nat} {p : Option Addr} {n c : Nat} : BU H k (.val (.slice p n c)) = if n = 0 ∧ p.isNone ∧ c = 0 then some [] else none := Aa rfl
theorem AbL {H : List Ob} {k k2 i v o n cp : Nat} {p : List (Nat × Nat)} : BU H k (.os k2 i v p o n cp) = if k2 = k then (match H[i]? with | some (.obj vr x) => if vr = v then Dh p k o n x else none | _ => none) else none := Aa rfl
theorem ZX {k k2 o n N : Nat} {cs : List TV} : Dh [] k o n (.arr N k2 cs) = if k2 = k ∧ o + n ≤ cs.length then some ((cs.drop o).take n) else none := Aa rfl
theorem Ac1 {e : Env} {zs : List TV} : DZ e zs [] = zs := Aa rfl
theorem Acd {e : Env} {zs : List TV} {i : Nat} {x : Opd} {ps : List (Nat × Opd)} : DZ e zs ((i, x) :: ps) = DZ e (zs.set i (x.ev e)) ps := Aa rfl
theorem ZV {e : Env} {ks : List Nat} : Dt e ks [] = True := Aa rfl
theorem Y3 {e : Env} {ks : List Nat} {i : Nat} {x : Opd} {ps : List (Nat × Opd)} : Dt e ks ((i, x) :: ps) = ((lays (x.ev e) = true ∧ ks[i]? = some (Aw (x.ev e))) ∧ Dt e ks ps) := Aa rfl
theorem XL {e : Env} : Bv e [] = True := Aa rfl
theorem WI {e : Env} {i : Nat} {x : Opd} {ps : List (Nat × Opd)} : Bv e ((i, x) :: ps) = (DD (x.ev e) = true ∧ Bv e ps) := Aa rfl
theorem Alm {t : Nat} {e : Env} {H : List Ob} {K : TV → Prop} : res [.tmp t] e H K = K (get e t) := Aa rfl
theorem AhZ {a sz : Nat} {ag : Bool} {e : Env} {H : List Ob} {K : TV → Prop} : res [.cell a ag sz] e H K = pop (.load ag sz (.t a)) e H K := Aa rfl
theorem AdP {e : Env} {H : List Ob} {K : TV → Prop} : res [] e H K = ((∀ x ∈ ([] : List TV), CG x = false) ∧ K (.tup [])) := Aa rfl
theorem AqC {r s : VR} {e : Env} {H : List Ob} {K : TV → Prop} : res [r, s] e H K = ZQ [r, s] e H fun xs => match xs with | [x] => K x | xs => (∀ x ∈ xs, CG x = false) ∧ K (.tup xs) := Aa rfl
theorem AiD {r s : VR} {l : List VR} {e : Env} {H : List Ob} {K : TV → Prop} : res (r :: s :: l) e H K = ZQ (r :: s :: l) e H fun xs => match xs with | [x] => K x | xs => (∀ x ∈ xs, CG x = false) ∧ K (.tup xs) := Aa rfl
theorem Abn {e : Env} {H : List Ob} {K : List TV → Prop} : ZQ [] e H K = K [] := Aa rfl
theorem Agi {t : Nat} {r : List VR} {e : Env} {H : List Ob} {K : List TV → Prop} : ZQ (.tmp t :: r) e H K = ZQ r e H fun xs => K (get e t :: xs) := Aa rfl
theorem Y7 {a sz : Nat} {ag : Bool} {r : List VR} {e : Env} {H : List Ob} {K : List TV → Prop} : ZQ (.cell a ag sz :: r) e H K = pop (.load ag sz (.t a)) e H fun x => ZQ r e H fun xs => K (x :: xs) := Aa rfl
theorem Za {vr : List VR} {R : TV → List Ob → Prop} {e : Env} {H : List Ob} : NU vr R .ret e H = res vr e H fun x => R x H := Aa rfl
theorem Zh {vr : List VR} {R : TV → List Ob → Prop} {e : Env} {H : List Ob} : NU vr R .nor e H = res vr e H fun x => R x H := Aa rfl
theorem Agt {H : List Ob} {g : TV → Option TV} {v : Value} : EY H g (TV.val v) = some (.val v) := by rw [EY]
theorem Ago {H : List Ob} {g : TV → Option TV}  : EY H g (TV.any) = some (.any) := by rw [EY]
theorem Ake {H : List Ob} {g : TV → Option TV} {k : Nat} {cs : List TV} : EY H g (TV.sl k cs) = some (.sl k cs) := by rw [EY]
theorem Ak0 {H : List Ob} {g : TV → Option TV} {x : TV} : EY H g (TV.fp x) = some (.fp x) := by rw [EY]
theorem Ag7 {H : List Ob} {g : TV → Option TV} {n : Nat} {k : Nat} {cs : List TV} : EY H g (TV.arr n k cs) = some (.arr n k cs) := by rw [EY]
theorem Aly {H : List Ob} {g : TV → Option TV} {k i v o n cp : Nat} {p : List (Nat × Nat)} : EY H g (.os k i v p o n cp) = (match H[i]? with | some (.obj vr x) => if vr = v then (Dh p k o n x).map (.sl k) else none | _ => none) := by rw [EY]; rfl
theorem Akh {H : List Ob} {g : TV → Option TV} {i v : Nat} {p : List (Nat × Nat)} : EY H g (.op i v p) = (match H[i]? with | some (.obj vr x) => if vr = v then (Jp p x).bind fun y => (g y).map .fp else none | _ => none) := by rw [EY]; rfl
theorem Aht {H : List Ob} {g : TV → Option TV} {cs : List TV} : EY H g (.agg cs) = (ML H g cs).map .agg := by rw [EY]
theorem AhQ {H : List Ob} {g : TV → Option TV} {cs : List TV} : EY H g (.tup cs) = (ML H g cs).map .tup := by rw [EY]
theorem AiL {H : List Ob} {g : TV → Option TV} {t : TypeId} {x : TV} : EY H g (.ifc t x) = (EY H g x).map (.ifc t) := by rw [EY]
theorem Ad3 {H : List Ob} {g : TV → Option TV} : ML H g [] = some [] := Aa rfl
theorem Acv {H : List Ob} {g : TV → Option TV} {x : TV} {xs : List TV} : ML H g (x :: xs) = (match EY H g x, ML H g xs with | some x, some xs => some (x :: xs) | _, _ => none) := by rw [ML]; rfl
theorem Aqm {H : List Ob} {x : TV} : frz H x = EY H (AcN H 2) x := Aa rfl
theorem Ang {H : List Ob} {x : List TV} : AoK H x = ML H (AcN H 2) x := Aa rfl
theorem Aok {H : List Ob} {d : Nat} {x : TV} : AcN H (d + 1) x = EY H (AcN H d) x := Aa rfl
theorem AjJ {H : List Ob} {v : Value} : frs H (.val v) = some (.val v) := by rw [frs]
theorem AkR {H : List Ob} : frs H .any = some .any := by rw [frs]
theorem AnD {H : List Ob} {k i v o n cp : Nat} {p : List (Nat × Nat)} : frs H (.os k i v p o n cp) = (match H[i]? with | some (.obj vr x) => if vr = v then (match Dh p k o n x with | some cs => if Jq cs then some (.sl k cs) else none | none => none) else none | _ => none) := by rw [frs]; try rfl
theorem AjB {H : List Ob} {cs : List TV} : frs H (.agg cs) = (ZR H cs).map .agg := by rw [frs]
theorem Ak2 {H : List Ob} {n k : Nat} {cs : List TV} : frs H (.arr n k cs) = if Jq cs then some (.arr n k cs) else none := by rw [frs]
theorem Ajp {H : List Ob} {cs : List TV} : frs H (.tup cs) = (ZR H cs).map .tup := by rw [frs]
theorem AkK {H : List Ob} {t : TypeId} {x : TV} : frs H (.ifc t x) = (frs H x).map (.ifc t) := by rw [frs]
theorem Ahg {H : List Ob} : ZR H [] = some [] := by rw [ZR]
theorem Aea {H : List Ob} {x : TV} {xs : List TV} : ZR H (x :: xs) = (match frs H x, ZR H xs with | some x, some xs => some (x :: xs) | _, _ => none) := by rw [ZR]; try rfl
theorem SK {l : List UInt8} : Jq (l.map by8) = true := by
 induction l with
 | nil => rfl
 | cons x l ih => rw [List.map_cons, Jq, ih]; rfl
theorem Ah5 {l : List (List UInt8)} : Jq (l.map ts) = true := by
 induction l with
 | nil => rfl
 | cons x l ih => rw [List.map_cons, Jq, ih]; rfl
theorem Agd {l : List UInt8} {i : Nat} {b : UInt8} : (l.map by8).set i (.val (.int .u8 (b.toNat : Int))) = (l.set i b).map by8 := by rw [List.map_set]
theorem AiF {l : List UInt8} : (l.map by8).map UI = l := by
 rw [List.map_map]
 have : (UI ∘ by8) = id := by funext b; simp
 rw [this, List.map_id]
theorem Aia {l : List UInt8} : (∀ y ∈ l.map by8, AcO y) = True := by simp
theorem AfZ {a b : Nat} : ((a : Int) + (b : Int)) = ((a + b : Nat) : Int) := by omega
theorem AkJ {a b : Nat} : ((a : Int) < (b : Int)) = (a < b) := by simp
theorem AlD {a b : Nat} : ((a : Int) ≤ (b : Int)) = (a ≤ b) := by simp
theorem AkG {a b : Nat} : ((a : Int) = (b : Int)) = (a = b) := propext ⟨fun h => by omega, fun h => by omega⟩
theorem Ajw {a : Nat} : (0 ≤ (a : Int)) = True := by simp

theorem Amn {d s : Nat} {x : TV} : get ((d, x) :: e) s = if d = s then x else get e s := Aa rfl
end
end Go.Proofs.YtmlompedpahkjaaDoor


namespace Go.Proofs.YtmlompedpahkjaaDoor
open Go.RowKit
variable [BA]
set_option linter.unusedSectionVars false
set_option linter.unusedSimpArgs false
set_option linter.unusedVariables false
set_option autoImplicit false
universe u
set_option linter.defProp false

/-- (What it marks is not looked into by simp.) -/
class Tg {α : Sort u} (a : α) : Type where
instance tg {α : Sort u} (a : α) : Tg a := {}
def vif (t : Bool) (A B : Prop) [Tg A] [Tg B] : Prop := if t = true then A else B
def Bj {α : Type} (o : Option α) (K : α → Prop) [Tg K] : Prop := match o with | some y => K y | none => False
def Di (A K : Prop) [Tg K] : Prop := A ∧ K
def Bd {α : Type} (x : α) (K : α → Prop) [Tg K] : Prop := K x
def vex (K : TV → Prop) [Tg K] : Prop := ∃ x, K x
def VC (P : Program) (f : FuncId) (xs : List TV) (H : List Ob) (K : TV → List Ob → Prop) [Tg K] : Prop := Ap P f xs H K
def VY (P : Program) (id ver : Nat) (xs : List TV) (H : List Ob) (K : TV → List Ob → Prop) [Tg K] : Prop := VG P id ver xs H K
theorem OY {P : Program} {f : FuncId} {xs : List TV} {H : List Ob} {K : TV → List Ob → Prop} (h : Ap P f xs H K) : VC P f xs H K := h
section
variable {A A' B K : Prop} {α : Type}
@[congr] theorem Aon {t t' : Bool} (h : t = t') : vif t A B = vif t' A B := by rw [h]
@[congr] theorem AlT {o o' : Option α} {K : α → Prop} (h : o = o') : Bj o K = Bj o' K := by rw [h]
@[congr] theorem AlI (h : A = A') : Di A K = Di A' K := by rw [h]
@[congr] theorem AlS {x x' : α} {K : α → Prop} (h : x = x') : Bd x K = Bd x' K := by rw [h]
@[congr] theorem Amm {P : Program} {c : Af} {Q : VEx → Env → List Ob → Prop} {e e' : Env} {H H' : List Ob} (he : e = e') (hH : H = H') : vwp P c Q e H = vwp P c Q e' H' := by rw [he, hH]
@[congr] theorem Ao1 {P : Program} {f : FuncId} {xs xs' : List TV} {H H' : List Ob} {K : TV → List Ob → Prop} (he : xs = xs') (hH : H = H') : VC P f xs H K = VC P f xs' H' K := by rw [he, hH]
@[congr] theorem AoO {P : Program} {id ver : Nat} {xs xs' : List TV} {H H' : List Ob} {K : TV → List Ob → Prop} (he : xs = xs') (hH : H = H') : VY P id ver xs H K = VY P id ver xs' H' K := by rw [he, hH]
theorem Agw : vif true A B = A := by simp [vif]
theorem Ae7 : vif false A B = B := by simp [vif]
theorem AnY {p : Prop} [Decidable p] (h : p) : vif (decide p) A B = A := by simp [vif, h]
theorem Anr {p : Prop} [Decidable p] (h : ¬ p) : vif (decide p) A B = B := by simp [vif, h]
theorem AjO {t : Bool} : vif (!t) A B = vif t B A := by cases t <;> simp [vif]
theorem Ae6 {p : Prop} [Decidable p] (h1 : p → A) (h2 : ¬ p → B) : vif (decide p) A B := by by_cases h : p <;> simp [vif, h, h1, h2]
theorem Alh {s t : Bool} : vif (s && t) A B = vif s (vif t A B) B := by cases s <;> simp [vif]
theorem Aoc {s t : Bool} : vif (s || t) A B = vif s A (vif t A B) := by cases s <;> simp [vif]
theorem AeE {y : α} {K : α → Prop} : Bj (some y) K = K y := rfl
theorem AgS {β : Type} {f : α → β} {o : Option α} {K : β → Prop} : Bj (o.map f) K = Bj o fun y => K (f y) := by cases o <;> rfl
theorem Ajk {cs : List α} {i : Nat} {K : α → Prop} (h : i < cs.length) : Bj cs[i]? K = K cs[i] := by rw [List.getElem?_eq_getElem h]; rfl
theorem AdN (h : A) : Di A K = K := by simp [Di, h]
theorem Amg : Di True K = K := by simp [Di]
theorem Aiy : Di (A ∧ B) K = Di A (Di B K) := by simp [Di, and_assoc]
theorem Ajz {x : α} {K : α → Prop} : Bd x K = K x := rfl
end

def Fb : Option Ob → Nat → Option TV
 | some (.obj v x), ver => if v = ver then some x else none
 | _, _ => none
theorem AfC {v : Nat} {x : TV} : Fb (some (.obj v x)) v = some x := by simp [Fb]
section
variable {H l : List Ob} {o : Ob} {n k : Nat}
theorem Aja (h : H.length = n) : (H ++ l)[n]? = l[0]? := by rw [List.getElem?_append_right (by omega), h, Nat.sub_self]
theorem Aks (h : H.length = n) : (H ++ l)[n + k]? = l[k]? := by rw [List.getElem?_append_right (by omega)]; congr 1; omega
theorem Aob (h : n < H.length) : (H ++ l)[n]? = H[n]? := List.getElem?_append_left h
theorem Amo (h : n < H.length) : (H.set n o)[n]? = some o := by simp [h]
theorem Aex {m : Nat} (h : m ≠ n) : (H.set m o)[n]? = H[n]? := by rw [List.getElem?_set_ne h]
theorem Aku (h : H.length = n) : (H ++ l).set n o = H ++ l.set 0 o := by rw [List.set_append_right _ _ (by omega), h, Nat.sub_self]
theorem AhK (h : H.length = n) : (H ++ l).set (n + k) o = H ++ l.set k o := by rw [List.set_append_right _ _ (by omega)]; congr 2; omega
theorem Ajg (h : n < H.length) : (H ++ l).set n o = H.set n o ++ l := List.set_append_left _ _ h
end

section
variable {P : Program} {e : Env} {H : List Ob}
def Adb (c a b : TV) (K : TV → Prop) [Tg K] : Prop := match c with | .val (.bool t) => K (if t then a else b) | _ => False
def AoP (t : TypeId) (op : BinOp) (x y : TV) (K : TV → Prop) [Tg K] : Prop := match x, y with
  | .val u, .val v => AgJ u v = true ∧ (match EF t op u v with | some r => K (.val r) | none => False)
  | _, _ => False
def Pun (op : UnOp) (x : TV) (K : TV → Prop) [Tg K] : Prop := match x with
  | .val u => (match unV op u with | some r => K (.val r) | none => False)
  | _ => False
def AgN (k : IntKind) (x : TV) (K : TV → Prop) [Tg K] : Prop := match x with
  | .val (.int _ n) => K (.val (.int k (k.wrap n)))
  | _ => False
def AoS (x : TV) (K : TV → Prop) [Tg K] : Prop := match x with
  | .val (.string s) => K (.val (.string s))
  | _ => False
def AoV (x : Option (List TV)) (K : TV → Prop) [Tg K] : Prop := match x with
  | some cs => (∀ y ∈ cs, AcO y) ∧ K (.val (.string (str (cs.map UI))))
  | none => False
def AaS (H : List Ob) (ag : Bool) (sz : Nat) (x : TV) (K : TV → Prop) [Tg K] : Prop := match x with
  | .fp y => Xl ag sz y ∧ K y
  | .op id ver p => (match H[id]? with
   | some (.obj v x) => v = ver ∧ (match Jp p x with | some y => Xl ag sz y ∧ K y | none => False)
   | _ => False)
  | _ => False
def TE (i off : Nat) (x : TV) (K : TV → Prop) [Tg K] : Prop := match x with
  | .op id ver p => K (.op id ver (p ++ [(i, off)]))
  | .fp (.agg cs) => BD (cs.take i) = off ∧ (match cs[i]? with | some y => K (.fp y) | none => False)
  | _ => False
def Zj (ag : Bool) (sz i off : Nat) (x : TV) (K : TV → Prop) [Tg K] : Prop := match x with
  | .agg cs => BD (cs.take i) = off ∧ (match cs[i]? with | some y => Xl ag sz y ∧ K y | none => False)
  | _ => False
def Acs (k : Nat) (x i : TV) (K : TV → Prop) [Tg K] : Prop := match x, i with
  | .sl k' cs, .val (.int _ j) => k' = k ∧ 0 ≤ j ∧ (match cs[j.toNat]? with | some y => K (.fp y) | none => False)
  | .os k' id ver p off n cp, .val (.int _ j) => k' = k ∧ 0 ≤ j ∧ j < n ∧ K (.op id ver (p ++ [(off + j.toNat, (off + j.toNat) * k)]))
  | _, _ => False
def Xy (n k : Nat) (x i : TV) (K : TV → Prop) [Tg K] : Prop := match x, i with
  | .fp (.arr n' k' cs), .val (.int _ j) => k' = k ∧ n' = n ∧ 0 ≤ j ∧ (match cs[j.toNat]? with | some y => K (.fp y) | none => False)
  | .op id ver p, .val (.int _ j) => 0 ≤ j ∧ j < n ∧ K (.op id ver (p ++ [(j.toNat, j.toNat * k)]))
  | _, _ => False
def Ano (ag : Bool) (n k : Nat) (x i : TV) (K : TV → Prop) [Tg K] : Prop := match x, i with
  | .arr n' k' cs, .val (.int _ j) => k' = k ∧ n' = n ∧ 0 ≤ j ∧ (match cs[j.toNat]? with | some y => Xl ag k y ∧ K y | none => False)
  | _, _ => False
def Aen (x i : TV) (K : TV → Prop) [Tg K] : Prop := match x, i with
  | .val (.string s), .val (.int _ j) => 0 ≤ j ∧ (match (bl s)[j.toNat]? with | some b => K (by8 b) | none => False)
  | _, _ => False
def AmG (i : Nat) (x : TV) (K : TV → Prop) [Tg K] : Prop := match x with
  | .tup xs => (match xs[i]? with | some y => K y | none => False)
  | _ => False
def Agp (x : TV) (K : TV → Prop) [Tg K] : Prop := match x with
  | .val (.string s) => K (.val (.int .i64 (bl s).length))
  | _ => False
def AcG (x : TV) (K : TV → Prop) [Tg K] : Prop := match x with
  | .val (.slice _ n _) => K (.val (.int .i64 n))
  | .sl _ cs => K (.val (.int .i64 cs.length))
  | .os _ _ _ _ _ n _ => K (.val (.int .i64 n))
  | _ => False
def Yp (lo hi : Option TV) (len lim : Nat) (K : Nat → Nat → Prop) [Tg K] : Prop :=
 match (match lo with | none => some 0 | some x => (match x with | .val (.int _ i) => some i | _ => none)), (match hi with | none => some (len : Int) | some x => (match x with | .val (.int _ i) => some i | _ => none)) with
 | some l, some h => (0 ≤ l ∧ l ≤ h ∧ h ≤ lim) ∧ K l.toNat h.toNat
 | _, _ => False
def evO (e : Env) : Option Opd → Option TV
 | none => none
 | some x => some (x.ev e)
theorem Ahx : evO e none = none := Aa rfl
theorem Ahs {x : Opd} : evO e (some x) = some (x.ev e) := Aa rfl
theorem Ac0 {lo hi : Option Opd} {len lim : Nat} {K : Nat → Nat → Prop} : bnd e lo hi len lim K = Yp (evO e lo) (evO e hi) len lim K := by
 cases lo <;> cases hi <;> rfl
def AoW (x : TV) (lo hi : Option TV) (K : TV → Prop) [Tg K] : Prop := match x with
  | .val (.string s) => Yp lo hi (bl s).length (bl s).length fun l h => K (.val (.string (str (((bl s).drop l).take (h - l)))))
  | _ => False
def AlK (k : Nat) (x : TV) (lo hi : Option TV) (K : TV → Prop) [Tg K] : Prop := match x with
  | .sl k' cs => k' = k ∧ Yp lo hi cs.length cs.length fun l h => K (.sl k ((cs.drop l).take (h - l)))
  | .os k' id ver p off n cp => k' = k ∧ Yp lo hi n cp fun l h => K (.os k id ver p (off + l) (h - l) (cp - l))
  | .val (.slice ad 0 0) => Yp lo hi 0 0 fun l h => K (.val (.slice ad 0 0))
  | _ => False
def AlP (H : List Ob) (n k : Nat) (x : TV) (lo hi : Option TV) (K : TV → Prop) [Tg K] : Prop := match x with
  | .fp (.arr n' k' cs) => k' = k ∧ n' = n ∧ n ≤ 9223372036854775807 ∧ Yp lo hi n n fun l h => K (.sl k ((cs.drop l).take (h - l)))
  | .op id ver p => (match H[id]? with
   | some (.obj v x) => v = ver ∧ n ≤ 9223372036854775807 ∧ (match Jp p x with | some (.arr n' k' cs) => k' = k ∧ n' = n ∧ Yp lo hi n n fun l h => K (.os k id ver p l (h - l) (n - l)) | _ => False)
   | _ => False)
  | _ => False
def Abc (t : TypeId) (x : TV) (K : TV → Prop) [Tg K] : Prop := lays x = true ∧ K (.ifc t x)
def Amk (f : Fn) (first caps : List TV) (K : TV → Prop) [Tg K] : Prop := (∀ x ∈ first ++ caps, CG x = false) ∧ K (.fn f first caps)
def Zg (x : TV) (K : TV → Prop) [Tg K] : Prop := match x with
  | .op id ver p => K (.op id ver p)
  | .fp y => K (.fp y)
  | .fn (.func f) a b => K (.fn (.func f) a b)
  | .ifc t y => K (.ifc t y)
  | .val (.func (.func f) a b) => K (.val (.func (.func f) a b))
  | _ => False
def AoH (x y : TV) (K : TV → Prop) [Tg K] : Prop := match x, y with
  | .val (.int k a), .val (.int _ b) => K (.val (.int k (if b < a then b else a)))
  | _, _ => False
def AoL (x y : TV) (K : TV → Prop) [Tg K] : Prop := match x, y with
  | .val (.int k a), .val (.int _ b) => K (.val (.int k (if b > a then b else a)))
  | _, _ => False
def Vr (g : GOp) (H : List Ob) (xs : List TV) (K : TV → Prop) [Tg K] : Prop := match gev g H xs with
  | some y => K y
  | none => False
def Aoo (neg : Bool) (x y : TV) (K : TV → Prop) [Tg K] : Prop := match x, y with
  | .val (.bool a), .val (.bool b) => K (.val (.bool (xor neg (a == b))))
  | _, _ => False
def AmP (neg : Bool) (x y : Option Bool) (K : TV → Prop) [Tg K] : Prop := match x, y with
  | some true, some b => K (.val (.bool (xor neg b)))
  | some false, some true => K (.val (.bool (xor neg false)))
  | _, _ => False
def Zl (H : List Ob) (sz : Nat) (x v : TV) (K : TV → List Ob → Prop) [Tg K] : Prop := (lays v = true ∧ Aw v = sz) ∧ (match x with
  | .op id ver p => (match H[id]? with
   | some (.obj vr y) => vr = ver ∧ (match QX p y v with | some y' => K .any (H.set id (.obj ver y')) | none => False)
   | _ => False)
  | _ => False)
def AoR (H : List Ob) (k bytes : Nat) (z l c : TV) (K : TV → List Ob → Prop) [Tg K] : Prop := match l, c with
  | .val (.int _ l), .val (.int _ c) => (0 ≤ l ∧ l ≤ c ∧ (bytes : Int) * c ≤ 281474976710656 ∧ c ≤ 9223372036854775807) ∧ K (.os k H.length 0 [] 0 l.toNat c.toNat) (H ++ [.obj 0 (.arr c.toNat k (List.replicate c.toNat z))])
  | _, _ => False
def AkX (k bytes : Nat) (et : TypeId) (x : TV) (y : Option (List TV)) (H : List Ob) (K : TV → List Ob → Prop) [Tg K] : Prop := match y with
  | some ys => Aar k bytes et x ys H K
  | none => False
def AaM (k : Nat) (x : TV) (y : Option (List TV)) (H : List Ob) (K : TV → List Ob → Prop) [Tg K] : Prop := match y with
  | some ys => QA k x ys H K
  | none => False
def AhT (et : TypeId) (x y : TV) (H : List Ob) (K : TV → List Ob → Prop) [Tg K] : Prop := match y with
  | .val (.string s) => Aar 1 1 et x ((bl s).map by8) H K
  | _ => False
def AbD (x y : TV) (H : List Ob) (K : TV → List Ob → Prop) [Tg K] : Prop := match y with
  | .val (.string s) => QA 1 x ((bl s).map by8) H K
  | _ => False
def AiE (P : Program) (f : FuncId) (x : Option (Nat × Nat × List UInt8)) (H : List Ob) (K : TV → List Ob → Prop) [Tg K] : Prop := ApM P f ∧ (match x with
  | some (j, v, l) => l.length ≤ 9223372036854775807 ∧ K (.val (.string (str l))) (H.set j (.gone v))
  | none => False)
def AoJ (H : List Ob) (x : TV) (K : TV → List Ob → Prop) [Tg K] : Prop := match x with
  | .val (.string s) => (bl s).length ≤ 9223372036854775807 ∧ K (.os 1 H.length 0 [] 0 (bl s).length (bl s).length) (H ++ [.obj 0 (.arr (bl s).length 1 ((bl s).map by8))])
  | _ => False
def Ah0 (k bytes : Nat) (z x n : TV) (H : List Ob) (K : TV → List Ob → Prop) [Tg K] : Prop := match x, n with
  | .val (.slice none 0 0), .val (.int .i64 j) => (0 ≤ j ∧ (bytes : Int) * j ≤ 140737488355328 ∧ j ≤ 9223372036854775807) ∧ K (.os k H.length 0 [] 0 j.toNat j.toNat) (H ++ [.obj 0 (.arr j.toNat k (List.replicate j.toNat z))])
  | _, _ => False
def AaV (H : List Ob) (K : TV → List Ob → Prop) [Tg K] : Prop := K (.val (.bool true)) H ∧ K (.val (.bool false)) H
def Ai7 (neg : Bool) (x : TV) (H : List Ob) (K : TV → List Ob → Prop) [Tg K] : Prop := match x with
  | .val (.slice a _ _) => K (.val (.bool (xor neg a.isNone))) H
  | .sl _ cs => (cs = [] → K (.val (.bool true)) H ∧ K (.val (.bool false)) H) ∧ (cs ≠ [] → K (.val (.bool neg)) H)
  | .os _ _ _ _ _ n _ => (n = 0 → K (.val (.bool true)) H ∧ K (.val (.bool false)) H) ∧ (n ≠ 0 → K (.val (.bool neg)) H)
  | _ => False
def Xn (P : Program) (x : TV) (args : List TV) (H : List Ob) (K : TV → List Ob → Prop) [Tg K] : Prop := match x with
  | .fn (.func f) first caps => TT P f = true ∧ Ap P f (first ++ args ++ caps) H K
  | .val (.func (.func f) xs ys) => (xs.isEmpty && ys.isEmpty) = true ∧ TT P f = true ∧ Ap P f args H K
  | .yl id ver => VG P id ver args H K
  | _ => False
def AlW (P : Program) (nm : String) (x : TV) (args : List TV) (H : List Ob) (K : TV → List Ob → Prop) [Tg K] : Prop := AoC P nm H x fun f r => Ap P f (r :: args) H K
def AlM (P : Program) (q : Option (FuncId × Option (Bool × Nat))) (r : TV) (args : List TV) (H : List Ob) (K : TV → List Ob → Prop) [Tg K] : Prop := match q with
 | some (f, none) => TT P f = true ∧ Ap P f (r :: args) H K
 | some (f, some (ag, sz)) => TT P f = true ∧ ldT H ag sz r fun y => Ap P f (y :: args) H K
 | none => False
def Gd (q : Option Bool) (b : Bool) (A B : Prop) [Tg A] [Tg B] : Prop := match q with
 | some t => if t = b then A else B
 | none => B
def evs (e : Env) (xs : List Opd) : List TV := xs.map (·.ev e)
theorem Aka : evs e [] = [] := Aa rfl
theorem Ahd {x : Opd} {xs : List Opd} : evs e (x :: xs) = x.ev e :: evs e xs := Aa rfl
def Qn (xs : List TV) : Prop := ∀ x ∈ xs, CG x = false
theorem Ac6 : Qn [] = True := by simp [Qn]
theorem AbT {x : TV} {xs : List TV} : Qn (x :: xs) = (CG x = false ∧ Qn xs) := by simp [Qn]
theorem MC {args : List Opd} : (∀ x ∈ args, CG (x.ev e) = false) = Qn (evs e args) := by simp [Qn, evs]

section
variable {c c' a a' b b' x x' y y' : TV} {K : TV → Prop} {KK : TV → List Ob → Prop} {lo lo' hi hi' : Option TV} {ox ox' : Option (List TV)} {q q' q2 q2' : Option Bool} {xs xs' : List TV} {A B : Prop} {H' : List Ob}
@[congr] theorem ApJ (h1 : c = c') (h2 : a = a') (h3 : b = b') : Adb c a b K = Adb c' a' b' K := by rw [h1, h2, h3]
@[congr] theorem ArN {t : TypeId} {op : BinOp} (h1 : x = x') (h2 : y = y') : AoP t op x y K = AoP t op x' y' K := by rw [h1, h2]
@[congr] theorem Ass {op : UnOp} (h1 : x = x') : Pun op x K = Pun op x' K := by rw [h1]
@[congr] theorem ApC {k : IntKind} (h1 : x = x') : AgN k x K = AgN k x' K := by rw [h1]
@[congr] theorem ArQ (h1 : x = x') : AoS x K = AoS x' K := by rw [h1]
@[congr] theorem ArI (h1 : ox = ox') : AoV ox K = AoV ox' K := by rw [h1]
@[congr] theorem AqH {ag : Bool} {sz : Nat} (h1 : x = x') (h2 : H = H') : AaS H ag sz x K = AaS H' ag sz x' K := by rw [h1, h2]
@[congr] theorem Al1 {i o : Nat} (h1 : x = x') : TE i o x K = TE i o x' K := by rw [h1]
@[congr] theorem AoI {ag : Bool} {sz i o : Nat} (h1 : x = x') : Zj ag sz i o x K = Zj ag sz i o x' K := by rw [h1]
@[congr] theorem ApD {k : Nat} (h1 : x = x') (h2 : y = y') : Acs k x y K = Acs k x' y' K := by rw [h1, h2]
@[congr] theorem AoU {n k : Nat} (h1 : x = x') (h2 : y = y') : Xy n k x y K = Xy n k x' y' K := by rw [h1, h2]
@[congr] theorem ArB {ag : Bool} {n k : Nat} (h1 : x = x') (h2 : y = y') : Ano ag n k x y K = Ano ag n k x' y' K := by rw [h1, h2]
@[congr] theorem Aqv (h1 : x = x') (h2 : y = y') : Aen x y K = Aen x' y' K := by rw [h1, h2]
@[congr] theorem ArS {i : Nat} (h1 : x = x') : AmG i x K = AmG i x' K := by rw [h1]
@[congr] theorem ApO (h1 : x = x') : Agp x K = Agp x' K := by rw [h1]
@[congr] theorem Apu (h1 : x = x') : AcG x K = AcG x' K := by rw [h1]
@[congr] theorem Arq {n m : Nat} {K : Nat → Nat → Prop} {n' m' : Nat} (h1 : lo = lo') (h2 : hi = hi') (h3 : n = n') (h4 : m = m') : Yp lo hi n m K = Yp lo' hi' n' m' K := by rw [h1, h2, h3, h4]
@[congr] theorem ArT (h1 : x = x') (h2 : lo = lo') (h3 : hi = hi') : AoW x lo hi K = AoW x' lo' hi' K := by rw [h1, h2, h3]
@[congr] theorem ArJ {k : Nat} (h1 : x = x') (h2 : lo = lo') (h3 : hi = hi') : AlK k x lo hi K = AlK k x' lo' hi' K := by rw [h1, h2, h3]
@[congr] theorem ArL {n k : Nat} (h0 : H = H') (h1 : x = x') (h2 : lo = lo') (h3 : hi = hi') : AlP H n k x lo hi K = AlP H' n k x' lo' hi' K := by rw [h0, h1, h2, h3]
@[congr] theorem AoF {t : TypeId} (h1 : x = x') : Abc t x K = Abc t x' K := by rw [h1]
@[congr] theorem ArC {f : Fn} {ys ys' : List TV} (h1 : xs = xs') (h2 : ys = ys') : Amk f xs ys K = Amk f xs' ys' K := by rw [h1, h2]
@[congr] theorem Apy (h1 : x = x') : Zg x K = Zg x' K := by rw [h1]
@[congr] theorem ArU (h1 : x = x') (h2 : y = y') : AoH x y K = AoH x' y' K := by rw [h1, h2]
@[congr] theorem Arx (h1 : x = x') (h2 : y = y') : AoL x y K = AoL x' y' K := by rw [h1, h2]
@[congr] theorem ArH {g : GOp} {xs xs' : List TV} (h1 : H = H') (h2 : xs = xs') : Vr g H xs K = Vr g H' xs' K := by rw [h1, h2]
@[congr] theorem ArW {n : Bool} (h1 : x = x') (h2 : y = y') : Aoo n x y K = Aoo n x' y' K := by rw [h1, h2]
@[congr] theorem ArP {n : Bool} (h1 : q = q') (h2 : q2 = q2') : AmP n q q2 K = AmP n q' q2' K := by rw [h1, h2]
@[congr] theorem AoE {sz : Nat} (h0 : H = H') (h1 : x = x') (h2 : y = y') : Zl H sz x y KK = Zl H' sz x' y' KK := by rw [h0, h1, h2]
@[congr] theorem ArR {k n : Nat} {z : TV} (h0 : H = H') (h1 : x = x') (h2 : y = y') : AoR H k n z x y KK = AoR H' k n z x' y' KK := by rw [h0, h1, h2]
@[congr] theorem Aru {k n : Nat} {et : TypeId} (h0 : H = H') (h1 : x = x') (h2 : ox = ox') : AkX k n et x ox H KK = AkX k n et x' ox' H' KK := by rw [h0, h1, h2]
@[congr] theorem ApU {k : Nat} (h0 : H = H') (h1 : x = x') (h2 : ox = ox') : AaM k x ox H KK = AaM k x' ox' H' KK := by rw [h0, h1, h2]
@[congr] theorem Aqw {et : TypeId} (h0 : H = H') (h1 : x = x') (h2 : y = y') : AhT et x y H KK = AhT et x' y' H' KK := by rw [h0, h1, h2]
@[congr] theorem Ao2 (h0 : H = H') (h1 : x = x') (h2 : y = y') : AbD x y H KK = AbD x' y' H' KK := by rw [h0, h1, h2]
@[congr] theorem ApQ {P : Program} {f : FuncId} {r r' : Option (Nat × Nat × List UInt8)} (h0 : H = H') (h1 : r = r') : AiE P f r H KK = AiE P f r' H' KK := by rw [h0, h1]
@[congr] theorem Aqo {k n : Nat} {z : TV} (h0 : H = H') (h1 : x = x') (h2 : y = y') : Ah0 k n z x y H KK = Ah0 k n z x' y' H' KK := by rw [h0, h1, h2]
@[congr] theorem Arw {n : Bool} (h0 : H = H') (h1 : x = x') : Ai7 n x H KK = Ai7 n x' H' KK := by rw [h0, h1]
@[congr] theorem Ari (h0 : H = H') : AaV H KK = AaV H' KK := by rw [h0]
@[congr] theorem ArY (h0 : H = H') (h1 : x = x') : AoJ H x KK = AoJ H' x' KK := by rw [h0, h1]
@[congr] theorem AoG (h0 : H = H') (h1 : x = x') (h2 : xs = xs') : Xn P x xs H KK = Xn P x' xs' H' KK := by rw [h0, h1, h2]
@[congr] theorem ArA {P : Program} {nm : String} (h0 : H = H') (h1 : x = x') (h2 : xs = xs') : AlW P nm x xs H KK = AlW P nm x' xs' H' KK := by rw [h0, h1, h2]
@[congr] theorem Arp {P : Program} {g g' : Option (FuncId × Option (Bool × Nat))} (h : g = g') (h0 : H = H') (h1 : x = x') (h2 : xs = xs') : AlM P g x xs H KK = AlM P g' x' xs' H' KK := by rw [h, h0, h1, h2]
@[congr] theorem AsA {b : Bool} (h1 : q = q') : Gd q b A B = Gd q' b A B := by rw [h1]
end

section
variable {K : TV → Prop} {KK : TV → List Ob → Prop} {x y i a b c : Opd} {lo hi : Option Opd}
theorem Apb : pop (.mov x) e H K = Bd (x.ev e) K := Aa rfl
theorem Aoe : pop (.pick c a b) e H K = Adb (c.ev e) (a.ev e) (b.ev e) K := Aa rfl
theorem AqF {t : TypeId} {op : BinOp} : pop (.bin t op x y) e H K = AoP t op (x.ev e) (y.ev e) K := Aa rfl
theorem Asn {op : UnOp} : pop (.un op x) e H K = Pun op (x.ev e) K := Aa rfl
theorem AmX {k : IntKind} : pop (.conv k x) e H K = AgN k (x.ev e) K := Aa rfl
theorem Aqy : pop (.s2s x) e H K = AoS (x.ev e) K := Aa rfl
theorem Aql : pop (.b2s x) e H K = AoV (BU H 1 (x.ev e)) K := Aa rfl
theorem AmC {ag : Bool} {sz : Nat} : pop (.load ag sz x) e H K = AaS H ag sz (x.ev e) K := Aa rfl
theorem Af1 {n o : Nat} : pop (.fieldA n o x) e H K = TE n o (x.ev e) K := Aa rfl
theorem AkC {ag : Bool} {sz n o : Nat} : pop (.field ag sz n o x) e H K = Zj ag sz n o (x.ev e) K := Aa rfl
theorem AnF {k : Nat} : pop (.idxA k x i) e H K = Acs k (x.ev e) (i.ev e) K := Aa rfl
theorem AkB {n k : Nat} : pop (.idxAA n k x i) e H K = Xy n k (x.ev e) (i.ev e) K := Aa rfl
theorem Arh {ag : Bool} {n k : Nat} : pop (.idx ag n k x i) e H K = Ano ag n k (x.ev e) (i.ev e) K := Aa rfl
theorem AmE : pop (.idxS x i) e H K = Aen (x.ev e) (i.ev e) K := Aa rfl
theorem Aqt {n : Nat} : pop (.ext n x) e H K = AmG n (x.ev e) K := Aa rfl
theorem AmM : pop (.lenS x) e H K = Agp (x.ev e) K := Aa rfl
theorem Al2 : pop (.lenV x) e H K = AcG (x.ev e) K := Aa rfl
theorem Ao6 : pop (.slS x lo hi) e H K = AoW (x.ev e) (evO e lo) (evO e hi) K := by
 show (match x.ev e with | .val (.string s) => bnd e lo hi (bl s).length (bl s).length fun l h => K (.val (.string (str (((bl s).drop l).take (h - l))))) | _ => False) = _
 simp only [Ac0]; rfl
theorem Ao5 {k : Nat} : pop (.slV k x lo hi) e H K = AlK k (x.ev e) (evO e lo) (evO e hi) K := by
 rw [ApS]; simp only [Ac0]; rfl
theorem ApN {n k : Nat} : pop (.slA n k x lo hi) e H K = AlP H n k (x.ev e) (evO e lo) (evO e hi) K := by
 rw [Apc]; simp only [Ac0]; rfl
theorem AjX {t : TypeId} : pop (.iface t x) e H K = Abc t (x.ev e) K := Aa rfl
theorem AqD {f : Fn} {xs ys : List Opd} : pop (.mkf f xs ys) e H K = Amk f (evs e xs) (evs e ys) K := by
 rw [Apl]; unfold Amk evs; rw [← List.map_append]
 refine congrArg (· ∧ _) (propext ⟨fun h y hy => ?_, fun h y hy => h _ (List.mem_map.2 ⟨y, hy, rfl⟩)⟩)
 obtain ⟨z, hz, rfl⟩ := List.mem_map.1 hy; exact h z hz
theorem Am6 : pop (.nilc x) e H K = Zg (x.ev e) K := Aa rfl
theorem AqX : pop (.min x y) e H K = AoH (x.ev e) (y.ev e) K := Aa rfl
theorem AqA : pop (.max x y) e H K = AoL (x.ev e) (y.ev e) K := Aa rfl
theorem AqL {g : GOp} {xs : List Opd} : pop (.gen g xs) e H K = Vr g H (evs e xs) K := Aa rfl
theorem Aqp {n : Bool} : pop (.eqB x y n) e H K = Aoo n (x.ev e) (y.ev e) K := Aa rfl
theorem Ap9 {kd : Nat} {n : Bool} : pop (.eqN kd x y n) e H K = AmP n (Dn kd (x.ev e)) (Dn kd (y.ev e)) K := Aa rfl
theorem Akz {zs : List TV} {szs : List Nat} {ps : List (Nat × Opd)} : pop (.build zs szs ps) e H K = Di (Dt e szs ps) (Bd (TV.agg (DZ e zs ps)) K) := Aa rfl
theorem Ag2 {n k : Nat} {zs : List TV} {ps : List (Nat × Opd)} : pop (.buildA n k zs ps) e H K = Di (Dt e (List.replicate n k) ps) (Di (Bv e ps) (Bd (TV.arr n k (DZ e zs ps)) K)) := Aa rfl
theorem Aqr {k n : Nat} {z : TV} {ps : List (Nat × Opd)} : pop (.bsl k n z ps) e H K = Di (Dt e (List.replicate n k) ps) (Di (Bv e ps ∧ n ≤ 1000) (Bd (TV.sl k (DZ e (List.replicate n z) ps)) K)) := by
 show ((_ ∧ _ ∧ _) ∧ _) = _
 simp only [Di, Bd, and_assoc]
theorem AkH {z : TV} : sop P (.alloc z) e H KK = Bd (H.length) fun n => Bd (H ++ [.obj 0 z]) fun H' => KK (.op n 0 []) H' := Aa rfl
theorem AiU {z : TV} {t : TypeId} : sop P (.allocT z t) e H KK = Bd (H.length) fun n => Bd (Aw z) fun m => Bd (H ++ [.obj 0 z, .fact n 0 t m]) fun H' => KK (.op n 0 []) H' := Aa rfl
theorem Amy {t : TypeId} : sop P (.boxT x t) e H KK = Bd (x.ev e) fun v => Di (lays v = true) (Bd (H.length) fun n => Bd (Aw v) fun m => Bd (H ++ [.obj 0 v, .fact n 0 t m]) fun H' => KK (.op n 0 []) H') := Aa rfl
theorem AmY {f : FuncId} : sop P (.bstr f x) e H KK = AiE P f (AbP H (x.ev e)) H KK := Aa rfl
def Agr (x : TV) (H : List Ob) (K : TV → List Ob → Prop) [Tg K] : Prop := match x with
 | .val (.string s) => K (.op H.length 0 []) (H ++ [.sit (bl s) 0])
 | _ => False
@[congr] theorem Ap3 {x x' : TV} {H' : List Ob} (h1 : x = x') (h2 : H = H') : Agr x H KK = Agr x' H' KK := by rw [h1, h2]
theorem AnL : sop P (.rngS x) e H KK = Agr (x.ev e) H KK := Aa rfl
theorem Af0 {s : ByteArray} : Agr (.val (.string s)) H KK = Bd H.length fun n => Bd (H ++ [.sit (bl s) 0]) fun H' => KK (.op n 0 []) H' := Aa rfl
def Adk : Option Ob → Option (List UInt8 × Nat)
 | some (.sit s pos) => some (s, pos)
 | _ => none
theorem AiY {s : List UInt8} {pos : Nat} : Adk (some (.sit s pos)) = some (s, pos) := Aa rfl
def Ads (x : TV) (H : List Ob) (K : TV → List Ob → Prop) [Tg K] : Prop := match x with
 | .op id 0 [] => (match H[id]? with
  | some (.sit s pos) => if pos < s.length then K (.tup [.val (.bool true), .val (.int .i64 (pos : Int)), .val (.int .i32 ((Utf8.decode (str s) pos).1 : Int))]) (H.set id (.sit s (pos + (Utf8.decode (str s) pos).2))) else K (.tup [.val (.bool false)]) H
  | _ => False)
 | _ => False
@[congr] theorem Ao4 {x x' : TV} {H' : List Ob} (h1 : x = x') (h2 : H = H') : Ads x H KK = Ads x' H' KK := by rw [h1, h2]
theorem Ame : sop P (.nxtS x) e H KK = Ads (x.ev e) H KK := Aa rfl
theorem AgZ {id : Nat} : Ads (.op id 0 []) H KK = Bj (Adk H[id]?) fun p => vif (decide (p.2 < p.1.length))
  (Bd (H.set id (.sit p.1 (p.2 + (Utf8.decode (str p.1) p.2).2))) fun H' => KK (.tup [.val (.bool true), .val (.int .i64 (p.2 : Int)), .val (.int .i32 ((Utf8.decode (str p.1) p.2).1 : Int))]) H') (KK (.tup [.val (.bool false)]) H) := by
 unfold Ads
 cases h : H[id]? with
 | none => simp [Adk, Bj, h]
 | some o =>
  cases o with
  | sit s pos => simp only [h, Adk, Bj, Bd]; by_cases hp : pos < s.length <;> simp [vif, hp]
  | _ => simp [Adk, Bj, h]
theorem ApT : sop P (.box x) e H KK = Bd (x.ev e) fun v => Di (lays v = true) (Bd (H.length) fun n => Bd (H ++ [.obj 0 v]) fun H' => KK (.op n 0 []) H') := Aa rfl
theorem AfN {k n : Nat} {z : TV} {ps : List (Nat × Opd)} : sop P (.bslice k n z ps) e H KK = Di (Dt e (List.replicate n k) ps) (Di (Bv e ps ∧ n ≤ 1000) (Bd H.length fun m => Bd (H ++ [.obj 0 (.arr n k (DZ e (List.replicate n z) ps))]) fun H' => KK (.os k m 0 [] 0 n n) H')) := by
 rw [AgR]; simp only [Di, Bd, and_assoc]
/-- Maps. -/
def UU (kk : MK) : Option Ob → Option (List (List UInt8 × TV))
 | some (.mpo kk' es) => if kk' = kk then some es else none
 | _ => none
def Wh (kk : MK) : Option Ob → Option (List (List UInt8 × TV))
 | some (.mpo kk' es) => if kk' = kk then some es else none
 | some (.mpd kk' zs _) => if kk' = kk then some (zs.map (·.2)) else none
 | _ => none
theorem AhB {kk : MK} {es : List (List UInt8 × TV)} : Wh kk (some (.mpo kk es)) = some es := by simp [Wh]
theorem AkO {kk : MK} {zs : List (Nat × List UInt8 × TV)} {cl : Nat} : Wh kk (some (.mpd kk zs cl)) = some (zs.map (·.2)) := by simp [Wh]
def AaA : Option Ob → Option (List (List UInt8 × TV))
 | some (.mpo _ es) => some es
 | some (.mpd _ zs _) => some (zs.map (·.2))
 | _ => none
theorem AgB {kk : MK} {es : List (List UInt8 × TV)} : AaA (some (.mpo kk es)) = some es := by simp [AaA]
theorem Alp {kk : MK} {zs : List (Nat × List UInt8 × TV)} {cl : Nat} : AaA (some (.mpd kk zs cl)) = some (zs.map (·.2)) := by simp [AaA]
theorem Akr {kk : MK} {es : List (List UInt8 × TV)} : stO (some (.mpo kk es)) = some (kk, UF 0 es, es.length) := Aa rfl
theorem AjI {kk : MK} {zs : List (Nat × List UInt8 × TV)} {cl : Nat} : stO (some (.mpd kk zs cl)) = some (kk, zs, cl) := Aa rfl
/-- A loop over a map begins; its next round. -/
def AeR (x : TV) (H : List Ob) (K : TV → List Ob → Prop) [Tg K] : Prop := match x with
 | .mp id 0 => (match stO H[id]? with
  | some (_, _, cl) => K (.op H.length 0 []) (H ++ [.mit id [] cl])
  | none => False)
 | _ => False
@[congr] theorem ApV {x x' : TV} {H' : List Ob} (h1 : x = x') (h2 : H = H') : AeR x H KK = AeR x' H' KK := by rw [h1, h2]
theorem Aoi : sop P (.rngM x) e H KK = AeR (x.ev e) H KK := Aa rfl
theorem AfX {id : Nat} : AeR (.mp id 0) H KK = Bj (stO H[id]?) fun p => Bd H.length fun n => Bd (H ++ [.mit id [] p.2.2]) fun H' => KK (.op n 0 []) H' := by
 unfold AeR
 cases h : stO H[id]? with
 | none => simp [Bj, h]
 | some o => obtain ⟨a, b, c⟩ := o; simp [Bj, Bd, h]
def XR : Option Ob → Option (Nat × List Nat × Nat)
 | some (.mit m sn cl) => some (m, sn, cl)
 | _ => none
theorem AfY {m cl : Nat} {sn : List Nat} : XR (some (.mit m sn cl)) = some (m, sn, cl) := Aa rfl
def Aeo (x : TV) (H : List Ob) (K : TV → List Ob → Prop) [Tg K] : Prop := match x with
 | .op id 0 [] => (match H[id]? with
  | some (.mit m sn cl) => (match stO H[m]? with
   | some (kk, zs, cl') => (cl' = cl ∧ ∀ z ∈ zs, z.1 < cl) ∧ (∀ z ∈ zs, z.1 ∉ sn → K (.tup [.val (.bool true), kTV kk z.2.1, z.2.2]) (H.set id (.mit m (sn ++ [z.1]) cl))) ∧ ((∀ z ∈ zs, z.1 ∈ sn) → K (.tup [.val (.bool false)]) H)
   | none => False)
  | _ => False)
 | _ => False
@[congr] theorem Arj {x x' : TV} {H' : List Ob} (h1 : x = x') (h2 : H = H') : Aeo x H KK = Aeo x' H' KK := by rw [h1, h2]
theorem An5 : sop P (.nxtM x) e H KK = Aeo (x.ev e) H KK := Aa rfl
/-- The next entry, whichever: any one that was not yet seen; or none, if all were. -/
def Ao3 (id m : Nat) (sn : List Nat) (cl : Nat) (kk : MK) (zs : List (Nat × List UInt8 × TV)) (cl' : Nat) (H : List Ob) (K : TV → List Ob → Prop) [Tg K] : Prop :=
 (cl' = cl ∧ ∀ z ∈ zs, z.1 < cl) ∧ (∀ z ∈ zs, z.1 ∉ sn → K (.tup [.val (.bool true), kTV kk z.2.1, z.2.2]) (H.set id (.mit m (sn ++ [z.1]) cl))) ∧ ((∀ z ∈ zs, z.1 ∈ sn) → K (.tup [.val (.bool false)]) H)
@[congr] theorem Aro {id m : Nat} {sn sn' : List Nat} {cl c2 : Nat} {kk : MK} {zs zs' : List (Nat × List UInt8 × TV)} {cl' c2' : Nat} {H' : List Ob} (h1 : sn = sn') (h2 : cl = c2) (h3 : zs = zs') (h4 : cl' = c2') (h5 : H = H') : Ao3 id m sn cl kk zs cl' H KK = Ao3 id m sn' c2 kk zs' c2' H' KK := by rw [h1, h2, h3, h4, h5]
theorem AiA {id : Nat} : Aeo (.op id 0 []) H KK = Bj (XR H[id]?) fun p => Bj (stO H[p.1]?) fun q => Ao3 id p.1 p.2.1 p.2.2 q.1 q.2.1 q.2.2 H KK := by
 unfold Aeo
 cases h : H[id]? with
 | none => simp [XR, Bj, h]
 | some o =>
  cases o with
  | mit m sn cl =>
   simp only [h, XR, Bj]
   cases h2 : stO H[m]? with
   | none => simp
   | some q => obtain ⟨a, b, c⟩ := q; simp only [Ao3]
  | _ => simp [XR, Bj, h]
/-- The entry last taken. -/
def Anf (p : Nat × List Nat × Nat) (q : MK × List (Nat × List UInt8 × TV) × Nat) : Option TV := match p.2.1.getLast? with
 | some s => if q.2.2 = p.2.2 then (match q.2.1.find? (·.1 == s) with
  | some z => some (.tup [kTV q.1 z.2.1, z.2.2])
  | none => none) else none
 | none => none
/-- A map whose entry goes. -/
def AlJ (kk : MK) (o : Option Ob) : Option (List (Nat × List UInt8 × TV) × Nat) := match stO o with
 | some (kk', zs, cl) => if kk' = kk then some (zs, cl) else none
 | none => none
theorem AhR {kk : MK} {es : List (List UInt8 × TV)} : AlJ kk (some (.mpo kk es)) = some (UF 0 es, es.length) := by simp [AlJ, stO]
theorem Ah7 {kk : MK} {zs : List (Nat × List UInt8 × TV)} {cl : Nat} : AlJ kk (some (.mpd kk zs cl)) = some (zs, cl) := by simp [AlJ, stO]
def Ae8 (kk : MK) (m k : TV) (H : List Ob) (K : TV → List Ob → Prop) [Tg K] : Prop := match m, BG kk k with
 | .mp id 0, some kb => (match stO H[id]? with
  | some (kk', zs, cl) => kk' = kk ∧ K .any (H.set id (.mpd kk (zs.eraseIdx (Wu kb (zs.map (·.2)))) cl))
  | none => False)
 | _, _ => False
@[congr] theorem Apw {kk : MK} {H' : List Ob} {m m' k k' : TV} (h1 : m = m') (h2 : k = k') (h4 : H = H') : Ae8 kk m k H KK = Ae8 kk m' k' H' KK := by rw [h1, h2, h4]
theorem AlX {kk : MK} {m k : Opd} : sop P (.delM kk m k) e H KK = Ae8 kk (m.ev e) (k.ev e) H KK := Aa rfl
theorem AiH {kk : MK} {id : Nat} {kx : TV} : Ae8 kk (.mp id 0) kx H KK = Bj (AlJ kk H[id]?) fun p => Bj (BG kk kx) fun kb => Bd (p.1.eraseIdx (Wu kb (p.1.map (·.2)))) fun zs => Bd (H.set id (.mpd kk zs p.2)) fun H' => KK .any H' := by
 unfold Ae8 AlJ
 cases h : stO H[id]? with
 | none => cases BG kk kx <;> simp [h, Bj]
 | some q =>
  obtain ⟨kk', zs, cl⟩ := q
  by_cases hk : kk' = kk
  ·subst hk; cases BG kk' kx <;> simp [h, Bj, Bd]
  ·cases BG kk kx <;> simp [h, Bj, hk]
/-- A row cleared. -/
def AoY (H : List Ob) (x : TV) (K : TV → List Ob → Prop) [Tg K] : Prop := match x with
 | .os k id ver [] off n cp => n ≠ 0 ∧ obV H[id]? = some ver ∧ K (.os k id ver [] off n cp) H
 | _ => False
@[congr] theorem ArO {H' : List Ob} {x x' : TV} (h0 : H = H') (h1 : x = x') : AoY H x KK = AoY H' x' KK := by rw [h0, h1]
theorem Aqj {x : Opd} : sop P (.cvS x) e H KK = AoY H (x.ev e) KK := Aa rfl
theorem Aj6 {k id ver off n cp : Nat} : AoY H (.os k id ver [] off n cp) KK = Di (n ≠ 0) (Di (obV H[id]? = some ver) (KK (.os k id ver [] off n cp) H)) := Aa rfl
theorem AnH {v : Nat} {y : TV} : obV (some (.obj v y)) = some v := Aa rfl
def Ac2 (k : Nat) (z x : TV) (H : List Ob) (K : TV → List Ob → Prop) [Tg K] : Prop := match x with
 | .os k' id ver p off n cp => QA k (.os k' id ver p off n cp) (List.replicate n z) H fun _ H' => K .any H'
 | .val (.slice none 0 0) => K .any H
 | _ => False
@[congr] theorem Aq4 {k : Nat} {z x x' : TV} {H' : List Ob} (h1 : x = x') (h2 : H = H') : Ac2 k z x H KK = Ac2 k z x' H' KK := by rw [h1, h2]
theorem Al4 {k : Nat} {z : TV} : sop P (.clrS k z x) e H KK = Ac2 k z (x.ev e) H KK := Aa rfl
theorem Aet {k : Nat} {z : TV} : Ac2 k z (.val (.slice none 0 0)) H KK = KK .any H := Aa rfl
theorem AfK {k id ver off n cp : Nat} {p : List (Nat × Nat)} {z : TV} : Ac2 k z (.os k id ver p off n cp) H KK = Bd (List.replicate n z) fun ys => AaM k (.os k id ver p off n cp) (some ys) H fun _ H' => KK .any H' := Aa rfl
theorem Aic {kk : MK} {es : List (List UInt8 × TV)} : UU kk (some (.mpo kk es)) = some es := by simp [UU]
theorem Anu {l : List UInt8} : BG .str (.val (.string (str l))) = some l := by simp [BG, bl, str]
theorem Aol {n : Nat} {l : List UInt8} : BG (.arr n) (.arr n 1 (l.map by8)) = some l := by
 unfold BG; simp only [SI, J5, and_self, if_true]
theorem AlG {z : TV} {r : Option TV} : UQ z false r = r.getD z := by simp [UQ]
theorem AkL {z : TV} {r : Option TV} : UQ z true r = .tup [r.getD z, .val (.bool r.isSome)] := by simp [UQ]
def AlN (x : TV) (A : Prop) [Tg A] : Prop := match x with
 | .val (.int _ _) => A
 | _ => False
@[congr] theorem Ar1 {x x' : TV} {A : Prop} (h : x = x') : AlN x A = AlN x' A := by rw [h]
theorem AjQ {q : IntKind} {n : Int} {A : Prop} : AlN (.val (.int q n)) A = A := by simp [AlN]
theorem AmT {kk : MK} : sop P (.mkm kk none) e H KK = Bd H.length fun n => Bd (H ++ [.mpo kk []]) fun H' => KK (.mp n 0) H' := by simp [sop, Bd]
theorem Anh {kk : MK} : sop P (.mkm kk (some x)) e H KK = AlN (x.ev e) (Bd H.length fun n => Bd (H ++ [.mpo kk []]) fun H' => KK (.mp n 0) H') := by
 simp only [sop, Bd, AlN]
 cases x.ev e with
 | val v => cases v <;> simp
 | _ => simp
def Ae4 (kk : MK) (m k v : TV) (H : List Ob) (K : TV → List Ob → Prop) [Tg K] : Prop := match m, BG kk k with
 | .mp id 0, some kb => (match H[id]? with
  | some (.mpo kk' es) => (kk' = kk ∧ lays v = true) ∧ K .any (H.set id (.mpo kk (Xg kb v es)))
  | _ => False)
 | _, _ => False
@[congr] theorem AqG {kk : MK} {H' : List Ob} {m m' k k' v v' : TV} (h1 : m = m') (h2 : k = k') (h3 : v = v') (h4 : H = H') : Ae4 kk m k v H KK = Ae4 kk m' k' v' H' KK := by rw [h1, h2, h3, h4]
theorem AmO {kk : MK} {m k : Opd} : sop P (.mupd kk m k x) e H KK = Ae4 kk (m.ev e) (k.ev e) (x.ev e) H KK := Aa rfl
def AdX (kk : MK) (z m k : TV) (H : List Ob) (K : TV → List Ob → Prop) [Tg K] : Prop := match m, BG kk k with
 | .mp id 0, some kb => (match H[id]? with
  | some (.mpo kk' es) => kk' = kk ∧ K (.tup [(UX kb es).getD z, .val (.int .i64 (Wu kb es))]) (H.set id (.mpo kk (Xg kb ((UX kb es).getD z) es)))
  | _ => False)
 | _, _ => False
@[congr] theorem Aqx {kk : MK} {H' : List Ob} {z m m' k k' : TV} (h1 : m = m') (h2 : k = k') (h4 : H = H') : AdX kk z m k H KK = AdX kk z m' k' H' KK := by rw [h1, h2, h4]
theorem AmH {kk : MK} {z : TV} {m k : Opd} : sop P (.ment kk z m k) e H KK = AdX kk z (m.ev e) (k.ev e) H KK := Aa rfl
def Aer (m st v : TV) (H : List Ob) (K : TV → List Ob → Prop) [Tg K] : Prop := match m, st with
 | .mp id 0, .val (.int _ j) => (match H[id]? with
  | some (.mpo kk es) => (0 ≤ j ∧ lays v = true) ∧ (match es[j.toNat]? with
   | some (k, _) => K .any (H.set id (.mpo kk (es.set j.toNat (k, v))))
   | none => False)
  | _ => False)
 | _, _ => False
@[congr] theorem Aqd {H' : List Ob} {m m' st st' v v' : TV} (h1 : m = m') (h2 : st = st') (h3 : v = v') (h4 : H = H') : Aer m st v H KK = Aer m' st' v' H' KK := by rw [h1, h2, h3, h4]
theorem Amd {m st : Opd} : sop P (.mest m st x) e H KK = Aer (m.ev e) (st.ev e) (x.ev e) H KK := Aa rfl
theorem AjD {sz : Nat} : sop P (.store sz x y) e H KK = Zl H sz (x.ev e) (y.ev e) KK := Aa rfl
theorem Apr {k n : Nat} {z : TV} : sop P (.mks k n z x y) e H KK = AoR H k n z (x.ev e) (y.ev e) KK := Aa rfl
theorem AqS {k n : Nat} {et : TypeId} : sop P (.app k n et x y) e H KK = AkX k n et (x.ev e) (BU H k (y.ev e)) H KK := Aa rfl
theorem Aoy {et : TypeId} : sop P (.appS et x y) e H KK = AhT et (x.ev e) (y.ev e) H KK := Aa rfl
theorem An6 {k : Nat} : sop P (.copy k x y) e H KK = AaM k (x.ev e) (BU H k (y.ev e)) H KK := Aa rfl
theorem Ajl : sop P (.copyS x y) e H KK = AbD (x.ev e) (y.ev e) H KK := Aa rfl
theorem Al9 {k n : Nat} {z : TV} : sop P (.appZ k n z x y) e H KK = Ah0 k n z (x.ev e) (y.ev e) H KK := Aa rfl
theorem Arc {n : Bool} : sop P (.eqS x n) e H KK = Ai7 n (x.ev e) H KK := Aa rfl
theorem ApB : sop P (.s2b x) e H KK = AoJ H (x.ev e) KK := Aa rfl
theorem An9 {f : FuncId} {args : List Opd} : sop P (.call f args) e H KK = Bd (evs e args) fun xs => Di (Qn xs) (VC P f xs H KK) := by
 rw [Aoa, MC]; rfl
theorem Ard {nm : String} {args : List Opd} : sop P (.inv x nm args) e H KK = Bd (evs e args) fun xs => Di (Qn xs) (AlW P nm (x.ev e) xs H KK) := by
 show ((∀ y ∈ args, CG (y.ev e) = false) ∧ _) = _
 rw [MC]; rfl
theorem Ak4 {args : List Opd} : sop P (.callv x args) e H KK = Bd (evs e args) fun xs => Di (Qn xs) (Xn P (x.ev e) xs H KK) := by
 rw [Akw, MC]; rfl
end

section
variable {K : TV → Prop} {KK : TV → List Ob → Prop} {x y : TV} {cs ys : List TV} {n n' k k' : Nat} {id ver off cp : Nat} {p : List (Nat × Nat)} {j : Int} {q : IntKind} {lo hi : Option TV}
theorem Ahw {t : Bool} : Adb (.val (.bool t)) x y K = vif t (K x) (K y) := by cases t <;> simp [Adb, vif]
theorem AkS {t : TypeId} {op : BinOp} {u v : Value} : AoP t op (.val u) (.val v) K = Di (AgJ u v = true) (Bj (EF t op u v) fun r => Bd (TV.val r) K) := by
 show (_ ∧ _) = _; cases EF t op u v <;> rfl
theorem Amz {op : UnOp} {u : Value} : Pun op (.val u) K = Bj (unV op u) fun r => Bd (TV.val r) K := by
 unfold Pun; simp only; cases unV op u <;> rfl
theorem Agc {k : IntKind} : AgN k (.val (.int q j)) K = Bd (TV.val (.int k (k.wrap j))) K := Aa rfl
theorem Ak1 {s : ByteArray} : AoS (.val (.string s)) K = K (.val (.string s)) := Aa rfl
theorem Ald : AoV (some cs) K = Di (∀ y ∈ cs, AcO y) (Bd (TV.val (.string (str (cs.map UI)))) K) := Aa rfl
theorem Ait {ag : Bool} {sz : Nat} : AaS H ag sz (.fp y) K = Di (Xl ag sz y) (K y) := Aa rfl
theorem Ahi {ag : Bool} {sz : Nat} : AaS H ag sz (.op id ver p) K = Bj (Fb H[id]? ver) fun x => Bj (Jp p x) fun y => Di (Xl ag sz y) (K y) := by
 unfold AaS
 simp only
 cases h : H[id]? with
 | none => simp [Fb, Bj]
 | some o =>
  cases o with
  | gone v => simp [Fb, Bj]
  | ice v m y => simp [Fb, Bj]
  | fact i v t m => simp [Fb, Bj]
  | bld v t l => simp [Fb, Bj]
  | lp st pe fn N en ps ca cb => simp [Fb, Bj]
  | mpo kk es => simp [Fb, Bj]
  | mpd kk zs cl => simp [Fb, Bj]
  | mit m sn cl => simp [Fb, Bj]
  | sit s pos => simp [Fb, Bj]
  | obj v x =>
   by_cases hv : v = ver
   ·subst hv; simp only [Fb, Bj, Di, if_true, true_and]; cases Jp p x <;> rfl
   ·simp [Fb, Bj, hv]
theorem AbR {i o : Nat} : TE i o (.op id ver p) K = Bd (p ++ [(i, o)]) fun p => K (.op id ver p) := Aa rfl
theorem AcD {i o : Nat} : TE i o (.fp (.agg cs)) K = Di (BD (cs.take i) = o) (Bj cs[i]? fun y => K (.fp y)) := by
 unfold TE; simp only; cases cs[i]? <;> rfl
theorem Aev {ag : Bool} {sz i o : Nat} : Zj ag sz i o (.agg cs) K = Di (BD (cs.take i) = o) (Bj cs[i]? fun y => Di (Xl ag sz y) (K y)) := by
 unfold Zj; simp only; cases cs[i]? <;> rfl
theorem AfU : Acs k (.sl k cs) (.val (.int q j)) K = Di (0 ≤ j) (Bj cs[j.toNat]? fun y => K (.fp y)) := by
 unfold Acs; simp only [true_and]; cases cs[j.toNat]? <;> rfl
theorem AfD : Acs k (.os k id ver p off n cp) (.val (.int q j)) K = Di (0 ≤ j ∧ j < n) (Bd (off + j.toNat) fun m => Bd (p ++ [(m, m * k)]) fun p => K (.op id ver p)) := by
 show (k = k ∧ _) = _; simp [Di, Bd, and_assoc]
theorem Ac7 : Xy n k (.fp (.arr n k cs)) (.val (.int q j)) K = Di (0 ≤ j) (Bj cs[j.toNat]? fun y => K (.fp y)) := by
 unfold Xy; simp only [true_and]; cases cs[j.toNat]? <;> rfl
theorem AcZ : Xy n k (.op id ver p) (.val (.int q j)) K = Di (0 ≤ j ∧ j < n) (Bd j.toNat fun m => Bd (p ++ [(m, m * k)]) fun p => K (.op id ver p)) := by
 show (_ ∧ _) = _; simp [Di, Bd, and_assoc]
theorem Alb {ag : Bool} : Ano ag n k (.arr n k cs) (.val (.int q j)) K = Di (0 ≤ j) (Bj cs[j.toNat]? fun y => Di (Xl ag k y) (K y)) := by
 unfold Ano; simp only [true_and]; cases cs[j.toNat]? <;> rfl
theorem AhP {s : ByteArray} : Aen (.val (.string s)) (.val (.int q j)) K = Di (0 ≤ j) (Bj (bl s)[j.toNat]? fun b => K (by8 b)) := by
 unfold Aen; simp only; cases (bl s)[j.toNat]? <;> rfl
theorem Ala {i : Nat} : AmG i (.tup cs) K = Bj cs[i]? K := by
 unfold AmG; simp only; cases cs[i]? <;> rfl
theorem Aif {s : ByteArray} : Agp (.val (.string s)) K = Bd (TV.val (.int .i64 (bl s).length)) K := Aa rfl
theorem Ahm : AcG (.sl k cs) K = Bd (TV.val (.int .i64 cs.length)) K := Aa rfl
theorem Aho : AcG (.os k id ver p off n cp) K = K (.val (.int .i64 n)) := Aa rfl
theorem AcQ {ad : Option Addr} {c : Nat} : AcG (.val (.slice ad n c)) K = K (.val (.int .i64 n)) := Aa rfl
section
variable {len lim : Nat} {KN : Nat → Nat → Prop} {l h : Int} {q2 : IntKind}
theorem AjE : Yp none none len lim KN = Di (len ≤ lim) (KN 0 len) := by
 show ((0 ≤ (0:Int) ∧ (0:Int) ≤ (len : Int) ∧ (len : Int) ≤ lim) ∧ KN (Int.toNat 0) (Int.toNat len)) = _
 simp [Di]
theorem Aj8 : Yp (some (.val (.int q l))) none len lim KN = Di (0 ≤ l ∧ l ≤ len ∧ (len : Int) ≤ lim) (Bd l.toNat fun l => KN l len) := by
 show ((0 ≤ l ∧ l ≤ (len : Int) ∧ (len : Int) ≤ lim) ∧ KN l.toNat (Int.toNat len)) = _
 simp [Di, Bd]
theorem AjA : Yp none (some (.val (.int q h))) len lim KN = Di (0 ≤ h ∧ h ≤ lim) (Bd h.toNat fun h => KN 0 h) := by
 show ((0 ≤ (0:Int) ∧ 0 ≤ h ∧ h ≤ lim) ∧ KN (Int.toNat 0) h.toNat) = _
 simp [Di, Bd]
theorem AjL : Yp (some (.val (.int q l))) (some (.val (.int q2 h))) len lim KN = Di (0 ≤ l ∧ l ≤ h ∧ h ≤ lim) (Bd l.toNat fun l => Bd h.toNat fun h => KN l h) := Aa rfl
end
theorem Akq {s : ByteArray} : AoW (.val (.string s)) lo hi K = Yp lo hi (bl s).length (bl s).length fun l h => Bd (((bl s).drop l).take (h - l)) fun r => K (.val (.string (str r))) := Aa rfl
theorem Ajr : AlK k (.sl k cs) lo hi K = Yp lo hi cs.length cs.length fun l h => Bd ((cs.drop l).take (h - l)) fun r => K (.sl k r) := by
 exact propext ⟨fun h => h.2, fun h => ⟨rfl, h⟩⟩
theorem AkD : AlK k (.os k id ver p off n cp) lo hi K = Yp lo hi n cp fun l h => Bd (off + l) fun o => Bd (h - l) fun m => Bd (cp - l) fun c => K (.os k id ver p o m c) := by
 exact propext ⟨fun h => h.2, fun h => ⟨rfl, h⟩⟩
theorem AgM {ad : Option Addr} : AlK k (.val (.slice ad 0 0)) lo hi K = Yp lo hi 0 0 fun l h => K (.val (.slice ad 0 0)) := Aa rfl
theorem Aj5 : AlP H n k (.fp (.arr n k cs)) lo hi K = Di (n ≤ 9223372036854775807) (Yp lo hi n n fun l h => Bd ((cs.drop l).take (h - l)) fun r => K (.sl k r)) := by
 exact propext ⟨fun h => ⟨h.2.2.1, h.2.2.2⟩, fun h => ⟨rfl, rfl, h.1, h.2⟩⟩
/-- An array at the end of a way. -/
def Zu : Option TV → Nat → Nat → Option (List TV)
 | some (.arr n' k' cs), n, k => if n' = n ∧ k' = k then some cs else none
 | _, _, _ => none
theorem AhI : Zu (some (.arr n k cs)) n k = some cs := by simp [Zu]
theorem Alv : AlP H n k (.op id ver p) lo hi K = Bj (Fb H[id]? ver) fun x => Di (n ≤ 9223372036854775807) (Bj (Zu (Jp p x) n k) fun _ => Yp lo hi n n fun l h => Bd (h - l) fun m => Bd (n - l) fun c => K (.os k id ver p l m c)) := by
 unfold AlP
 simp only
 cases h : H[id]? with
 | none => simp [Fb, Bj]
 | some o =>
  cases o with
  | gone v => simp [Fb, Bj]
  | ice v m y => simp [Fb, Bj]
  | fact i v t m => simp [Fb, Bj]
  | bld v t l => simp [Fb, Bj]
  | lp st pe fn N en ps ca cb => simp [Fb, Bj]
  | mpo kk es => simp [Fb, Bj]
  | mpd kk zs cl => simp [Fb, Bj]
  | mit m sn cl => simp [Fb, Bj]
  | sit s pos => simp [Fb, Bj]
  | obj v x =>
   by_cases hv : v = ver
   ·simp only [Fb, Bj, hv, Di, Bd, if_true, true_and]
    congr 1
    cases hg : Jp p x with
    | none => simp [Zu]
    | some y =>
     cases y with
     | arr n2 k2 ds =>
      by_cases h1 : n2 = n
      ·by_cases h2 : k2 = k
       ·simp [Zu, h1, h2]; exact Iff.rfl
       ·simp [Zu, h1, h2]
      ·simp [Zu, h1]
     | _ => simp [Zu]
   ·simp [Fb, Bj, hv]
theorem AdD {t : TypeId} : Abc t x K = Di (lays x = true) (K (.ifc t x)) := Aa rfl
theorem Alj {f : Fn} : Amk f cs ys K = Di (Qn (cs ++ ys)) (K (.fn f cs ys)) := Aa rfl
theorem AhX : Zg (.op id ver p) K = K (.op id ver p) := Aa rfl
theorem AfW : Zg (.fp y) K = K (.fp y) := Aa rfl
theorem Aig {f : FuncId} {a b : List TV} : Zg (.fn (.func f) a b) K = K (.fn (.func f) a b) := Aa rfl
theorem Aeg {t : TypeId} : Zg (.ifc t y) K = K (.ifc t y) := Aa rfl
theorem Ace {f : FuncId} {a b : Array Value} : Zg (.val (.func (.func f) a b)) K = K (.val (.func (.func f) a b)) := Aa rfl
section
variable {a b : Int} {q2 : IntKind}
theorem Ajs : AoH (.val (.int q a)) (.val (.int q2 b)) K = vif (decide (b < a)) (K (.val (.int q b))) (K (.val (.int q a))) := by
 show K _ = _
 by_cases h : b < a <;> simp [vif, h]
theorem Akp : AoL (.val (.int q a)) (.val (.int q2 b)) K = vif (decide (a < b)) (K (.val (.int q b))) (K (.val (.int q a))) := by
 show K _ = _
 by_cases h : a < b <;> simp [vif, h]
theorem Af9 {q1 q2 q3 : IntKind} {l h m : Int} : Vr (.sl3 k) H [.sl k cs, .val (.int q1 l), .val (.int q2 h), .val (.int q3 m)] K = Di (0 ≤ l ∧ l ≤ h ∧ h ≤ m ∧ m ≤ cs.length) (Bd ((cs.drop l.toNat).take (h.toNat - l.toNat)) fun r => K (.sl k r)) := by
 unfold Vr gev Di Bd
 simp only [true_and]
 by_cases hc : 0 ≤ l ∧ l ≤ h ∧ h ≤ m ∧ m ≤ cs.length
 ·rw [if_pos hc]; simp [hc]
 ·rw [if_neg hc]; simp only [hc, false_and]
theorem AgF {sh : List EL} {b : Bool} {xs ys : List TV} : Vr (.eqR sh b) H [.agg xs, .agg ys] K = Bj (XO sh xs ys) fun r => Bd (TV.val (.bool (xor b r))) K := by
 have hg : gev (.eqR sh b) H [.agg xs, .agg ys] = (XO sh xs ys).map fun r => .val (.bool (xor b r)) := by unfold gev; rfl
 unfold Vr Bj Bd
 rw [hg]
 cases XO sh xs ys <;> rfl
theorem Agf : XO [] [] [] = some true := Aa rfl
theorem An0 {l : List EL} {k : IntKind} {a b : Int} {xs ys : List TV} : XO (.i :: l) (.val (.int k a) :: xs) (.val (.int k b) :: ys) = (XO l xs ys).map fun r => (a == b) && r := by rw [XO, if_pos rfl]
theorem Anc {l : List EL} {a b : ByteArray} {xs ys : List TV} : XO (.s :: l) (.val (.string a) :: xs) (.val (.string b) :: ys) = (XO l xs ys).map fun r => (a == b) && r := Aa rfl
theorem Al3 {l : List EL} {n : Nat} {a b : List UInt8} {xs ys : List TV} : XO (.b n :: l) (.arr n 1 (a.map by8) :: xs) (.arr n 1 (b.map by8) :: ys) = (XO l xs ys).map fun r => (a == b) && r := by
 rw [XO]
 simp only [SI, J5, and_self, if_true]
theorem AhJ {n : Nat} {b : Bool} {xs ys : List UInt8} : Vr (.eqA n b) H [.arr n 1 (xs.map by8), .arr n 1 (ys.map by8)] K = Bd (TV.val (.bool (xor b (xs == ys)))) K := by
 unfold Vr gev Bd
 simp only [SI, J5, and_self, if_true]
theorem Aie {q : IntKind} {n : Int} : Vr .r2s H [.val (.int q n)] K = Bd (TV.val (.string (Utf8.encode n))) K := Aa rfl
theorem Ah3 {t t' : TypeId} : Vr (.tas t) H [.ifc t' x] K = Di (t' = t) (K x) := by
 unfold Vr gev Di
 by_cases h : t' = t <;> simp [h]
theorem AdV {a : Option Addr} {l n : Nat} : Vr .capV H [.val (.slice a l n)] K = Bd (TV.val (.int .i64 (n : Int))) K := Aa rfl
theorem Aii {n : Nat} : Vr (.s2a n k) H [.sl k cs] K = Di (0 < n ∧ n ≤ cs.length) (Bd (cs.take n) fun r => K (.fp (.arr n k r))) := by
 unfold Vr gev Di Bd
 simp only [true_and]
 by_cases hc : 0 < n ∧ n ≤ cs.length
 ·rw [if_pos hc]; simp [hc]
 ·rw [if_neg hc]; simp only [hc, false_and]
theorem Amv {s t : Bool} : Aoo false (.val (.bool s)) (.val (.bool t)) K = Bd (TV.val (.bool (s == t))) K := by
 show K _ = _; simp [Bd]
theorem Aom {s t : Bool} : Aoo true (.val (.bool s)) (.val (.bool t)) K = Bd (TV.val (.bool (!(s == t)))) K := by
 show K _ = _; simp [Bd]
theorem Ani {m b : Bool} : AmP m (some true) (some b) K = Bd (TV.val (.bool (xor m b))) K := Aa rfl
theorem AmB {m : Bool} : AmP m (some false) (some true) K = Bd (TV.val (.bool (xor m false))) K := Aa rfl
end
theorem AhU {kk : MK} {m : Nat} {kx v : TV} : Ae4 kk (.mp m 0) kx v H KK = Bj (UU kk H[m]?) fun es => Bj (BG kk kx) fun kb => Di (lays v = true) (Bd (Xg kb v es) fun es' => Bd (H.set m (.mpo kk es')) fun H' => KK .any H') := by
 unfold Ae4
 cases hh : H[m]? with
 | none => cases BG kk kx <;> simp [hh, UU, Bj]
 | some o =>
  cases o with
  | mpo kk' es =>
   by_cases hk : kk' = kk
   ·subst hk; cases BG kk' kx <;> simp [hh, UU, Bj, Di, Bd]
   ·cases BG kk kx <;> simp [hh, UU, Bj, hk]
  | _ => cases BG kk kx <;> simp [hh, UU, Bj]
theorem AgK {kk : MK} {m : Nat} {kx z : TV} : AdX kk z (.mp m 0) kx H KK = Bj (UU kk H[m]?) fun es => Bj (BG kk kx) fun kb => Bd ((UX kb es).getD z) fun y => Bd (Wu kb es) fun p => Bd (Xg kb y es) fun es' => Bd (H.set m (.mpo kk es')) fun H' => KK (.tup [y, .val (.int .i64 (p : Int))]) H' := by
 unfold AdX
 cases hh : H[m]? with
 | none => cases BG kk kx <;> simp [hh, UU, Bj]
 | some o =>
  cases o with
  | mpo kk' es =>
   by_cases hk : kk' = kk
   ·subst hk; cases BG kk' kx <;> simp [hh, UU, Bj, Bd]
   ·cases BG kk kx <;> simp [hh, UU, Bj, hk]
  | _ => cases BG kk kx <;> simp [hh, UU, Bj]
def XA : Option Ob → Option (MK × List (List UInt8 × TV))
 | some (.mpo kk es) => some (kk, es)
 | _ => none
theorem Adv {kk : MK} {es : List (List UInt8 × TV)} : XA (some (.mpo kk es)) = some (kk, es) := by simp [XA]
theorem Af5 {m j : Nat} {q : IntKind} {v : TV} : Aer (.mp m 0) (.val (.int q (j : Int))) v H KK = Bj (XA H[m]?) fun p => Di (lays v = true) (Bj p.2[j]? fun y => Bd (p.2.set j (y.1, v)) fun es' => Bd (H.set m (.mpo p.1 es')) fun H' => KK .any H') := by
 unfold Aer
 cases hh : H[m]? with
 | none => simp [hh, XA, Bj]
 | some o =>
  cases o with
  | mpo kk' es =>
   simp only [hh, XA, Bj, Di, Bd, Int.natCast_nonneg, true_and, Int.toNat_natCast]
   cases es[j]? <;> simp
  | _ => simp [hh, XA, Bj]
theorem Aeq {kk : MK} {z kx : TV} {ok : Bool} {m : Nat} : Vr (.look kk z ok) H [.mp m 0, kx] K = Bj (Wh kk H[m]?) fun es => Bj (BG kk kx) fun kb => Bd (UQ z ok (UX kb es)) K := by
 unfold Vr gev X5
 cases hh : H[m]? with
 | none => cases hb : BG kk kx <;> simp [hh, hb, Wh, Bj]
 | some o =>
  cases o with
  | mpo kk' es =>
   by_cases hk : kk' = kk
   ·subst hk; cases hb : BG kk' kx <;> simp [hh, hb, Wh, Bj, Bd]
   ·cases hb : BG kk kx <;> simp [hh, hb, Wh, Bj, hk]
  | mpd kk' zs cl =>
   by_cases hk : kk' = kk
   ·subst hk; cases hb : BG kk' kx <;> simp [hh, hb, Wh, Bj, Bd]
   ·cases hb : BG kk kx <;> simp [hh, hb, Wh, Bj, hk]
  | _ => cases hb : BG kk kx <;> simp [hh, hb, Wh, Bj]
theorem Acp {kk : MK} {z kx : TV} {ok : Bool} : Vr (.look kk z ok) H [.val (.map none), kx] K = Bj (BG kk kx) fun kb => Bd (UQ z ok none) K := by
 unfold Vr gev X5
 cases hb : BG kk kx <;> simp [hb, Bj, Bd]
theorem Afy {m : Nat} : Vr .lenM H [.mp m 0] K = Bj (AaA H[m]?) fun p => Bd p.length fun n => Bd (TV.val (.int .i64 (n : Int))) K := by
 unfold Vr gev Ah2
 cases hh : H[m]? with
 | none => simp [hh, AaA, Bj]
 | some o => cases o <;> simp [hh, AaA, Bj, Bd]
theorem Ad7 {id : Nat} : Vr .entM H [.op id 0 []] K = Bj (XR H[id]?) fun p => Bj (stO H[p.1]?) fun q => Bj (Anf p q) K := by
 unfold Vr gev AoM
 cases hh : H[id]? with
 | none => simp [hh, XR, Bj]
 | some o =>
  cases o with
  | mit m sn cl =>
   simp only [hh, XR, Bj, Anf]
   cases h2 : stO H[m]? with
   | none => simp
   | some q =>
    obtain ⟨kk, zs, cl'⟩ := q
    cases h3 : sn.getLast? with
    | none => simp
    | some s =>
     by_cases hc : cl' = cl
     ·subst hc; cases hf : zs.find? (·.1 == s) <;> simp [hf]
     ·simp [hc]
  | _ => simp [hh, XR, Bj]
theorem Afx {sz : Nat} : Zl H sz (.op id ver p) y KK = Di (lays y = true ∧ Aw y = sz) (Bj (Fb H[id]? ver) fun z => Bj (QX p z y) fun z' => Bd (H.set id (.obj ver z')) fun H' => KK .any H') := by
 unfold Zl
 simp only [Di]
 congr 1
 cases h : H[id]? with
 | none => simp [Fb, Bj]
 | some o =>
  cases o with
  | gone v => simp [Fb, Bj]
  | ice v m y => simp [Fb, Bj]
  | fact i v t m => simp [Fb, Bj]
  | bld v t l => simp [Fb, Bj]
  | lp st pe fn N en ps ca cb => simp [Fb, Bj]
  | mpo kk es => simp [Fb, Bj]
  | mpd kk zs cl => simp [Fb, Bj]
  | mit m sn cl => simp [Fb, Bj]
  | sit s pos => simp [Fb, Bj]
  | obj v x =>
   by_cases hv : v = ver
   ·subst hv; simp only [Fb, Bj, Bd, if_true, true_and]; cases QX p x y <;> rfl
   ·simp [Fb, Bj, hv]
theorem Alt {z : TV} {l c : Int} {q2 : IntKind} {bytes : Nat} : AoR H k bytes z (.val (.int q l)) (.val (.int q2 c)) KK = Di (0 ≤ l ∧ l ≤ c ∧ (bytes : Int) * c ≤ 281474976710656 ∧ c ≤ 9223372036854775807) (Bd l.toNat fun l => Bd c.toNat fun c => Bd H.length fun m => Bd (H ++ [.obj 0 (.arr c k (List.replicate c z))]) fun H' => KK (.os k m 0 [] 0 l c) H') := Aa rfl
/-- A row that may grow: a nil slice, or an object of one's own. -/
theorem AgG {bytes : Nat} {et : TypeId} : AkX k bytes et (.val (.slice none 0 0)) (some ys) H KK = Di (ys.length * bytes ≤ 140737488355328 ∧ ys.length ≤ 9223372036854775807) (Bd ys.length fun n => Bd H.length fun m => Bd (H ++ [.obj 1 (.arr n k ys)]) fun H' => KK (.os k m 1 [] 0 n n) H') := Aa rfl
/-- The array in an object. -/
def AaH : Option TV → Nat → Option (List TV)
 | some (.arr _ k' cs), k => if k' = k then some cs else none
 | _, _ => none
theorem AhW : AaH (some (.arr n k cs)) k = some cs := by simp [AaH]
theorem AgA {v n2 : Nat} {et : TypeId} : Af7 (some (.obj v (.arr n2 k cs))) v k et off n ys = some (.obj (v + 1) (.arr (n + ys.length) k ((cs.drop off).take n ++ ys))) := by simp [Af7]
theorem AbB {v : Nat} {et : TypeId} {l m : List UInt8} : Af7 (some (.bld v et l)) v 1 et 0 n (m.map by8) = some (.bld (v + 1) et (l.take n ++ m)) := by
 simp only [Af7, SI, J5, and_self, if_true]
theorem Aeh {v : Nat} {et : TypeId} {l : List UInt8} {b : UInt8} : Af7 (some (.bld v et l)) v 1 et 0 n [by8 b] = some (.bld (v + 1) et (l.take n ++ [b])) := AbB (m := [b])
theorem AiB {v n2 : Nat} : AlO (some (.obj v (.arr n2 k cs))) = cs.length := by simp [AlO]
theorem AgQ {v : Nat} {et : TypeId} {l : List UInt8} : AlO (some (.bld v et l)) = l.length := by simp [AlO]
theorem AkM {bytes : Nat} {et : TypeId} : AkX k bytes et (.os k id ver [] off n cp) (some ys) H KK = Bj (Af7 H[id]? ver k et off n ys) fun o => Di (off + n ≤ AlO H[id]? ∧ (n + ys.length) * bytes ≤ 140737488355328 ∧ n + ys.length ≤ 9223372036854775807)
   (Bd (n + ys.length) fun m => Bd (H.set id o) fun H' => KK (.os k id (ver + 1) [] 0 m m) H') := by
 unfold AkX Aar
 simp only [true_and]
 cases h : Af7 H[id]? ver k et off n ys with
 | none => simp [Bj]
 | some o => simp [Bj, Di, Bd]
theorem AgT {s : ByteArray} {et : TypeId} : AhT et x (.val (.string s)) H KK = Bd ((bl s).map by8) fun ys => AkX 1 1 et x (some ys) H KK := Aa rfl
/-- How many elements an array has. -/
def Aqe : Option TV → Option Nat
 | some (.arr n _ _) => some n
 | _ => none
theorem AlA : Aqe (some (.arr n k cs)) = some n := Aa rfl
theorem Agh : AaM k (.os k id ver p off n cp) (some ys) H KK = Bj (Fb H[id]? ver) fun z => Bj (AaH (Jp p z) k) fun cs => Bj (Aqe (Jp p z)) fun N => Di (off + n ≤ cs.length) (Bj (QX p z (.arr N k (cs.take off ++ (ys.take n ++ cs.drop (off + min ys.length n))))) fun z' =>
  Bd (H.set id (.obj ver z')) fun H' => Bd (TV.val (.int .i64 (min ys.length n : Nat))) fun r => KK r H') := by
 unfold AaM QA
 simp only [true_and]
 cases h : H[id]? with
 | none => simp [Fb, Bj]
 | some o =>
  cases o with
  | gone v => simp [Fb, Bj]
  | ice v m y => simp [Fb, Bj]
  | fact i v t m => simp [Fb, Bj]
  | bld v t l => simp [Fb, Bj]
  | lp st pe fn N en ps ca cb => simp [Fb, Bj]
  | mpo kk es => simp [Fb, Bj]
  | mpd kk zs cl => simp [Fb, Bj]
  | mit m sn cl => simp [Fb, Bj]
  | sit s pos => simp [Fb, Bj]
  | obj v x =>
   by_cases hv : v = ver
   ·simp only [Fb, Bj, hv, if_true, true_and]
    cases hg : Jp p x with
    | none => simp [AaH]
    | some y =>
     cases y with
     | arr n2 k2 ds =>
      by_cases h1 : k2 = k
      ·subst h1; simp only [AaH, Aqe, Di, Bd, if_true, true_and]; refine congrArg (_ ∧ ·) ?_; cases QX p x (.arr n2 k2 (ds.take off ++ (ys.take n ++ ds.drop (off + min ys.length n)))) <;> rfl
      ·simp [AaH, h1]
     | _ => simp [AaH]
   ·simp [Fb, Bj, hv]
theorem Afj {s : ByteArray} : AbD x (.val (.string s)) H KK = Bd ((bl s).map by8) fun ys => AaM 1 x (some ys) H KK := Aa rfl
theorem AhH {f : FuncId} {j v : Nat} {l : List UInt8} : AiE P f (some (j, v, l)) H KK = Di (ApM P f) (Di (l.length ≤ 9223372036854775807) (Bd (H.set j (.gone v)) fun H' => KK (.val (.string (str l))) H')) := Aa rfl
def AmU (o : Option Ob) (j v n : Nat) (a : TV) : Option (Nat × Nat × List UInt8) := match o with
 | some (.bld v3 t l) => if v3 = v ∧ t = ZI ∧ n = l.length ∧ Aw a = 1 then some (j, v, l) else none
 | _ => none
def Ahp (H : List Ob) (j v n : Nat) (a : TV) : Option (Nat × Nat × List UInt8) := AmU H[j]? j v n a
def AcJ (H : List Ob) (q : Option TV) : Option (Nat × Nat × List UInt8) := match q with
 | some (.agg [a, .os 1 j v2 [] 0 n cp]) => Ahp H j v2 n a
 | _ => none
theorem Ahn {id ver : Nat} {p : List (Nat × Nat)} : AbP H (.op id ver p) = AcJ H ((Fb H[id]? ver).bind (Jp p)) := by
 unfold AbP
 simp only []
 cases h : H[id]? with
 | none => simp [Fb, AcJ]
 | some o =>
  cases o with
  | obj v y =>
   by_cases hv : v = ver
   ·simp only [Fb, hv, if_true, Option.bind_some]
    unfold AcJ Ahp AmU
    rfl
   ·simp [Fb, AcJ, hv]
  | _ => simp [Fb, AcJ]
theorem AfS {a : TV} {j v n cp : Nat} : AcJ H (some (.agg [a, .os 1 j v [] 0 n cp])) = Ahp H j v n a := Aa rfl
theorem Agu {a : TV} {j v n : Nat} : Ahp H j v n a = AmU H[j]? j v n a := Aa rfl
theorem AjK {a : TV} {j v n : Nat} {l : List UInt8} (hn : n = l.length) (ha : Aw a = 1) : AmU (some (.bld v 5 l)) j v n a = some (j, v, l) := by
 simp [AmU, hn, ha, ZI]
theorem Akc {s : ByteArray} : AoJ H (.val (.string s)) KK = Di ((bl s).length ≤ 9223372036854775807) (Bd (bl s).length fun n => Bd ((bl s).map by8) fun r => Bd H.length fun m => Bd (H ++ [.obj 0 (.arr n 1 r)]) fun H' => KK (.os 1 m 0 [] 0 n n) H') := Aa rfl
theorem Ahr {z : TV} {j : Int} {bytes : Nat} : Ah0 k bytes z (.val (.slice none 0 0)) (.val (.int .i64 j)) H KK = Di (0 ≤ j ∧ (bytes : Int) * j ≤ 140737488355328 ∧ j ≤ 9223372036854775807) (Bd j.toNat fun n => Bd H.length fun m => Bd (H ++ [.obj 0 (.arr n k (List.replicate n z))]) fun H' => KK (.os k m 0 [] 0 n n) H') := Aa rfl
theorem AfQ {n : Bool} {a : Option Addr} {l c : Nat} : Ai7 n (.val (.slice a l c)) H KK = KK (.val (.bool (xor n a.isNone))) H := Aa rfl
theorem AlE {n : Bool} : Ai7 n (.sl k cs) H KK = vif (decide (cs.length = 0)) (AaV H KK) (KK (.val (.bool n)) H) := by
 unfold Ai7 vif AaV
 by_cases h : cs = []
 ·subst h; simp
 ·have h2 : ¬ cs.length = 0 := fun e => h (List.length_eq_zero_iff.1 e)
  simp [h, h2]
theorem Akg {n : Bool} {m off l cp : Nat} {p : List (Nat × Nat)} : Ai7 n (.os k m ver p off l cp) H KK = vif (decide (l = 0)) (AaV H KK) (KK (.val (.bool n)) H) := by
 unfold Ai7 vif AaV
 by_cases h : l = 0
 ·subst h; simp
 ·simp [h]
theorem AaB (h1 : KK (.val (.bool true)) H) (h2 : KK (.val (.bool false)) H) : AaV H KK := ⟨h1, h2⟩
theorem Aff {f : FuncId} {a b : List TV} : Xn P (.fn (.func f) a b) cs H KK = Di (TT P f = true) (Bd (a ++ cs ++ b) fun xs => VC P f xs H KK) := Aa rfl
theorem Acy {f : FuncId} : Xn P (.val (.func (.func f) #[] #[])) cs H KK = Di (TT P f = true) (VC P f cs H KK) := by
 exact propext ⟨fun h => ⟨h.2.1, h.2.2⟩, fun h => ⟨rfl, h.1, h.2⟩⟩
theorem Afi : Xn P (.yl id ver) cs H KK = VY P id ver cs H KK := Aa rfl
theorem Ajj {nm : String} {t : TypeId} : AlW P nm (.ifc t x) cs H KK = AlM P (Aiv P t nm) x cs H KK := by
 unfold AlW AoC AlM
 show (match Aiv P t nm with | some (f, none) => _ | some (f, some (ag, sz)) => _ | none => False) = _
 rcases Aiv P t nm with _ | ⟨f, _ | ⟨ag, sz⟩⟩ <;> rfl
theorem AmF {f : FuncId} : AlM P (some (f, none)) x cs H KK = Di (TT P f = true) (Bd (x :: cs) fun xs => VC P f xs H KK) := Aa rfl
theorem Ank {f : FuncId} {ag : Bool} {sz : Nat} : AlM P (some (f, some (ag, sz))) x cs H KK = Di (TT P f = true) (AaS H ag sz x fun y => Bd (y :: cs) fun xs => VC P f xs H KK) := Aa rfl
theorem AqP {t : Bool} {A B : Prop} : Gd (some t) true A B = vif t A B := Aa rfl
theorem Apq {t : Bool} {A B : Prop} : Gd (some t) false A B = vif t B A := by cases t <;> simp [Gd, vif]
theorem Asu {b : Bool} {A B : Prop} : Gd none b A B = B := Aa rfl
end

section
variable {Q : VEx → Env → List Ob → Prop} {l : List VO} {kp : List Nat} {a b : Af}
def AgH (x : TV) (A B : Prop) [Tg A] [Tg B] : Prop := match x with
  | .val (.bool t) => if t = true then A else B
  | _ => False
@[congr] theorem AqR {x x' : TV} {A B : Prop} (h : x = x') : AgH x A B = AgH x' A B := by rw [h]
theorem Ag4 {t : Bool} {A B : Prop} : AgH (.val (.bool t)) A B = vif t A B := Aa rfl
theorem AqW : vwp P (.ops l kp) Q e H = UV P l (fun e H => Bd (forget kp e) fun e => Q .nor e H) e H := Aa rfl
def AgU (zs : List Nat) (e : Env) (H : List Ob) (K : Env → List Ob → Prop) [Tg K] : Prop := AlQ zs K e H
@[congr] theorem ApZ {zs : List Nat} {e e' : Env} {H H' : List Ob} {K : Env → List Ob → Prop} (h1 : e = e') (h2 : H = H') : AgU zs e H K = AgU zs e' H' K := by rw [h1, h2]
theorem ApF {K : Env → List Ob → Prop} : AgU [] e H K = K e H := Aa rfl
theorem Anm {l r : List VO} {zs kp : List Nat} : vwp P (.opsZ l zs r kp) Q e H = UV P l (fun e H => AgU zs e H fun e H => UV P r (fun e H => Bd (forget kp e) fun e => Q .nor e H) e H) e H := Aa rfl
theorem AnU {n : Nat} : vwp P (.draw n l kp) Q e H = (vq P (l.take n) (fun e => UV P (l.drop n) (fun e H => Bd (forget kp e) fun e => Q .nor e H) e H) e H) := Aa rfl
/-- What follows. -/
def Thn (P : Program) (b : Af) (Q : VEx → Env → List Ob → Prop) : VEx → Env → List Ob → Prop := fun x e H => match x with | .nor => vwp P b Q e H | .exit i => Q (.exit i) e H | .ret => Q .ret e H | .pan u => Q (.pan u) e H
theorem AjF : Thn P b Q .nor e H = vwp P b Q e H := Aa rfl
theorem AhG {i : Nat} : Thn P b Q (.exit i) e H = Q (.exit i) e H := Aa rfl
theorem AkY : Thn P b Q .ret e H = Q .ret e H := Aa rfl
theorem Apv : vwp P (.seq a b) Q e H = vwp P a (Thn P b Q) e H := Aa rfl
/-- The end of a block. -/
def Blk (id : Nat) (Q : VEx → Env → List Ob → Prop) : VEx → Env → List Ob → Prop := fun x e H => match x with | .nor => Q .nor e H | .exit i => if i = id then Q .nor e H else Q (.exit i) e H | .ret => Q .ret e H | .pan u => Q (.pan u) e H
theorem Aki {id : Nat} : Blk id Q .nor e H = Q .nor e H := Aa rfl
theorem Aip {id : Nat} : Blk id Q (.exit id) e H = Q .nor e H := by simp [Blk]
theorem Z5 {id i : Nat} (h : i ≠ id) : Blk id Q (.exit i) e H = Q (.exit i) e H := by simp [Blk, h]
theorem AkV {id : Nat} : Blk id Q .ret e H = Q .ret e H := Aa rfl
theorem Akb {id : Nat} : vwp P (.block id a) Q e H = vwp P a (Blk id Q) e H := Aa rfl
theorem Amb {c : Opd} : vwp P (.cond c a b) Q e H = AgH (c.ev e) (vwp P a Q e H) (vwp P b Q e H) := Aa rfl
/-- The end of a round, from a beginning with n0 objects on. -/
def Rnd (n0 : Nat) (lv : List Nat) (Q : VEx → Env → List Ob → Prop) (I : Nat → Env → List Ob → Prop) (n : Nat) : VEx → Env → List Ob → Prop := fun x e H => match x with
 | .nor => ∃ m g, m < n ∧ (n0 ≤ g ∧ (H.length ≤ g ∨ (VD g (forget lv e) = true ∧ Ws g (H.take g) = true))) ∧ I m (forget lv e) (H.take g)
 | .exit i => Q (.exit i) e H | .ret => Q .ret e H | .pan u => Q (.pan u) e H
section
variable {n0 : Nat} {lv : List Nat} {I : Nat → Env → List Ob → Prop} {n : Nat}
theorem AhO {i : Nat} : Rnd n0 lv Q I n (.exit i) e H = Q (.exit i) e H := Aa rfl
theorem Akv : Rnd n0 lv Q I n .ret e H = Q .ret e H := Aa rfl
/-- A round's end, all objects kept. -/
theorem A8 (m : Nat) (hm : m < n) (h : n0 ≤ H.length) (hR : I m (forget lv e) H) : Rnd n0 lv Q I n .nor e H := by
 refine ⟨m, H.length, hm, ⟨h, .inl (Nat.le_refl _)⟩, ?_⟩
 rw [List.take_length]; exact hR
end
/-- A LOOP: what holds ahead of each round. -/
theorem Dq {lv : List Nat} {H0 : List Ob} (I : Nat → Env → List Ob → Prop) (n : Nat) (h0 : I n (forget lv e) H0)
  (hs : ∀ n e H, I n e H → vwp P a (Rnd H0.length lv Q I n) e H) : vwp P (.loop lv a) Q e H0 := by
 rw [AmD]
 exact ⟨I, n, h0, hs⟩
theorem o_g {d s : Nat} {o : VOp} {b : Bool} {r : List VO} {K : Env → List Ob → Prop} : UV P (⟨some d, o, some (s, b)⟩ :: r) K e H = WJ e s fun e q => Gd q b (vop P o e H (fun x H => UV P r K ((d, x) :: e) H)) (UV P r K ((d, .val undef) :: e) H) := by
 rw [AnA]; refine congrArg (WJ e s) ?_; funext e q; cases q <;> rfl
def Afa (x : TV) (e : Env) (s : Nat) (Q : Env → Option Bool → Prop) [Tg Q] : Prop := match x with
 | .val v => Q e (isB v)
 | .any => (∀ t, Q ((s, .val (.bool t)) :: e) (some t)) ∧ ∀ v, isB v = none → Q ((s, .val v) :: e) none
 | _ => False
@[congr] theorem AqM {x x' : TV} {s : Nat} {Q : Env → Option Bool → Prop} (h : x = x') : Afa x e s Q = Afa x' e s Q := by rw [h]
theorem AmZ {s : Nat} {Q : Env → Option Bool → Prop} : WJ e s Q = Afa (get e s) e s Q := Aa rfl
theorem Aj3 {b : Bool} {s : Nat} {Q : Env → Option Bool → Prop} : Afa (.val (.bool b)) e s Q = Q e (some b) := Aa rfl
theorem Alu {s : Nat} {Q : Env → Option Bool → Prop} : Afa (.val undef) e s Q = Q e none := Aa rfl
theorem u_c {d : Nat} {f : FuncId} {args : List Opd} {r : List VO} {K : Env → Prop} : vq P (⟨some d, .s (.call f args), none⟩ :: r) K e H = Bd (evs e args) fun xs => Di (Qn xs) (vex fun x => VC P f xs H (fun y H' => y = x ∧ H' = H) ∧ vq P r K ((d, x) :: e) H) := by
 rw [Ar8, MC]; rfl
def Gq (x : TV) (b : Bool) (A B : Prop) [Tg A] [Tg B] : Prop := match x with
 | .val v => if isB v = some b then A else B
 | _ => False
@[congr] theorem Asz {x x' : TV} {b : Bool} {A B : Prop} (h : x = x') : Gq x b A B = Gq x' b A B := by rw [h]
theorem Asm {t : Bool} {A B : Prop} : Gq (.val (.bool t)) true A B = vif t A B := by cases t <;> simp [Gq, vif, isB]
theorem Asp {b : Bool} {A B : Prop} : Gq (.val undef) b A B = B := by simp [Gq, isB, undef]
theorem Asl {t : Bool} {A B : Prop} : Gq (.val (.bool t)) false A B = vif t B A := by cases t <;> simp [Gq, vif, isB]
theorem u_g {d s : Nat} {o : VOp} {b : Bool} {r : List VO} {K : Env → Prop} : vq P (⟨some d, o, some (s, b)⟩ :: r) K e H = Gq (get e s) b (YD P o e H fun x => vq P r K ((d, x) :: e) H) (vq P r K ((d, .val undef) :: e) H) := Aa rfl
theorem Asw {f : FuncId} {args : List Opd} {k : TV → Prop} : YD P (.s (.call f args)) e H k = Bd (evs e args) fun xs => Di (Qn xs) (vex fun x => VC P f xs H (fun y H' => y = x ∧ H' = H) ∧ k x) := by
 rw [Aji, MC]; rfl
def AmJ (P : Program) (x : TV) (s k : Nat) (c : Af) (Q : VEx → Env → List Ob → Prop) (e : Env) (H : List Ob) : Prop := match x with
  | .val (.slice none 0 0) => vwp P c Q ((s, .os k H.length 0 [] 0 0 0) :: e) (H ++ [.obj 0 (.arr 0 k [])])
  | _ => vwp P c Q e H
@[congr] theorem ArF {x x' : TV} {s k : Nat} (h : x = x') : AmJ P x s k a Q e H = AmJ P x' s k a Q e H := by rw [h]
theorem AqO {s k : Nat} : vwp P (.own s k a) Q e H = AmJ P (get e s) s k a Q e H := Aa rfl
theorem Aid {s k : Nat} : AmJ P (.val (.slice none 0 0)) s k a Q e H = vwp P a Q ((s, .os k H.length 0 [] 0 0 0) :: e) (H ++ [.obj 0 (.arr 0 k [])]) := Aa rfl
theorem Ak5 {s k k' id ver off n cp : Nat} {p : List (Nat × Nat)} : AmJ P (.os k' id ver p off n cp) s k a Q e H = vwp P a Q e H := Aa rfl
end
/-- Results. -/
theorem ApK {t : Nat} {K : TV → Prop} : res [.tmp t] e H K = Bd (get e t) K := Aa rfl
theorem Aoh {t : Nat} {r : List VR} {K : List TV → Prop} : ZQ (.tmp t :: r) e H K = Bd (get e t) fun x => ZQ r e H fun xs => K (x :: xs) := Aa rfl
def ArK (K : TV → Prop) (xs : List TV) : Prop := match xs with
 | [x] => K x
 | xs => (∀ x ∈ xs, CG x = false) ∧ K (.tup xs)
theorem Ah4 {x y : TV} {l : List TV} {K : TV → Prop} : ArK K (x :: y :: l) = Di (Qn (x :: y :: l)) (Bd (TV.tup (x :: y :: l)) K) := Aa rfl
theorem AmA {r s : VR} {l : List VR} {K : TV → Prop} : res (r :: s :: l) e H K = ZQ (r :: s :: l) e H (ArK K) := Aa rfl
theorem AmS {a sz : Nat} {ag : Bool} {K : TV → Prop} : res [.cell a ag sz] e H K = pop (.load ag sz (.t a)) e H K := Aa rfl
theorem Aqn {K : TV → Prop} : res [] e H K = K (.tup []) := by rw [AdP]; simp
end

def VCP (P : Program) (f : FuncId) (xs : List TV) (H : List Ob) (K : TV → List Ob → Prop) (KP : Value → List Ob → Prop) [Tg K] [Tg KP] : Prop := Ro P f xs H K KP
@[congr] theorem Aov {P : Program} {f : FuncId} {xs xs' : List TV} {H H' : List Ob} {K : TV → List Ob → Prop} {KP : Value → List Ob → Prop} (he : xs = xs') (hH : H = H') : VCP P f xs H K KP = VCP P f xs' H' K KP := by rw [he, hH]
def AlL (x : TV) (K : Value → Prop) [Tg K] : Prop := match x with
 | .val (.iface t v) => K (.iface t v)
 | .ifc t (.val v) => K (.iface t v)
 | _ => False
@[congr] theorem ArD {x x' : TV} {K : Value → Prop} (h : x = x') : AlL x K = AlL x' K := by rw [h]
theorem AfG {t : TypeId} {v : Value} {K : Value → Prop} : AlL (.ifc t (.val v)) K = K (.iface t v) := Aa rfl
theorem Aj9 {t : TypeId} {v : Value} {K : Value → Prop} : AlL (.val (.iface t v)) K = K (.iface t v) := Aa rfl
section
variable {P : Program} {e : Env} {H : List Ob} {r : List VO} {K : Env → List Ob → Prop} {PP : Value → List Ob → Prop} {Q : VEx → Env → List Ob → Prop}
@[congr] theorem Alg {l : List VO} {e' : Env} {H' : List Ob} (he : e = e') (hH : H = H') : PU P PP l K e H = PU P PP l K e' H' := by rw [he, hH]
@[congr] theorem AkP {o : VOp} {e' : Env} {H' : List Ob} {KK : TV → List Ob → Prop} (he : e = e') (hH : H = H') : pvop P PP o e H KK = pvop P PP o e' H' KK := by rw [he, hH]
theorem AnV {l : List VO} {kp : List Nat} : vwp P (.pops l kp) Q e H = PU P (fun u H => Q (.pan u) (Aad l e) H) l (fun e H => Bd (forget kp e) fun e => Q .nor e H) e H := Aa rfl
theorem AkT {n : Nat} {l : List VO} {kp : List Nat} : vwp P (.pdraw n l kp) Q e H = (vq P (l.take n) (fun e => PU P (fun u H => Q (.pan u) [] H) (l.drop n) (fun e H => Bd (forget kp e) fun e => Q .nor e H) e H) e H) := Aa rfl
theorem Aoj : PU P PP [] K e H = K e H := Aa rfl
theorem Asf {d : Nat} {o : VOp} : PU P PP (⟨some d, o, none⟩ :: r) K e H = pvop P PP o e H (fun x H => PU P PP r K ((d, x) :: e) H) := Aa rfl
theorem Ao7 {o : VOp} : PU P PP (⟨none, o, none⟩ :: r) K e H = pvop P PP o e H (fun x H => PU P PP r K e H) := Aa rfl
theorem Ar9 {d s : Nat} {o : VOp} {b : Bool} : PU P PP (⟨some d, o, some (s, b)⟩ :: r) K e H = WJ e s fun e q => Gd q b (pvop P PP o e H (fun x H => PU P PP r K ((d, x) :: e) H)) (PU P PP r K ((d, .val undef) :: e) H) := by
 show KT (pvop P PP) _ K e H = _
 rw [KT]
 refine congrArg (WJ e s) ?_; funext e q; cases q <;> rfl
theorem Anp {o : POp} {KK : TV → List Ob → Prop} : pvop P PP (.p o) e H KK = pop o e H fun x => KK x H := Aa rfl
theorem AeW {f : FuncId} {args : List Opd} {KK : TV → List Ob → Prop} : pvop P PP (.s (.call f args)) e H KK = Bd (evs e args) fun xs => Di (Qn xs) (VCP P f xs H KK PP) := by
 show ((∀ x ∈ args, CG (x.ev e) = false) ∧ _) = _
 rw [MC]; rfl
theorem Agv {x : Opd} {KK : TV → List Ob → Prop} : pvop P PP (.s (.pan x)) e H KK = AlL (x.ev e) (fun u => PP u H) := by
 show (match x.ev e with | .val (.iface t v) => PP (.iface t v) H | .ifc t (.val v) => PP (.iface t v) H | _ => False) = _
 unfold AlL
 split <;> simp_all
theorem Ab2 {z : TV} {KK : TV → List Ob → Prop} : pvop P PP (.s (.alloc z)) e H KK = sop P (.alloc z) e H KK := Aa rfl
theorem Ahh {x : Opd} {KK : TV → List Ob → Prop} : pvop P PP (.s (.box x)) e H KK = sop P (.box x) e H KK := Aa rfl
theorem Aab {k n : Nat} {z : TV} {ps : List (Nat × Opd)} {KK : TV → List Ob → Prop} : pvop P PP (.s (.bslice k n z ps)) e H KK = sop P (.bslice k n z ps) e H KK := Aa rfl
theorem Ab9 {sz : Nat} {x v : Opd} {KK : TV → List Ob → Prop} : pvop P PP (.s (.store sz x v)) e H KK = sop P (.store sz x v) e H KK := Aa rfl
theorem Ags {k bytes : Nat} {z : TV} {l c : Opd} {KK : TV → List Ob → Prop} : pvop P PP (.s (.mks k bytes z l c)) e H KK = sop P (.mks k bytes z l c) e H KK := Aa rfl
theorem AgL {k bytes : Nat} {et : TypeId} {x y : Opd} {KK : TV → List Ob → Prop} : pvop P PP (.s (.app k bytes et x y)) e H KK = sop P (.app k bytes et x y) e H KK := Aa rfl
theorem AdS {et : TypeId} {x y : Opd} {KK : TV → List Ob → Prop} : pvop P PP (.s (.appS et x y)) e H KK = sop P (.appS et x y) e H KK := Aa rfl
theorem AcX {k n : Nat} {z : TV} {x y : Opd} {KK : TV → List Ob → Prop} : pvop P PP (.s (.appZ k n z x y)) e H KK = sop P (.appZ k n z x y) e H KK := Aa rfl
theorem AiX {x : Opd} {n : Bool} {KK : TV → List Ob → Prop} : pvop P PP (.s (.eqS x n)) e H KK = sop P (.eqS x n) e H KK := Aa rfl
theorem AiW {x : Opd} {KK : TV → List Ob → Prop} : pvop P PP (.s (.s2b x)) e H KK = sop P (.s2b x) e H KK := Aa rfl
theorem Ac8 {k : Nat} {x y : Opd} {KK : TV → List Ob → Prop} : pvop P PP (.s (.copy k x y)) e H KK = sop P (.copy k x y) e H KK := Aa rfl
theorem AbV {x y : Opd} {KK : TV → List Ob → Prop} : pvop P PP (.s (.copyS x y)) e H KK = sop P (.copyS x y) e H KK := Aa rfl
theorem Aci {x : Opd} {args : List Opd} {KK : TV → List Ob → Prop} : pvop P PP (.s (.callv x args)) e H KK = sop P (.callv x args) e H KK := Aa rfl
theorem Agg {x : Opd} {nm : String} {args : List Opd} {KK : TV → List Ob → Prop} : pvop P PP (.s (.inv x nm args)) e H KK = sop P (.inv x nm args) e H KK := Aa rfl
theorem Af2 {kk : MK} {h : Option Opd} {KK : TV → List Ob → Prop} : pvop P PP (.s (.mkm kk h)) e H KK = sop P (.mkm kk h) e H KK := Aa rfl
theorem Ade {kk : MK} {m k x : Opd} {KK : TV → List Ob → Prop} : pvop P PP (.s (.mupd kk m k x)) e H KK = sop P (.mupd kk m k x) e H KK := Aa rfl
theorem Ad4 {kk : MK} {z : TV} {m k : Opd} {KK : TV → List Ob → Prop} : pvop P PP (.s (.ment kk z m k)) e H KK = sop P (.ment kk z m k) e H KK := Aa rfl
theorem AeC {m st x : Opd} {KK : TV → List Ob → Prop} : pvop P PP (.s (.mest m st x)) e H KK = sop P (.mest m st x) e H KK := Aa rfl
theorem ZZ {z : TV} {t : TypeId} {KK : TV → List Ob → Prop} : pvop P PP (.s (.allocT z t)) e H KK = sop P (.allocT z t) e H KK := Aa rfl
theorem Afe {x : Opd} {t : TypeId} {KK : TV → List Ob → Prop} : pvop P PP (.s (.boxT x t)) e H KK = sop P (.boxT x t) e H KK := Aa rfl
theorem Adt {x : Opd} {KK : TV → List Ob → Prop} : pvop P PP (.s (.rngS x)) e H KK = sop P (.rngS x) e H KK := Aa rfl
theorem Ad8 {x : Opd} {KK : TV → List Ob → Prop} : pvop P PP (.s (.nxtS x)) e H KK = sop P (.nxtS x) e H KK := Aa rfl
theorem Aec {x : Opd} {KK : TV → List Ob → Prop} : pvop P PP (.s (.rngM x)) e H KK = sop P (.rngM x) e H KK := Aa rfl
theorem Afl {x : Opd} {KK : TV → List Ob → Prop} : pvop P PP (.s (.nxtM x)) e H KK = sop P (.nxtM x) e H KK := Aa rfl
theorem Afu {kk : MK} {m k : Opd} {KK : TV → List Ob → Prop} : pvop P PP (.s (.delM kk m k)) e H KK = sop P (.delM kk m k) e H KK := Aa rfl
theorem Aim {x : Opd} {KK : TV → List Ob → Prop} : pvop P PP (.s (.cvS x)) e H KK = sop P (.cvS x) e H KK := Aa rfl
theorem Ae1 {k : Nat} {z : TV} {x : Opd} {KK : TV → List Ob → Prop} : pvop P PP (.s (.clrS k z x)) e H KK = sop P (.clrS k z x) e H KK := Aa rfl
theorem Aee {f : FuncId} {x : Opd} {KK : TV → List Ob → Prop} : pvop P PP (.s (.bstr f x)) e H KK = sop P (.bstr f x) e H KK := Aa rfl
theorem Ak7 {b : Af} {u : Value} : Thn P b Q (.pan u) e H = Q (.pan u) e H := Aa rfl
theorem AlF {id : Nat} {u : Value} : Blk id Q (.pan u) e H = Q (.pan u) e H := Aa rfl
theorem Ak9 {n0 : Nat} {lv : List Nat} {I : Nat → Env → List Ob → Prop} {n : Nat} {u : Value} : Rnd n0 lv Q I n (.pan u) e H = Q (.pan u) e H := Aa rfl
theorem Acw {vr : List VR} {R : TV → List Ob → Prop} {RP : Value → List Ob → Prop} : AcU vr R RP .ret e H = res vr e H fun x => R x H := Aa rfl
theorem AbQ {vr : List VR} {R : TV → List Ob → Prop} {RP : Value → List Ob → Prop} : AcU vr R RP .nor e H = res vr e H fun x => R x H := Aa rfl
theorem AbZ {vr : List VR} {R : TV → List Ob → Prop} {RP : Value → List Ob → Prop} {u : Value} : AcU vr R RP (.pan u) e H = RP u H := Aa rfl
def ZO (P : Program) (PP : Value → List Ob → Prop) (Ss : List Nat) (l : List VO) (K : Env → List Ob → Prop) (e : Env) (H : List Ob) : Prop := KT (pvopS P PP Ss) l K e H
@[congr] theorem AjG {Ss : List Nat} {l : List VO} {e' : Env} {H' : List Ob} (he : e = e') (hH : H = H') : ZO P PP Ss l K e H = ZO P PP Ss l K e' H' := by rw [he, hH]
@[congr] theorem Ajd {Ss : List Nat} {o : VOp} {e' : Env} {H' : List Ob} {KK : TV → List Ob → Prop} (he : e = e') (hH : H = H') : pvopS P PP Ss o e H KK = pvopS P PP Ss o e' H' KK := by rw [he, hH]
theorem Alk {n : Nat} {l : List VO} {kp : List Nat} : vwp P (.sdraw n l kp) Q e H = (vq P (l.take n) (fun e => ZO P (fun u H => Q (.pan u) [] H) (AkW l) (l.drop n) (fun e H => Bd (forget kp e) fun e => Q .nor e H) e H) e H) := Aa rfl
section
variable {Ss : List Nat}
theorem Al6 : ZO P PP Ss [] K e H = K e H := Aa rfl
theorem Ar4 {d : Nat} {o : VOp} : ZO P PP Ss (⟨some d, o, none⟩ :: r) K e H = pvopS P PP Ss o e H (fun x H => ZO P PP Ss r K ((d, x) :: e) H) := Aa rfl
theorem Arf {o : VOp} : ZO P PP Ss (⟨none, o, none⟩ :: r) K e H = pvopS P PP Ss o e H (fun x H => ZO P PP Ss r K e H) := Aa rfl
theorem Ana {o : POp} {KK : TV → List Ob → Prop} : pvopS P PP Ss (.p o) e H KK = pop o e H fun x => KK x H := Aa rfl
theorem AeX {f : FuncId} {args : List Opd} {KK : TV → List Ob → Prop} : pvopS P PP Ss (.s (.call f args)) e H KK = Bd (evs e args) fun xs => Di (Qn xs) (VCP P f xs H (fun x H' => KK x H' ∧ Um Ss e H H') PP) := by
 show ((∀ x ∈ args, CG (x.ev e) = false) ∧ _) = _
 rw [MC]; rfl
theorem Ack {sz : Nat} {x v : Opd} {KK : TV → List Ob → Prop} : pvopS P PP Ss (.s (.store sz x v)) e H KK = sop P (.store sz x v) e H fun x H' => KK x H' ∧ Um Ss e H H' := Aa rfl
theorem AbW {z : TV} {KK : TV → List Ob → Prop} : pvopS P PP Ss (.s (.alloc z)) e H KK = sop P (.alloc z) e H KK := Aa rfl
theorem Ais {k bytes : Nat} {z : TV} {l c : Opd} {KK : TV → List Ob → Prop} : pvopS P PP Ss (.s (.mks k bytes z l c)) e H KK = sop P (.mks k bytes z l c) e H KK := Aa rfl
theorem Agz {k bytes : Nat} {et : TypeId} {x y : Opd} {KK : TV → List Ob → Prop} : pvopS P PP Ss (.s (.app k bytes et x y)) e H KK = sop P (.app k bytes et x y) e H KK := Aa rfl
theorem ZT {k n : Nat} {z : TV} {ps : List (Nat × Opd)} {KK : TV → List Ob → Prop} : pvopS P PP Ss (.s (.bslice k n z ps)) e H KK = sop P (.bslice k n z ps) e H KK := Aa rfl
end
theorem Abj {e : Env} {H H' : List Ob} : Um [] e H H' := Um.nil
theorem Ael {s : Nat} {Ss : List Nat} {e : Env} {H H' : List Ob} (h : (match get e s with | .op _ _ _ => false | _ => true) = true) (h2 : Um Ss e H H') : Um (s :: Ss) e H H' := fun t ht id' ver' p' hg => by
 rcases List.mem_cons.1 ht with rfl | ht
 ·rw [hg] at h; cases h
 ·exact h2 t ht id' ver' p' hg
theorem Ap.callsP {f : FuncId} {args : List TV} {R : TV → List Ob → Prop} {RP : Value → List Ob → Prop} (h : Ap P f args H R) : VCP P f args H R RP := h.mayP
end
def Ah := (And.intro (And.intro (And.intro (And.intro (And.intro (And.intro (And.intro (And.intro @Apb @Aoe) (And.intro @AqF @Asn)) (And.intro (And.intro @AmX @Aqy) (And.intro @Aql @AmC))) (And.intro (And.intro (And.intro @Af1 @AkC) (And.intro @AnF @AkB)) (And.intro (And.intro @Arh @AmE) (And.intro @Aqt @AmM)))) (And.intro (And.intro (And.intro (And.intro @Al2 @Ao6) (And.intro @Ao5 @ApN)) (And.intro (And.intro @AjX @AqD) (And.intro @Am6 @AqX))) (And.intro (And.intro (And.intro @AqA @Aqp) (And.intro @Ap9 @AqL)) (And.intro (And.intro @Akz @Ag2) (And.intro @Aqr @AkH))))) (And.intro (And.intro (And.intro (And.intro (And.intro @AiU @ApT) (And.intro @Amy @AmY)) (And.intro (And.intro @AnL @Ame) (And.intro @Aoi @An5))) (And.intro (And.intro (And.intro @AlX @Al4) (And.intro @Aqj @AfN)) (And.intro (And.intro @AjD @Apr) (And.intro @AqS @Aoy)))) (And.intro (And.intro (And.intro (And.intro @An6 @Ajl) (And.intro @ApB @Al9)) (And.intro (And.intro @Arc @AmT) (And.intro @Anh @AmO))) (And.intro (And.intro (And.intro @AmH @Amd) (And.intro @An9 @Ak4)) (And.intro (And.intro @Ard @AqW) (And.intro @Anm @ApF)))))) (And.intro (And.intro (And.intro (And.intro (And.intro (And.intro @AnU @AnN) (And.intro @Apv @Akb)) (And.intro (And.intro @Amb @AmN) (And.intro @Aqb @Akl))) (And.intro (And.intro (And.intro @AqO @An1) (And.intro @Am4 @Ag3)) (And.intro (And.intro @Ant @Aos) (And.intro @Ajn @o_g)))) (And.intro (And.intro (And.intro (And.intro @AmZ @Ao8) (And.intro @Aqf @Am2)) (And.intro (And.intro @Asr @u_c) (And.intro @u_g @Akj))) (And.intro (And.intro (And.intro @Asw @Za) (And.intro @Zh @ApK)) (And.intro (And.intro @AmS @Aqn) (And.intro @AmA @Abn))))) (And.intro (And.intro (And.intro (And.intro (And.intro @Aoh @Y7) (And.intro @Ah4 @AjF)) (And.intro (And.intro @AhG @AkY) (And.intro @Aki @Aip))) (And.intro (And.intro (And.intro @Z5 @AkV) (And.intro @AhO @Akv)) (And.intro (And.intro @AnV @AkT) (And.intro @Alk @Al6)))) (And.intro (And.intro (And.intro (And.intro @Ar4 @Arf) (And.intro @Ana @AeX)) (And.intro (And.intro @Ack @AbW) (And.intro @Ais @Agz))) (And.intro (And.intro (And.intro @ZT @Aoj) (And.intro @Asf @Ao7)) (And.intro (And.intro @Ar9 @Anp) (And.intro @AeW @Agv))))))) (And.intro (And.intro (And.intro (And.intro (And.intro (And.intro @Ab2 @Ahh) (And.intro @Aab @Ab9)) (And.intro (And.intro @Ags @AgL) (And.intro @AdS @AiW))) (And.intro (And.intro (And.intro @AcX @AiX) (And.intro @Ac8 @AbV)) (And.intro (And.intro @Aci @Agg) (And.intro @Af2 @Ade)))) (And.intro (And.intro (And.intro (And.intro @Ad4 @AeC) (And.intro @ZZ @Afe)) (And.intro (And.intro @Adt @Ad8) (And.intro @Aec @Afl))) (And.intro (And.intro (And.intro @Afu @Ae1) (And.intro @Aim @Aee)) (And.intro (And.intro @Ak7 @AlF) (And.intro @Ak9 @Acw))))) (And.intro @AbQ @AbZ)))
def Ae := (And.intro (And.intro (And.intro (And.intro (And.intro (And.intro (And.intro (And.intro @Aj9 @AfG) (And.intro @Agw @Ae7)) (And.intro (And.intro @AjO @Alh) (And.intro @Aoc @AnY))) (And.intro (And.intro (And.intro @Anr @AeE) (And.intro @AgS @Ajk)) (And.intro (And.intro @Aiy @Amg) (And.intro @AdN @Ajz)))) (And.intro (And.intro (And.intro (And.intro @AfC @Aja) (And.intro @Aks @Aob)) (And.intro (And.intro @Amo @Aex) (And.intro @Aku @AhK))) (And.intro (And.intro (And.intro @Ajg @Ahw) (And.intro @AkS @Amz)) (And.intro (And.intro @Agc @Ak1) (And.intro @Ald @Ait))))) (And.intro (And.intro (And.intro (And.intro (And.intro @Ahi @AbR) (And.intro @AcD @Aev)) (And.intro (And.intro @AfU @AfD) (And.intro @Ac7 @AcZ))) (And.intro (And.intro (And.intro @Alb @AhP) (And.intro @Ala @Aif)) (And.intro (And.intro @Ahm @Aho) (And.intro @AcQ @AjE)))) (And.intro (And.intro (And.intro (And.intro @Aj8 @AjA) (And.intro @AjL @Akq)) (And.intro (And.intro @Ajr @AkD) (And.intro @AgM @Aj5))) (And.intro (And.intro (And.intro @AhI @Alv) (And.intro @AdD @Alj)) (And.intro (And.intro @AhX @AfW) (And.intro @Aig @Aeg)))))) (And.intro (And.intro (And.intro (And.intro (And.intro (And.intro @Ace @Ajs) (And.intro @Akp @Amv)) (And.intro (And.intro @Aom @Ani) (And.intro @AmB @Af9))) (And.intro (And.intro (And.intro @AhJ @AgF) (And.intro @Agf @An0)) (And.intro (And.intro @Anc @Al3) (And.intro @Aeq @Acp)))) (And.intro (And.intro (And.intro (And.intro @Afy @Aie) (And.intro @Aii @AdV)) (And.intro (And.intro @Ah3 @Ahr) (And.intro @AfQ @AlE))) (And.intro (And.intro (And.intro @Akg @Aic) (And.intro @Adv @AhB)) (And.intro (And.intro @AkO @AgB) (And.intro @Alp @Akr))))) (And.intro (And.intro (And.intro (And.intro (And.intro @AjI @AfX) (And.intro @AiA @AfY)) (And.intro (And.intro @AiH @AhR) (And.intro @Ah7 @Aet))) (And.intro (And.intro (And.intro @AfK @Aj6) (And.intro @AnH @Ad7)) (And.intro (And.intro @Anu @Aol) (And.intro @AlG @AkL)))) (And.intro (And.intro (And.intro (And.intro @AjQ @AhU) (And.intro @AgK @Af5)) (And.intro (And.intro @Option.getD_none.{0} @Option.getD_some.{0}) (And.intro @Afx @Alt))) (And.intro (And.intro (And.intro @AgG @AhW) (And.intro @AgA @AbB)) (And.intro (And.intro @Aeh @AiB) (And.intro @AgQ @AkM))))))) (And.intro (And.intro (And.intro (And.intro (And.intro (And.intro @AgT @AlA) (And.intro @Agh @Afj)) (And.intro (And.intro @Akc @AhH) (And.intro @Af0 @AgZ))) (And.intro (And.intro (And.intro @AiY @Ahn) (And.intro @AfS @Agu)) (And.intro (And.intro @AjK @Aff) (And.intro @Ajj @AmF)))) (And.intro (And.intro (And.intro (And.intro @Ank @Acy) (And.intro @Afi @AqP)) (And.intro (And.intro @Apq @Asu) (And.intro @Ag4 @Aj3))) (And.intro (And.intro (And.intro @Alu @Asm) (And.intro @Asl @Asp)) (And.intro (And.intro @Aid @Ak5) (And.intro @Ahx @Ahs))))) (And.intro (And.intro @Aka @Ahd) (And.intro @Ac6 @AbT))))
def Ai := (And.intro (And.intro (And.intro (And.intro (And.intro (And.intro (And.intro (And.intro @Ahe @Agk) (And.intro @AkN @Ajt)) (And.intro (And.intro @AkQ @AkU) (And.intro @AgV @Aih))) (And.intro (And.intro (And.intro @Ah9 @AiQ) (And.intro @Ak3 @AjR)) (And.intro (And.intro @Ako @Aek) (And.intro @AdZ @Agy)))) (And.intro (And.intro (And.intro (And.intro @AiO @AgX) (And.intro @Ag6 @AeD)) (And.intro (And.intro @AdO @Afv) (And.intro @Adr @AgW))) (And.intro (And.intro (And.intro @Ail @Agq) (And.intro @AfP @AjP)) (And.intro (And.intro @Aj0 @Alo) (And.intro @Ali @AgD))))) (And.intro (And.intro (And.intro (And.intro (And.intro @AgE @AgI) (And.intro @Ag9 @Aju)) (And.intro (And.intro @Akt @Aj4) (And.intro @Afs @AeL))) (And.intro (And.intro (And.intro @AiP @AiK) (And.intro @Af6 @Aga)) (And.intro (And.intro @Adg @Aiz) (And.intro @AfL @Adp)))) (And.intro (And.intro (And.intro (And.intro @AdG @Agb) (And.intro @Agl @Ahv)) (And.intro (And.intro @AfE @Ac4) (And.intro @Aey @AfF))) (And.intro (And.intro (And.intro @AiZ @Ahb) (And.intro @Ady @Adm)) (And.intro (And.intro @Ab5 @Aaw) (And.intro @AdF @Ae5)))))) (And.intro (And.intro (And.intro (And.intro (And.intro (And.intro @Ad5 @AeP) (And.intro @AcK @AfV)) (And.intro (And.intro @AeM @Aam) (And.intro @Zr @AcH))) (And.intro (And.intro (And.intro @AhC @AeU) (And.intro @ZN @Yl)) (And.intro (And.intro @Aso @Ar5) (And.intro @Ar3 @AhS)))) (And.intro (And.intro (And.intro (And.intro @Air @Abl) (And.intro @Abu @Aiu)) (And.intro (And.intro @Ahq @AcC) (And.intro @AaP @Aef))) (And.intro (And.intro (And.intro @AcB @AhF) (And.intro @Acr @Z9)) (And.intro (And.intro @AbL @ZX) (And.intro @Ac1 @Acd))))) (And.intro (And.intro (And.intro (And.intro (And.intro @ZV @Y3) (And.intro @XL @WI)) (And.intro (And.intro @Alm @AhZ) (And.intro @AdP @AiD))) (And.intro (And.intro (And.intro @Abn @Agi) (And.intro @Y7 @Za)) (And.intro (And.intro @Zh @Agt) (And.intro @Ago @Ake)))) (And.intro (And.intro (And.intro (And.intro @Ak0 @Ag7) (And.intro @Aly @Akh)) (And.intro (And.intro @Aht @AhQ) (And.intro @AiL @Ad3))) (And.intro (And.intro (And.intro @Acv @AjJ) (And.intro @AkR @AnD)) (And.intro (And.intro @AjB @Ak2) (And.intro @Ajp @AkK))))))) (And.intro (And.intro (And.intro @Ahg @Aea) (And.intro @SK @Ah5)) (And.intro (And.intro @Aqm @Ang) @Aok)))
theorem Ab7 {α β : Type} {f : α → β} {l : List α} {i : Nat} : (l.map f).drop i = (l.drop i).map f := List.map_drop.symm
theorem Aca {α β : Type} {f : α → β} {l : List α} {i : Nat} : (l.map f).take i = (l.take i).map f := List.map_take.symm
theorem Afw {b : UInt8} : IntKind.i64.wrap (b.toNat : Int) = b.toNat := Fg (by omega) (by have := b.toNat_lt; omega)
theorem Amu {n : Nat} : IntKind.u8.wrap (n : Int) = ((UInt8.ofNat n).toNat : Int) := by
 rw [IntKind.wrap_u8, UInt8.toNat_ofNat']; omega
theorem Anq {α : Type} {n i : Nat} {a : α} (h : i < n) : (List.replicate n a)[i]? = some a := by simp [h]
section
variable {a b c : Nat}
theorem AiT : (a : Int) * (b : Int) = ((a * b : Nat) : Int) := Aa rfl
theorem AgO (h : b ≤ a) : (a : Int) - (b : Int) = ((a - b : Nat) : Int) := by omega
theorem AfR : (a : Int) / (b : Int) = ((a / b : Nat) : Int) := Aa rfl
theorem AiV : (a : Int) % (b : Int) = ((a % b : Nat) : Int) := Aa rfl
variable {t : TypeId} {k2 : IntKind}
theorem Ams (h1 : b ≤ 63) (h2 : a * 2 ^ b ≤ 9223372036854775807) : EF t .shl (.int .i64 (a : Int)) (.int k2 (b : Int)) = some (.int .i64 ((a * 2 ^ b : Nat) : Int)) := by
 have e : (a : Int) * 2 ^ ((b : Int).toNat) = ((a * 2 ^ b : Nat) : Int) := by rw [Int.toNat_natCast, Int.natCast_mul, Int.natCast_pow]; rfl
 rw [AqJ (by omega) (by omega) (by rw [e]; omega) (by rw [e]; omega), e]
theorem AnM (h1 : b ≤ 63) : EF t .shr (.int .i64 (a : Int)) (.int k2 (b : Int)) = some (.int .i64 ((a / 2 ^ b : Nat) : Int)) := by
 have e : (a : Int) / 2 ^ ((b : Int).toNat) = ((a / 2 ^ b : Nat) : Int) := by rw [Int.toNat_natCast, Int.natCast_ediv, Int.natCast_pow]; rfl
 rw [ApP (by omega) (by omega) (by omega), e]
variable {k : IntKind}
theorem AlY (h : b ≠ 0) : EF t .rem (.int k (a : Int)) (.int k (b : Int)) = some (.int k ((a % b : Nat) : Int)) := by rw [Apd (by omega) (by omega), Int.natCast_emod]
theorem An7 (h : b ≠ 0) (h2 : a ≤ 9223372036854775807) : EF t .quo (.int .i64 (a : Int)) (.int .i64 (b : Int)) = some (.int .i64 ((a / b : Nat) : Int)) := by rw [Ape (by omega) (by omega) (by omega), Int.natCast_ediv]
end
theorem Ap.toPureV {P : Program} {f : FuncId} {args : List TV} {R : TV → Prop} (h : Ap P f args [] fun x H' => Bj (frz H' x) R) : D5 P f args R :=
 Ap.toPure (h.mono fun x H' hx => by
  cases hf : frz H' x with
  | none => rw [hf] at hx; exact hx
  | some y => rw [hf] at hx; exact hx)
abbrev mv_ (d s : Nat) : VO := ⟨some d, .p (.mov (.t s)), none⟩
abbrev po_ (d : Nat) (p : POp) : VO := ⟨some d, .p p, none⟩
abbrev so_ (d : Nat) (q : SOp) : VO := ⟨some d, .s q, none⟩
abbrev ci_ (n : Nat) : Opd := .c (.int .i64 (n : Int))
theorem Ia {P : Program} {f : FuncId} {fn : Func} {vc : Af} {vr : List VR} (n : Nat) (hf : P.funcs[f]? = some fn) (ht : fn.body.bind (trC P fn.ntmps) = some (er vc)) (hr : trR P fn.results.toList = some vr) (hn : fn.ntmps = n) :
  ∀ ⦃args : List TV⦄ ⦃H : List Ob⦄ ⦃R : TV → List Ob → Prop⦄, args.length ≤ n → vwp P vc (NU vr R) (XH 0 args) H → Ap P f args H R := fun _ _ _ h1 h2 => AeJ hf ht hr (hn ▸ h1) h2
theorem Ad {c c' : Af} (h : c = c') : ∀ (P : Program) (Q : VEx → Env → List Ob → Prop) (e : Env) (H : List Ob), vwp P c Q e H = vwp P c' Q e H := fun _ _ _ _ => by rw [h]
theorem Ac {α : Type} : (∀ {l : List α} {i : Nat} {a : α}, (l.set i a).length = l.length) ∧ (∀ {l m : List α}, (l ++ m).length = l.length + m.length) ∧ (∀ {a : α} {l : List α}, (a :: l).length = l.length + 1) ∧ ([] : List α).length = 0 := ⟨List.length_set, List.length_append, List.length_cons, List.length_nil⟩
theorem Ap.toFreshV {P : Program} {f : FuncId} {args : List TV} {R : TV → Prop} (h : Ap P f args [] fun x H' => Bj (frs H' x) R) : J4 P f args R :=
 Ap.toFresh (h.mono fun x H' hx => by
  cases hf : frs H' x with
  | none => rw [hf] at hx; exact hx
  | some y => rw [hf] at hx; exact hx)
theorem AhD {α : Type} {l : List α} {n : Nat} (h : l.length ≤ n) : l.take n = l := List.take_of_length_le h
theorem AqQ {α : Type} {c : Prop} [Decidable c] {a b : α} (h : c) : (if c then a else b) = a := if_pos h
theorem AqY {α : Type} {c : Prop} [Decidable c] {a b : α} (h : ¬ c) : (if c then a else b) = b := if_neg h
theorem AaQ {α : Type} {l : List α} {n : Nat} (h : n ≤ l.length) : (l.take n).length = n := by simp [h]
theorem Yy {α : Type} {l : List α} {i : Nat} : (l.drop i).take (l.length - i) = l.drop i := List.take_of_length_le (by simp)
theorem AiN {a b : Nat} : a + b - a = b := Nat.add_sub_cancel_left a b
theorem Agn {α : Type} {l m : List α} : (l ++ m).take l.length = l := List.take_left
theorem AfO {α : Type} {l m : List α} : (l ++ m).drop l.length = m := List.drop_left
theorem Agm {a b : Nat} : a + b - b = a := Nat.add_sub_cancel a b
def Ag := (And.intro (And.intro (And.intro (And.intro (And.intro (And.intro (And.intro @Agn @AfO) (And.intro @AiN @Yy)) (And.intro (And.intro @AaQ @List.length_drop.{0}) (And.intro @AqQ @AqY))) (And.intro (And.intro (And.intro @AhD @Agm) (And.intro @Nat.zero_le @Amn)) (And.intro (And.intro @List.nil_append.{0} @List.length_nil.{0}) (And.intro @List.length_cons.{0} @List.cons_append.{0})))) (And.intro (And.intro (And.intro (And.intro @List.getElem?_cons_zero.{0} @List.getElem?_cons_succ.{0}) (And.intro @List.set_cons_zero.{0} @List.set_cons_succ.{0})) (And.intro (And.intro @List.map_cons.{0,0} @List.map_nil.{0,0}) (And.intro @AiG @AhN))) (And.intro (And.intro (And.intro @true_and @and_true) (And.intro @List.take_zero.{0} @List.take_succ_cons.{0})) (And.intro (And.intro @List.drop_succ_cons.{0} @List.take_nil.{0}) (And.intro @List.drop_nil.{0} @Nat.zero_add))))) (And.intro (And.intro (And.intro (And.intro (And.intro @Aqs @ApR) (And.intro @Ad2 @Apo)) (And.intro (And.intro @ApE @Ap0) (And.intro @ApL @ApX))) (And.intro (And.intro (And.intro @Aq3 @Aq2) (And.intro @Asx @AlY)) (And.intro (And.intro @An7 @Ai0) (And.intro @Ado @AeV)))) (And.intro (And.intro (And.intro (And.intro @AdM @Ad9) (And.intro @AcE @Ac3)) (And.intro (And.intro @Ae0 @AcV) (And.intro @AcY @Adx))) (And.intro (And.intro (And.intro @Bool.false_xor @Bool.true_xor) (And.intro @Aq5 @ApH)) (And.intro (And.intro @Apt @decide_true) (And.intro @decide_false @Bool.not_true)))))) (And.intro (And.intro (And.intro (And.intro (And.intro (And.intro @Bool.not_false @not_true_eq_false) (And.intro @not_false_eq_true @Bool.false_eq_true)) (And.intro (And.intro @Bool.true_eq_false @Option.bind_some.{0,0}) (And.intro @Option.map_some.{0,0} @Bool.and_self))) (And.intro (And.intro (And.intro @and_self @Nat.sub_zero) (And.intro @Nat.mul_one @List.length_map.{0,0})) (And.intro (And.intro @Int.toNat_natCast @List.getElem?_map.{0,0}) (And.intro @Int.natCast_nonneg @List.length_append.{0})))) (And.intro (And.intro (And.intro (And.intro @List.drop_zero.{0} @Ab7) (And.intro @Aca @AiF)) (And.intro (And.intro @Aia @AfZ) (And.intro @AkJ @AlD))) (And.intro (And.intro (And.intro @AkG @Ajw) (And.intro @List.replicate_zero.{0} @List.take_length.{0})) (And.intro (And.intro @List.length_set.{0} @List.length_replicate.{0}) (And.intro @Afw @Fg))))) (And.intro (And.intro (And.intro (And.intro @Amu @List.set_set.{0}) (And.intro @List.getElem?_nil.{0} @Anq)) (And.intro (And.intro @AiT @AgO) (And.intro @AfR @AiV))) (And.intro @Ams @AnM))))
end Go.Proofs.YtmlompedpahkjaaDoor

