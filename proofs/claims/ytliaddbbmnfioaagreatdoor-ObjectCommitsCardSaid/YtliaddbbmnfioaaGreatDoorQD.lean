/- What the proof of ObjectCommitsCard stands on (texts merged; names shortened by a program): part 4. -/
import Derived.Test.YtliaddbbmnfioaaGreatDoorQC
import Derived.RangeFuncIn
import Derived.RangeFuncRecord
import Derived.RangeFuncLeaves
import Derived.Sort.LoopGhostIn
namespace Go.Proofs.YtliaddbbmnfioaaGreatDoor
open Go.RowKit
variable [Bf]
set_option linter.unusedSectionVars false
set_option linter.unusedSimpArgs false
set_option linter.unusedVariables false
set_option autoImplicit false

inductive Af where
 | ops (l : List VO) (keep : List Nat)
 | draw (nA : Nat) (l : List VO) (keep : List Nat)
 | skip
 | opsZ (l : List VO) (zs : List Nat) (r : List VO) (keep : List Nat)
 | pops (l : List VO) (keep : List Nat)
 | pdraw (n : Nat) (l : List VO) (keep : List Nat)
 | sdraw (n : Nat) (l : List VO) (keep : List Nat)
 | seq (a b : Af)
 | cond (c : Opd) (a b : Af)
 | block (id : Nat) (c : Af)
 | loop (live : List Nat) (c : Af)
 | exit (id : Nat)
 | ret
 | scope (c : Af)
 | own (s k : Nat) (c : Af)
 | ownB (s : Nat) (p : List (Nat × Nat)) (k : Nat) (c : Af)
 | ownT (s : Nat) (p : List (Nat × Nat)) (t : TypeId) (c : Af)
 | frz (s : Nat) (c : Af)
 | rfunc (f : Opd) (ps : List Nat) (aS bd : Af)
 | dead
 deriving Inhabited
def AyM : List Nat → (Env → List Ob → Prop) → Env → List Ob → Prop
 | [], K, e, H => K e H
 | s :: zs, K, e, H => match get e s with
  | .os k id ver p off n _ => (match H[id]? with
   | some (.obj v x) => v = ver ∧ (match HY p k off n x with
    | some cs => AyM zs K ((s, .sl k cs) :: e) (H.set id (.gone ver))
    | none => False)
   | _ => False)
  | _ => False
def er : Af → Af
 | .ops l _ => .ops l []
 | .draw n l _ => .draw n l []
 | .opsZ l _ r _ => .ops (l ++ r) []
 | .pops l _ => .ops l []
 | .pdraw n l _ => .draw n l []
 | .sdraw n l _ => .sdraw n l []
 | .seq a b => .seq (er a) (er b)
 | .cond c a b => .cond c (er a) (er b)
 | .block id c => .block id (er c)
 | .loop _ c => .loop [] (er c)
 | .scope c => .scope (er c)
 | .own _ _ c => er c
 | .ownB _ _ _ c => er c
 | .ownT _ _ _ c => er c
 | .frz _ c => er c
 | .rfunc f ps aS bd => .rfunc f ps (er aS) (er bd)
 | .skip => .skip
 | .exit id => .exit id
 | .ret => .ret
 | .dead => .dead
def Af9 : Code → Bool
 | .seq a b => Af9 a || Af9 b
 | .cond _ a b => Af9 a || Af9 b
 | .block _ c => Af9 c
 | .loop c => Af9 c
 | .scope c => Af9 c
 | .region _ ops _ => ops.toList.any fun o => match o.op with | .panic _ => true | .store .. => true | _ => false
 | _ => false
def ADT : List String := ["(*gitlike/pack.reader).number", "(*gitlike/pack.reader).byte", "(*gitlike/pack.reader).head", "(*gitlike/pack.reader).distance", "(*gitlike/pack.reader).entry"]
def AqA (P : Program) (v : VO) : Bool := match v.op with
 | .s (.call f _) => (match P.funcs[f]? with | some fn => fn.body.any Af9 || ADT.contains fn.name | none => false)
 | .s (.store _ _ _) => true
 | _ => false
def nOf (n : Nat) : Nat := n % 10000
def ssN (n : Nat) (l : List VO) : SsT := ⟨Ayc l, ArU l, decide (10000 ≤ n)⟩
theorem Aw8 {n : Nat} (h : n < 10000) : nOf n = n := Nat.mod_eq_of_lt h
theorem Awr {n : Nat} (h : n < 10000) : nOf (10000 + n) = n := by unfold nOf; omega
theorem Awp {n : Nat} {l : List VO} (h : n < 10000) : ssN n l = ⟨Ayc l, ArU l, false⟩ := by unfold ssN; rw [decide_eq_false (by omega)]
theorem AwV {n : Nat} {l : List VO} : ssN (10000 + n) l = ⟨Ayc l, ArU l, true⟩ := by unfold ssN; rw [decide_eq_true (by omega)]
def Aod (chk : Nat → Bool) (n : Nat) : Option Nat := (List.range (n + 1)).find? fun j => chk j && decide (j < 10000)
theorem Ads {chk : Nat → Bool} {n j : Nat} (h : Aod chk n = some j) : chk j = true ∧ j < 10000 := by
 have := List.find?_some h
 simpa using this
def ADX (v : VO) : Bool := match v.op with
 | .s (.app _ _ _ _ _) => true
 | _ => false
def AjG (P : Program) (ops : List Oper) (l : List VO) (n : Nat) : Option Af := match (List.range (n + 1)).find? (Abj ss0 ops l) with
 | some k => if (l.take k).any (AqA P) then (match Aod (Abj ⟨Ayc l, ArU l, false⟩ ops l) n with
   | some j => if (l.take j).any (AqA P) then (match Aod (E5 ⟨Ayc l, ArU l, false⟩ ops l) n with
     | some j' => some (.sdraw j' l [])
     | none => some (.sdraw j l [])) else some (.sdraw j l [])
   | none => none) else some (.draw k l [])
 | none => none
theorem Akm {P : Program} {ops : List Oper} {l : List VO} {n : Nat} {c : Af} (h : AjG P ops l n = some c) : ∃ k, (c = .draw k l [] ∧ E5 ss0 ops l k = true) ∨ (c = .sdraw k l [] ∧ E5 (ssN k l) ops l (nOf k) = true) := by
 have low : ∀ {j}, E5 ⟨Ayc l, ArU l, false⟩ ops l j = true → j < 10000 → E5 (ssN j l) ops l (nOf j) = true := fun h1 h2 => by rw [Awp h2, Aw8 h2]; exact h1
 unfold AjG at h
 split at h
 ·rename_i k hk
  split at h
  ·split at h
   ·rename_i j hj
    obtain ⟨hj, hj2⟩ := Ads hj
    split at h
    ·split at h
     ·rename_i j' hj'
      obtain ⟨hj', hj2'⟩ := Ads hj'
      cases h; exact ⟨j', .inr ⟨rfl, low hj' hj2'⟩⟩
     ·cases h; exact ⟨j, .inr ⟨rfl, low (SS hj) hj2⟩⟩
    ·cases h; exact ⟨j, .inr ⟨rfl, low (SS hj) hj2⟩⟩
   ·cases h
  ·cases h; exact ⟨k, .inl ⟨rfl, SS (List.find?_some hk)⟩⟩
 ·cases h
def Aq7 (ops : List Oper) (l : List VO) (n : Nat) : Option Af := (Aod (Abj ⟨Ayc l, ArU l, true⟩ ops l) n).map fun j => .sdraw (10000 + j) l []
theorem AlJ {ops : List Oper} {l : List VO} {n : Nat} {c : Af} (h : Aq7 ops l n = some c) : ∃ k, c = .sdraw k l [] ∧ E5 (ssN k l) ops l (nOf k) = true := by
 obtain ⟨j, hj, rfl⟩ := Option.map_eq_some_iff.1 h
 obtain ⟨hj, hj2⟩ := Ads hj
 exact ⟨10000 + j, rfl, by rw [AwV, Awr hj2]; exact SS hj⟩
def AjQ (bz : Bool) (P : Program) (N : Nat) (ops : Array Oper) : Option Af := match trL bz P N ops.toList ops.toList with
 | some l => if P.follows .mixedOrders then (if l.any AyU || l.any (AqA P) then (match trL bz P N (BA ops.toList (Awa ops.toList l)) (BA ops.toList (Awa ops.toList l)) with
   | some l' => if Y7 (Awa ops.toList l) ops.toList.length then AjG P (BA ops.toList (Awa ops.toList l)) l' ops.size else none
   | none => none)
  else (match (List.range (ops.size + 1)).find? (Abj ss0 ops.toList l) with
   | some n => if (l.take n).any ADX then (match trL bz P N (BA ops.toList (Awa ops.toList l)) (BA ops.toList (Awa ops.toList l)) with
     | some l' => if Y7 (Awa ops.toList l) ops.toList.length then (match Aq7 (BA ops.toList (Awa ops.toList l)) l' ops.size with
       | some c => some c
       | none => some (.draw n l [])) else some (.draw n l [])
     | none => some (.draw n l [])) else some (.draw n l [])
   | none => none)) else none
 | none => none
theorem AaB {bz : Bool} {P : Program} {N : Nat} {ops : Array Oper} {c : Af} (h : AjQ bz P N ops = some c) : (∃ n l, c = .draw n l [] ∧ P.follows .mixedOrders = true ∧
  ((trL bz P N ops.toList ops.toList = some l ∧ E5 ss0 ops.toList l n = true) ∨ ∃ π, Y7 π ops.toList.length = true ∧ trL bz P N (BA ops.toList π) (BA ops.toList π) = some l ∧ E5 ss0 (BA ops.toList π) l n = true)) ∨
  ∃ n l, c = .sdraw n l [] ∧ P.follows .mixedOrders = true ∧ ∃ π, Y7 π ops.toList.length = true ∧ trL bz P N (BA ops.toList π) (BA ops.toList π) = some l ∧ E5 (ssN n l) (BA ops.toList π) l (nOf n) = true := by
 unfold AjQ at h
 split at h
 ·rename_i l hl
  split at h
  ·rename_i hm
   split at h
   ·split at h
    ·rename_i l' hl'
     split at h
     ·rename_i hp
      obtain ⟨k, ⟨rfl, hk⟩ | ⟨rfl, hk⟩⟩ := Akm h
      ·exact .inl ⟨k, l', rfl, hm, .inr ⟨_, hp, hl', hk⟩⟩
      ·exact .inr ⟨k, l', rfl, hm, _, hp, hl', hk⟩
     ·cases h
    ·cases h
   ·split at h
    ·rename_i n hn
     have plain : ∀ {c : Af}, some (Af.draw n l []) = some c → _ := fun {c} (h : some (Af.draw n l []) = some c) => (Or.inl ⟨n, l, (Option.some.inj h).symm, hm, .inl ⟨hl, SS (List.find?_some hn)⟩⟩ : (∃ n l, c = .draw n l [] ∧ P.follows .mixedOrders = true ∧
  ((trL bz P N ops.toList ops.toList = some l ∧ E5 ss0 ops.toList l n = true) ∨ ∃ π, Y7 π ops.toList.length = true ∧ trL bz P N (BA ops.toList π) (BA ops.toList π) = some l ∧ E5 ss0 (BA ops.toList π) l n = true)) ∨
  ∃ n l, c = .sdraw n l [] ∧ P.follows .mixedOrders = true ∧ ∃ π, Y7 π ops.toList.length = true ∧ trL bz P N (BA ops.toList π) (BA ops.toList π) = some l ∧ E5 (ssN n l) (BA ops.toList π) l (nOf n) = true)
     split at h
     ·split at h
      ·rename_i l' hl'
       split at h
       ·rename_i hp
        split at h
        ·rename_i c' hc'
         cases h
         obtain ⟨k, rfl, hk⟩ := AlJ hc'
         exact .inr ⟨k, l', rfl, hm, _, hp, hl', hk⟩
        ·exact plain h
       ·exact plain h
      ·exact plain h
     ·exact plain h
    ·cases h
  ·cases h
 ·cases h
def AxW : Af → Bool
 | .draw n l _ => (l.take n).any fun v => match v.op with | .s (.bslice _ _ _ _) => true | _ => false
 | .sdraw n l _ => (l.take (nOf n)).any fun v => match v.op with | .s (.bslice _ _ _ _) => true | _ => false
 | _ => false
def AlP (P : Program) (N : Nat) (ops : Array Oper) : Option Af := match AjQ false P N ops with
 | some c => if AxW c then (match AjQ true P N ops with | some c' => some c' | none => some c) else some c
 | none => none
theorem Yo {P : Program} {N : Nat} {ops : Array Oper} {c : Af} (h : AlP P N ops = some c) : ∃ bz : Bool, (∃ n l, c = .draw n l [] ∧ P.follows .mixedOrders = true ∧
  ((trL bz P N ops.toList ops.toList = some l ∧ E5 ss0 ops.toList l n = true) ∨ ∃ π, Y7 π ops.toList.length = true ∧ trL bz P N (BA ops.toList π) (BA ops.toList π) = some l ∧ E5 ss0 (BA ops.toList π) l n = true)) ∨
  ∃ n l, c = .sdraw n l [] ∧ P.follows .mixedOrders = true ∧ ∃ π, Y7 π ops.toList.length = true ∧ trL bz P N (BA ops.toList π) (BA ops.toList π) = some l ∧ E5 (ssN n l) (BA ops.toList π) l (nOf n) = true := by
 unfold AlP at h
 split at h
 ·rename_i c1 h1
  split at h
  ·split at h
   ·rename_i c2 h2; cases h; exact ⟨true, AaB h2⟩
   ·cases h; exact ⟨false, AaB h1⟩
  ·cases h; exact ⟨false, AaB h1⟩
 ·cases h
theorem ApK {P : Program} {N : Nat} {ops : Array Oper} {c : Af} (h : AlP P N ops = some c) (hc : ∀ n l, c ≠ .draw n l []) (hc2 : ∀ n l, c ≠ .sdraw n l []) : False := by
 obtain ⟨bz, ⟨n, l, e, _⟩ | ⟨n, l, e, _⟩⟩ := Yo h
 ·exact hc n l e
 ·exact hc2 n l e
def trC (P : Program) (N : Nat) : Code → Option Af
 | .skip => some .skip
 | .region _ ops false => some (match trL false P N ops.toList ops.toList with | some l => .ops l [] | none => .dead)
 | .region _ ops true => some (match AlP P N ops with | some c => c | none => .dead)
 | .seq a b => match trC P N a, trC P N b with
  | some a, some b => some (.seq a b)
  | _, _ => none
 | .cond c a b => match trC P N a, trC P N b with
  | some a, some b => some (.cond (trO c) a b)
  | _, _ => none
 | .block id c => (trC P N c).map (.block id)
 | .loop c => (trC P N c).map (.loop [])
 | .exit id => some (.exit id)
 | .scope c => (trC P N c).map .scope
 | .label _ => some .skip
 | .ret => some .ret
 | .rangeFunc f ps aS bd => if ps.toList.all (· < N) then (match trC P N aS, trC P N bd with
  | some aS, some bd => some (.rfunc (trO f) ps.toList aS bd)
  | _, _ => none) else none
 | _ => some .dead
theorem Atn {P : Program} {N id : Nat} {ops : Array Oper} {c : Af} (h : trC P N (.region id ops false) = some c) : (∃ l, trL false P N ops.toList ops.toList = some l ∧ c = .ops l []) ∨ c = .dead := by
 simp only [trC, Option.some.injEq] at h
 split at h
 ·rename_i l hl; exact .inl ⟨l, hl, h.symm⟩
 ·exact .inr h.symm
theorem Asf {P : Program} {N id : Nat} {ops : Array Oper} {c : Af} (h : trC P N (.region id ops true) = some c) : AlP P N ops = some c ∨ c = .dead := by
 simp only [trC, Option.some.injEq] at h
 split at h
 ·rename_i l hl; exact .inl (hl.trans (by rw [h]))
 ·exact .inr h.symm
theorem Jf {P : Program} {N id : Nat} {ops : Array Oper} {c : Af} (h : trC P N (.region id ops false) = some c) (hc : ∀ l, c ≠ .ops l []) (hd : c ≠ .dead) : False := by
 rcases Atn h with ⟨l, _, e⟩ | e
 ·exact hc l e
 ·exact hd e
theorem Jd {P : Program} {N id : Nat} {ops : Array Oper} {c : Af} (h : trC P N (.region id ops true) = some c) (hc : ∀ n l, c ≠ .draw n l []) (hc2 : ∀ n l, c ≠ .sdraw n l []) (hd : c ≠ .dead) : False := by
 rcases Asf h with e | e
 ·exact ApK e hc hc2
 ·exact hd e
def AhW : Af → Bool
 | .seq a b => AhW a && AhW b
 | .cond _ a b => AhW a && AhW b
 | .block _ c => AhW c
 | .loop _ c => AhW c
 | .scope c => AhW c
 | .own _ _ c => AhW c
 | .ownB _ _ _ c => AhW c
 | .ownT _ _ _ c => AhW c
 | .frz _ c => AhW c
 | .rfunc _ _ _ _ => false
 | _ => true

inductive VEx where
 | nor
 | exit (id : Nat)
 | ret
 | pan (u : Value)

def VEx.ex : VEx → Exit
 | .nor => .normal
 | .exit id => .exit id
 | .ret => .ret
 | .pan u => .panic [{ v := u, recovered := false }]

mutual
def P6 (g : Nat) : TV → Bool
 | .op id _ _ => decide (id < g)
 | .os _ id _ _ _ _ _ => decide (id < g)
 | .mp id _ => decide (id < g)
 | .yl id _ => decide (id < g)
 | .agg cs => WG g cs
 | .tup cs => WG g cs
 | .ifc _ x => P6 g x
 | .fn _ a b => WG g a && WG g b
 | _ => true
def WG (g : Nat) : List TV → Bool
 | [] => true
 | x :: xs => P6 g x && WG g xs
end
def Agi (g : Nat) : Env → Bool
 | [] => true
 | (_, x) :: e => P6 g x && Agi g e
def Ala (g : Nat) : Ob → Bool
 | .obj _ x => P6 g x
 | .ice _ _ x => P6 g x
 | .fact id _ _ _ => decide (id < g)
 | .lp _ _ _ _ e _ _ _ => Agi g e
 | .mpo _ es => WG g (es.map (·.2))
 | .bld _ _ _ => true
 | .sit _ _ => true
 | .mpd _ zs _ => WG g (zs.map (·.2.2))
 | .mit m _ _ => decide (m < g)
 | .gone _ => true
def Ae7 (g : Nat) : List Ob → Bool
 | [] => true
 | o :: H => Ala g o && Ae7 g H
def Ani (Q : VEx → Env → List Ob → Prop) (e : Env) (L : Nat) : TV → List Ob → Prop := fun _ H' => match H'[L]? with
 | some (.lp .ready none fn N e1 ps ca cb) => Q .nor e (H'.set L (.lp .exhausted none fn N e1 ps ca cb))
 | some (.lp .done (some .ret) fn N e1 ps ca cb) => Q .ret e (H'.set L (.lp .exhausted (some .ret) fn N e1 ps ca cb))
 | some (.lp .done (some (.exit i)) fn N e1 ps ca cb) => Q (.exit i) e (H'.set L (.lp .exhausted (some (.exit i)) fn N e1 ps ca cb))
 | _ => False
structure AvW (P : Program) (N : Nat) (ps : List Nat) (ca cb : Code) (aS bd : Af) : Prop where
 a : trC P N ca = some (er aS)
 b : trC P N cb = some (er bd)
 p : ps.all (· < N) = true

def vwp (P : Program) : Af → (VEx → Env → List Ob → Prop) → Env → List Ob → Prop
 | .ops l kp, Q, e, H => AgJ P l (fun e H => Q .nor (forget kp e) H) e H
 | .opsZ l zs r kp, Q, e, H => AgJ P l (AyM zs (AgJ P r (fun e H => Q .nor (forget kp e) H))) e H
 | .pops l kp, Q, e, H => Abv P (fun u H => Q (.pan u) (Am2 l e) H) l (fun e H => Q .nor (forget kp e) H) e H
 | .pdraw n l kp, Q, e, H => vq P (l.take n) (fun e => Abv P (fun u H => Q (.pan u) [] H) (l.drop n) (fun e H => Q .nor (forget kp e) H) e H) e H
 | .sdraw n l kp, Q, e, H => vq P (l.take (nOf n)) (fun e => Vd (pvopS P (fun u H => Q (.pan u) [] H) (ssN n l)) (l.drop (nOf n)) (fun e H => Q .nor (forget kp e) H) e H) e H
 | .draw n l kp, Q, e, H => vq P (l.take n) (fun e => AgJ P (l.drop n) (fun e H => Q .nor (forget kp e) H) e H) e H
 | .skip, Q, e, H => Q .nor e H
 | .seq a b, Q, e, H => vwp P a (fun x e H => match x with | .nor => vwp P b Q e H | .exit i => Q (.exit i) e H | .ret => Q .ret e H | .pan u => Q (.pan u) e H) e H
 | .cond c a b, Q, e, H => match c.ev e with
  | .val (.bool t) => if t = true then vwp P a Q e H else vwp P b Q e H
  | _ => False
 | .block id c, Q, e, H => vwp P c (fun x e H => match x with | .nor => Q .nor e H | .exit i => if i = id then Q .nor e H else Q (.exit i) e H | .ret => Q .ret e H | .pan u => Q (.pan u) e H) e H
 | .loop lv c, Q, e, H0 => ∃ (I : Nat → Env → List Ob → Prop) (n : Nat), I n (forget lv e) H0 ∧
   ∀ n e H, I n e H → vwp P c (fun x e H => match x with | .nor => ∃ m g, m < n ∧ (H0.length ≤ g ∧ (H.length ≤ g ∨ (Agi g (forget lv e) = true ∧ Ae7 g (H.take g) = true))) ∧ I m (forget lv e) (H.take g) | .exit i => Q (.exit i) e H | .ret => Q .ret e H | .pan u => Q (.pan u) e H) e H
 | .exit id, Q, e, H => Q (.exit id) e H
 | .ret, Q, e, H => Q .ret e H
 | .scope c, Q, e, H => vwp P c Q e H
 | .dead, _, _, _ => False
 | .own s k c, Q, e, H => match get e s with
  | .val (.slice none 0 0) => vwp P c Q ((s, .os k H.length 0 [] 0 0 0) :: e) (H ++ [.obj 0 (.arr 0 k [])])
  | _ => vwp P c Q e H
 | .ownB s p k c, Q, e, H => match get e s with
  | .op id ver p0 => (match H[id]? with
   | some (.obj v x) => v = ver ∧ (match JD (p0 ++ p) x with
    | some (.val (.slice none 0 0)) => (match setP (p0 ++ p) x (.os k H.length 0 [] 0 0 0) with
     | some x' => vwp P c Q e (H.set id (.obj ver x') ++ [.obj 0 (.arr 0 k [])])
     | none => False)
    | _ => vwp P c Q e H)
   | _ => False)
  | _ => False
 | .ownT s p t c, Q, e, H => match get e s with
  | .op id ver p0 => (match H[id]? with
   | some (.obj v x) => v = ver ∧ (match JD (p0 ++ p) x with
    | some (.val (.slice none 0 0)) => (match setP (p0 ++ p) x (.os 1 H.length 0 [] 0 0 0) with
     | some x' => vwp P c Q e (H.set id (.obj ver x') ++ [.bld 0 t []])
     | none => False)
    | _ => vwp P c Q e H)
   | _ => False)
  | _ => False
 | .frz s c, Q, e, H => match get e s with
  | .os k id ver p off n _ => (match H[id]? with
   | some (.obj v x) => v = ver ∧ (match HY p k off n x with
    | some cs => vwp P c Q ((s, .sl k cs) :: e) (H.set id (.gone ver))
    | none => False)
   | _ => False)
  | _ => False
 | .rfunc f ps aS bd, Q, e, H => AhW aS = true ∧ AhW bd = true ∧ (match f.ev e with
  | .fn (.func g) first caps => AgG P g = true ∧ ∀ (N : Nat) (fn : FuncId) (ca cb : Code), AvW P N ps ca cb aS bd → Aw P g (first ++ [.yl H.length 0] ++ caps) (H ++ [.lp .ready none fn N e ps ca cb]) (Ani Q e H.length)
  | .val (.func (.func g) xs ys) => (xs.isEmpty && ys.isEmpty) = true ∧ AgG P g = true ∧ ∀ (N : Nat) (fn : FuncId) (ca cb : Code), AvW P N ps ca cb aS bd → Aw P g [.yl H.length 0] (H ++ [.lp .ready none fn N e ps ca cb]) (Ani Q e H.length)
  | _ => False)

section sound
variable {P : Program}
theorem Aed {c : Ctx} {w : World} : ∀ {p : List (Nat × Nat)} {x y z x' : TV} {us : List Value}, Am c w x us → JD p x = some z → (∀ m, Am c w z m → Am c w y m) → setP p x y = some x' → Am c w x' us := by
 intro p x y z x' us h hg hm hs
 obtain ⟨a, m, b, rfl, h1, h2⟩ := PI h hg
 obtain ⟨a', m', b', e, h3, h4, h5, _⟩ := Aax h hs (hm m h2)
 have e1 : a = a' := by
  have := congrArg (List.take a.length) e
  rw [List.append_assoc, List.append_assoc, List.take_left] at this
  rw [this, List.take_left' (by omega)]
 subst e1
 rw [List.append_assoc, List.append_assoc] at e
 have e2 := List.append_cancel_left e
 have e3 : m = m' := by
  have := congrArg (List.take m.length) e2
  rw [List.take_left] at this
  rw [this, List.take_left' (by omega)]
 subst e3
 have e4 := List.append_cancel_left e2
 subst e4
 exact h5
theorem Sim.give {β : Nat → Nat → Option (Nat × Nat)} {H : List Ob} {F : Nat → Prop} {w : World} (hs : Sim ⟨β, H, F⟩ w) {k id ver off n cp : Nat} {p : List (Nat × Nat)} {x : TV} {cs : List TV} (hid : H[id]? = some (.obj ver x)) (hcs : HY p k off n x = some cs) {us : List Value} (hr : Am ⟨β, H, F⟩ w (.os k id ver p off n cp) us) :
  Am ⟨β, H.set id (.gone ver), fun b => F b ∨ ∃ off, β id ver = some (b, off)⟩ w (.sl k cs) us := by
 have hm : OU (Ctx.bare ⟨β, H, F⟩) w (Ctx.bare ⟨β, H.set id (.gone ver), fun b => F b ∨ ∃ off, β id ver = some (b, off)⟩) w :=
  ⟨fun b hb => ⟨.inl hb, rfl⟩, fun _ _ k => (Ctx.bare_has k).elim, fun _ _ => rfl⟩
 rw [Am] at hr
 obtain ⟨hr1, hr2⟩ := hr
 rcases hr2 with ⟨rfl, a0, hr2, _⟩ | ⟨b0, o0, cap, t0, m0, hr2, hr3, hr4, hr5, hr6, hr7⟩
 ·have : cs = [] := by
   unfold HY at hcs
   split at hcs
   ·split at hcs
    ·cases hcs; simp
    ·cases hcs
   ·cases hcs
  subst this
  rw [Am]
  exact ⟨by simp, .inl ⟨rfl, a0, 0, hr2, by omega⟩⟩
 rcases hs.ob id _ hid with ⟨h0, _⟩ | ⟨b, off', pre, vs, post, t, fr, h0, h1, h2, h3, h4⟩
 ·have h0' : β id ver = none := h0
  have hr2' : β id ver = some (b0, o0) := hr2
  rw [h0'] at hr2'; cases hr2'
 have h0' : β id ver = some (b, off') := h0
 have hr2' : β id ver = some (b0, o0) := hr2
 rw [h0'] at hr2'
 obtain ⟨rfl, rfl⟩ : b = b0 ∧ off' = o0 := by simpa using hr2'
 obtain ⟨a, m, q, rfl, k1, k2, k3, k4⟩ := TK h4 hcs
 rw [Am]
 refine ⟨k3, .inr ⟨b, off' + DT p + off * k, cap, m, by rw [k4]; exact hr3, by omega, hr5, .inr ⟨off', h0'⟩, Ap.mono hm k2, ?_⟩⟩
 have e : off' + DT p + off * k = pre.length + a.length := by rw [h3, k1]; omega
 rw [e]; exact PG h1

theorem Aji {N : Nat} {D : List Deferred} : ∀ {zs : List Nat} {K : Env → List Ob → Prop} {e : Env} {H : List Ob} {β : Nat → Nat → Option (Nat × Nat)} {F : Nat → Prop} {w : World} {a : Act}, AyM zs K e H → Sim ⟨β, H, F⟩ w → Fr N D ⟨β, H, F⟩ w e a →
  ∃ e' H' F', K e' H' ∧ Sim ⟨β, H', F'⟩ w ∧ Fr N D ⟨β, H', F'⟩ w e' a ∧ Bd ⟨β, H, F⟩ w ⟨β, H', F'⟩ w
 | [], K, e, H, β, F, w, a, h, hs, hf => ⟨e, H, F, h, hs, hf, Bd.refl _ _⟩
 | s :: zs, K, e, H, β, F, w, a, h, hs, hf => by
  rw [AyM] at h
  split at h
  ·rename_i k id ver p off n cp hg
   split at h
   ·rename_i v y hid
    obtain ⟨rfl, h⟩ := h
    split at h
    ·rename_i cs hcs
     obtain ⟨k1, k2⟩ := hs.freeze hid rfl
     have hr : Rep ⟨β, H, F⟩ w (get e s) (a.tmps.getD s undef) := hf.env.1 s
     rw [hg] at hr
     have hr' : Rep ⟨β, H.set id (.gone v), fun b => F b ∨ ∃ off, β id v = some (b, off)⟩ w (.sl k cs) (a.tmps.getD s undef) := by
      rcases hr with (hr | hr | ⟨us, hr, hr2⟩) | ⟨xs, vs, hr, _⟩
      ·cases hr
      ·cases hr
      ·exact .inl (.inr (.inr ⟨us, hs.give hid hcs hr, by rw [hr2]; rfl⟩))
      ·cases hr
     obtain ⟨e', H', F', q1, q2, q3, q4⟩ := Aji h k1 (a := a) ⟨⟨fun s' => by
      rw [Dl]
      by_cases hss : s = s'
      ·subst hss; rw [if_pos rfl]; exact hr'
      ·rw [if_neg hss]; exact Rep.mono (k2.mono hs) (hf.env.1 s'), k1.glob⟩, hf.size, hf.defers⟩
     exact ⟨e', H', F', q1, q2, q3, k2.trans q4⟩
    ·exact h.elim
   ·exact h.elim
  ·exact h.elim
theorem ArN {P : Program} {N : Nat} {all : List Oper} : ∀ {os : List Oper} {l1 l2 : List VO}, trL false P N all os = some (l1 ++ l2) → ∃ o1 o2, os = o1 ++ o2 ∧ trL false P N all o1 = some l1 ∧ trL false P N all o2 = some l2
 | os, [], l2, h => ⟨[], os, rfl, rfl, h⟩
 | [], v :: l1, l2, h => by simp [trL] at h
 | o :: os, v :: l1, l2, h => by
  rw [trL] at h
  split at h
  ·rename_i v' g r hv hg hr
   split at h
   ·rename_i hd
    simp only [List.cons_append, Option.some.injEq, List.cons.injEq] at h
    obtain ⟨rfl, rfl⟩ := h
    obtain ⟨o1, o2, rfl, h1, h2⟩ := ArN hr
    refine ⟨o :: o1, o2, rfl, ?_, h2⟩
    rw [trL, hv, hg, h1]
    simp [hd]
   ·cases h
  ·cases h
theorem Ame {N : Nat} {D : List Deferred} {ro : Option Nat} {nn : Nat} {all : Array Oper} {os : List Oper} {l1 l2 : List VO} {zs : List Nat} (ht : trL false P N all.toList os = some (l1 ++ l2)) {K : Env → List Ob → Prop} {e : Env} {H : List Ob} {β : Nat → Nat → Option (Nat × Nat)} {F : Nat → Prop} {w : World} {a : Act} {QQ : Exit → Act → World → Prop}
  (h : AgJ P l1 (AyM zs (AgJ P l2 K)) e H) (hs : Sim ⟨β, H, F⟩ w) (hf : Fr N D ⟨β, H, F⟩ w e a)
  (hk : ∀ e' H' β' F' w' a', K e' H' → Sim ⟨β', H', F'⟩ w' → Fr N D ⟨β', H', F'⟩ w' e' a' → Bd ⟨β, H, F⟩ w ⟨β', H', F'⟩ w' → QQ .normal a' w') : wpListIn (fz ro) nn P all QQ os a w := by
 obtain ⟨o1, o2, rfl, h1, h2⟩ := ArN ht
 refine AhJ (Xu.vop (KP := fun _ _ => False)) h1 h hs hf (fun e' H' β' F' w' a' k1 k2 k3 k4 => ?_) (fun _ _ _ _ _ _ h => h.elim)
 obtain ⟨e2, H2, F2, q1, q2, q3, q4⟩ := Aji k1 k2 k3
 exact Ai9 h2 q1 q2 q3 fun e3 H3 β3 F3 w3 a3 m1 m2 m3 m4 => hk e3 H3 β3 F3 w3 a3 m1 m2 m3 ((k4.trans q4).trans m4)

theorem Sim.own {β : Nat → Nat → Option (Nat × Nat)} {H : List Ob} {F : Nat → Prop} {w : World} (hs : Sim ⟨β, H, F⟩ w) (k : Nat) :
  Sim ⟨upd β H.length 0 none, H ++ [.obj 0 (.arr 0 k [])], F⟩ w ∧ Bd ⟨β, H, F⟩ w ⟨upd β H.length 0 none, H ++ [.obj 0 (.arr 0 k [])], F⟩ w ∧
   Am ⟨upd β H.length 0 none, H ++ [.obj 0 (.arr 0 k [])], F⟩ w (.os k H.length 0 [] 0 0 0) [.slice none 0 0] := by
 obtain ⟨k1, k2⟩ := hs.newNone (x := .arr 0 k []) (by rw [Am]; exact ⟨rfl, by simp, by rw [Ap]⟩)
 exact ⟨k1, k2, by rw [Am]; exact ⟨Jh _ _ _ _ _ (Nat.le_refl _), .inl ⟨rfl, none, rfl, rfl, fun _ h => by cases h⟩⟩⟩

theorem Sim.ownBld {β : Nat → Nat → Option (Nat × Nat)} {H : List Ob} {F : Nat → Prop} {w : World} (hs : Sim ⟨β, H, F⟩ w) (t : TypeId) :
  Sim ⟨upd β H.length 0 none, H ++ [.bld 0 t []], F⟩ w ∧ Bd ⟨β, H, F⟩ w ⟨upd β H.length 0 none, H ++ [.bld 0 t []], F⟩ w ∧
   Am ⟨upd β H.length 0 none, H ++ [.bld 0 t []], F⟩ w (.os 1 H.length 0 [] 0 0 0) [.slice none 0 0] := by
 obtain ⟨k1, k2⟩ := hs.new (.bld 0 t []) rfl none (w' := w) (fun b off e => by cases e) rfl rfl rfl (Nat.le_refl _) (fun b hb => rfl) fun hm => .inl ⟨Bh, rfl⟩
 exact ⟨k1, k2, by rw [Am]; exact ⟨Jh _ _ _ _ _ (Nat.le_refl _), .inl ⟨rfl, none, rfl, rfl, fun _ h => by cases h⟩⟩⟩
def Ctx.cut (c : Ctx) (g : Nat) : Ctx := ⟨c.β, c.H.take g, c.F⟩
theorem Ctx.cut_has {c : Ctx} {g id ver : Nat} (h : c.has id ver) (hg : id < g) : (c.cut g).has id ver := by
 obtain ⟨o, h1, h2⟩ := h
 exact ⟨o, by show (c.H.take g)[id]? = some o; rw [List.getElem?_take, if_pos hg]; exact h1, h2⟩
theorem Ctx.cut_get {c : Ctx} {g id : Nat} {o : Ob} (h : (c.cut g).H[id]? = some o) : id < g ∧ c.H[id]? = some o := by
 have h' : (c.H.take g)[id]? = some o := h
 rw [List.getElem?_take] at h'
 split at h'
 ·exact ⟨‹_›, h'⟩
 ·cases h'
mutual
theorem Am.cut {c : Ctx} {w : World} {g : Nat} : ∀ {x : TV} {us : List Value}, P6 g x = true → Am c w x us → Am (c.cut g) w x us
 | .val y, us, hf, hr => by rw [Am] at hr ⊢; exact hr
 | .any, us, hf, hr => by rw [Am] at hr ⊢; exact hr
 | .sl k cs, us, hf, hr => by rw [Am] at hr ⊢; exact hr
 | .fp x, us, hf, hr => by rw [Am] at hr ⊢; exact hr
 | .arr n k cs, us, hf, hr => by rw [Am] at hr ⊢; exact hr
 | .op id ver p, us, hf, hr => by
  rw [P6, decide_eq_true_eq] at hf; rw [Am] at hr ⊢; exact ⟨Ctx.cut_has hr.1 hf, hr.2⟩
 | .os k id ver p off n cp, us, hf, hr => by
  rw [P6, decide_eq_true_eq] at hf; rw [Am] at hr ⊢; exact ⟨Ctx.cut_has hr.1 hf, hr.2⟩
 | .mp id ver, us, hf, hr => by
  rw [P6, decide_eq_true_eq] at hf; rw [Am] at hr ⊢; exact ⟨Ctx.cut_has hr.1 hf, hr.2⟩
 | .yl id ver, us, hf, hr => by
  rw [P6, decide_eq_true_eq] at hf; rw [Am] at hr ⊢; exact ⟨Ctx.cut_has hr.1 hf, hr.2⟩
 | .agg cs, us, hf, hr => by rw [P6] at hf; rw [Am] at hr ⊢; exact Ap.cut hf hr
 | .tup cs, us, hf, hr => by rw [Am] at hr; exact hr.elim
 | .ifc t x, us, hf, hr => by
  rw [P6] at hf; rw [Am] at hr ⊢
  obtain ⟨u, h1, vs, h2, h3⟩ := hr
  exact ⟨u, h1, vs, Am.cut hf h2, h3⟩
 | .fn f a b, us, hf, hr => by
  rw [P6, Bool.and_eq_true] at hf; rw [Am] at hr ⊢
  obtain ⟨aS, bs, h1, h2, h3⟩ := hr
  exact ⟨aS, bs, h1, BU.cut hf.1 h2, BU.cut hf.2 h3⟩
theorem Ap.cut {c : Ctx} {w : World} {g : Nat} : ∀ {xs : List TV} {us : List Value}, WG g xs = true → Ap c w xs us → Ap (c.cut g) w xs us
 | [], us, hf, hr => by rw [Ap] at hr ⊢; exact hr
 | x :: xs, us, hf, hr => by
  rw [WG, Bool.and_eq_true] at hf; rw [Ap] at hr ⊢
  obtain ⟨a, b, h1, h2, h3⟩ := hr
  exact ⟨a, b, h1, Am.cut hf.1 h2, Ap.cut hf.2 h3⟩
theorem BU.cut {c : Ctx} {w : World} {g : Nat} : ∀ {xs : List TV} {us : List Value}, WG g xs = true → BU c w xs us → BU (c.cut g) w xs us
 | [], us, hf, hr => by rw [BU] at hr ⊢; exact hr
 | x :: xs, us, hf, hr => by
  rw [WG, Bool.and_eq_true] at hf; rw [BU] at hr ⊢
  obtain ⟨u, us, h1, h2, h3⟩ := hr
  refine ⟨u, us, h1, ?_, BU.cut hf.2 h3⟩
  rcases h2 with h2 | h2 | ⟨aS, h2, h4⟩
  ·exact .inl h2
  ·exact .inr (.inl h2)
  ·exact .inr (.inr ⟨aS, Am.cut hf.1 h2, h4⟩)
end
theorem Rep.cut {c : Ctx} {w : World} {g : Nat} {x : TV} {v : Value} (hf : P6 g x = true) (hr : Rep c w x v) : Rep (c.cut g) w x v := by
 rcases hr with (h | h | ⟨us, h, h'⟩) | ⟨xs, vs, rfl, h2, h3⟩
 ·exact .inl (.inl h)
 ·exact .inl (.inr (.inl h))
 ·exact .inl (.inr (.inr ⟨us, Am.cut hf h, h'⟩))
 ·rw [P6] at hf; exact .inr ⟨xs, vs, rfl, h2, BU.cut hf h3⟩
theorem AfG {g : Nat} : ∀ {e : Env}, Agi g e = true → ∀ s, P6 g (get e s) = true
 | [], _, s => rfl
 | (k, x) :: e, h, s => by
  rw [Agi, Bool.and_eq_true] at h
  rw [Dl]
  split
  ·exact h.1
  ·exact AfG h.2 s
theorem AiQ {g : Nat} : ∀ {H : List Ob}, Ae7 g H = true → ∀ (i : Nat) (o : Ob), H[i]? = some o → Ala g o = true
 | [], _, i, o, h => by simp at h
 | o :: H, h, i, o', hi => by
  rw [Ae7, Bool.and_eq_true] at h
  cases i with
  | zero => simp at hi; subst hi; exact h.1
  | succ i => exact AiQ h.2 i o' (by simpa using hi)
theorem Bq.cut {c : Ctx} {w : World} {g : Nat} {kk : MK} : ∀ {es : List (List UInt8 × TV)} {ms : List MapEntry}, WG g (es.map (·.2)) = true → Bq c w kk es ms → Bq (c.cut g) w kk es ms
 | [], ms, _, h => h
 | (k, x) :: es, ms, hb, h => by
  rw [List.map_cons, WG, Bool.and_eq_true] at hb
  obtain ⟨m, r, rfl, h1, h2, h3⟩ := h
  exact ⟨m, r, rfl, h1, ⟨Am.cut hb.1 h2.1, h2.2⟩, Bq.cut hb.2 h3⟩
theorem Sim.cut {c : Ctx} {w : World} {g : Nat} (hs : Sim c w) (hg : Ae7 g (c.H.take g) = true) : Sim (c.cut g) w := by
 have hown : ∀ b, (c.cut g).own b → c.own b := by
  rintro b ⟨i, o, off, h1, h2, h3⟩
  exact ⟨i, o, off, (Ctx.cut_get h1).2, h2, h3⟩
 refine ⟨fun id o ho => ?_, fun i j x y b o o' hx hy hlx hly e e' => hs.inj i j x y b o o' (Ctx.cut_get hx).2 (Ctx.cut_get hy).2 hlx hly e e', fun b hb => hs.apart b (hown b hb), hs.lt, hs.glob⟩
 have h1 := hs.ob id o (Ctx.cut_get ho).2
 have hb := AiQ hg id o ho
 cases o with
 | gone v => trivial
 | ice v m x =>
  obtain ⟨b, off, pre, vs, post, t, fr, h0, h1, h2, h3, h4⟩ := h1
  exact ⟨b, off, pre, vs, post, t, fr, h0, h1, h2, h3, Am.cut hb h4⟩
 | bld v t l => exact h1
 | fact i v t m =>
  obtain ⟨h0, h2⟩ := h1
  exact ⟨Ctx.cut_has h0 (by simpa [Ala] using hb), h2⟩
 | lp st pend fn N en ps ca cb =>
  obtain ⟨b, tmps, D, h0, h1, h2, h3⟩ := h1
  exact ⟨b, tmps, D, h0, h1, h2, fun s => Rep.cut (AfG hb s) (h3 s)⟩
 | mpo kk es =>
  obtain ⟨b, ms, cl, h0, h1, h2, h3⟩ := h1
  exact ⟨b, ms, cl, h0, h1, Bq.cut hb h2, h3⟩
 | sit s pos => exact h1
 | mpd kk zs cl =>
  obtain ⟨b, ms, h0, h1, h2, h3⟩ := h1
  exact ⟨b, ms, h0, h1, Bq.cut (by rw [List.map_map]; exact hb) h2, h3⟩
 | mit m sn cl =>
  obtain ⟨r, b, h0, ⟨g0, g1⟩, h1⟩ := h1
  exact ⟨r, b, h0, ⟨Ctx.cut_has g0 (by simpa [Ala] using hb), g1⟩, h1⟩
 | obj v x =>
  rcases h1 with ⟨h0, h4⟩ | ⟨b, off, pre, vs, post, t, fr, h0, h1, h2, h3, h4⟩
  ·exact .inl ⟨h0, Am.cut hb h4⟩
  ·exact .inr ⟨b, off, pre, vs, post, t, fr, h0, h1, h2, h3, Am.cut hb h4⟩
theorem Bd.cut {c0 c : Ctx} {w0 w : World} {g : Nat} (hl : Bd c0 w0 c w) (hg : c0.H.length ≤ g) : Bd c0 w0 (c.cut g) w :=
 ⟨hl.os, hl.tape, hl.output, hl.size, fun id ver h => by
  obtain ⟨h1, h2⟩ := hl.has id ver h
  exact ⟨Ctx.cut_has h1 (Nat.lt_of_lt_of_le (Ctx.has_lt h) hg), h2⟩, hl.shape, hl.same, hl.keepF, hl.oldF, fun b hb ⟨i, o, off, h1, h2, h3⟩ => hl.oldOwn b hb ⟨i, o, off, (Ctx.cut_get h1).2, h2, h3⟩⟩
def Yl (D0 : List Deferred) (B : Nat) (c : Ctx) (w : World) (D : List Deferred) : Prop := ∃ ds : List Nat, D = ds.map (fun r => { target := .collected r, args := #[] }) ++ D0 ∧ ds.Nodup ∧ ∀ r ∈ ds, B ≤ r ∧ r < w.heap.size ∧ ¬ c.own r ∧ ¬ c.F r ∧ w.heap[r]? = some (.deferred (some []))
theorem Yl.nil {D0 : List Deferred} {B : Nat} {c : Ctx} {w : World} : Yl D0 B c w D0 := ⟨[], rfl, List.nodup_nil, fun r h => by cases h⟩
theorem Yl.later {D0 : List Deferred} {B : Nat} {c c' : Ctx} {w w' : World} {D : List Deferred} (h : Yl D0 B c w D) (hl : Bd c w c' w') : Yl D0 B c' w' D := by
 obtain ⟨ds, h1, h2, h3⟩ := h
 refine ⟨ds, h1, h2, fun r hr => ?_⟩
 obtain ⟨k1, k2, k3, k4, k5⟩ := h3 r hr
 exact ⟨k1, Nat.lt_of_lt_of_le k2 hl.size, fun h => k3 (hl.oldOwn r k2 h), fun h => (hl.oldF r k2 h).elim k4 k3, (hl.same r k2 k3).trans k5⟩
theorem Yl.cut {D0 : List Deferred} {B g : Nat} {c : Ctx} {w : World} {D : List Deferred} (h : Yl D0 B c w D) : Yl D0 B (c.cut g) w D := by
 obtain ⟨ds, h1, h2, h3⟩ := h
 refine ⟨ds, h1, h2, fun r hr => ?_⟩
 obtain ⟨k1, k2, k3, k4, k5⟩ := h3 r hr
 exact ⟨k1, k2, fun ⟨i, o, off, h1, h2, h3⟩ => k3 ⟨i, o, off, (Ctx.cut_get h1).2, h2, h3⟩, k4, k5⟩

theorem AaF (w : World) (r : Nat) (o : Obj) : (w.putObj r o).os = w.os ∧ (w.putObj r o).tape = w.tape ∧ (w.putObj r o).output = w.output ∧ (w.putObj r o).heap.size = w.heap.size := ⟨rfl, rfl, rfl, by simp [World.putObj]⟩
theorem Ai1 {w : World} {b : Nat} {r : Loop} (h : w.heap[b]? = some (.loop r)) : w.shape? b = none := by simp [World.shape?, h]
theorem Sim.loopTurn {β : Nat → Nat → Option (Nat × Nat)} {H : List Ob} {F : Nat → Prop} {w : World} (hs : Sim ⟨β, H, F⟩ w) {id N : Nat} {fn : FuncId} {e : Env} {ps : List Nat} {ca cb : Code} {st st' : LoopState} {pe pe' : Option Code}
  (ho : H[id]? = some (.lp st pe fn N e ps ca cb)) : ∃ (b : Nat) (r : Loop), β id 0 = some (b, 0) ∧ w.heap[b]? = some (.loop r) ∧ r.state = st ∧ r.pending = pe ∧ r.fn = fn ∧ r.tmps.size = N ∧ r.params = ps.toArray ∧ r.assign = ca ∧ r.body = cb ∧ (∀ s, Rep ⟨β, H, F⟩ w (get e s) (r.tmps.getD s undef)) ∧
   Sim ⟨β, H.set id (.lp st' pe' fn N e ps ca cb), F⟩ (w.putObj b (.loop { r with state := st', pending := pe' })) ∧
   Bd ⟨β, H, F⟩ w ⟨β, H.set id (.lp st' pe' fn N e ps ca cb), F⟩ (w.putObj b (.loop { r with state := st', pending := pe' })) := by
 obtain ⟨b, tmps, D, h1, h2, h3, h4⟩ := hs.ob id _ ho
 have hlt : b < w.heap.size := (Array.getElem?_eq_some_iff.1 h2).1
 have hid : id < H.length := (List.getElem?_eq_some_iff.1 ho).1
 have hput := World.putObj_heap_same (w := w) (o := .loop { state := st', pending := pe', fn := fn, tmps := tmps, params := ps.toArray, assign := ca, body := cb, defers := D }) hlt
 obtain ⟨k1, k2⟩ := hs.turn (β' := β) (w' := w.putObj b (.loop { state := st', pending := pe', fn := fn, tmps := tmps, params := ps.toArray, assign := ca, body := cb, defers := D })) ho (o' := .lp st' pe' fn N e ps ca cb) rfl rfl (Nat.le_refl _) (fun _ _ _ => rfl) (fun b' off hb => .inl ⟨off, hb⟩) rfl rfl rfl
  (by rw [(AaF _ _ _).2.2.2]; exact Nat.le_refl _) (fun b' hb' => by
   by_cases hbb : b' = b
   ·subst hbb; rw [Ai1 h2, Ai1 hput]
   ·exact Dc (World.putObj_heap_other hbb)) (fun b' hb' hne => World.putObj_heap_other (fun e => hne 0 (by subst e; exact h1)))
  (fun hm => ⟨b, tmps, D, h1, hput, h3, fun s => Rep.mono hm (h4 s)⟩)
 exact ⟨b, { state := st, pending := pe, fn := fn, tmps := tmps, params := ps.toArray, assign := ca, body := cb, defers := D }, h1, h2, rfl, rfl, rfl, h3, rfl, rfl, rfl, h4, k1, k2⟩
theorem Ahp {N nn : Nat} {f0 : Operand} {ps0 : Array Tmp} {ca cb : Code} {Q : VEx → Env → List Ob → Prop} {e : Env} {H : List Ob} {β : Nat → Nat → Option (Nat × Nat)} {F : Nat → Prop} {w : World} {a : Act} {QQ : Exit → Act → World → Prop} {B : Nat} {D D0 : List Deferred}
  (hs : Sim ⟨β, H, F⟩ w) (hf : Fr N D ⟨β, H, F⟩ w e a) (hm : Yl D0 B ⟨β, H, F⟩ w D) (hB : B ≤ w.heap.size) {g : FuncId} {us vs : List Value} {first caps : List TV} (hv : a.eval f0 = .func (.func g) us.toArray vs.toArray) (hgo : AgG P g = true) (hfi : BU ⟨β, H, F⟩ w first us) (hc : BU ⟨β, H, F⟩ w caps vs)
  (h : ∀ fn, Aw P g (first ++ [.yl H.length 0] ++ caps) (H ++ [.lp .ready none fn N e ps0.toList ca cb]) (Ani Q e H.length))
  (hk : ∀ x e' H' β' F' w' a' D', Q x e' H' → Sim ⟨β', H', F'⟩ w' → Fr N D' ⟨β', H', F'⟩ w' e' a' → Yl D0 B ⟨β', H', F'⟩ w' D' → Bd ⟨β, H, F⟩ w ⟨β', H', F'⟩ w' → QQ x.ex a' w') : (Code.rangeFunc f0 ps0 ca cb).wpIn (fz none) nn P QQ a w := by
 refine wpIn_rangeFunc ?_
 intro fn hfn
 obtain ⟨rec, hrec⟩ : ∃ rec : Loop, rec = { state := .ready, pending := none, fn := fn, tmps := a.tmps, params := ps0, assign := ca, body := cb, defers := w.heap.size } := ⟨_, rfl⟩
 obtain ⟨W1, hW1⟩ : ∃ W1, (w.alloc (.deferred (some []))).alloc (.loop rec) = W1 := ⟨_, rfl⟩
 have hL1 : W1.heap[w.heap.size + 1]? = some (.loop rec) := by
  rw [← hW1]; have := World.alloc_heap_new (w.alloc (.deferred (some []))) (.loop rec); rwa [World.size_alloc] at this
 have hK1 : W1.heap[w.heap.size]? = some (.deferred (some [])) := by
  rw [← hW1]; exact (Below.heap_alloc _ _ _ (by simp)).trans (World.alloc_heap_new w _)
 have hsz : W1.heap.size = w.heap.size + 2 := by rw [← hW1]; simp
 have hold : ∀ b, b < w.heap.size → W1.heap[b]? = w.heap[b]? := fun b hb => by
  rw [← hW1]; exact (Below.heap_alloc _ _ _ (by simp; omega)).trans (Below.heap_alloc _ _ _ hb)
 obtain ⟨k1, k2⟩ := hs.new (w' := W1) (.lp .ready none fn N e ps0.toList ca cb) rfl (some (w.heap.size + 1, 0)) (fun b off h => by simp at h; omega) (by rw [← hW1]; rfl) (by rw [← hW1]; rfl) (by rw [← hW1]; rfl) (by omega) hold
  (fun hmo => ⟨w.heap.size + 1, a.tmps, w.heap.size, Bh, by rw [hL1, hrec], hf.size, fun s => Rep.mono hmo (hf.env.1 s)⟩)
 have hmo := k2.mono hs
 have hown1 : ∀ b, Ctx.own ⟨upd β H.length 0 (some (w.heap.size + 1, 0)), H ++ [.lp .ready none fn N e ps0.toList ca cb], F⟩ b → b ≠ w.heap.size := by
  rintro b ⟨i, o, off, h1, h2, h3⟩ rfl
  by_cases hi : i < H.length
  ·rw [List.getElem?_append_left hi] at h1
   have h3' : β i o.ver = some (w.heap.size, off) := by
    have h3 : upd β H.length 0 (some (w.heap.size + 1, 0)) i o.ver = some (w.heap.size, off) := h3
    rw [AeT (fun h => by omega)] at h3; exact h3
   have := hs.own_lt ⟨i, o, off, h1, h2, h3'⟩
   omega
  ·have hil : i = H.length := by
    have := (List.getElem?_eq_some_iff.1 h1).1
    simp at this; omega
   subst hil
   simp at h1
   subst h1
   have h3 : upd β H.length 0 (some (w.heap.size + 1, 0)) H.length 0 = some (w.heap.size, off) := h3
   rw [Bh] at h3
   simp at h3
 refine ⟨w.heap.size + 1, [{ target := .collected w.heap.size, args := #[] }], W1, { target := .fn (.func g) vs.toArray, args := us.toArray ++ #[.func (.yield (w.heap.size + 1)) #[] #[]] }, W1, g,
  us.toArray ++ #[.func (.yield (w.heap.size + 1)) #[] #[]] ++ vs.toArray, W1, ?_, ?_, ?_, ?_, ?_, ?_⟩
 ·rw [← hW1, hrec]; exact run_enterLoop_outer _ _ _ _ _
 ·simp only [resolve, hv]
  simp [go_sem]
 ·intro f' hf'; trivial
 ·simp only [invoke, Oi hgo]
 ·intro h; simp [fz, Fence.wide] at h
 ·refine (callsIn_wide (n := nn - 1)).2 ?_
  have hargs : BU ⟨upd β H.length 0 (some (w.heap.size + 1, 0)), H ++ [.lp .ready none fn N e ps0.toList ca cb], F⟩ W1 (first ++ [.yl H.length 0] ++ caps) (us ++ [.func (.yield (w.heap.size + 1)) #[] #[]] ++ vs) := by
   refine BU.append (BU.append (BU.mono hmo hfi) (BU.cons.2 ⟨_, [], rfl, .inr (.inr ⟨[.func (.yield (w.heap.size + 1)) #[] #[]], ?_, rfl⟩), by rw [BU]⟩)) (BU.mono hmo hc)
   rw [Am]
   exact ⟨Jh _ _ _ _ _ (Nat.le_refl _), _, _, Bh, rfl⟩
  have hcall := h fn _ _ W1 _ k1 hargs
  rw [show (us ++ [Value.func (.yield (w.heap.size + 1)) #[] #[]] ++ vs).toArray = us.toArray ++ #[.func (.yield (w.heap.size + 1)) #[] #[]] ++ vs.toArray from by simp] at hcall
  refine hcall.mono ?_
  rintro _ w3 ⟨v, x, β', H', F', rfl, hR, hs', hl', hx⟩
  have hmk : Yl D0 B ⟨β', H', F'⟩ w3 ({ target := .collected w.heap.size, args := #[] } :: D) := by
   have h1 : Yl D0 B ⟨upd β H.length 0 (some (w.heap.size + 1, 0)), H ++ [.lp .ready none fn N e ps0.toList ca cb], F⟩ W1 ({ target := .collected w.heap.size, args := #[] } :: D) := by
    obtain ⟨ds, d1, d2, d3⟩ := hm.later k2
    refine ⟨w.heap.size :: ds, by rw [d1]; rfl, List.nodup_cons.2 ⟨fun hin => ?_, d2⟩, fun r hr => ?_⟩
    ·obtain ⟨ds', e1, e2, e3⟩ := hm
     have : ds' = ds := by
      have : ds'.map (fun r => ({ target := .collected r, args := #[] } : Deferred)) = ds.map (fun r => { target := .collected r, args := #[] }) := List.append_cancel_right (e1.symm.trans d1)
      exact (List.map_inj_right (fun a b h => by simpa using h)).1 this
     rw [← this] at hin
     have := (e3 _ hin).2.1
     omega
    ·rcases List.mem_cons.1 hr with rfl | hr
     ·exact ⟨hB, by omega, fun ho => hown1 _ ho rfl, fun hF => absurd (hs.lt _ hF) (by omega), hK1⟩
     ·exact d3 r hr
   exact h1.later hl'
  have fin : ∀ (st : LoopState) (pe : Option Code) (fn' : FuncId) (N' : Nat) (e1 : Env) (ps1 : List Nat) (c1 c2 : Code), st ≠ .busy → H'[H.length]? = some (.lp st pe fn' N' e1 ps1 c1 c2) →
    ∃ w4, (Instr.endLoop (w.heap.size + 1)).run P w3 = .ok pe w4 ∧ Sim ⟨β', H'.set H.length (.lp .exhausted pe fn' N' e1 ps1 c1 c2), F'⟩ w4 ∧ Bd ⟨β', H', F'⟩ w3 ⟨β', H'.set H.length (.lp .exhausted pe fn' N' e1 ps1 c1 c2), F'⟩ w4 := by
   intro st pe fn' N' e1 ps1 c1 c2 hst hob
   obtain ⟨b, r, r1, r2, r3, r4, _, _, _, _, _, _, r5, r6⟩ := hs'.loopTurn (st' := .exhausted) (pe' := pe) hob
   have hβ : β' H.length 0 = some (w.heap.size + 1, 0) := ((hl'.has H.length 0 (Jh _ _ _ _ _ (Nat.le_refl _))).2).trans Bh
   rw [hβ] at r1
   obtain ⟨rfl, _⟩ : w.heap.size + 1 = b ∧ True := by simpa using r1
   subst r4
   exact ⟨_, run_endLoop (P := P) r2 (by rw [r3]; exact hst), r5, r6⟩
  have hfr : ∀ {c : Ctx} {w4 : World}, Bd ⟨β, H, F⟩ w c w4 → IZ c.F w4 → Fr N ({ target := .collected w.heap.size, args := #[] } :: D) c w4 e { a with defers := { target := .collected w.heap.size, args := #[] } :: a.defers } := fun {c w4} hl hgl =>
   ⟨⟨fun s => Rep.mono (hl.mono hs) (hf.env.1 s), hgl⟩, hf.size, by rw [hf.defers]⟩
  unfold Ani at hR
  simp only [rangePost]
  split at hR
  ·rename_i hob
   obtain ⟨w4, e1, e2, e3⟩ := fin .ready none _ _ _ _ _ _ (by simp) hob
   exact ⟨none, w4, e1, hk .nor _ _ _ _ _ _ _ hR e2 (hfr ((k2.trans hl').trans e3) e2.glob) (hmk.later e3) ((k2.trans hl').trans e3)⟩
  ·rename_i hob
   obtain ⟨w4, e1, e2, e3⟩ := fin .done (some .ret) _ _ _ _ _ _ (by simp) hob
   exact ⟨some .ret, w4, e1, wpIn_ret (hk .ret _ _ _ _ _ _ _ hR e2 (hfr ((k2.trans hl').trans e3) e2.glob) (hmk.later e3) ((k2.trans hl').trans e3))⟩
  ·rename_i i _ _ _ _ _ _ hob
   obtain ⟨w4, e1, e2, e3⟩ := fin .done (some (.exit _)) _ _ _ _ _ _ (by simp) hob
   exact ⟨some (.exit _), w4, e1, wpIn_exit (hk (.exit _) _ _ _ _ _ _ _ hR e2 (hfr ((k2.trans hl').trans e3) e2.glob) (hmk.later e3) ((k2.trans hl').trans e3))⟩
  ·exact hR.elim

theorem Jp {b : Frame} {a : Act} {k : List Item} {cs : List Frame} {w : World} {c : Code} : step P (lone (b.atR a (.code (.scope c) :: k)) cs w) = .next (lone (b.atR a (.code c :: .inScope c :: k)) cs w) :=
 step_lone_go (by simp [stepG, stepG.exec, Frame.atR])
theorem Aic {b : Frame} {a : Act} {k : List Item} {cs : List Frame} {w : World} {c : Code} : step P (lone (b.atR a (.inScope c :: k)) cs w) = .next (lone (b.atR a k) cs w) :=
 step_lone_go (by simp [stepG, stepG.exec, Frame.atR])
theorem Amc {F : Fence} {n : Nat} {Q : Exit → Act → World → Prop} {a : Act} {w : World} {c : Code} (h : c.wpIn F n P (Exit.noGoto Q) a w) : (Code.scope c).wpIn F n P Q a w := by
 intro b k cs hro hb hr
 have h0 : (lone (b.atR a (.code (.scope c) :: k)) cs w).fenced P F := fenced_calm hb hr rfl
 obtain ⟨e, a₁, w₁, hq, harr⟩ := h b (.inScope c :: k) cs hro hb hr
 cases e with
 | normal => exact ⟨.normal, a₁, w₁, hq, .head h0 Jp (StepsIn.trans harr (.one (fenced_calm hb hr rfl) Aic))⟩
 | exit id' =>
  have hx : exitTo id' (.inScope c :: k) = exitTo id' k := by simp [exitTo]
  exact ⟨.exit id', a₁, w₁, hq, fun k' hk => .head h0 Jp (harr.1 k' (by rw [hx]; exact hk)),
   fun hr' hk => let ⟨k₁, h1, h2⟩ := harr.2 hr' (by rw [hx]; exact hk); ⟨k₁, h1, .head h0 Jp h2⟩⟩
 | goto l => exact hq.elim
 | ret => exact ⟨_, a₁, w₁, hq, .of_steps (.one h0 Jp) harr⟩
 | panic ch => exact ⟨_, a₁, w₁, hq, .of_steps (.one h0 Jp) harr⟩
 | outgrown => exact ⟨_, a₁, w₁, hq, .of_steps (.one h0 Jp) harr⟩

theorem Aqk {N : Nat} {ro : Option Nat} {nn : Nat} : ∀ (vc : Af) {code : Code}, (ro = none ∨ AhW vc = true) → trC P N code = some (er vc) → ∀ {Q : VEx → Env → List Ob → Prop} {e : Env} {H : List Ob} {β : Nat → Nat → Option (Nat × Nat)} {F : Nat → Prop} {w : World} {a : Act} {QQ : Exit → Act → World → Prop} {B : Nat} {D D0 : List Deferred},
  vwp P vc Q e H → Sim ⟨β, H, F⟩ w → Fr N D ⟨β, H, F⟩ w e a → Yl D0 B ⟨β, H, F⟩ w D → B ≤ w.heap.size →
  (∀ x e' H' β' F' w' a' D', Q x e' H' → Sim ⟨β', H', F'⟩ w' → Fr N D' ⟨β', H', F'⟩ w' e' a' → Yl D0 B ⟨β', H', F'⟩ w' D' → Bd ⟨β, H, F⟩ w ⟨β', H', F'⟩ w' → QQ x.ex a' w') → code.wpIn (fz ro) nn P QQ a w := by
 intro vc
 have inv : ∀ {code : Code} {v : Af}, trC P N code = some v → True := fun _ => trivial
 induction vc with
 | ops l kp =>
  intro code hrf ht Q e H β F w a QQ B D D0 h hs hf hm hB hk
  rw [er] at ht
  cases code with
  | region id ops d =>
   cases d with
   | true => exact (Jd ht (by simp) (by simp) (by simp)).elim
   | false =>
    obtain ⟨l', hl, e9⟩ := (Atn ht).resolve_right (by simp)
    simp only [Af.ops.injEq, and_true] at e9
    subst e9
    rw [vwp] at h
    exact wpIn_region_list (Ai9 hl h hs hf fun e' H' β' F' w' a' k1 k2 k3 k4 => hk .nor _ _ _ _ _ _ _ k1 k2 (k3.forget kp) (hm.later k4) k4)
  | seq x y => simp only [trC] at ht; split at ht <;> simp at ht
  | cond c x y => simp only [trC] at ht; split at ht <;> simp at ht
  | rangeFunc f ps x y => simp only [trC] at ht; split at ht <;> (try split at ht) <;> simp at ht
  | _ => simp [trC] at ht
 | opsZ l zs r kp =>
  intro code hrf ht Q e H β F w a QQ B D D0 h hs hf hm hB hk
  rw [er] at ht
  cases code with
  | region id ops d =>
   cases d with
   | true => exact (Jd ht (by simp) (by simp) (by simp)).elim
   | false =>
    obtain ⟨l', hl, e9⟩ := (Atn ht).resolve_right (by simp)
    simp only [Af.ops.injEq, and_true] at e9
    subst e9
    rw [vwp] at h
    exact wpIn_region_list (Ame hl h hs hf fun e' H' β' F' w' a' k1 k2 k3 k4 => hk .nor _ _ _ _ _ _ _ k1 k2 (k3.forget kp) (hm.later k4) k4)
  | seq x y => simp only [trC] at ht; split at ht <;> simp at ht
  | cond c x y => simp only [trC] at ht; split at ht <;> simp at ht
  | rangeFunc f ps x y => simp only [trC] at ht; split at ht <;> (try split at ht) <;> simp at ht
  | _ => simp [trC] at ht
 | pops l kp =>
  intro code hrf ht Q e H β F w a QQ B D D0 h hs hf hm hB hk
  rw [er] at ht
  cases code with
  | region id ops d =>
   cases d with
   | true => exact (Jd ht (by simp) (by simp) (by simp)).elim
   | false =>
    obtain ⟨l', hl, e9⟩ := (Atn ht).resolve_right (by simp)
    simp only [Af.ops.injEq, and_true] at e9
    subst e9
    rw [vwp] at h
    exact wpIn_region_list (Amh hl h hs hf (fun e' H' β' F' w' a' k1 k2 k3 k4 => hk .nor _ _ _ _ _ _ _ k1 k2 (k3.forget kp) (hm.later k4) k4) fun u H' β' F' w' a' k1 k2 k3 k4 => hk (.pan u) _ _ _ _ _ _ _ k1 k2 k3 (hm.later k4) k4)
  | seq x y => simp only [trC] at ht; split at ht <;> simp at ht
  | cond c x y => simp only [trC] at ht; split at ht <;> simp at ht
  | rangeFunc f ps x y => simp only [trC] at ht; split at ht <;> (try split at ht) <;> simp at ht
  | _ => simp [trC] at ht
 | draw n l kp =>
  intro code hrf ht Q e H β F w a QQ B D D0 h hs hf hm hB hk
  rw [er] at ht
  cases code with
  | region id ops d =>
   cases d with
   | false => exact (Jf ht (by simp) (by simp)).elim
   | true =>
    obtain ⟨bz, hsp⟩ := Yo ((Asf ht).resolve_right (by simp))
    obtain ⟨n', l', e9, hmo, hh⟩ := hsp.resolve_right (by simp)
    simp only [Af.draw.injEq, and_true] at e9
    obtain ⟨rfl, rfl⟩ := e9
    rw [vwp] at h
    rcases hh with ⟨hl, hck⟩ | ⟨π, hp, hl, hck⟩
    ·exact AiH WOk.vop hmo hl hck h hs hf ⟨fun e' H' β' F' w' a' k1 k2 k3 k4 => hk .nor _ _ _ _ _ _ _ k1 k2 (k3.forget kp) (hm.later k4) k4, fun _ _ _ _ _ _ (h : False) => h.elim⟩
    ·exact AdV WOk.vop hmo hp hl hck h hs hf ⟨fun e' H' β' F' w' a' k1 k2 k3 k4 => hk .nor _ _ _ _ _ _ _ k1 k2 (k3.forget kp) (hm.later k4) k4, fun _ _ _ _ _ _ (h : False) => h.elim⟩
  | seq x y => simp only [trC] at ht; split at ht <;> simp at ht
  | cond c x y => simp only [trC] at ht; split at ht <;> simp at ht
  | rangeFunc f ps x y => simp only [trC] at ht; split at ht <;> (try split at ht) <;> simp at ht
  | _ => simp [trC] at ht
 | pdraw n l kp =>
  intro code hrf ht Q e H β F w a QQ B D D0 h hs hf hm hB hk
  rw [er] at ht
  cases code with
  | region id ops d =>
   cases d with
   | false => exact (Jf ht (by simp) (by simp)).elim
   | true =>
    obtain ⟨bz, hsp⟩ := Yo ((Asf ht).resolve_right (by simp))
    obtain ⟨n', l', e9, hmo, hh⟩ := hsp.resolve_right (by simp)
    simp only [Af.draw.injEq, and_true] at e9
    obtain ⟨rfl, rfl⟩ := e9
    rw [vwp] at h
    rcases hh with ⟨hl, hck⟩ | ⟨π, hp, hl, hck⟩
    ·exact AiH WOk.pvop hmo hl hck h hs hf ⟨fun e' H' β' F' w' a' k1 k2 k3 k4 => hk .nor _ _ _ _ _ _ _ k1 k2 (k3.forget kp) (hm.later k4) k4, fun u H' β' F' w' a' k1 k2 k3 k4 => hk (.pan u) _ _ _ _ _ _ _ k1 k2 k3 (hm.later k4) k4⟩
    ·exact AdV WOk.pvop hmo hp hl hck h hs hf ⟨fun e' H' β' F' w' a' k1 k2 k3 k4 => hk .nor _ _ _ _ _ _ _ k1 k2 (k3.forget kp) (hm.later k4) k4, fun u H' β' F' w' a' k1 k2 k3 k4 => hk (.pan u) _ _ _ _ _ _ _ k1 k2 k3 (hm.later k4) k4⟩
  | seq x y => simp only [trC] at ht; split at ht <;> simp at ht
  | cond c x y => simp only [trC] at ht; split at ht <;> simp at ht
  | rangeFunc f ps x y => simp only [trC] at ht; split at ht <;> (try split at ht) <;> simp at ht
  | _ => simp [trC] at ht
 | sdraw n l kp =>
  intro code hrf ht Q e H β F w a QQ B D D0 h hs hf hm hB hk
  rw [er] at ht
  cases code with
  | region id ops d =>
   cases d with
   | false => exact (Jf ht (by simp) (by simp)).elim
   | true =>
    obtain ⟨bz, hsp⟩ := Yo ((Asf ht).resolve_right (by simp))
    obtain ⟨n', l', e9, hmo, π, hp, hl, hck⟩ := hsp.resolve_left (by simp)
    simp only [Af.sdraw.injEq, and_true] at e9
    obtain ⟨rfl, rfl⟩ := e9
    rw [vwp] at h
    exact AdV WOk.pvopS hmo hp hl hck h hs hf ⟨fun e' H' β' F' w' a' k1 k2 k3 k4 => hk .nor _ _ _ _ _ _ _ k1 k2 (k3.forget kp) (hm.later k4) k4, fun u H' β' F' w' a' k1 k2 k3 k4 => hk (.pan u) _ _ _ _ _ _ _ k1 k2 k3 (hm.later k4) k4⟩
  | seq x y => simp only [trC] at ht; split at ht <;> simp at ht
  | cond c x y => simp only [trC] at ht; split at ht <;> simp at ht
  | rangeFunc f ps x y => simp only [trC] at ht; split at ht <;> (try split at ht) <;> simp at ht
  | _ => simp [trC] at ht
 | skip =>
  intro code hrf ht Q e H β F w a QQ B D D0 h hs hf hm hB hk
  rw [er] at ht
  cases code with
  | skip => exact wpIn_skip (hk .nor _ _ _ _ _ _ _ h hs hf hm (Bd.refl _ _))
  | label l => exact wpIn_label (hk .nor _ _ _ _ _ _ _ h hs hf hm (Bd.refl _ _))
  | region id ops d =>
   cases d
   ·exact (Jf ht (by simp) (by simp)).elim
   ·exact (Jd ht (by simp) (by simp) (by simp)).elim
  | seq x y => simp only [trC] at ht; split at ht <;> simp at ht
  | cond c x y => simp only [trC] at ht; split at ht <;> simp at ht
  | rangeFunc f ps x y => simp only [trC] at ht; split at ht <;> (try split at ht) <;> simp at ht
  | _ => simp [trC] at ht
 | seq x y ihx ihy =>
  intro code hrf ht Q e H β F w a QQ B D D0 h hs hf hm hB hk
  rw [er] at ht
  cases code with
  | region id ops d =>
   cases d
   ·exact (Jf ht (by simp) (by simp)).elim
   ·exact (Jd ht (by simp) (by simp) (by simp)).elim
  | seq cx cy =>
   simp only [trC] at ht
   split at ht
   ·rename_i vx vy hx hy
    simp only [Option.some.injEq, Af.seq.injEq] at ht
    obtain ⟨rfl, rfl⟩ := ht
    rw [vwp] at h
    have hrx : ro = none ∨ AhW x = true := hrf.imp id fun h => by simp only [AhW, Bool.and_eq_true] at h; exact h.1
    have hry : ro = none ∨ AhW y = true := hrf.imp id fun h => by simp only [AhW, Bool.and_eq_true] at h; exact h.2
    refine wpIn_seq (ihx hrx hx h hs hf hm hB ?_)
    intro x e' H' β' F' w' a' D' k1 k2 k3 km k4
    cases x with
    | nor => exact ihy hry hy k1 k2 k3 km (Nat.le_trans hB k4.size) fun x e2 H2 β2 F2 w2 a2 D2 m1 m2 m3 mm m4 => hk _ _ _ _ _ _ _ _ m1 m2 m3 mm (k4.trans m4)
    | exit i => exact hk (.exit i) _ _ _ _ _ _ _ k1 k2 k3 km k4
    | ret => exact hk .ret _ _ _ _ _ _ _ k1 k2 k3 km k4
    | pan u => exact hk (.pan u) _ _ _ _ _ _ _ k1 k2 k3 km k4
   ·simp at ht
  | cond c x y => simp only [trC] at ht; split at ht <;> simp at ht
  | rangeFunc f ps x y => simp only [trC] at ht; split at ht <;> (try split at ht) <;> simp at ht
  | _ => simp [trC] at ht
 | cond c x y ihx ihy =>
  intro code hrf ht Q e H β F w a QQ B D D0 h hs hf hm hB hk
  rw [er] at ht
  cases code with
  | region id ops d =>
   cases d
   ·exact (Jf ht (by simp) (by simp)).elim
   ·exact (Jd ht (by simp) (by simp) (by simp)).elim
  | seq x y => simp only [trC] at ht; split at ht <;> simp at ht
  | cond cc cx cy =>
   simp only [trC] at ht
   split at ht
   ·rename_i vx vy hx hy
    simp only [Option.some.injEq, Af.cond.injEq] at ht
    obtain ⟨rfl, rfl, rfl⟩ := ht
    rw [vwp] at h
    split at h
    ·rename_i t hc
     have hrx : ro = none ∨ AhW x = true := hrf.imp id fun h => by simp only [AhW, Bool.and_eq_true] at h; exact h.1
     have hry : ro = none ∨ AhW y = true := hrf.imp id fun h => by simp only [AhW, Bool.and_eq_true] at h; exact h.2
     refine wpIn_cond_split (hf.env.val hc) (fun htt => ?_) (fun htf => ?_)
     ·rw [if_pos htt] at h; exact ihx hrx hx h hs hf hm hB hk
     ·rw [if_neg (by rw [htf]; simp)] at h; exact ihy hry hy h hs hf hm hB hk
    ·exact h.elim
   ·simp at ht
  | rangeFunc f ps x y => simp only [trC] at ht; split at ht <;> (try split at ht) <;> simp at ht
  | _ => simp [trC] at ht
 | block id x ih =>
  intro code hrf ht Q e H β F w a QQ B D D0 h hs hf hm hB hk
  rw [er] at ht
  cases code with
  | region id ops d =>
   cases d
   ·exact (Jf ht (by simp) (by simp)).elim
   ·exact (Jd ht (by simp) (by simp) (by simp)).elim
  | seq x y => simp only [trC] at ht; split at ht <;> simp at ht
  | cond c x y => simp only [trC] at ht; split at ht <;> simp at ht
  | rangeFunc f ps x y => simp only [trC] at ht; split at ht <;> (try split at ht) <;> simp at ht
  | block id' c =>
   simp only [trC, Option.map_eq_some_iff, Af.block.injEq] at ht
   obtain ⟨vx, hx, rfl, rfl⟩ := ht
   rw [vwp] at h
   refine wpIn_block (ih hrf hx h hs hf hm hB ?_)
   intro x e' H' β' F' w' a' D' k1 k2 k3 km k4
   cases x with
   | nor => exact hk .nor _ _ _ _ _ _ _ k1 k2 k3 km k4
   | exit i =>
    show Exit.inBlock _ QQ (.exit i) a' w'
    simp only [Exit.inBlock]
    simp only at k1
    split at k1
    ·rename_i hi; rw [if_pos hi]; exact hk .nor _ _ _ _ _ _ _ k1 k2 k3 km k4
    ·rename_i hi; rw [if_neg hi]; exact hk (.exit i) _ _ _ _ _ _ _ k1 k2 k3 km k4
   | ret => exact hk .ret _ _ _ _ _ _ _ k1 k2 k3 km k4
   | pan u => exact hk (.pan u) _ _ _ _ _ _ _ k1 k2 k3 km k4
  | _ => simp [trC] at ht
 | loop lv x ih =>
  intro code hrf ht Q e H β F w a QQ B D D0 h hs hf hm hB hk
  rw [er] at ht
  cases code with
  | region id ops d =>
   cases d
   ·exact (Jf ht (by simp) (by simp)).elim
   ·exact (Jd ht (by simp) (by simp) (by simp)).elim
  | seq x y => simp only [trC] at ht; split at ht <;> simp at ht
  | cond c x y => simp only [trC] at ht; split at ht <;> simp at ht
  | rangeFunc f ps x y => simp only [trC] at ht; split at ht <;> (try split at ht) <;> simp at ht
  | loop c =>
   simp only [trC, Option.map_eq_some_iff, Af.loop.injEq] at ht
   obtain ⟨vx, hx, _, rfl⟩ := ht
   rw [vwp] at h
   obtain ⟨I, n, h0, hstep⟩ := h
   refine wpIn_loop_ghost (fun n a' w' => ∃ e' H' β' F' D', I n e' H' ∧ Sim ⟨β', H', F'⟩ w' ∧ Fr N D' ⟨β', H', F'⟩ w' e' a' ∧ Yl D0 B ⟨β', H', F'⟩ w' D' ∧ Bd ⟨β, H, F⟩ w ⟨β', H', F'⟩ w') n ⟨_, _, _, _, _, h0, hs, hf.forget lv, hm, Bd.refl _ _⟩ ?_
   rintro n a' w' ⟨e', H', β', F', D', k1, k2, k3, km, k4⟩
   refine ih hrf hx (hstep n e' H' k1) k2 k3 km (Nat.le_trans hB k4.size) ?_
   intro x e2 H2 β2 F2 w2 a2 D2 m1 m2 m3 mm m4
   cases x with
   | nor =>
    obtain ⟨m, g, hmn, ⟨hg, hb⟩, hI⟩ := m1
    have hf3 := m3.forget lv
    rcases hb with hle | ⟨hbe, hbh⟩
    ·rw [List.take_of_length_le hle] at hI
     exact ⟨m, hmn, _, _, _, _, _, hI, m2, hf3, mm, k4.trans m4⟩
    exact ⟨m, hmn, _, _, _, _, _, hI, m2.cut hbh, ⟨⟨fun s => Rep.cut (AfG hbe s) (hf3.env.1 s), hf3.env.2⟩, hf3.size, hf3.defers⟩, mm.cut, (k4.trans m4).cut hg⟩
   | exit i => exact hk (.exit i) _ _ _ _ _ _ _ m1 m2 m3 mm (k4.trans m4)
   | ret => exact hk .ret _ _ _ _ _ _ _ m1 m2 m3 mm (k4.trans m4)
   | pan u => exact hk (.pan u) _ _ _ _ _ _ _ m1 m2 m3 mm (k4.trans m4)
  | _ => simp [trC] at ht
 | exit id =>
  intro code hrf ht Q e H β F w a QQ B D D0 h hs hf hm hB hk
  rw [er] at ht
  cases code with
  | region id ops d =>
   cases d
   ·exact (Jf ht (by simp) (by simp)).elim
   ·exact (Jd ht (by simp) (by simp) (by simp)).elim
  | seq x y => simp only [trC] at ht; split at ht <;> simp at ht
  | cond c x y => simp only [trC] at ht; split at ht <;> simp at ht
  | rangeFunc f ps x y => simp only [trC] at ht; split at ht <;> (try split at ht) <;> simp at ht
  | exit id' =>
   simp only [trC, Option.some.injEq, Af.exit.injEq] at ht; subst ht
   exact wpIn_exit (hk (.exit _) _ _ _ _ _ _ _ h hs hf hm (Bd.refl _ _))
  | _ => simp [trC] at ht
 | ret =>
  intro code hrf ht Q e H β F w a QQ B D D0 h hs hf hm hB hk
  rw [er] at ht
  cases code with
  | region id ops d =>
   cases d
   ·exact (Jf ht (by simp) (by simp)).elim
   ·exact (Jd ht (by simp) (by simp) (by simp)).elim
  | seq x y => simp only [trC] at ht; split at ht <;> simp at ht
  | cond c x y => simp only [trC] at ht; split at ht <;> simp at ht
  | rangeFunc f ps x y => simp only [trC] at ht; split at ht <;> (try split at ht) <;> simp at ht
  | ret => exact wpIn_ret (hk .ret _ _ _ _ _ _ _ h hs hf hm (Bd.refl _ _))
  | _ => simp [trC] at ht
 | dead =>
  intro code hrf ht Q e H β F w a QQ B D D0 h
  rw [vwp] at h; exact h.elim
 | scope x ih =>
  intro code hrf ht Q e H β F w a QQ B D D0 h hs hf hm hB hk
  rw [er] at ht
  cases code with
  | region id ops d =>
   cases d
   ·exact (Jf ht (by simp) (by simp)).elim
   ·exact (Jd ht (by simp) (by simp) (by simp)).elim
  | seq x y => simp only [trC] at ht; split at ht <;> simp at ht
  | cond c x y => simp only [trC] at ht; split at ht <;> simp at ht
  | rangeFunc f ps x y => simp only [trC] at ht; split at ht <;> (try split at ht) <;> simp at ht
  | scope c =>
   simp only [trC, Option.map_eq_some_iff, Af.scope.injEq] at ht
   obtain ⟨vx, hx, rfl⟩ := ht
   rw [vwp] at h
   refine Amc (ih hrf hx h hs hf hm hB ?_)
   intro x e' H' β' F' w' a' D' k1 k2 k3 km k4
   cases x with
   | nor => exact hk .nor _ _ _ _ _ _ _ k1 k2 k3 km k4
   | exit i => exact hk (.exit i) _ _ _ _ _ _ _ k1 k2 k3 km k4
   | ret => exact hk .ret _ _ _ _ _ _ _ k1 k2 k3 km k4
   | pan u => exact hk (.pan u) _ _ _ _ _ _ _ k1 k2 k3 km k4
  | _ => simp [trC] at ht
 | own s k x ih =>
  intro code hrf ht Q e H β F w a QQ B D D0 h hs hf hm hB hk
  rw [er] at ht
  rw [vwp] at h
  split at h
  ·rename_i hg
   obtain ⟨k1, k2, k3⟩ := hs.own k
   have hv : a.tmps.getD s undef = .slice none 0 0 := by
    have := hf.env.1 s; rw [hg, Rep.val] at this; exact this
   refine ih hrf ht h k1 ⟨⟨fun s' => ?_, k1.glob⟩, hf.size, hf.defers⟩ (hm.later k2) hB fun x' e' H' β' F' w' a' D' m1 m2 m3 mm m4 => hk x' e' H' β' F' w' a' D' m1 m2 m3 mm (k2.trans m4)
   rw [Dl]
   by_cases hss : s = s'
   ·subst hss; rw [if_pos rfl, hv]; exact Rep.of1 k3 (by simp) (by simp)
   ·rw [if_neg hss]; exact Rep.mono (k2.mono hs) (hf.env.1 s')
  ·exact ih hrf ht h hs hf hm hB hk
 | ownB s p k x ih =>
  intro code hrf ht Q e H β F w a QQ B D D0 h hs hf hm hB hk
  rw [er] at ht
  rw [vwp] at h
  split at h
  ·rename_i id ver p0 hg
   split at h
   ·rename_i v y hid
    obtain ⟨rfl, h⟩ := h
    split at h
    ·rename_i hgp
     split at h
     ·rename_i x' hsp
      obtain ⟨k1, k2, k3⟩ := hs.own k
      have hlt : id < H.length := (List.getElem?_eq_some_iff.1 hid).1
      have hid' : (H ++ [Ob.obj 0 (.arr 0 k [])])[id]? = some (.obj v y) := by rw [List.getElem?_append_left hlt]; exact hid
      obtain ⟨q1, q2⟩ := k1.turn (o' := .obj v x') (w' := w) (β' := upd β H.length 0 none) hid' rfl rfl (Nat.le_refl _) (fun _ _ _ => rfl) (fun b off e => .inl ⟨off, e⟩) rfl rfl rfl (Nat.le_refl _) (fun _ _ => rfl) (fun _ _ _ => rfl) (fun hm => by
       rcases k1.ob id _ hid' with ⟨r0, r1⟩ | ⟨b, off, pre, vs, post, t, fr, r0, r1, r2, r3, r4⟩
       ·refine .inl ⟨r0, ?_⟩
        exact Am.mono hm (Aed r1 hgp (fun m hm' => by rw [Am] at hm'; rw [hm'.1]; exact k3) hsp)
       ·refine .inr ⟨b, off, pre, vs, post, t, fr, r0, r1, r2, r3, ?_⟩
        exact Am.mono hm (Aed r4 hgp (fun m hm' => by rw [Am] at hm'; rw [hm'.1]; exact k3) hsp))
      rw [List.set_append_left _ _ hlt] at q1 q2
      exact ih hrf ht h q1 ⟨⟨fun s' => Rep.mono (q2.mono k1) (Rep.mono (k2.mono hs) (hf.env.1 s')), q1.glob⟩, hf.size, hf.defers⟩ (hm.later (k2.trans q2)) hB fun x' e' H' β' F' w' a' D' m1 m2 m3 mm m4 => hk x' e' H' β' F' w' a' D' m1 m2 m3 mm ((k2.trans q2).trans m4)
     ·exact h.elim
    ·exact ih hrf ht h hs hf hm hB hk
   ·exact h.elim
  ·exact h.elim
 | frz s x ih =>
  intro code hrf ht Q e H β F w a QQ B D D0 h hs hf hm hB hk
  rw [er] at ht
  rw [vwp] at h
  split at h
  ·rename_i k id ver p off n cp hg
   split at h
   ·rename_i v y hid
    obtain ⟨rfl, h⟩ := h
    split at h
    ·rename_i cs hcs
     obtain ⟨k1, k2⟩ := hs.freeze hid rfl
     have hr : Rep ⟨β, H, F⟩ w (get e s) (a.tmps.getD s undef) := hf.env.1 s
     rw [hg] at hr
     have hr' : Rep ⟨β, H.set id (.gone v), fun b => F b ∨ ∃ off, β id v = some (b, off)⟩ w (.sl k cs) (a.tmps.getD s undef) := by
      rcases hr with (hr | hr | ⟨us, hr, hr2⟩) | ⟨xs, vs, hr, _⟩
      ·cases hr
      ·cases hr
      ·exact .inl (.inr (.inr ⟨us, hs.give hid hcs hr, by rw [hr2]; rfl⟩))
      ·cases hr
     refine ih hrf ht h k1 ⟨⟨fun s' => ?_, k1.glob⟩, hf.size, hf.defers⟩ (hm.later k2) hB fun x' e' H' β' F' w' a' D' m1 m2 m3 mm m4 => hk x' e' H' β' F' w' a' D' m1 m2 m3 mm (k2.trans m4)
     rw [Dl]
     by_cases hss : s = s'
     ·subst hss; rw [if_pos rfl]; exact hr'
     ·rw [if_neg hss]; exact Rep.mono (k2.mono hs) (hf.env.1 s')
    ·exact h.elim
   ·exact h.elim
  ·exact h.elim
 | ownT s p t x ih =>
  intro code hrf ht Q e H β F w a QQ B D D0 h hs hf hm hB hk
  rw [er] at ht
  rw [vwp] at h
  split at h
  ·rename_i id ver p0 hg
   split at h
   ·rename_i v y hid
    obtain ⟨rfl, h⟩ := h
    split at h
    ·rename_i hgp
     split at h
     ·rename_i x' hsp
      obtain ⟨k1, k2, k3⟩ := hs.ownBld t
      have hlt : id < H.length := (List.getElem?_eq_some_iff.1 hid).1
      have hid' : (H ++ [Ob.bld 0 t []])[id]? = some (.obj v y) := by rw [List.getElem?_append_left hlt]; exact hid
      obtain ⟨q1, q2⟩ := k1.turn (o' := .obj v x') (w' := w) (β' := upd β H.length 0 none) hid' rfl rfl (Nat.le_refl _) (fun _ _ _ => rfl) (fun b off e => .inl ⟨off, e⟩) rfl rfl rfl (Nat.le_refl _) (fun _ _ => rfl) (fun _ _ _ => rfl) (fun hm => by
       rcases k1.ob id _ hid' with ⟨r0, r1⟩ | ⟨b, off, pre, vs, post, t, fr, r0, r1, r2, r3, r4⟩
       ·refine .inl ⟨r0, ?_⟩
        exact Am.mono hm (Aed r1 hgp (fun m hm' => by rw [Am] at hm'; rw [hm'.1]; exact k3) hsp)
       ·refine .inr ⟨b, off, pre, vs, post, t, fr, r0, r1, r2, r3, ?_⟩
        exact Am.mono hm (Aed r4 hgp (fun m hm' => by rw [Am] at hm'; rw [hm'.1]; exact k3) hsp))
      rw [List.set_append_left _ _ hlt] at q1 q2
      exact ih hrf ht h q1 ⟨⟨fun s' => Rep.mono (q2.mono k1) (Rep.mono (k2.mono hs) (hf.env.1 s')), q1.glob⟩, hf.size, hf.defers⟩ (hm.later (k2.trans q2)) hB fun x' e' H' β' F' w' a' D' m1 m2 m3 mm m4 => hk x' e' H' β' F' w' a' D' m1 m2 m3 mm ((k2.trans q2).trans m4)
     ·exact h.elim
    ·exact ih hrf ht h hs hf hm hB hk
   ·exact h.elim
  ·exact h.elim
 | rfunc g0 ps aS bd iha ihb =>
  intro code hrf ht Q e H β F w a QQ B D D0 h hs hf hm hB hk
  obtain rfl : ro = none := hrf.resolve_right (by simp [AhW])
  rw [er] at ht
  cases code with
  | region id ops d =>
   cases d
   ·exact (Jf ht (by simp) (by simp)).elim
   ·exact (Jd ht (by simp) (by simp) (by simp)).elim
  | seq x y => simp only [trC] at ht; split at ht <;> simp at ht
  | cond c x y => simp only [trC] at ht; split at ht <;> simp at ht
  | rangeFunc f0 ps0 ca cb =>
   simp only [trC] at ht
   split at ht
   ·rename_i hps
    split at ht
    ·rename_i va vb hca hcb
     simp only [Option.some.injEq, Af.rfunc.injEq] at ht
     obtain ⟨rfl, rfl, rfl, rfl⟩ := ht
     rw [vwp] at h
     obtain ⟨-, -, h⟩ := h
     split at h
     ·rename_i g first caps hg
      obtain ⟨hgo, h⟩ := h
      have hr : Rep ⟨β, H, F⟩ w (.fn (.func g) first caps) (a.eval f0) := hf.env.rep (x := f0) hg
      have h1 := hr.inv1 (by simp) (by simp) (by simp) (by simp) (by simp)
      rw [Am] at h1
      obtain ⟨us, vs, hv1, hfi, hc⟩ := h1
      have hv' : a.eval f0 = .func (.func g) us.toArray vs.toArray := by simpa using hv1
      refine Ahp hs hf hm hB hv' hgo hfi hc (fun fn => h N fn ca cb ⟨hca, hcb, hps⟩) hk
     ·rename_i g xs ys hg
      obtain ⟨hxy, hgo, h⟩ := h
      rw [Bool.and_eq_true, Array.isEmpty_iff, Array.isEmpty_iff] at hxy
      obtain ⟨rfl, rfl⟩ := hxy
      have hv' : a.eval f0 = .func (.func g) #[] #[] := hf.env.val hg
      refine Ahp (us := []) (vs := []) (first := []) (caps := []) hs hf hm hB hv' hgo (by rw [BU]) (by rw [BU]) (fun fn => by simpa using h N fn ca cb ⟨hca, hcb, hps⟩) hk
     ·exact h.elim
    ·cases ht
   ·cases ht
  | _ => simp [trC] at ht
end sound
end Go.Proofs.YtliaddbbmnfioaaGreatDoor


namespace Go.Proofs.YtliaddbbmnfioaaGreatDoor
open Go.RowKit
variable [Bf]
set_option linter.unusedSectionVars false
set_option linter.unusedSimpArgs false
set_option linter.unusedVariables false
set_option autoImplicit false

inductive VR where
 | tmp (t : Nat)
 | cell (a : Nat) (ag : Bool) (sz : Nat)
 deriving Inhabited
def trR (P : Program) : List ResultVar → Option (List VR)
 | [] => some []
 | .tmp t :: r => (trR P r).map (.tmp t :: ·)
 | .cell a t :: r => match Ahb P t, ZW P t, trR P r with
  | some ag, some sz, some r => some (.cell a ag sz :: r)
  | _, _, _ => none

def Al3 : List VR → Env → List Ob → (List TV → Prop) → Prop
 | [], e, H, K => K []
 | .tmp t :: r, e, H, K => Al3 r e H fun xs => K (get e t :: xs)
 | .cell a ag sz :: r, e, H, K => pop (.load ag sz (.t a)) e H fun x => Al3 r e H fun xs => K (x :: xs)
def res (r : List VR) (e : Env) (H : List Ob) (K : TV → Prop) : Prop := Al3 r e H fun xs => match xs with
 | [x] => K x
 | xs => (∀ x ∈ xs, DW x = false) ∧ K (.tup xs)

section
variable {P : Program}
def rv (a : Act) (r : ResultVar) : Sem Value := match r with
 | .tmp t => pure (a.tmps.getD t undef)
 | .cell x t => do loadVar t (← asAddr (a.tmps.getD x undef))

theorem Akn {c : Ctx} {w : World} {e : Env} {a : Act} (hs : Sim c w) (he : Bo c w e a) : ∀ {rs : List ResultVar} {vr : List VR} {K : List TV → Prop}, trR P rs = some vr → Al3 vr e c.H K →
  ∃ (xs : List TV) (vs : List Value), (rs.mapM (rv a)).run P w = .ok vs w ∧ xs.length = vs.length ∧ (∀ (i : Nat) x v, xs[i]? = some x → vs[i]? = some v → Rep c w x v) ∧ K xs
 | [], vr, K, ht, h => by
  simp only [trR, Option.some.injEq] at ht; subst ht
  exact ⟨[], [], rfl, rfl, by simp, h⟩
 | .tmp t :: rs, vr, K, ht, h => by
  simp only [trR, Option.map_eq_some_iff] at ht
  obtain ⟨r, hr, rfl⟩ := ht
  rw [Al3] at h
  obtain ⟨xs, vs, h1, h2, h3, h4⟩ := Akn hs he hr h
  refine ⟨get e t :: xs, a.tmps.getD t undef :: vs, by rw [List.mapM_cons]; simp only [rv, Sem.run_bind, Sem.run_pure, Result.andThen_ok, h1], by simp [h2], ?_, h4⟩
  intro i x v hx hv
  cases i with
  | zero => simp at hx hv; subst hx; subst hv; simpa using he.1 t
  | succ i => exact h3 i x v (by simpa using hx) (by simpa using hv)
 | .cell b t :: rs, vr, K, ht, h => by
  simp only [trR] at ht
  split at ht
  ·rename_i ag sz r h1 h2 hr
   cases ht
   rw [Al3] at h
   have hy := AvM (P := P) (a := a) (ty := 0) hs he h1 h2 (x := .tmp b) h
   obtain ⟨x, v, hrun, hx, hK⟩ := hy ⟨none, .load t (.tmp b), 0, "", #[], none⟩ rfl rfl
   have hload : (do loadVar t (← asAddr (a.tmps.getD b undef)) : Sem Value).run P w = .ok v w := by
    simp only [execOp, Instr.loadAt, Sem.run_bind, Act.eval] at hrun
    simp only [Sem.run_bind]
    cases hp : a.tmps.getD b undef with
    | pointer p =>
     rw [hp] at hrun
     cases p with
     | none => simp [Instr.sureAddr, stuck] at hrun
     | some ad =>
      simp only [Instr.sureAddr, Sem.run_pure, Result.andThen_ok, asAddr] at hrun ⊢
      cases hl : (loadVar t ad).run P w with
      | ok u w2 => rw [hl] at hrun; simp only [Result.andThen_ok, Sem.run_pure] at hrun; cases hrun; rfl
      | halt hh w2 => rw [hl] at hrun; simp at hrun
    | _ => rw [hp] at hrun; simp [Instr.sureAddr, stuck] at hrun
   obtain ⟨xs, vs, h3, h4, h5, h6⟩ := Akn hs he hr hK
   refine ⟨x :: xs, v :: vs, by rw [List.mapM_cons, Sem.run_bind]; show Result.andThen ((rv a (.cell b t)).run P w) _ = _; rw [show (rv a (.cell b t)).run P w = .ok v w from hload]; simp only [Result.andThen_ok, Sem.run_bind, h3, Sem.run_pure], by simp [h4], ?_, h6⟩
   intro i y u hy hu
   cases i with
   | zero => simp at hy hu; subst hy; subst hu; exact hx
   | succ i => exact h5 i y u (by simpa using hy) (by simpa using hu)
  ·cases ht

theorem AxM {c : Ctx} {w : World} {e : Env} {a : Act} (hs : Sim c w) (he : Bo c w e a) {fn : Func} {vr : List VR} {K : TV → Prop} (ht : trR P fn.results.toList = some vr) (h : res vr e c.H K) :
  ∃ x v, (results fn a.tmps).run P w = .ok v w ∧ Rep c w x v ∧ K x := by
 obtain ⟨xs, vs, h1, h2, h3, h4⟩ := Akn hs he ht h
 have hrun : (fn.results.mapM (rv a)).run P w = .ok vs.toArray w := by
  rw [Array.mapM_eq_mapM_toList]
  simp only [Sem.run_map, h1, Result.andThen_ok]
 have hres : (results fn a.tmps).run P w = .ok (if h : vs.toArray.size = 1 then vs.toArray[0] else .tuple vs.toArray) w := by
  have : results fn a.tmps = (do let vs ← fn.results.mapM (rv a); pure (if h : vs.size = 1 then vs[0] else .tuple vs)) := rfl
  rw [this, Sem.run_bind, hrun]; rfl
 rcases xs with _ | ⟨x, _ | ⟨y, xs⟩⟩
 ·have hv : vs = [] := List.length_eq_zero_iff.1 (by simpa using h2.symm)
  subst hv
  exact ⟨_, _, hres, .inr ⟨[], [], rfl, rfl, by rw [BU]⟩, h4.2⟩
 ·obtain ⟨v, rfl⟩ := List.length_eq_one_iff.1 (by simpa using h2.symm)
  exact ⟨_, _, hres, h3 0 x v rfl rfl, h4⟩
 ·rcases vs with _ | ⟨u, _ | ⟨v, vs⟩⟩
  ·simp at h2
  ·simp at h2
  ·refine ⟨_, _, hres, .inr ⟨_, u :: v :: vs, rfl, by simp, ?_⟩, h4.2⟩
   have key : ∀ (xs : List TV) (vs : List Value), xs.length = vs.length → (∀ x ∈ xs, DW x = false) → (∀ (i : Nat) x v, xs[i]? = some x → vs[i]? = some v → Rep c w x v) → BU c w xs vs := by
    intro xs
    induction xs with
    | nil => intro vs h _ _; rw [BU]; exact List.length_eq_zero_iff.1 h.symm
    | cons x xs ih =>
     intro vs hl ht hr
     cases vs with
     | nil => simp at hl
     | cons v vs =>
      refine BU.cons.2 ⟨v, vs, rfl, ?_, ih vs (by simpa using hl) (fun y hy => ht y (by simp [hy])) fun i y u hy hu => hr (i + 1) y u (by simpa using hy) (by simpa using hu)⟩
      rcases hr 0 x v rfl rfl with h | ⟨ys, us, rfl, _⟩
      ·exact h
      ·have := ht (.tup ys) (by simp); simp [DW] at this
   exact key _ _ h2 h4.1 h3

def Aka : Nat → List TV → Env
 | _, [] => []
 | i, x :: xs => (i, x) :: Aka (i + 1) xs
theorem AkP : ∀ (xs : List TV) (i s : Nat), get (Aka i xs) s = if i ≤ s then (xs[s - i]?).getD .any else .any
 | [], i, s => by simp [Aka, get]
 | x :: xs, i, s => by
  rw [Aka, Dl, AkP xs (i + 1) s]
  by_cases h : i = s
  ·subst h; simp
  ·rw [if_neg h]
   by_cases h2 : i ≤ s
   ·rw [if_pos (by omega), if_pos h2, show s - i = (s - (i + 1)) + 1 from by omega, List.getElem?_cons_succ]
   ·rw [if_neg (by omega), if_neg h2]

theorem BU.get {c : Ctx} {w : World} : ∀ {xs : List TV} {vs : List Value}, BU c w xs vs → xs.length = vs.length ∧ ∀ (i : Nat) x, xs[i]? = some x → ∃ v, vs[i]? = some v ∧ Rep c w x v
 | [], vs, h => by rw [BU] at h; subst h; simp
 | x :: xs, vs, h => by
  obtain ⟨u, us, rfl, h1, h2⟩ := BU.cons.1 h
  obtain ⟨h3, h4⟩ := BU.get h2
  refine ⟨by simp [h3], fun i y hy => ?_⟩
  cases i with
  | zero => simp at hy; subst hy; exact ⟨u, rfl, .inl h1⟩
  | succ i => simpa using h4 i y (by simpa using hy)
def Ak4 (vr : List VR) (R : TV → List Ob → Prop) : VEx → Env → List Ob → Prop
 | .nor, e, H => res vr e H fun x => R x H
 | .ret, e, H => res vr e H fun x => R x H
 | .exit _, _, _ => False
 | .pan _, _, _ => False
theorem Sim.nobody {c : Ctx} {w : World} (hs : Sim c w) {r : Nat} {o o' : Obj} (hr : w.heap[r]? = some o) (h1 : ¬ c.own r) (h2 : ¬ c.F r) (hsh : (w.putObj r o').shape? r = w.shape? r) : Sim c (w.putObj r o') ∧ OU c w c (w.putObj r o') := by
 have hoth : ∀ b, b ≠ r → (w.putObj r o').heap[b]? = w.heap[b]? := fun b hb => World.putObj_heap_other hb
 have hm : OU c w c (w.putObj r o') := ⟨fun b hb => ⟨hb, hoth b fun e => h2 (e ▸ hb)⟩, fun _ _ h => ⟨h, rfl⟩, fun b _ => by
  by_cases hb : b = r
  ·subst hb; exact hsh
  ·exact Dc (hoth b hb)⟩
 refine ⟨⟨fun id ob ho => AlG.mono hm (Ctx.has_of ho) (fun hl b off hb => hoth b fun e => h1 (e ▸ Ctx.own_of ho hl hb)) (hs.ob id ob ho), hs.inj, hs.apart, fun b hb => ?_, hs.glob.keep hm.stay⟩, hm⟩
 rw [(AaF w r o').2.2.2]; exact hs.lt b hb
theorem Bd.nobody {c0 c : Ctx} {w0 w : World} (h : Bd c0 w0 c w) {r : Nat} {o' : Obj} (hr : w0.heap.size ≤ r) : Bd c0 w0 c (w.putObj r o') :=
 ⟨h.os, h.tape, h.output, by rw [(AaF w r o').2.2.2]; exact h.size, h.has, fun b hb => (Dc (World.putObj_heap_other (by omega))).trans (h.shape b hb), fun b hb ho => (World.putObj_heap_other (by omega)).trans (h.same b hb ho), h.keepF, h.oldF, h.oldOwn⟩
theorem Yl.shut {D0 : List Deferred} {u : FrameMode} (hu : u ≠ .run) {FF : Fence} {n : Nat} {fn : Func} {tmps : Array Value} {R : Ending → World → Prop} {B : Nat} {c : Ctx} : ∀ {D : List Deferred} {w : World}, Yl D0 B c w D → Sim c w →
  ∃ wF, (LeavesInM FF n P fn tmps R D0 u wF → LeavesInM FF n P fn tmps R D u w) ∧ Sim c wF ∧ OU c w c wF ∧ ∀ (c0 : Ctx) (w0 : World), w0.heap.size ≤ B → Bd c0 w0 c w → Bd c0 w0 c wF := by
 rintro D w ⟨ds, rfl, hnd, hds⟩ hs
 induction ds generalizing w with
 | nil => exact ⟨w, fun h => h, hs, OU.heap rfl, fun c0 w0 _ h => h⟩
 | cons r ds ih =>
  obtain ⟨k1, k2, k3, k4, k5⟩ := hds r (by simp)
  rw [List.nodup_cons] at hnd
  have hput := World.putObj_heap_same (w := w) (o := .deferred none) k2
  obtain ⟨s1, s2⟩ := hs.nobody (o' := .deferred none) k5 k3 k4 (by simp [World.shape?, hput, k5])
  obtain ⟨wF, e1, e2, e3, e4⟩ := ih (w := w.putObj r (.deferred none)) hnd.2 (fun q hq => by
   obtain ⟨q1, q2, q3, q4, q5⟩ := hds q (by simp [hq])
   have hne : q ≠ r := fun e => hnd.1 (e ▸ hq)
   exact ⟨q1, by rw [(AaF w r _).2.2.2]; exact q2, q3, q4, (World.putObj_heap_other hne).trans q5⟩) s1
  refine ⟨wF, fun h => ⟨hu, .inl ⟨r, _, rfl, run_takeDeferred k5, e1 h⟩⟩, e2, ⟨fun b hb => ⟨hb, ((e3.stay b hb).2).trans (s2.stay b hb).2⟩, fun _ _ h => ⟨h, rfl⟩, fun b hb => (e3.shape b (by rw [(AaF w r _).2.2.2]; exact hb)).trans (s2.shape b hb)⟩, fun c0 w0 hB hl => e4 c0 w0 hB (hl.nobody (by omega))⟩
theorem Arq {f : FuncId} {fn : Func} {vc : Af} {vr : List VR} {args : List TV} {H : List Ob} {R : TV → List Ob → Prop} (hf : P.funcs[f]? = some fn) (ht : fn.body.bind (trC P fn.ntmps) = some (er vc)) (hr : trR P fn.results.toList = some vr)
  (hn : args.length ≤ fn.ntmps) (h : vwp P vc (Ak4 vr R) (Aka 0 args) H) : Aw P f args H R := by
 obtain ⟨code, hb, ht⟩ := Option.bind_eq_some_iff.1 ht
 intro β F w vs hs hv
 obtain ⟨hl, hget⟩ := BU.get hv
 refine (callsIn_wide (n := 0)).1 (callsIn_of_wp_marks hf hb trivial ?_)
 refine Aqk (ro := none) (nn := 0) (B := w.heap.size) (D := []) (D0 := []) vc (.inl rfl) ht h hs ⟨⟨fun s => ?_, hs.glob⟩, by simp; omega, rfl⟩ Yl.nil (Nat.le_refl _) ?_
 ·rw [AkP]
  simp only [Nat.zero_le, if_true, Nat.sub_zero]
  cases hx : args[s]? with
  | none => exact Rep.any
  | some x =>
   obtain ⟨v, hv1, hv2⟩ := hget s x hx
   have hs' : s < vs.length := (List.getElem?_eq_some_iff.1 hv1).1
   have : ((vs.toArray ++ Array.replicate (fn.ntmps - vs.toArray.size) undef).getD s undef) = v := by
    rw [Array.getD_eq_getD_getElem?, Array.getElem?_append_left (by simpa using hs')]
    simp [hv1]
   rw [this]; exact hv2
 ·intro x e' H' β' F' w' a' D' k1 k2 k3 km k4
  have fin : res vr e' H' (fun x => R x H') → LeavesInM Fence.wide 0 P fn a'.tmps (fun e w' => ∃ v x β' H' F', e = .returned v ∧ R x H' ∧ Sim ⟨β', H', F'⟩ w' ∧ Bd ⟨β, H, F⟩ w ⟨β', H', F'⟩ w' ∧ Rep ⟨β', H', F'⟩ w' x v) a'.defers .returning w' := fun h => by
   rw [k3.defers]
   obtain ⟨wF, e1, e2, e3, e4⟩ := Yl.shut (D0 := []) (u := .returning) (by simp) (P := P) (FF := Fence.wide) (n := 0) (fn := fn) (tmps := a'.tmps) (R := fun e w' => ∃ v x β' H' F', e = .returned v ∧ R x H' ∧ Sim ⟨β', H', F'⟩ w' ∧ Bd ⟨β, H, F⟩ w ⟨β', H', F'⟩ w' ∧ Rep ⟨β', H', F'⟩ w' x v) km k2
   obtain ⟨y, v, r1, r2, r3⟩ := AxM (fn := fn) (a := a') e2 ⟨fun s => Rep.mono e3 (k3.env.1 s), e2.glob⟩ hr h
   exact e1 ⟨v, r1, v, y, β', H', F', rfl, r3, e2, e4 _ _ (Nat.le_refl _) k4, r2⟩
  cases x with
  | nor => exact fin k1
  | ret => exact fin k1
  | exit i => exact k1.elim
  | pan u => exact k1.elim
def ArL (vr : List VR) (R : TV → List Ob → Prop) (RP : Value → List Ob → Prop) : VEx → Env → List Ob → Prop
 | .nor, e, H => res vr e H fun x => R x H
 | .ret, e, H => res vr e H fun x => R x H
 | .exit _, _, _ => False
 | .pan u, _, H => RP u H
structure YU (F : Nat → Prop) (w : World) (F' : Nat → Prop) (w' : World) : Prop where
 os : w'.os = w.os
 tape : w'.tape = w.tape
 output : w'.output = w.output
 size : w.heap.size ≤ w'.heap.size
 same : ∀ b, b < w.heap.size → w'.heap[b]? = w.heap[b]?
 keepF : ∀ b, F b → F' b
 oldF : ∀ b, b < w.heap.size → F' b → F b
 ltF : ∀ b, F' b → b < w'.heap.size
def Bj (P : Program) (f : FuncId) (args : List TV) (R : TV → Prop) : Prop :=
 ∀ (β : Nat → Nat → Option (Nat × Nat)) (F : Nat → Prop) (w : World) (vs : List Value), ((∀ b, F b → b < w.heap.size) ∧ IZ F w) → BU ⟨β, [], F⟩ w args vs →
  Calls P f vs.toArray w fun e w' => ∃ v x F', e = .returned v ∧ R x ∧ Rep ⟨β, [], F'⟩ w' x v ∧ YU F w F' w'

theorem Bj.mono {f : FuncId} {args : List TV} {R R' : TV → Prop} (h : Bj P f args R) (hr : ∀ x, R x → R' x) : Bj P f args R' :=
 fun β F w vs hF hv => (h β F w vs hF hv).mono fun _ _ ⟨v, x, F', h1, h2, h3⟩ => ⟨v, x, F', h1, hr _ h2, h3⟩

theorem Aw.toPure {f : FuncId} {args : List TV} {R : TV → Prop} (h : Aw P f args [] fun x H' => match frz H' x with | some y => R y | none => False) : Bj P f args R := by
 intro β F w vs hF hv
 have hs : Sim ⟨β, [], F⟩ w := ⟨fun id o ho => by simp at ho, fun i j x y b o o' hx => by simp at hx, fun b hb => by obtain ⟨i, o, off, h1, _⟩ := hb; simp at h1, hF.1, hF.2⟩
 refine (h β F w vs hs hv).mono ?_
 rintro _ w' ⟨v, x, β', H', F', rfl, hR, hs', hl, hx⟩
 split at hR
 ·rename_i y hy
  have hno : ∀ b, ¬ Ctx.own ⟨β, [], F⟩ b := fun b hb => by obtain ⟨i, o, off, h1, _⟩ := hb; simp at h1
  have hr := Aya hs' hy hx
  refine ⟨v, y, fun b => F' b ∨ Ctx.own ⟨β', H', F'⟩ b, rfl, hR, Rep.mono (OU.toBare [] β) hr, ⟨hl.os, hl.tape, hl.output, hl.size, fun b hb => hl.same b hb (hno b), fun b hb => .inl (hl.keepF b hb), fun b hb hF' => ?_, fun b hF' => hF'.elim (hs'.lt b) hs'.own_lt⟩⟩
  rcases hF' with hF' | hF'
  ·exact (hl.oldF b hb hF').resolve_right (hno b)
  ·exact absurd (hl.oldOwn b hb hF') (hno b)
 ·exact hR.elim

theorem YU.later {β : Nat → Nat → Option (Nat × Nat)} {H : List Ob} {F F' : Nat → Prop} {w w' : World} (h : YU F w F' w') : Bd ⟨β, H, F⟩ w ⟨β, H, F'⟩ w' :=
 ⟨h.os, h.tape, h.output, h.size, fun id v ⟨o, h1, h2⟩ => ⟨⟨o, h1, h2⟩, rfl⟩, fun b hb => Dc (h.same b hb), fun b hb _ => h.same b hb, h.keepF, fun b hb hF => .inl (h.oldF b hb hF), fun b hb ⟨i, o, off, h1, h2, h3⟩ => ⟨i, o, off, h1, h2, h3⟩⟩
theorem YU.sim {β : Nat → Nat → Option (Nat × Nat)} {H : List Ob} {F F' : Nat → Prop} {w w' : World} (hs : Sim ⟨β, H, F⟩ w) (h : YU F w F' w') : Sim ⟨β, H, F'⟩ w' := by
 have hm : OU ⟨β, H, F⟩ w ⟨β, H, F'⟩ w' := ⟨fun b hb => ⟨h.keepF b hb, h.same b (hs.lt b hb)⟩, fun id v ⟨o, h1, h2⟩ => ⟨⟨o, h1, h2⟩, rfl⟩, fun b hb => Dc (h.same b hb)⟩
 refine ⟨fun id o ho => AlG.mono hm ⟨o, ho, Nat.le_refl _⟩ (fun hl b off hb => h.same b (hs.own_lt ⟨id, o, off, ho, hl, hb⟩)) (hs.ob id o ho), hs.inj, fun b hb hF => ?_, h.ltF, hs.glob.keep hm.stay⟩
 obtain ⟨i, o, off, h1, h2, h3⟩ := hb
 have ho : Ctx.own ⟨β, H, F⟩ b := ⟨i, o, off, h1, h2, h3⟩
 exact hs.apart b ho (h.oldF b (hs.own_lt ho) hF)
theorem Bj.calls {f : FuncId} {args : List TV} {R : TV → Prop} {H : List Ob} {K : TV → List Ob → Prop} (h : Bj P f args R) (hp : Et args = true) (hk : ∀ x, R x → K x H) : Aw P f args H K := by
 intro β F w vs hs hv
 refine (h β F w vs ⟨hs.lt, hs.glob⟩ (BU.pure hp hv)).mono ?_
 rintro _ w' ⟨v, x, F', rfl, hR, hx, hst⟩
 exact ⟨v, x, β, H, F', rfl, hk x hR, hst.sim hs, hst.later, Rep.mono (OU.toBare H β) hx⟩
theorem Bj.lends {f : FuncId} {args args' : List TV} {R : TV → Prop} {H : List Ob} {K : TV → List Ob → Prop} (h : Bj P f args' R) (hp : AB8 H args = some args') (hk : ∀ x, R x → Al1 x = true ∧ K x H) : Aw P f args H K := by
 intro β F w vs hs hv
 refine (h β (fun b => F b ∨ Ctx.own ⟨β, H, F⟩ b) w vs ⟨fun b hb => hb.elim (hs.lt b) hs.own_lt, hs.glob.keep fun b hb => ⟨.inl hb, rfl⟩⟩ (An3 hs hp hv)).mono ?_
 rintro _ w' ⟨v, x, F', rfl, hR, hx, hst⟩
 obtain ⟨hsc, hK⟩ := hk x hR
 have hst' : YU F w F w' := ⟨hst.os, hst.tape, hst.output, hst.size, hst.same, fun _ h => h, fun _ _ h => h, fun b hb => Nat.lt_of_lt_of_le (hs.lt b hb) hst.size⟩
 exact ⟨v, x, β, H, F, rfl, hK, hst'.sim hs, hst'.later, AuI hsc hx⟩

theorem OU.ofF {β β' : Nat → Nat → Option (Nat × Nat)} {H : List Ob} {F F' : Nat → Prop} {w : World} (h : ∀ b, F b → F' b) : OU ⟨β, [], F⟩ w ⟨β', H, F'⟩ w :=
 ⟨fun b hb => ⟨h b hb, rfl⟩, fun id v h => by obtain ⟨o, h, _⟩ := h; simp at h, fun _ _ => rfl⟩
mutual
def frs (H : List Ob) : TV → Option TV
 | .val v => some (.val v)
 | .any => some .any
 | .os k id ver p off n cp => match H[id]? with
  | some (.obj v x) => if v = ver then (match HY p k off n x with
   | some cs => if S9 cs then some (.sl k cs) else none
   | none => none) else none
  | _ => none
 | .agg cs => (Al4 H cs).map .agg
 | .arr n k cs => if S9 cs then some (.arr n k cs) else none
 | .tup cs => (Al4 H cs).map .tup
 | .ifc t x => (frs H x).map (.ifc t)
 | _ => none
def Al4 (H : List Ob) : List TV → Option (List TV)
 | [] => some []
 | x :: xs => match frs H x, Al4 H xs with
  | some x, some xs => some (x :: xs)
  | _, _ => none
end
def Ctx.mine (c : Ctx) : Ctx := ⟨c.β, [], c.own⟩

theorem Aj8 {p : List (Nat × Nat)} {k off : Nat} {x : TV} {cs : List TV} (h : HY p k off 0 x = some cs) : cs = [] := by
 unfold HY at h
 split at h
 ·split at h
  ·cases h; simp
  ·cases h
 ·cases h

mutual
theorem Ake {c : Ctx} {w : World} (hs : Sim c w) : ∀ {x x' : TV} {us : List Value}, frs c.H x = some x' → Am c w x us → Am c.mine w x' us
 | .val y, x', us, hf, hr => by simp only [frs, Option.some.injEq] at hf; subst hf; rw [Am] at hr ⊢; exact hr
 | .any, x', us, hf, hr => by simp only [frs, Option.some.injEq] at hf; subst hf; rw [Am] at hr ⊢; exact hr
 | .mp _ _, x', us, hf, hr => by simp [frs] at hf
 | .yl _ _, x', us, hf, hr => by simp [frs] at hf
 | .sl k cs, x', us, hf, hr => by simp [frs] at hf
 | .fp x, x', us, hf, hr => by simp [frs] at hf
 | .op id ver p, x', us, hf, hr => by simp [frs] at hf
 | .fn f a b, x', us, hf, hr => by simp [frs] at hf
 | .os k id ver p off n cp, x', us, hf, hr => by
  rw [Am] at hr
  obtain ⟨hr1, hr2⟩ := hr
  rw [frs] at hf
  split at hf
  ·rename_i ver' x hid
   split at hf
   ·rename_i e; subst e
    split at hf
    ·rename_i cs hcs
     split at hf
     ·rename_i hsc
      cases hf
      rcases hr2 with ⟨rfl, a0, hr2, _⟩ | ⟨b0, o0, cap, t0, m0, hr2, hr3, hr4, hr5, hr6, hr7⟩
      ·have := Aj8 hcs
       subst this
       rw [Am]
       exact ⟨by simp, .inl ⟨rfl, a0, 0, hr2, by omega⟩⟩
      rcases hs.ob id _ hid with ⟨h0, _⟩ | ⟨b, off', pre, vs, post, t, fr, h0, h1, h2, h3, h4⟩
      ·rw [h0] at hr2; cases hr2
      rw [h0] at hr2
      obtain ⟨rfl, rfl⟩ : b = b0 ∧ off' = o0 := by simpa using hr2
      obtain ⟨a, m, q, rfl, k1, k2, k3, k4⟩ := TK h4 hcs
      rw [Am]
      refine ⟨k3, .inr ⟨b, off' + DT p + off * k, cap, m, by rw [k4]; exact hr3, by omega, hr5, ⟨id, _, off', hid, rfl, h0⟩, SQ hsc k2, ?_⟩⟩
      have e : off' + DT p + off * k = pre.length + a.length := by rw [h3, k1]; omega
      rw [e]; exact PG h1
     ·cases hf
    ·cases hf
   ·cases hf
  ·cases hf
 | .agg cs, x', us, hf, hr => by
  simp only [frs, Option.map_eq_some_iff] at hf
  obtain ⟨ds, hds, rfl⟩ := hf
  rw [Am] at hr ⊢
  exact Alc hs hds hr
 | .arr n k cs, x', us, hf, hr => by
  rw [frs] at hf
  split at hf
  ·rename_i hsc; cases hf; rw [Am] at hr ⊢; exact ⟨hr.1, hr.2.1, SQ hsc hr.2.2⟩
  ·cases hf
 | .tup cs, x', us, hf, hr => by rw [Am] at hr; exact hr.elim
 | .ifc t x, x', us, hf, hr => by
  simp only [frs, Option.map_eq_some_iff] at hf
  obtain ⟨y, hy, rfl⟩ := hf
  rw [Am] at hr ⊢
  obtain ⟨u, h1, vs, h2, h3⟩ := hr
  exact ⟨u, h1, vs, Ake hs hy h2, by rw [h3]; exact AmS hy vs⟩
theorem Alc {c : Ctx} {w : World} (hs : Sim c w) : ∀ {xs xs' : List TV} {us : List Value}, Al4 c.H xs = some xs' → Ap c w xs us → Ap c.mine w xs' us
 | [], xs', us, hf, hr => by simp only [Al4, Option.some.injEq] at hf; subst hf; rw [Ap] at hr ⊢; exact hr
 | x :: xs, xs', us, hf, hr => by
  rw [Al4] at hf
  split at hf
  ·rename_i y ys hy hys
   cases hf
   rw [Ap] at hr ⊢
   obtain ⟨u, us, h1, h2, h3⟩ := hr
   exact ⟨u, us, h1, Ake hs hy h2, Alc hs hys h3⟩
  ·cases hf
theorem AmS {H : List Ob} : ∀ {x x' : TV} (hf : frs H x = some x') (us : List Value), mkV x us = mkV x' us
 | .val y, x', hf, us => by simp only [frs, Option.some.injEq] at hf; subst hf; rfl
 | .any, x', hf, us => by simp only [frs, Option.some.injEq] at hf; subst hf; rfl
 | .mp _ _, x', hf, us => by simp [frs] at hf
 | .yl _ _, x', hf, us => by simp [frs] at hf
 | .sl k cs, x', hf, us => by simp [frs] at hf
 | .fp x, x', hf, us => by simp [frs] at hf
 | .op id ver p, x', hf, us => by simp [frs] at hf
 | .fn f a b, x', hf, us => by simp [frs] at hf
 | .os k id ver p off n cp, x', hf, us => by
  rw [frs] at hf
  split at hf
  ·split at hf
   ·split at hf
    ·split at hf
     ·cases hf; rfl
     ·cases hf
    ·cases hf
   ·cases hf
  ·cases hf
 | .agg cs, x', hf, us => by
  simp only [frs, Option.map_eq_some_iff] at hf
  obtain ⟨ds, hds, rfl⟩ := hf; rfl
 | .arr n k cs, x', hf, us => by
  rw [frs] at hf
  split at hf
  ·cases hf; rfl
  ·cases hf
 | .tup cs, x', hf, us => by
  simp only [frs, Option.map_eq_some_iff] at hf
  obtain ⟨ds, hds, rfl⟩ := hf; rfl
 | .ifc t x, x', hf, us => by
  simp only [frs, Option.map_eq_some_iff] at hf
  obtain ⟨y, hy, rfl⟩ := hf; rfl
end
theorem Anj {c : Ctx} {w : World} (hs : Sim c w) : ∀ {xs xs' : List TV} {vs : List Value}, Al4 c.H xs = some xs' → BU c w xs vs → BU c.mine w xs' vs
 | [], xs', vs, hf, hr => by simp only [Al4, Option.some.injEq] at hf; subst hf; rw [BU] at hr ⊢; exact hr
 | x :: xs, xs', vs, hf, hr => by
  rw [Al4] at hf
  split at hf
  ·rename_i y ys hy hys
   cases hf
   rw [BU] at hr ⊢
   obtain ⟨u, us, h1, h2, h3⟩ := hr
   refine ⟨u, us, h1, ?_, Anj hs hys h3⟩
   rcases h2 with rfl | rfl | ⟨aS, h2, h4⟩
   ·simp only [frs, Option.some.injEq] at hy; subst hy; exact .inl rfl
   ·simp only [frs, Option.some.injEq] at hy; subst hy; exact .inr (.inl rfl)
   ·exact .inr (.inr ⟨aS, Ake hs hy h2, by rw [h4]; exact AmS hy aS⟩)
  ·cases hf
theorem Auv {c : Ctx} {w : World} (hs : Sim c w) {x x' : TV} {v : Value} (hf : frs c.H x = some x') (hr : Rep c w x v) : Rep c.mine w x' v := by
 rcases hr with (h | h | ⟨us, h, h'⟩) | ⟨xs, vs, rfl, h2, h3⟩
 ·subst h; simp only [frs, Option.some.injEq] at hf; subst hf; exact Rep.any
 ·subst h; simp only [frs, Option.some.injEq] at hf; subst hf; exact Rep.of_val
 ·exact .inl (.inr (.inr ⟨us, Ake hs hf h, by rw [h']; exact AmS hf us⟩))
 ·simp only [frs, Option.map_eq_some_iff] at hf
  obtain ⟨ds, hds, rfl⟩ := hf
  exact .inr ⟨ds, vs, rfl, h2, Anj hs hds h3⟩
def Y8 (P : Program) (f : FuncId) (args : List TV) (R : TV → Prop) : Prop :=
 ∀ (β : Nat → Nat → Option (Nat × Nat)) (F : Nat → Prop) (w : World) (vs : List Value), ((∀ b, F b → b < w.heap.size) ∧ IZ F w) → BU ⟨β, [], F⟩ w args vs →
  Calls P f vs.toArray w fun e w' => ∃ v x F', e = .returned v ∧ R x ∧ Rep ⟨β, [], fun b => F' b ∧ w.heap.size ≤ b⟩ w' x v ∧ YU F w F' w'

theorem Y8.mono {f : FuncId} {args : List TV} {R R' : TV → Prop} (h : Y8 P f args R) (hr : ∀ x, R x → R' x) : Y8 P f args R' :=
 fun β F w vs hF hv => (h β F w vs hF hv).mono fun _ _ ⟨v, x, F', h1, h2, h3⟩ => ⟨v, x, F', h1, hr _ h2, h3⟩
theorem Y8.pure {f : FuncId} {args : List TV} {R : TV → Prop} (h : Y8 P f args R) : Bj P f args R :=
 fun β F w vs hF hv => (h β F w vs hF hv).mono fun _ _ ⟨v, x, F', h1, h2, h3, h4⟩ => ⟨v, x, F', h1, h2, Rep.mono (OU.ofF (F := fun b => F' b ∧ w.heap.size ≤ b) (F' := F') fun b hb => hb.1) h3, h4⟩

theorem Aw.toFresh {f : FuncId} {args : List TV} {R : TV → Prop} (h : Aw P f args [] fun x H' => match frs H' x with | some y => R y | none => False) : Y8 P f args R := by
 intro β F w vs hF hv
 have hs : Sim ⟨β, [], F⟩ w := ⟨fun id o ho => by simp at ho, fun i j x y b o o' hx => by simp at hx, fun b hb => by obtain ⟨i, o, off, h1, _⟩ := hb; simp at h1, hF.1, hF.2⟩
 refine (h β F w vs hs hv).mono ?_
 rintro _ w' ⟨v, x, β', H', F', rfl, hR, hs', hl, hx⟩
 split at hR
 ·rename_i y hy
  have hno : ∀ b, ¬ Ctx.own ⟨β, [], F⟩ b := fun b hb => by obtain ⟨i, o, off, h1, _⟩ := hb; simp at h1
  have hr := Auv hs' hy hx
  have hnew : ∀ b, Ctx.own ⟨β', H', F'⟩ b → w.heap.size ≤ b := fun b hb => by
   rcases Nat.lt_or_ge b w.heap.size with h1 | h1
   ·exact absurd (hl.oldOwn b h1 hb) (hno b)
   ·exact h1
  refine ⟨v, y, fun b => F b ∨ Ctx.own ⟨β', H', F'⟩ b, rfl, hR, ?_, ⟨hl.os, hl.tape, hl.output, hl.size, fun b hb => hl.same b hb (hno b), fun b hb => .inl hb, fun b hb hF' => hF'.elim id fun h => ?_, fun b hF' => hF'.elim (fun h => Nat.lt_of_lt_of_le (hF.1 b h) hl.size) hs'.own_lt⟩⟩
  ·exact Rep.mono (OU.ofF (F := Ctx.own ⟨β', H', F'⟩) (F' := fun b => (F b ∨ Ctx.own ⟨β', H', F'⟩ b) ∧ w.heap.size ≤ b) fun b hb => ⟨.inr hb, hnew b hb⟩) hr
  ·have := hnew b h; omega
 ·exact hR.elim
theorem Y8.lends {f : FuncId} {args args' : List TV} {R : TV → Prop} {H : List Ob} {K : TV → List Ob → Prop} (h : Y8 P f args' R) (hp : AB8 H args = some args') (hk : ∀ x, R x → K x H) : Aw P f args H K := by
 intro β F w vs hs hv
 refine (h β (fun b => F b ∨ Ctx.own ⟨β, H, F⟩ b) w vs ⟨fun b hb => hb.elim (hs.lt b) hs.own_lt, hs.glob.keep fun b hb => ⟨.inl hb, rfl⟩⟩ (An3 hs hp hv)).mono ?_
 rintro _ w' ⟨v, x, F', rfl, hR, hx, hst⟩
 have hst' : YU F w (fun b => F b ∨ (F' b ∧ w.heap.size ≤ b)) w' := ⟨hst.os, hst.tape, hst.output, hst.size, hst.same, fun _ h => .inl h, fun b hb h => h.elim id fun h => by omega, fun b hb => hb.elim (fun h => Nat.lt_of_lt_of_le (hs.lt b h) hst.size) fun h => hst.ltF b h.1⟩
 refine ⟨v, x, β, H, _, rfl, hk x hR, hst'.sim hs, hst'.later, Rep.mono (OU.ofF (F := fun b => F' b ∧ w.heap.size ≤ b) (F' := fun b => F b ∨ (F' b ∧ w.heap.size ≤ b)) fun b hb => .inr hb) hx⟩
end
end Go.Proofs.YtliaddbbmnfioaaGreatDoor


namespace Go.Proofs.YtliaddbbmnfioaaGreatDoor
open Go.RowKit
variable [Bf]
set_option linter.unusedSectionVars false
set_option linter.unusedSimpArgs false
set_option linter.unusedVariables false
set_option autoImplicit false
theorem Ac {α : Sort _} {a b : α} (h : a = b) : a = b := h
abbrev i64 (n : Int) : TV := .val (.int .i64 n)
abbrev tb (b : Bool) : TV := .val (.bool b)
abbrev ts (l : List UInt8) : TV := .val (.string (str l))
abbrev slB (l : List UInt8) : TV := .sl 1 (l.map by8)
abbrev slS (l : List (List UInt8)) : TV := .sl 1 (l.map ts)

section
variable {P : Program} {e : Env} {H : List Ob}
theorem AEJ {c : Opd} {a : Opd} {b : Opd} {K : TV → Prop} : pop (.pick c a b) e H K = (match c.ev e with
  | .val (.bool t) => K (if t then a.ev e else b.ev e)
  | _ => False) := Ac rfl
theorem BqE {x : Opd} {K : TV → Prop} : pop (.b2s x) e H K = (match Df H 1 (x.ev e) with
  | some cs => (∀ y ∈ cs, Amu y) ∧ K (.val (.string (str (cs.map Ad1))))
  | none => False) := Ac rfl
theorem AED {ag : Bool} {sz : Nat} {x : Opd} {K : TV → Prop} : pop (.load ag sz x) e H K = (match x.ev e with
  | .fp y => Ai4 ag sz y ∧ K y
  | .op id ver p => (match H[id]? with
   | some (.obj v x) => v = ver ∧ (match JD p x with | some y => Ai4 ag sz y ∧ K y | none => False)
   | _ => False)
  | _ => False) := Ac rfl
theorem AEr {n : Nat} {k : Nat} {x : Opd} {i : Opd} {K : TV → Prop} : pop (.idxAA n k x i) e H K = (match x.ev e, i.ev e with
  | .fp (.arr n' k' cs), .val (.int _ j) => k' = k ∧ n' = n ∧ 0 ≤ j ∧ (match cs[j.toNat]? with | some y => K (.fp y) | none => False)
  | .op id ver p, .val (.int _ j) => 0 ≤ j ∧ j < n ∧ K (.op id ver (p ++ [(j.toNat, j.toNat * k)]))
  | _, _ => False) := Ac rfl
theorem AEZ {x : Opd} {K : TV → Prop} : pop (.lenV x) e H K = (match x.ev e with
  | .val (.slice _ n _) => K (.val (.int .i64 n))
  | .sl _ cs => K (.val (.int .i64 cs.length))
  | .os _ _ _ _ _ n _ => K (.val (.int .i64 n))
  | _ => False) := Ac rfl
theorem ACz {k : Nat} {x : Opd} {lo : Option Opd} {hi : Option Opd} {K : TV → Prop} : pop (.slV k x lo hi) e H K = (match x.ev e with
  | .sl k' cs => k' = k ∧ bnd e lo hi cs.length cs.length fun l h => K (.sl k ((cs.drop l).take (h - l)))
  | .os k' id ver p off n cp => k' = k ∧ bnd e lo hi n cp fun l h => K (.os k id ver p (off + l) (h - l) (cp - l))
  | .val (.slice ad 0 0) => bnd e lo hi 0 0 fun l h => K (.val (.slice ad 0 0))
  | _ => False) := Ac rfl
theorem ADr {n : Nat} {k : Nat} {x : Opd} {lo : Option Opd} {hi : Option Opd} {K : TV → Prop} : pop (.slA n k x lo hi) e H K = (match x.ev e with
  | .fp (.arr n' k' cs) => k' = k ∧ n' = n ∧ n ≤ 9223372036854775807 ∧ bnd e lo hi n n fun l h => K (.sl k ((cs.drop l).take (h - l)))
  | .op id ver p => (match H[id]? with
   | some (.obj v x) => v = ver ∧ n ≤ 9223372036854775807 ∧ (match JD p x with | some (.arr n' k' cs) => k' = k ∧ n' = n ∧ bnd e lo hi n n fun l h => K (.os k id ver p l (h - l) (n - l)) | _ => False)
   | _ => False)
  | _ => False) := Ac rfl
theorem ACC {f : Fn} {first : List Opd} {caps : List Opd} {K : TV → Prop} : pop (.mkf f first caps) e H K = ((∀ x ∈ first ++ caps, DW (x.ev e) = false) ∧ K (.fn f (first.map (·.ev e)) (caps.map (·.ev e)))) := Ac rfl
theorem AE5 {x : Opd} {K : TV → Prop} : pop (.nilc x) e H K = (match x.ev e with
  | .op id ver p => K (.op id ver p)
  | .fp y => K (.fp y)
  | .fn (.func f) a b => K (.fn (.func f) a b)
  | .ifc t y => K (.ifc t y)
  | .val (.func (.func f) a b) => K (.val (.func (.func f) a b))
  | _ => False) := Ac rfl
theorem Au2 {k : Nat} {n : Nat} {z : TV} {ps : List (Nat × Opd)} {K : TV → List Ob → Prop} : sop P (.bslice k n z ps) e H K = ((GN e (List.replicate n k) ps ∧ CO e ps ∧ n ≤ 1000) ∧ K (.os k H.length 0 [] 0 n n) (H ++ [.obj 0 (.arr n k (Iy e (List.replicate n z) ps))])) := Ac rfl
theorem ACo {sz : Nat} {x : Opd} {v : Opd} {K : TV → List Ob → Prop} : sop P (.store sz x v) e H K = ((lays (v.ev e) = true ∧ AC (v.ev e) = sz) ∧ (match x.ev e with
  | .op id ver p => (match H[id]? with
   | some (.obj vr y) => vr = ver ∧ (match setP p y (v.ev e) with | some y' => K .any (H.set id (.obj ver y')) | none => False)
   | _ => False)
  | _ => False)) := Ac rfl
theorem ABo {f : FuncId} {args : List Opd} {K : TV → List Ob → Prop} : sop P (.call f args) e H K = ((∀ x ∈ args, DW (x.ev e) = false) ∧ Aw P f (args.map (·.ev e)) H K) := Ac rfl
theorem AwZ {x : Opd} {args : List Opd} {K : TV → List Ob → Prop} : sop P (.callv x args) e H K = ((∀ x ∈ args, DW (x.ev e) = false) ∧ (match x.ev e with
  | .fn (.func f) first caps => AgG P f = true ∧ Aw P f (first ++ args.map (·.ev e) ++ caps) H K
  | .val (.func (.func f) xs ys) => (xs.isEmpty && ys.isEmpty) = true ∧ AgG P f = true ∧ Aw P f (args.map (·.ev e)) H K
  | .yl id ver => Ahj P id ver (args.map (·.ev e)) H K
  | _ => False)) := Ac rfl
theorem AAk  {Q : VEx → Env → List Ob → Prop} : vwp P (.skip ) Q e H = (Q .nor e H) := Ac rfl
theorem Bqr {a : Af} {b : Af} {Q : VEx → Env → List Ob → Prop} : vwp P (.seq a b) Q e H = (vwp P a (fun x e H => match x with | .nor => vwp P b Q e H | .exit i => Q (.exit i) e H | .ret => Q .ret e H | .pan u => Q (.pan u) e H) e H) := Ac rfl
theorem AzX {lv : List Nat} {c : Af} {Q : VEx → Env → List Ob → Prop} {H0 : List Ob} : vwp P (.loop lv c) Q e H0 = (∃ (I : Nat → Env → List Ob → Prop) (n : Nat), I n (forget lv e) H0 ∧
   ∀ n e H, I n e H → vwp P c (fun x e H => match x with | .nor => ∃ m g, m < n ∧ (H0.length ≤ g ∧ (H.length ≤ g ∨ (Agi g (forget lv e) = true ∧ Ae7 g (H.take g) = true))) ∧ I m (forget lv e) (H.take g) | .exit i => Q (.exit i) e H | .ret => Q .ret e H | .pan u => Q (.pan u) e H) e H) := Ac rfl
theorem AyX {id : Nat} {Q : VEx → Env → List Ob → Prop} : vwp P (.exit id) Q e H = (Q (.exit id) e H) := Ac rfl
theorem AEp  {Q : VEx → Env → List Ob → Prop} : vwp P (.ret ) Q e H = (Q .ret e H) := Ac rfl
theorem Axg {c : Af} {Q : VEx → Env → List Ob → Prop} : vwp P (.scope c) Q e H = (vwp P c Q e H) := Ac rfl
theorem Bqo {s k : Nat} {c : Af} {Q : VEx → Env → List Ob → Prop} : vwp P (.own s k c) Q e H = (match get e s with
  | .val (.slice none 0 0) => vwp P c Q ((s, .os k H.length 0 [] 0 0 0) :: e) (H ++ [.obj 0 (.arr 0 k [])])
  | _ => vwp P c Q e H) := Ac rfl
theorem AAU {s k : Nat} {p : List (Nat × Nat)} {c : Af} {Q : VEx → Env → List Ob → Prop} : vwp P (.ownB s p k c) Q e H = (match get e s with
  | .op id ver p0 => (match H[id]? with
   | some (.obj v x) => v = ver ∧ (match JD (p0 ++ p) x with
    | some (.val (.slice none 0 0)) => (match setP (p0 ++ p) x (.os k H.length 0 [] 0 0 0) with
     | some x' => vwp P c Q e (H.set id (.obj ver x') ++ [.obj 0 (.arr 0 k [])])
     | none => False)
    | _ => vwp P c Q e H)
   | _ => False)
  | _ => False) := Ac rfl
theorem Av0 {s : Nat} {t : TypeId} {p : List (Nat × Nat)} {c : Af} {Q : VEx → Env → List Ob → Prop} : vwp P (.ownT s p t c) Q e H = (match get e s with
  | .op id ver p0 => (match H[id]? with
   | some (.obj v x) => v = ver ∧ (match JD (p0 ++ p) x with
    | some (.val (.slice none 0 0)) => (match setP (p0 ++ p) x (.os 1 H.length 0 [] 0 0 0) with
     | some x' => vwp P c Q e (H.set id (.obj ver x') ++ [.bld 0 t []])
     | none => False)
    | _ => vwp P c Q e H)
   | _ => False)
  | _ => False) := Ac rfl
theorem AsB {K : Env → List Ob → Prop} : AgJ P [] K e H = K e H := Ac rfl
theorem AAV {d : Nat} {o : POp} {r : List VO} {K : Env → List Ob → Prop} : AgJ P (⟨some d, .p o, none⟩ :: r) K e H = pop o e H fun x => AgJ P r K ((d, x) :: e) H := Ac rfl
theorem ABM {d : Nat} {o : SOp} {r : List VO} {K : Env → List Ob → Prop} : AgJ P (⟨some d, .s o, none⟩ :: r) K e H = sop P o e H fun x H => AgJ P r K ((d, x) :: e) H := Ac rfl
theorem AwL {o : SOp} {r : List VO} {K : Env → List Ob → Prop} : AgJ P (⟨none, .s o, none⟩ :: r) K e H = sop P o e H fun x H => AgJ P r K e H := Ac rfl
theorem AAc {d s : Nat} {o : VOp} {b : Bool} {r : List VO} {K : Env → List Ob → Prop} : AgJ P (⟨some d, o, some (s, b)⟩ :: r) K e H = Aik e s fun e q => match q with
 | some t => if t = b then vop P o e H (fun x H => AgJ P r K ((d, x) :: e) H) else AgJ P r K ((d, .val undef) :: e) H
 | none => AgJ P r K ((d, .val undef) :: e) H := Ac rfl
theorem ADM {o : POp} {K : TV → List Ob → Prop} : vop P (.p o) e H K = pop o e H fun x => K x H := Ac rfl
theorem AEi {o : SOp} {K : TV → List Ob → Prop} : vop P (.s o) e H K = sop P o e H K := Ac rfl
theorem AAD {K : Env → Prop} : vq P [] K e H = K e := Ac rfl
theorem BqG {d : Nat} {o : POp} {r : List VO} {K : Env → Prop} : vq P (⟨some d, .p o, none⟩ :: r) K e H = pop o e H fun x => vq P r K ((d, x) :: e) H := Ac rfl
theorem Bqn {d : Nat} {f : FuncId} {args : List Opd} {r : List VO} {K : Env → Prop} : vq P (⟨some d, .s (.call f args), none⟩ :: r) K e H = ((∀ x ∈ args, DW (x.ev e) = false) ∧ ∃ x, Aw P f (args.map (·.ev e)) H (fun y H' => y = x ∧ H' = H) ∧ vq P r K ((d, x) :: e) H) := Ac rfl
theorem AyF {o : POp} {k : TV → Prop} : Ah1 P (.p o) e H k = pop o e H k := Ac rfl
theorem AwO {f : FuncId} {args : List Opd} {k : TV → Prop} : Ah1 P (.s (.call f args)) e H k = ((∀ x ∈ args, DW (x.ev e) = false) ∧ ∃ x, Aw P f (args.map (·.ev e)) H (fun y H' => y = x ∧ H' = H) ∧ k x) := Ac rfl
variable {t : TypeId} {a b : Int} {k : IntKind}
theorem Dp {n : Int} (h1 : -9223372036854775808 ≤ n) (h2 : n ≤ 9223372036854775807) : IntKind.i64.wrap n = n := by rw [IntKind.wrap_i64]; omega
theorem ACh (h1 : -9223372036854775808 ≤ a + b) (h2 : a + b ≤ 9223372036854775807) : ET t .add (.int .i64 a) (.int .i64 b) = some (.int .i64 (a + b)) := by
 rw [show ET t .add (.int .i64 a) (.int .i64 b) = some (.int .i64 (IntKind.i64.wrap (a + b))) from rfl, Dp h1 h2]
theorem AEk (h1 : -9223372036854775808 ≤ a - b) (h2 : a - b ≤ 9223372036854775807) : ET t .sub (.int .i64 a) (.int .i64 b) = some (.int .i64 (a - b)) := by
 rw [show ET t .sub (.int .i64 a) (.int .i64 b) = some (.int .i64 (IntKind.i64.wrap (a - b))) from rfl, Dp h1 h2]
theorem ADn (h1 : -9223372036854775808 ≤ a * b) (h2 : a * b ≤ 9223372036854775807) : ET t .mul (.int .i64 a) (.int .i64 b) = some (.int .i64 (a * b)) := by
 rw [show ET t .mul (.int .i64 a) (.int .i64 b) = some (.int .i64 (IntKind.i64.wrap (a * b))) from rfl, Dp h1 h2]
theorem AEa : ET t .eql (.int k a) (.int k b) = some (.bool (decide (a = b))) := by
 rw [show ET t .eql (.int k a) (.int k b) = some (.bool (a == b)) from by simp [ET, binOp, Op.intCmp]; rfl]; rfl
theorem ADR : ET t .neq (.int k a) (.int k b) = some (.bool (!decide (a = b))) := by
 rw [show ET t .neq (.int k a) (.int k b) = some (.bool (a != b)) from by simp [ET, binOp, Op.intCmp]; rfl]; rfl
theorem AEw : ET t .lss (.int k a) (.int k b) = some (.bool (decide (a < b))) := by simp [ET, binOp, Op.intCmp]; rfl
theorem ADL : ET t .leq (.int k a) (.int k b) = some (.bool (decide (a ≤ b))) := by simp [ET, binOp, Op.intCmp]; rfl
theorem ACR : ET t .gtr (.int k a) (.int k b) = some (.bool (decide (b < a))) := by simp [ET, binOp, Op.intCmp]; rfl
theorem ADP : ET t .geq (.int k a) (.int k b) = some (.bool (decide (b ≤ a))) := by simp [ET, binOp, Op.intCmp]; rfl
theorem AqO : GH 0 (.val (.pointer none)) = some true := Ac rfl
theorem ArV {i v : Nat} {p : List (Nat × Nat)} : GH 0 (.op i v p) = some false := Ac rfl
theorem Arl {x : TV} : GH 0 (.fp x) = some false := Ac rfl
theorem Ar8 : GH 1 (.val .nilIface) = some true := Ac rfl
theorem AoO {t : TypeId} {x : TV} : GH 1 (.ifc t x) = some false := Ac rfl
theorem Arw : GH 2 (.val (.map none)) = some true := Ac rfl
theorem Aq0 {i v : Nat} : GH 2 (.mp i v) = some false := Ac rfl
theorem ApU {i v : Nat} : GH 3 (.yl i v) = some false := Ac rfl
theorem Aq1 : GH 3 (.val .nilFunc) = some true := Ac rfl
theorem ArC {f : Fn} {a b : List TV} : GH 3 (.fn f a b) = some false := Ac rfl
theorem ABP {n : Int} (h0 : 0 ≤ n) (h1 : n < 18446744073709551616) : (BitVec.ofInt 64 n).toNat = n.toNat := by
 rw [BitVec.toNat_ofInt]
 have : n % ((2 ^ 64 : Nat) : Int) = n := Int.emod_eq_of_lt h0 (by simpa using h1)
 rw [this]
theorem ACy (h1 : 0 ≤ a) (h2 : a ≤ 9223372036854775807) (h3 : 0 ≤ b) (h4 : b ≤ 9223372036854775807) : ET t .and (.int .i64 a) (.int .i64 b) = some (.int .i64 ((a.toNat &&& b.toNat : Nat) : Int)) := by
 rw [show ET t .and (.int .i64 a) (.int .i64 b) = some (.int .i64 (IntKind.i64.wrap ((BitVec.ofInt 64 a &&& BitVec.ofInt 64 b).toNat : Int))) from rfl, BitVec.toNat_and, ABP h1 (by omega), ABP h3 (by omega)]
 have := Nat.and_le_left (n := a.toNat) (m := b.toNat)
 rw [Dp (by omega) (by omega)]
theorem Bqw (h1 : 0 ≤ a) (h2 : a ≤ 9223372036854775807) (h3 : 0 ≤ b) (h4 : b ≤ 9223372036854775807) : ET t .or (.int .i64 a) (.int .i64 b) = some (.int .i64 ((a.toNat ||| b.toNat : Nat) : Int)) := by
 rw [show ET t .or (.int .i64 a) (.int .i64 b) = some (.int .i64 (IntKind.i64.wrap ((BitVec.ofInt 64 a ||| BitVec.ofInt 64 b).toNat : Int))) from rfl, BitVec.toNat_or, ABP h1 (by omega), ABP h3 (by omega)]
 have := Nat.or_lt_two_pow (n := 63) (x := a.toNat) (y := b.toNat) (by omega) (by omega)
 rw [Dp (by omega) (by omega)]
theorem AC9 {k2 : IntKind} (h1 : 0 ≤ b) (h2 : b ≤ 63) (h3 : 0 ≤ a * 2 ^ b.toNat) (h4 : a * 2 ^ b.toNat ≤ 9223372036854775807) : ET t .shl (.int .i64 a) (.int k2 b) = some (.int .i64 (a * 2 ^ b.toNat)) := by
 have e : binOp .shl t (.int .i64 a) (.int k2 b) = pure (.int .i64 (a * 2 ^ b.toNat)) := by
  show Op.shift .shl .i64 a k2 b = _
  unfold Op.shift
  rw [if_neg (by omega)]
  have hm : min b.toNat IntKind.i64.bits = b.toNat := by
   have : IntKind.i64.bits = 64 := rfl
   omega
  simp only [hm]
  rw [Dp (by omega) h4]
 unfold ET; rw [e]; rfl
theorem ADN {k2 : IntKind} (h1 : 0 ≤ b) (h2 : b ≤ 63) (h3 : 0 ≤ a) : ET t .shr (.int .i64 a) (.int k2 b) = some (.int .i64 (a / 2 ^ b.toNat)) := by
 have e : binOp .shr t (.int .i64 a) (.int k2 b) = pure (.int .i64 (a / 2 ^ b.toNat)) := by
  show Op.shift .shr .i64 a k2 b = _
  unfold Op.shift
  rw [if_neg (by omega)]
  have hm : min b.toNat IntKind.i64.bits = b.toNat := by
   have : IntKind.i64.bits = 64 := rfl
   omega
  simp only [hm]
  rw [Int.fdiv_eq_ediv_of_nonneg _ (by exact Int.le_of_lt (Int.pow_pos (by omega)))]
 unfold ET; rw [e]; rfl
theorem ACn (h1 : 0 ≤ a) (h2 : b ≠ 0) : ET t .rem (.int k a) (.int k b) = some (.int k (a % b)) := by
 have e : binOp .rem t (.int k a) (.int k b) = pure (.int k (a % b)) := by
  unfold binOp
  simp only [ne_eq, not_true_eq_false, if_false, Op.intDiv, h2, Int.tmod_eq_emod_of_nonneg h1]
 unfold ET; rw [e]; rfl
theorem ACw (h1 : 0 ≤ a) (h2 : 0 < b) (h3 : a ≤ 9223372036854775807) : ET t .quo (.int .i64 a) (.int .i64 b) = some (.int .i64 (a / b)) := by
 have e : binOp .quo t (.int .i64 a) (.int .i64 b) = pure (.int .i64 (a / b)) := by
  unfold binOp
  simp only [ne_eq, not_true_eq_false, if_false, Op.intDiv, show ¬ b = 0 from by omega, Int.tdiv_eq_ediv_of_nonneg h1]
  have h4 : a / b ≤ a := Int.ediv_le_self _ h1
  have h5 : 0 ≤ a / b := Int.ediv_nonneg h1 (by omega)
  rw [Dp (by omega) (by omega)]
 unfold ET; rw [e]; rfl
theorem Av5 {x y : UInt8} : ET t .xor (.int .u8 (x.toNat : Int)) (.int .u8 (y.toNat : Int)) = some (.int .u8 ((x ^^^ y).toNat : Int)) := by
 rw [show ET t .xor (.int .u8 (x.toNat : Int)) (.int .u8 (y.toNat : Int)) = some (.int .u8 (IntKind.u8.wrap ((BitVec.ofInt 8 (x.toNat : Int) ^^^ BitVec.ofInt 8 (y.toNat : Int)).toNat : Int))) from rfl]
 rw [BitVec.ofInt_natCast, BitVec.ofInt_natCast, UInt8.toNat_xor, BitVec.toNat_xor, BitVec.toNat_ofNat, BitVec.toNat_ofNat, Nat.mod_eq_of_lt x.toNat_lt, Nat.mod_eq_of_lt y.toNat_lt]
 have := Nat.xor_lt_two_pow (n := 8) x.toNat_lt y.toNat_lt
 rw [IntKind.wrap_u8]; congr 2; omega
theorem Abc (l : List UInt8) : (str l).toList = l := by simp [str, ByteArray.toList_eq]
theorem Aob {l m : List UInt8} : (l == m) = decide (l = m) := by
 by_cases h : l = m <;> simp [h]
theorem ACj {l m : List UInt8} : ET t .eql (.string (str l)) (.string (str m)) = some (.bool (decide (l = m))) := by
 rw [show ET t .eql (.string (str l)) (.string (str m)) = some (.bool ((str l).toList == (str m).toList)) from rfl, Abc, Abc, Aob]
theorem ADk {l m : List UInt8} : ET t .neq (.string (str l)) (.string (str m)) = some (.bool (!decide (l = m))) := by
 rw [show ET t .neq (.string (str l)) (.string (str m)) = some (.bool (!((str l).toList == (str m).toList))) from rfl, Abc, Abc, Aob]
theorem ADK {b : Bool} : unV .not (.bool b) = some (.bool (!b)) := Ac rfl
theorem AuK {u : Value} : AtX (.int k a) u = true := by cases u <;> rfl
theorem AvG {s : ByteArray} {u : Value} : AtX (.string s) u = true := by cases u <;> rfl

theorem As3 {v : Value} : Afd (TV.val v) = false := Ac rfl
theorem Asl  : Afd (TV.any) = false := Ac rfl
theorem Axz {k : Nat} {cs : List TV} : Afd (TV.sl k cs) = false := Ac rfl
theorem AwR {x : TV} : Afd (TV.fp x) = false := Ac rfl
theorem Ayb {i : Nat} {v : Nat} {p : List (Nat × Nat)} : Afd (TV.op i v p) = false := Ac rfl
theorem Awu {k : Nat} {i : Nat} {v : Nat} {p : List (Nat × Nat)} {o : Nat} {n : Nat} {cp : Nat} : Afd (TV.os k i v p o n cp) = false := Ac rfl
theorem AuH {cs : List TV} : Afd (TV.agg cs) = true := Ac rfl
theorem Avs {n : Nat} {k : Nat} {cs : List TV} : Afd (TV.arr n k cs) = true := Ac rfl
theorem Au9 {vs : List TV} : Afd (TV.tup vs) = false := Ac rfl
theorem Asw {t : TypeId} {x : TV} : Afd (TV.ifc t x) = false := Ac rfl
theorem Aw9 {f : Fn} {a : List TV} {b : List TV} : Afd (TV.fn f a b) = false := Ac rfl
theorem Awg {i : Nat} {v : Nat} : Afd (TV.mp i v) = false := Ac rfl
theorem Ax1 {i : Nat} {v : Nat} : Afd (TV.yl i v) = false := Ac rfl
theorem AqU {v : Value} : DW (TV.val v) = false := Ac rfl
theorem Aqw  : DW (TV.any) = false := Ac rfl
theorem Asv {k : Nat} {cs : List TV} : DW (TV.sl k cs) = false := Ac rfl
theorem Avc {x : TV} : DW (TV.fp x) = false := Ac rfl
theorem AuM {i : Nat} {v : Nat} {p : List (Nat × Nat)} : DW (TV.op i v p) = false := Ac rfl
theorem Asp {k : Nat} {i : Nat} {v : Nat} {p : List (Nat × Nat)} {o : Nat} {n : Nat} {cp : Nat} : DW (TV.os k i v p o n cp) = false := Ac rfl
theorem AqV {cs : List TV} : DW (TV.agg cs) = false := Ac rfl
theorem ArJ {n : Nat} {k : Nat} {cs : List TV} : DW (TV.arr n k cs) = false := Ac rfl
theorem ApA {vs : List TV} : DW (TV.tup vs) = true := Ac rfl
theorem ApY {t : TypeId} {x : TV} : DW (TV.ifc t x) = false := Ac rfl
theorem At3 {f : Fn} {a : List TV} {b : List TV} : DW (TV.fn f a b) = false := Ac rfl
theorem Asg {i : Nat} {v : Nat} : DW (TV.mp i v) = false := Ac rfl
theorem Ata {i : Nat} {v : Nat} : DW (TV.yl i v) = false := Ac rfl
theorem Asx  : lays (TV.any) = false := Ac rfl
theorem Axo {k : Nat} {cs : List TV} : lays (TV.sl k cs) = true := Ac rfl
theorem Aw1 {x : TV} : lays (TV.fp x) = true := Ac rfl
theorem AwW {i : Nat} {v : Nat} {p : List (Nat × Nat)} : lays (TV.op i v p) = true := Ac rfl
theorem AxA {k : Nat} {i : Nat} {v : Nat} {p : List (Nat × Nat)} {o : Nat} {n : Nat} {cp : Nat} : lays (TV.os k i v p o n cp) = true := Ac rfl
theorem Atp {cs : List TV} : lays (TV.agg cs) = true := Ac rfl
theorem As9 {n : Nat} {k : Nat} {cs : List TV} : lays (TV.arr n k cs) = true := Ac rfl
theorem Au4 {vs : List TV} : lays (TV.tup vs) = false := Ac rfl
theorem Aua {t : TypeId} {x : TV} : lays (TV.ifc t x) = true := Ac rfl
theorem Awm {f : Fn} {a : List TV} {b : List TV} : lays (TV.fn f a b) = true := Ac rfl
theorem Axr {i : Nat} {v : Nat} : lays (TV.mp i v) = true := Ac rfl
theorem AwA {i : Nat} {v : Nat} : lays (TV.yl i v) = true := Ac rfl
theorem ArB {v : Value} : GU (TV.val v) = true := Ac rfl
theorem ArE  : GU (TV.any) = true := Ac rfl
theorem AtO {k : Nat} {cs : List TV} : GU (TV.sl k cs) = true := Ac rfl
theorem AsJ {x : TV} : GU (TV.fp x) = true := Ac rfl
theorem Asu {i : Nat} {v : Nat} {p : List (Nat × Nat)} : GU (TV.op i v p) = false := Ac rfl
theorem Aul {k : Nat} {i : Nat} {v : Nat} {p : List (Nat × Nat)} {o : Nat} {n : Nat} {cp : Nat} : GU (TV.os k i v p o n cp) = false := Ac rfl
theorem Ar6 {n : Nat} {k : Nat} {cs : List TV} : GU (TV.arr n k cs) = true := Ac rfl
theorem Aux {i : Nat} {v : Nat} : GU (TV.mp i v) = false := Ac rfl
theorem AtW {i : Nat} {v : Nat} : GU (TV.yl i v) = false := Ac rfl
theorem Ap3 {v : Value} : AC (TV.val v) = 1 := Ac rfl
theorem Ar4  : AC (TV.any) = 1 := Ac rfl
theorem AvA {k : Nat} {cs : List TV} : AC (TV.sl k cs) = 1 := Ac rfl
theorem Ate {x : TV} : AC (TV.fp x) = 1 := Ac rfl
theorem AuU {i : Nat} {v : Nat} {p : List (Nat × Nat)} : AC (TV.op i v p) = 1 := Ac rfl
theorem Avl {k : Nat} {i : Nat} {v : Nat} {p : List (Nat × Nat)} {o : Nat} {n : Nat} {cp : Nat} : AC (TV.os k i v p o n cp) = 1 := Ac rfl
theorem Aq8 {vs : List TV} : AC (TV.tup vs) = 1 := Ac rfl
theorem ApI {t : TypeId} {x : TV} : AC (TV.ifc t x) = 1 := Ac rfl
theorem AuN {f : Fn} {a : List TV} {b : List TV} : AC (TV.fn f a b) = 1 := Ac rfl
theorem AvJ {i : Nat} {v : Nat} : AC (TV.mp i v) = 1 := Ac rfl
theorem AvC {i : Nat} {v : Nat} : AC (TV.yl i v) = 1 := Ac rfl
theorem Aqy {cs : List TV} : AC (.agg cs) = BG cs := by rw [AC]
theorem Arn {n k : Nat} {cs : List TV} : AC (.arr n k cs) = n * k := by rw [AC]
theorem Aou : BG [] = 0 := Ac rfl
theorem Al9 {x : TV} {xs : List TV} : BG (x :: xs) = AC x + BG xs := by rw [BG]
theorem Aq5 {cs : List TV} : GU (.agg cs) = Et cs := by rw [GU]
theorem ArS {t : TypeId} {x : TV} : GU (.ifc t x) = GU x := by rw [GU]
theorem Apx {cs : List TV} : GU (.tup cs) = Et cs := by rw [GU]
theorem ApJ : Et [] = true := Ac rfl
theorem Ao4 {x : TV} {xs : List TV} : Et (x :: xs) = (GU x && Et xs) := by rw [Et]
theorem AtQ {k : IntKind} {n : Int} : lays (.val (.int k n)) = true := Ac rfl
theorem Ar7 {b : Bool} : lays (.val (.bool b)) = true := Ac rfl
theorem Amw {s : ByteArray} : lays (.val (.string s)) = true := Ac rfl
theorem Ak9 {p : Option Addr} : lays (.val (.pointer p)) = true := Ac rfl
theorem Aos {p : Option Addr} {n c : Nat} : lays (.val (.slice p n c)) = true := Ac rfl
theorem AtT {r : Option Nat} : lays (.val (.map r)) = true := Ac rfl
theorem Apt {f : Fn} {a b : Array Value} : lays (.val (.func f a b)) = true := Ac rfl
theorem Alv : lays (.val .nilFunc) = true := Ac rfl
theorem Aj3 : lays (.val .nilIface) = true := Ac rfl
theorem Bqv {e : Env} {n : Nat} : (Opd.t n).ev e = get e n := Ac rfl
theorem Bqs {e : Env} {n : Nat} : (Opd.g n).ev e = (match KI n with | some x => .fp x.tv | none => .val (.pointer (some ⟨n, 0, none⟩))) := Ac rfl
theorem Bqp {e : Env} {v : Value} : (Opd.c v).ev e = .val v := Ac rfl
theorem Yg {x : TV} : JD [] x = some x := Ac rfl
theorem Ku {i d : Nat} {p : List (Nat × Nat)} {cs : List TV} : JD ((i, d) :: p) (.agg cs) = if BG (cs.take i) = d then (cs[i]?).bind (JD p) else none := by rw [JD]
theorem Akg {i d n k : Nat} {p : List (Nat × Nat)} {cs : List TV} : JD ((i, d) :: p) (.arr n k cs) = if d = i * k then (cs[i]?).bind (JD p) else none := by rw [JD]
theorem Ii {x y : TV} : setP [] x y = if AC y = AC x then some y else none := by rw [setP]
theorem Je {i d : Nat} {p : List (Nat × Nat)} {cs : List TV} {y : TV} : setP ((i, d) :: p) (.agg cs) y = if BG (cs.take i) = d then (cs[i]?).bind fun c => (setP p c y).map fun c' => .agg (cs.set i c') else none := by rw [setP]
theorem An5 {i d n k : Nat} {p : List (Nat × Nat)} {cs : List TV} {y : TV} : setP ((i, d) :: p) (.arr n k cs) y = if d = i * k ∧ GU y = true then (cs[i]?).bind fun c => (setP p c y).map fun c' => .arr n k (cs.set i c') else none := by rw [setP]
theorem AoF {e : Env} : forget [] e = [] := Ac rfl
theorem AmU {e : Env} {s : Nat} {ks : List Nat} : forget (s :: ks) e = (s, get e s) :: forget ks e := Ac rfl
theorem Apl {i : Nat} : Aka i [] = [] := Ac rfl
theorem AoU {i : Nat} {x : TV} {xs : List TV} : Aka i (x :: xs) = (i, x) :: Aka (i + 1) xs := Ac rfl
theorem AsA {ag : Bool} {sz : Nat} {y : TV} : Ai4 ag sz y = (AC y = sz ∧ Afd y = ag) := Ac rfl
theorem Apf {H : List Ob} {k k2 : Nat} {cs : List TV} : Df H k (.sl k2 cs) = if k2 = k then some cs else none := Ac rfl
theorem Am1 {H : List Ob} {k : Nat} {p : Option Addr} {n c : Nat} : Df H k (.val (.slice p n c)) = if n = 0 ∧ p.isNone ∧ c = 0 then some [] else none := Ac rfl
theorem Aor {H : List Ob} {k k2 i v o n cp : Nat} {p : List (Nat × Nat)} : Df H k (.os k2 i v p o n cp) = if k2 = k then (match H[i]? with | some (.obj vr x) => if vr = v then HY p k o n x else none | _ => none) else none := Ac rfl
theorem AmF {k k2 o n N : Nat} {cs : List TV} : HY [] k o n (.arr N k2 cs) = if k2 = k ∧ o + n ≤ cs.length then some ((cs.drop o).take n) else none := Ac rfl
theorem Arc {e : Env} {zs : List TV} : Iy e zs [] = zs := Ac rfl
theorem AoP {e : Env} {zs : List TV} {i : Nat} {x : Opd} {ps : List (Nat × Opd)} : Iy e zs ((i, x) :: ps) = Iy e (zs.set i (x.ev e)) ps := Ac rfl
theorem Amn {e : Env} {ks : List Nat} : GN e ks [] = True := Ac rfl
theorem AkC {e : Env} {ks : List Nat} {i : Nat} {x : Opd} {ps : List (Nat × Opd)} : GN e ks ((i, x) :: ps) = ((lays (x.ev e) = true ∧ ks[i]? = some (AC (x.ev e))) ∧ GN e ks ps) := Ac rfl
theorem Akf {e : Env} : CO e [] = True := Ac rfl
theorem Aij {e : Env} {i : Nat} {x : Opd} {ps : List (Nat × Opd)} : CO e ((i, x) :: ps) = (GU (x.ev e) = true ∧ CO e ps) := Ac rfl
theorem AxN {t : Nat} {e : Env} {H : List Ob} {K : TV → Prop} : res [.tmp t] e H K = K (get e t) := Ac rfl
theorem AsM {a sz : Nat} {ag : Bool} {e : Env} {H : List Ob} {K : TV → Prop} : res [.cell a ag sz] e H K = pop (.load ag sz (.t a)) e H K := Ac rfl
theorem Arz {e : Env} {H : List Ob} {K : TV → Prop} : res [] e H K = ((∀ x ∈ ([] : List TV), DW x = false) ∧ K (.tup [])) := Ac rfl
theorem ADf {r s : VR} {e : Env} {H : List Ob} {K : TV → Prop} : res [r, s] e H K = Al3 [r, s] e H fun xs => match xs with | [x] => K x | xs => (∀ x ∈ xs, DW x = false) ∧ K (.tup xs) := Ac rfl
theorem AvI {r s : VR} {l : List VR} {e : Env} {H : List Ob} {K : TV → Prop} : res (r :: s :: l) e H K = Al3 (r :: s :: l) e H fun xs => match xs with | [x] => K x | xs => (∀ x ∈ xs, DW x = false) ∧ K (.tup xs) := Ac rfl
theorem AnV {e : Env} {H : List Ob} {K : List TV → Prop} : Al3 [] e H K = K [] := Ac rfl
theorem AuC {t : Nat} {r : List VR} {e : Env} {H : List Ob} {K : List TV → Prop} : Al3 (.tmp t :: r) e H K = Al3 r e H fun xs => K (get e t :: xs) := Ac rfl
theorem Akv {a sz : Nat} {ag : Bool} {r : List VR} {e : Env} {H : List Ob} {K : List TV → Prop} : Al3 (.cell a ag sz :: r) e H K = pop (.load ag sz (.t a)) e H fun x => Al3 r e H fun xs => K (x :: xs) := Ac rfl
theorem AlF {vr : List VR} {R : TV → List Ob → Prop} {e : Env} {H : List Ob} : Ak4 vr R .ret e H = res vr e H fun x => R x H := Ac rfl
theorem AlH {vr : List VR} {R : TV → List Ob → Prop} {e : Env} {H : List Ob} : Ak4 vr R .nor e H = res vr e H fun x => R x H := Ac rfl
theorem Aum {H : List Ob} {g : TV → Option TV} {v : Value} : Jm H g (TV.val v) = some (.val v) := by rw [Jm]
theorem Avo {H : List Ob} {g : TV → Option TV}  : Jm H g (TV.any) = some (.any) := by rw [Jm]
theorem Ayt {H : List Ob} {g : TV → Option TV} {k : Nat} {cs : List TV} : Jm H g (TV.sl k cs) = some (.sl k cs) := by rw [Jm]
theorem Ax4 {H : List Ob} {g : TV → Option TV} {x : TV} : Jm H g (TV.fp x) = some (.fp x) := by rw [Jm]
theorem Avw {H : List Ob} {g : TV → Option TV} {n : Nat} {k : Nat} {cs : List TV} : Jm H g (TV.arr n k cs) = some (.arr n k cs) := by rw [Jm]
theorem Aww {H : List Ob} {g : TV → Option TV} {k i v o n cp : Nat} {p : List (Nat × Nat)} : Jm H g (.os k i v p o n cp) = (match H[i]? with | some (.obj vr x) => if vr = v then (HY p k o n x).map (.sl k) else none | _ => none) := by rw [Jm]; rfl
theorem Axt {H : List Ob} {g : TV → Option TV} {i v : Nat} {p : List (Nat × Nat)} : Jm H g (.op i v p) = (match H[i]? with | some (.obj vr x) => if vr = v then (JD p x).bind fun y => (g y).map .fp else none | _ => none) := by rw [Jm]; rfl
theorem AtI {H : List Ob} {g : TV → Option TV} {cs : List TV} : Jm H g (.agg cs) = (YR H g cs).map .agg := by rw [Jm]
theorem Ava {H : List Ob} {g : TV → Option TV} {cs : List TV} : Jm H g (.tup cs) = (YR H g cs).map .tup := by rw [Jm]
theorem Au1 {H : List Ob} {g : TV → Option TV} {t : TypeId} {x : TV} : Jm H g (.ifc t x) = (Jm H g x).map (.ifc t) := by rw [Jm]
theorem Ar2 {H : List Ob} {g : TV → Option TV} : YR H g [] = some [] := Ac rfl
theorem AoH {H : List Ob} {g : TV → Option TV} {x : TV} {xs : List TV} : YR H g (x :: xs) = (match Jm H g x, YR H g xs with | some x, some xs => some (x :: xs) | _, _ => none) := by rw [YR]; rfl
theorem ACe {H : List Ob} {x : TV} : frz H x = Jm H (Ane H 2) x := Ac rfl
theorem AzM {H : List Ob} {x : List TV} : AB8 H x = YR H (Ane H 2) x := Ac rfl
theorem AAE {H : List Ob} {d : Nat} {x : TV} : Ane H (d + 1) x = Jm H (Ane H d) x := Ac rfl
theorem Ayz {H : List Ob} {v : Value} : frs H (.val v) = some (.val v) := by rw [frs]
theorem AwG {H : List Ob} : frs H .any = some .any := by rw [frs]
theorem AAP {H : List Ob} {k i v o n cp : Nat} {p : List (Nat × Nat)} : frs H (.os k i v p o n cp) = (match H[i]? with | some (.obj vr x) => if vr = v then (match HY p k o n x with | some cs => if S9 cs then some (.sl k cs) else none | none => none) else none | _ => none) := by rw [frs]; try rfl
theorem AxK {H : List Ob} {cs : List TV} : frs H (.agg cs) = (Al4 H cs).map .agg := by rw [frs]
theorem Aw2 {H : List Ob} {n k : Nat} {cs : List TV} : frs H (.arr n k cs) = if S9 cs then some (.arr n k cs) else none := by rw [frs]
theorem Ayh {H : List Ob} {cs : List TV} : frs H (.tup cs) = (Al4 H cs).map .tup := by rw [frs]
theorem AwB {H : List Ob} {t : TypeId} {x : TV} : frs H (.ifc t x) = (frs H x).map (.ifc t) := by rw [frs]
theorem Avj {H : List Ob} : Al4 H [] = some [] := by rw [Al4]
theorem ArF {H : List Ob} {x : TV} {xs : List TV} : Al4 H (x :: xs) = (match frs H x, Al4 H xs with | some x, some xs => some (x :: xs) | _, _ => none) := by rw [Al4]; try rfl
theorem AqX {l : List UInt8} : S9 (l.map by8) = true := by
 induction l with
 | nil => rfl
 | cons x l ih => rw [List.map_cons, S9, ih]; rfl
theorem Avt {l : List (List UInt8)} : S9 (l.map ts) = true := by
 induction l with
 | nil => rfl
 | cons x l ih => rw [List.map_cons, S9, ih]; rfl
theorem AuP {l : List UInt8} {i : Nat} {b : UInt8} : (l.map by8).set i (.val (.int .u8 (b.toNat : Int))) = (l.set i b).map by8 := by rw [List.map_set]
theorem Auh {l : List UInt8} : (l.map by8).map Ad1 = l := by
 rw [List.map_map]
 have : (Ad1 ∘ by8) = id := by funext b; simp
 rw [this, List.map_id]
theorem AtA {l : List UInt8} : (∀ y ∈ l.map by8, Amu y) = True := by simp
theorem At9 {a b : Nat} : ((a : Int) + (b : Int)) = ((a + b : Nat) : Int) := by omega
theorem Ayl {a b : Nat} : ((a : Int) < (b : Int)) = (a < b) := by simp
theorem Aws {a b : Nat} : ((a : Int) ≤ (b : Int)) = (a ≤ b) := by simp
theorem AwE {a b : Nat} : ((a : Int) = (b : Int)) = (a = b) := propext ⟨fun h => by omega, fun h => by omega⟩
theorem Ayq {a : Nat} : (0 ≤ (a : Int)) = True := by simp

theorem ABJ {d s : Nat} {x : TV} : get ((d, x) :: e) s = if d = s then x else get e s := Ac rfl
end
end Go.Proofs.YtliaddbbmnfioaaGreatDoor


namespace Go.Proofs.YtliaddbbmnfioaaGreatDoor
open Go.RowKit
variable [Bf]
set_option linter.unusedSectionVars false
set_option linter.unusedSimpArgs false
set_option linter.unusedVariables false
set_option autoImplicit false
universe u
set_option linter.defProp false
class Tg {α : Sort u} (a : α) : Type where
instance tg {α : Sort u} (a : α) : Tg a := {}
def vif (t : Bool) (A B : Prop) [Tg A] [Tg B] : Prop := if t = true then A else B
def Cj {α : Type} (o : Option α) (K : α → Prop) [Tg K] : Prop := match o with | some y => K y | none => False
def Fz (A K : Prop) [Tg K] : Prop := A ∧ K
def Cb {α : Type} (x : α) (K : α → Prop) [Tg K] : Prop := K x
def vex (K : TV → Prop) [Tg K] : Prop := ∃ x, K x
def VC (P : Program) (f : FuncId) (xs : List TV) (H : List Ob) (K : TV → List Ob → Prop) [Tg K] : Prop := Aw P f xs H K
def VY (P : Program) (id ver : Nat) (xs : List TV) (H : List Ob) (K : TV → List Ob → Prop) [Tg K] : Prop := Ahj P id ver xs H K
theorem Afv {P : Program} {f : FuncId} {xs : List TV} {H : List Ob} {K : TV → List Ob → Prop} (h : Aw P f xs H K) : VC P f xs H K := h
section
variable {A A' B K : Prop} {α : Type}
@[congr] theorem Aze {t t' : Bool} (h : t = t') : vif t A B = vif t' A B := by rw [h]
@[congr] theorem AyL {o o' : Option α} {K : α → Prop} (h : o = o') : Cj o K = Cj o' K := by rw [h]
@[congr] theorem AyO (h : A = A') : Fz A K = Fz A' K := by rw [h]
@[congr] theorem AyN {x x' : α} {K : α → Prop} (h : x = x') : Cb x K = Cb x' K := by rw [h]
@[congr] theorem AAR {P : Program} {c : Af} {Q : VEx → Env → List Ob → Prop} {e e' : Env} {H H' : List Ob} (he : e = e') (hH : H = H') : vwp P c Q e H = vwp P c Q e' H' := by rw [he, hH]
@[congr] theorem AB4 {P : Program} {f : FuncId} {xs xs' : List TV} {H H' : List Ob} {K : TV → List Ob → Prop} (he : xs = xs') (hH : H = H') : VC P f xs H K = VC P f xs' H' K := by rw [he, hH]
@[congr] theorem ACb {P : Program} {id ver : Nat} {xs xs' : List TV} {H H' : List Ob} {K : TV → List Ob → Prop} (he : xs = xs') (hH : H = H') : VY P id ver xs H K = VY P id ver xs' H' K := by rw [he, hH]
theorem Atf : vif true A B = A := by simp [vif]
theorem ArR : vif false A B = B := by simp [vif]
theorem AzA {p : Prop} [Decidable p] (h : p) : vif (decide p) A B = A := by simp [vif, h]
theorem Azj {p : Prop} [Decidable p] (h : ¬ p) : vif (decide p) A B = B := by simp [vif, h]
theorem Ays {t : Bool} : vif (!t) A B = vif t B A := by cases t <;> simp [vif]
theorem AxB {s t : Bool} : vif (s && t) A B = vif s (vif t A B) B := by cases s <;> simp [vif]
theorem AAl {s t : Bool} : vif (s || t) A B = vif s A (vif t A B) := by cases s <;> simp [vif]
theorem Ar0 {y : α} {K : α → Prop} : Cj (some y) K = K y := rfl
theorem AtG {β : Type} {f : α → β} {o : Option α} {K : β → Prop} : Cj (o.map f) K = Cj o fun y => K (f y) := by cases o <;> rfl
theorem Awi {cs : List α} {i : Nat} {K : α → Prop} (h : i < cs.length) : Cj cs[i]? K = K cs[i] := by rw [List.getElem?_eq_getElem h]; rfl
theorem ApL (h : A) : Fz A K = K := by simp [Fz, h]
theorem AAx : Fz True K = K := by simp [Fz]
theorem AsN : Fz (A ∧ B) K = Fz A (Fz B K) := by simp [Fz, and_assoc]
theorem Axd {x : α} {K : α → Prop} : Cb x K = K x := rfl
end

def JO : Option Ob → Nat → Option TV
 | some (.obj v x), ver => if v = ver then some x else none
 | _, _ => none
theorem AsG {v : Nat} {x : TV} : JO (some (.obj v x)) v = some x := by simp [JO]
section
variable {H l : List Ob} {o : Ob} {n k : Nat}
theorem ABu (h : H.length = n) : (H ++ l)[n]? = l[0]? := by rw [List.getElem?_append_right (by omega), h, Nat.sub_self]
theorem Awf (h : H.length = n) : (H ++ l)[n + k]? = l[k]? := by rw [List.getElem?_append_right (by omega)]; congr 1; omega
theorem ABz (h : n < H.length) : (H ++ l)[n]? = H[n]? := List.getElem?_append_left h
theorem AAQ (h : n < H.length) : (H.set n o)[n]? = some o := by simp [h]
theorem Ark {m : Nat} (h : m ≠ n) : (H.set m o)[n]? = H[n]? := by rw [List.getElem?_set_ne h]
theorem AwX (h : H.length = n) : (H ++ l).set n o = H ++ l.set 0 o := by rw [List.set_append_right _ _ (by omega), h, Nat.sub_self]
theorem Aus (h : H.length = n) : (H ++ l).set (n + k) o = H ++ l.set k o := by rw [List.set_append_right _ _ (by omega)]; congr 2; omega
theorem Aw4 (h : n < H.length) : (H ++ l).set n o = H.set n o ++ l := List.set_append_left _ _ h
end

section
variable {P : Program} {e : Env} {H : List Ob}
def AqP (c a b : TV) (K : TV → Prop) [Tg K] : Prop := match c with | .val (.bool t) => K (if t then a else b) | _ => False
def AB3 (t : TypeId) (op : BinOp) (x y : TV) (K : TV → Prop) [Tg K] : Prop := match x, y with
  | .val u, .val v => AtX u v = true ∧ (match ET t op u v with | some r => K (.val r) | none => False)
  | _, _ => False
def Pun (op : UnOp) (x : TV) (K : TV → Prop) [Tg K] : Prop := match x with
  | .val u => (match unV op u with | some r => K (.val r) | none => False)
  | _ => False
def AuD (k : IntKind) (x : TV) (K : TV → Prop) [Tg K] : Prop := match x with
  | .val (.int _ n) => K (.val (.int k (k.wrap n)))
  | _ => False
def AB6 (x : TV) (K : TV → Prop) [Tg K] : Prop := match x with
  | .val (.string s) => K (.val (.string s))
  | _ => False
def ABV (x : Option (List TV)) (K : TV → Prop) [Tg K] : Prop := match x with
  | some cs => (∀ y ∈ cs, Amu y) ∧ K (.val (.string (str (cs.map Ad1))))
  | none => False
def Al8 (H : List Ob) (ag : Bool) (sz : Nat) (x : TV) (K : TV → Prop) [Tg K] : Prop := match x with
  | .fp y => Ai4 ag sz y ∧ K y
  | .op id ver p => (match H[id]? with
   | some (.obj v x) => v = ver ∧ (match JD p x with | some y => Ai4 ag sz y ∧ K y | none => False)
   | _ => False)
  | _ => False
def Afz (i off : Nat) (x : TV) (K : TV → Prop) [Tg K] : Prop := match x with
  | .op id ver p => K (.op id ver (p ++ [(i, off)]))
  | .fp (.agg cs) => BG (cs.take i) = off ∧ (match cs[i]? with | some y => K (.fp y) | none => False)
  | _ => False
def AkW (ag : Bool) (sz i off : Nat) (x : TV) (K : TV → Prop) [Tg K] : Prop := match x with
  | .agg cs => BG (cs.take i) = off ∧ (match cs[i]? with | some y => Ai4 ag sz y ∧ K y | none => False)
  | _ => False
def Aoq (k : Nat) (x i : TV) (K : TV → Prop) [Tg K] : Prop := match x, i with
  | .sl k' cs, .val (.int _ j) => k' = k ∧ 0 ≤ j ∧ (match cs[j.toNat]? with | some y => K (.fp y) | none => False)
  | .os k' id ver p off n cp, .val (.int _ j) => k' = k ∧ 0 ≤ j ∧ j < n ∧ K (.op id ver (p ++ [(off + j.toNat, (off + j.toNat) * k)]))
  | _, _ => False
def AiT (n k : Nat) (x i : TV) (K : TV → Prop) [Tg K] : Prop := match x, i with
  | .fp (.arr n' k' cs), .val (.int _ j) => k' = k ∧ n' = n ∧ 0 ≤ j ∧ (match cs[j.toNat]? with | some y => K (.fp y) | none => False)
  | .op id ver p, .val (.int _ j) => 0 ≤ j ∧ j < n ∧ K (.op id ver (p ++ [(j.toNat, j.toNat * k)]))
  | _, _ => False
def AA5 (ag : Bool) (n k : Nat) (x i : TV) (K : TV → Prop) [Tg K] : Prop := match x, i with
  | .arr n' k' cs, .val (.int _ j) => k' = k ∧ n' = n ∧ 0 ≤ j ∧ (match cs[j.toNat]? with | some y => Ai4 ag k y ∧ K y | none => False)
  | _, _ => False
def ArO (x i : TV) (K : TV → Prop) [Tg K] : Prop := match x, i with
  | .val (.string s), .val (.int _ j) => 0 ≤ j ∧ (match (bl s)[j.toNat]? with | some b => K (by8 b) | none => False)
  | _, _ => False
def ABl (i : Nat) (x : TV) (K : TV → Prop) [Tg K] : Prop := match x with
  | .tup xs => (match xs[i]? with | some y => K y | none => False)
  | _ => False
def Asj (x : TV) (K : TV → Prop) [Tg K] : Prop := match x with
  | .val (.string s) => K (.val (.int .i64 (bl s).length))
  | _ => False
def Ao9 (x : TV) (K : TV → Prop) [Tg K] : Prop := match x with
  | .val (.slice _ n _) => K (.val (.int .i64 n))
  | .sl _ cs => K (.val (.int .i64 cs.length))
  | .os _ _ _ _ _ n _ => K (.val (.int .i64 n))
  | _ => False
def Akc (lo hi : Option TV) (len lim : Nat) (K : Nat → Nat → Prop) [Tg K] : Prop :=
 match (match lo with | none => some 0 | some x => (match x with | .val (.int _ i) => some i | _ => none)), (match hi with | none => some (len : Int) | some x => (match x with | .val (.int _ i) => some i | _ => none)) with
 | some l, some h => (0 ≤ l ∧ l ≤ h ∧ h ≤ lim) ∧ K l.toNat h.toNat
 | _, _ => False
def evO (e : Env) : Option Opd → Option TV
 | none => none
 | some x => some (x.ev e)
theorem Aty : evO e none = none := Ac rfl
theorem AuR {x : Opd} : evO e (some x) = some (x.ev e) := Ac rfl
theorem Arr {lo hi : Option Opd} {len lim : Nat} {K : Nat → Nat → Prop} : bnd e lo hi len lim K = Akc (evO e lo) (evO e hi) len lim K := by
 cases lo <;> cases hi <;> rfl
def ABX (x : TV) (lo hi : Option TV) (K : TV → Prop) [Tg K] : Prop := match x with
  | .val (.string s) => Akc lo hi (bl s).length (bl s).length fun l h => K (.val (.string (str (((bl s).drop l).take (h - l)))))
  | _ => False
def AyQ (k : Nat) (x : TV) (lo hi : Option TV) (K : TV → Prop) [Tg K] : Prop := match x with
  | .sl k' cs => k' = k ∧ Akc lo hi cs.length cs.length fun l h => K (.sl k ((cs.drop l).take (h - l)))
  | .os k' id ver p off n cp => k' = k ∧ Akc lo hi n cp fun l h => K (.os k id ver p (off + l) (h - l) (cp - l))
  | .val (.slice ad 0 0) => Akc lo hi 0 0 fun l h => K (.val (.slice ad 0 0))
  | _ => False
def AyG (H : List Ob) (n k : Nat) (x : TV) (lo hi : Option TV) (K : TV → Prop) [Tg K] : Prop := match x with
  | .fp (.arr n' k' cs) => k' = k ∧ n' = n ∧ n ≤ 9223372036854775807 ∧ Akc lo hi n n fun l h => K (.sl k ((cs.drop l).take (h - l)))
  | .op id ver p => (match H[id]? with
   | some (.obj v x) => v = ver ∧ n ≤ 9223372036854775807 ∧ (match JD p x with | some (.arr n' k' cs) => k' = k ∧ n' = n ∧ Akc lo hi n n fun l h => K (.os k id ver p l (h - l) (n - l)) | _ => False)
   | _ => False)
  | _ => False
def Anx (t : TypeId) (x : TV) (K : TV → Prop) [Tg K] : Prop := lays x = true ∧ K (.ifc t x)
def ABC (f : Fn) (first caps : List TV) (K : TV → Prop) [Tg K] : Prop := (∀ x ∈ first ++ caps, DW x = false) ∧ K (.fn f first caps)
def AkH (x : TV) (K : TV → Prop) [Tg K] : Prop := match x with
  | .op id ver p => K (.op id ver p)
  | .fp y => K (.fp y)
  | .fn (.func f) a b => K (.fn (.func f) a b)
  | .ifc t y => K (.ifc t y)
  | .val (.func (.func f) a b) => K (.val (.func (.func f) a b))
  | _ => False
def ABZ (x y : TV) (K : TV → Prop) [Tg K] : Prop := match x, y with
  | .val (.int k a), .val (.int _ b) => K (.val (.int k (if b < a then b else a)))
  | _, _ => False
def ACd (x y : TV) (K : TV → Prop) [Tg K] : Prop := match x, y with
  | .val (.int k a), .val (.int _ b) => K (.val (.int k (if b > a then b else a)))
  | _, _ => False
def Ag9 (g : GOp) (H : List Ob) (xs : List TV) (K : TV → Prop) [Tg K] : Prop := match gev g H xs with
  | some y => K y
  | none => False
def AAd (neg : Bool) (x y : TV) (K : TV → Prop) [Tg K] : Prop := match x, y with
  | .val (.bool a), .val (.bool b) => K (.val (.bool (xor neg (a == b))))
  | _, _ => False
def ABp (neg : Bool) (x y : Option Bool) (K : TV → Prop) [Tg K] : Prop := match x, y with
  | some true, some b => K (.val (.bool (xor neg b)))
  | some false, some true => K (.val (.bool (xor neg false)))
  | _, _ => False
def Alh (H : List Ob) (sz : Nat) (x v : TV) (K : TV → List Ob → Prop) [Tg K] : Prop := (lays v = true ∧ AC v = sz) ∧ (match x with
  | .op id ver p => (match H[id]? with
   | some (.obj vr y) => vr = ver ∧ (match setP p y v with | some y' => K .any (H.set id (.obj ver y')) | none => False)
   | _ => False)
  | _ => False)
def AB7 (H : List Ob) (k bytes : Nat) (z l c : TV) (K : TV → List Ob → Prop) [Tg K] : Prop := match l, c with
  | .val (.int _ l), .val (.int _ c) => (0 ≤ l ∧ l ≤ c ∧ (bytes : Int) * c ≤ 281474976710656 ∧ c ≤ 9223372036854775807) ∧ K (.os k H.length 0 [] 0 l.toNat c.toNat) (H ++ [.obj 0 (.arr c.toNat k (List.replicate c.toNat z))])
  | _, _ => False
def AxD (k bytes : Nat) (et : TypeId) (x : TV) (y : Option (List TV)) (H : List Ob) (K : TV → List Ob → Prop) [Tg K] : Prop := match y with
  | some ys => AlY k bytes et x ys H K
  | none => False
def Am5 (k : Nat) (x : TV) (y : Option (List TV)) (H : List Ob) (K : TV → List Ob → Prop) [Tg K] : Prop := match y with
  | some ys => AbV k x ys H K
  | none => False
def Auk (et : TypeId) (x y : TV) (H : List Ob) (K : TV → List Ob → Prop) [Tg K] : Prop := match y with
  | .val (.string s) => AlY 1 1 et x ((bl s).map by8) H K
  | _ => False
def AnO (x y : TV) (H : List Ob) (K : TV → List Ob → Prop) [Tg K] : Prop := match y with
  | .val (.string s) => AbV 1 x ((bl s).map by8) H K
  | _ => False
def AuB (P : Program) (f : FuncId) (x : Option (Nat × Nat × List UInt8)) (H : List Ob) (K : TV → List Ob → Prop) [Tg K] : Prop := ACc P f ∧ (match x with
  | some (j, v, l) => l.length ≤ 9223372036854775807 ∧ K (.val (.string (str l))) (H.set j (.gone v))
  | none => False)
def ACa (H : List Ob) (x : TV) (K : TV → List Ob → Prop) [Tg K] : Prop := match x with
  | .val (.string s) => (bl s).length ≤ 9223372036854775807 ∧ K (.os 1 H.length 0 [] 0 (bl s).length (bl s).length) (H ++ [.obj 0 (.arr (bl s).length 1 ((bl s).map by8))])
  | _ => False
def Asn (k bytes : Nat) (z x n : TV) (H : List Ob) (K : TV → List Ob → Prop) [Tg K] : Prop := match x, n with
  | .val (.slice none 0 0), .val (.int .i64 j) => (0 ≤ j ∧ (bytes : Int) * j ≤ 140737488355328 ∧ j ≤ 9223372036854775807) ∧ K (.os k H.length 0 [] 0 j.toNat j.toNat) (H ++ [.obj 0 (.arr j.toNat k (List.replicate j.toNat z))])
  | _, _ => False
def Api (H : List Ob) (K : TV → List Ob → Prop) [Tg K] : Prop := K (.val (.bool true)) H ∧ K (.val (.bool false)) H
def AvT (neg : Bool) (x : TV) (H : List Ob) (K : TV → List Ob → Prop) [Tg K] : Prop := match x with
  | .val (.slice a _ _) => K (.val (.bool (xor neg a.isNone))) H
  | .sl _ cs => (cs = [] → K (.val (.bool true)) H ∧ K (.val (.bool false)) H) ∧ (cs ≠ [] → K (.val (.bool neg)) H)
  | .os _ _ _ _ _ n _ => (n = 0 → K (.val (.bool true)) H ∧ K (.val (.bool false)) H) ∧ (n ≠ 0 → K (.val (.bool neg)) H)
  | _ => False
def AiV (P : Program) (x : TV) (args : List TV) (H : List Ob) (K : TV → List Ob → Prop) [Tg K] : Prop := match x with
  | .fn (.func f) first caps => AgG P f = true ∧ Aw P f (first ++ args ++ caps) H K
  | .val (.func (.func f) xs ys) => (xs.isEmpty && ys.isEmpty) = true ∧ AgG P f = true ∧ Aw P f args H K
  | .yl id ver => Ahj P id ver args H K
  | _ => False
def AzU (P : Program) (nm : String) (x : TV) (args : List TV) (H : List Ob) (K : TV → List Ob → Prop) [Tg K] : Prop := AB9 P nm H x fun f r => Aw P f (r :: args) H K
def AyR (P : Program) (q : Option (FuncId × Option (Bool × Nat))) (r : TV) (args : List TV) (H : List Ob) (K : TV → List Ob → Prop) [Tg K] : Prop := match q with
 | some (f, none) => AgG P f = true ∧ Aw P f (r :: args) H K
 | some (f, some (ag, sz)) => AgG P f = true ∧ ldT H ag sz r fun y => Aw P f (y :: args) H K
 | none => False
def Gd (q : Option Bool) (b : Bool) (A B : Prop) [Tg A] [Tg B] : Prop := match q with
 | some t => if t = b then A else B
 | none => B
def evs (e : Env) (xs : List Opd) : List TV := xs.map (·.ev e)
theorem Ayv : evs e [] = [] := Ac rfl
theorem AuW {x : Opd} {xs : List Opd} : evs e (x :: xs) = x.ev e :: evs e xs := Ac rfl
def Aby (xs : List TV) : Prop := ∀ x ∈ xs, DW x = false
theorem AqK : Aby [] = True := by simp [Aby]
theorem Aok {x : TV} {xs : List TV} : Aby (x :: xs) = (DW x = false ∧ Aby xs) := by simp [Aby]
theorem YS {args : List Opd} : (∀ x ∈ args, DW (x.ev e) = false) = Aby (evs e args) := by simp [Aby, evs]

section
variable {c c' a a' b b' x x' y y' : TV} {K : TV → Prop} {KK : TV → List Ob → Prop} {lo lo' hi hi' : Option TV} {ox ox' : Option (List TV)} {q q' q2 q2' : Option Bool} {xs xs' : List TV} {A B : Prop} {H' : List Ob}
@[congr] theorem ACp (h1 : c = c') (h2 : a = a') (h3 : b = b') : AqP c a b K = AqP c' a' b' K := by rw [h1, h2, h3]
@[congr] theorem AEG {t : TypeId} {op : BinOp} (h1 : x = x') (h2 : y = y') : AB3 t op x y K = AB3 t op x' y' K := by rw [h1, h2]
@[congr] theorem Bqt {op : UnOp} (h1 : x = x') : Pun op x K = Pun op x' K := by rw [h1]
@[congr] theorem AC0 {k : IntKind} (h1 : x = x') : AuD k x K = AuD k x' K := by rw [h1]
@[congr] theorem AE1 (h1 : x = x') : AB6 x K = AB6 x' K := by rw [h1]
@[congr] theorem AEN (h1 : ox = ox') : ABV ox K = ABV ox' K := by rw [h1]
@[congr] theorem ACX {ag : Bool} {sz : Nat} (h1 : x = x') (h2 : H = H') : Al8 H ag sz x K = Al8 H' ag sz x' K := by rw [h1, h2]
@[congr] theorem Azs {i o : Nat} (h1 : x = x') : Afz i o x K = Afz i o x' K := by rw [h1]
@[congr] theorem AB2 {ag : Bool} {sz i o : Nat} (h1 : x = x') : AkW ag sz i o x K = AkW ag sz i o x' K := by rw [h1]
@[congr] theorem ACm {k : Nat} (h1 : x = x') (h2 : y = y') : Aoq k x y K = Aoq k x' y' K := by rw [h1, h2]
@[congr] theorem AB0 {n k : Nat} (h1 : x = x') (h2 : y = y') : AiT n k x y K = AiT n k x' y' K := by rw [h1, h2]
@[congr] theorem AEB {ag : Bool} {n k : Nat} (h1 : x = x') (h2 : y = y') : AA5 ag n k x y K = AA5 ag n k x' y' K := by rw [h1, h2]
@[congr] theorem ACq (h1 : x = x') (h2 : y = y') : ArO x y K = ArO x' y' K := by rw [h1, h2]
@[congr] theorem AE3 {i : Nat} (h1 : x = x') : ABl i x K = ABl i x' K := by rw [h1]
@[congr] theorem ADs (h1 : x = x') : Asj x K = Asj x' K := by rw [h1]
@[congr] theorem ADb (h1 : x = x') : Ao9 x K = Ao9 x' K := by rw [h1]
@[congr] theorem AEU {n m : Nat} {K : Nat → Nat → Prop} {n' m' : Nat} (h1 : lo = lo') (h2 : hi = hi') (h3 : n = n') (h4 : m = m') : Akc lo hi n m K = Akc lo' hi' n' m' K := by rw [h1, h2, h3, h4]
@[congr] theorem AE6 (h1 : x = x') (h2 : lo = lo') (h3 : hi = hi') : ABX x lo hi K = ABX x' lo' hi' K := by rw [h1, h2, h3]
@[congr] theorem AER {k : Nat} (h1 : x = x') (h2 : lo = lo') (h3 : hi = hi') : AyQ k x lo hi K = AyQ k x' lo' hi' K := by rw [h1, h2, h3]
@[congr] theorem AE0 {n k : Nat} (h0 : H = H') (h1 : x = x') (h2 : lo = lo') (h3 : hi = hi') : AyG H n k x lo hi K = AyG H' n k x' lo' hi' K := by rw [h0, h1, h2, h3]
@[congr] theorem ABT {t : TypeId} (h1 : x = x') : Anx t x K = Anx t x' K := by rw [h1]
@[congr] theorem AEX {f : Fn} {ys ys' : List TV} (h1 : xs = xs') (h2 : ys = ys') : ABC f xs ys K = ABC f xs' ys' K := by rw [h1, h2]
@[congr] theorem ACT (h1 : x = x') : AkH x K = AkH x' K := by rw [h1]
@[congr] theorem AEL (h1 : x = x') (h2 : y = y') : ABZ x y K = ABZ x' y' K := by rw [h1, h2]
@[congr] theorem AEY (h1 : x = x') (h2 : y = y') : ACd x y K = ACd x' y' K := by rw [h1, h2]
@[congr] theorem AEE {g : GOp} {xs xs' : List TV} (h1 : H = H') (h2 : xs = xs') : Ag9 g H xs K = Ag9 g H' xs' K := by rw [h1, h2]
@[congr] theorem AEI {n : Bool} (h1 : x = x') (h2 : y = y') : AAd n x y K = AAd n x' y' K := by rw [h1, h2]
@[congr] theorem AEO {n : Bool} (h1 : q = q') (h2 : q2 = q2') : ABp n q q2 K = ABp n q' q2' K := by rw [h1, h2]
@[congr] theorem ABU {sz : Nat} (h0 : H = H') (h1 : x = x') (h2 : y = y') : Alh H sz x y KK = Alh H' sz x' y' KK := by rw [h0, h1, h2]
@[congr] theorem AES {k n : Nat} {z : TV} (h0 : H = H') (h1 : x = x') (h2 : y = y') : AB7 H k n z x y KK = AB7 H' k n z x' y' KK := by rw [h0, h1, h2]
@[congr] theorem AEH {k n : Nat} {et : TypeId} (h0 : H = H') (h1 : x = x') (h2 : ox = ox') : AxD k n et x ox H KK = AxD k n et x' ox' H' KK := by rw [h0, h1, h2]
@[congr] theorem AEs {k : Nat} (h0 : H = H') (h1 : x = x') (h2 : ox = ox') : Am5 k x ox H KK = Am5 k x' ox' H' KK := by rw [h0, h1, h2]
@[congr] theorem ADY {et : TypeId} (h0 : H = H') (h1 : x = x') (h2 : y = y') : Auk et x y H KK = Auk et x' y' H' KK := by rw [h0, h1, h2]
@[congr] theorem ABQ (h0 : H = H') (h1 : x = x') (h2 : y = y') : AnO x y H KK = AnO x' y' H' KK := by rw [h0, h1, h2]
@[congr] theorem AD1 {P : Program} {f : FuncId} {r r' : Option (Nat × Nat × List UInt8)} (h0 : H = H') (h1 : r = r') : AuB P f r H KK = AuB P f r' H' KK := by rw [h0, h1]
@[congr] theorem AEd {k n : Nat} {z : TV} (h0 : H = H') (h1 : x = x') (h2 : y = y') : Asn k n z x y H KK = Asn k n z x' y' H' KK := by rw [h0, h1, h2]
@[congr] theorem AE4 {n : Bool} (h0 : H = H') (h1 : x = x') : AvT n x H KK = AvT n x' H' KK := by rw [h0, h1]
@[congr] theorem ACM (h0 : H = H') : Api H KK = Api H' KK := by rw [h0]
@[congr] theorem Bqd (h0 : H = H') (h1 : x = x') : ACa H x KK = ACa H' x' KK := by rw [h0, h1]
@[congr] theorem AB5 (h0 : H = H') (h1 : x = x') (h2 : xs = xs') : AiV P x xs H KK = AiV P x' xs' H' KK := by rw [h0, h1, h2]
@[congr] theorem Bqe {P : Program} {nm : String} (h0 : H = H') (h1 : x = x') (h2 : xs = xs') : AzU P nm x xs H KK = AzU P nm x' xs' H' KK := by rw [h0, h1, h2]
@[congr] theorem AEz {P : Program} {g g' : Option (FuncId × Option (Bool × Nat))} (h : g = g') (h0 : H = H') (h1 : x = x') (h2 : xs = xs') : AyR P g x xs H KK = AyR P g' x' xs' H' KK := by rw [h, h0, h1, h2]
@[congr] theorem BqJ {b : Bool} (h1 : q = q') : Gd q b A B = Gd q' b A B := by rw [h1]
end

section
variable {K : TV → Prop} {KK : TV → List Ob → Prop} {x y i a b c : Opd} {lo hi : Option Opd}
theorem ACi : pop (.mov x) e H K = Cb (x.ev e) K := Ac rfl
theorem Azw : pop (.pick c a b) e H K = AqP (c.ev e) (a.ev e) (b.ev e) K := Ac rfl
theorem AEh {t : TypeId} {op : BinOp} : pop (.bin t op x y) e H K = AB3 t op (x.ev e) (y.ev e) K := Ac rfl
theorem Bqi {op : UnOp} : pop (.un op x) e H K = Pun op (x.ev e) K := Ac rfl
theorem Ay8 {k : IntKind} : pop (.conv k x) e H K = AuD k (x.ev e) K := Ac rfl
theorem ADa : pop (.s2s x) e H K = AB6 (x.ev e) K := Ac rfl
theorem ADh : pop (.b2s x) e H K = ABV (Df H 1 (x.ev e)) K := Ac rfl
theorem AzB {ag : Bool} {sz : Nat} : pop (.load ag sz x) e H K = Al8 H ag sz (x.ev e) K := Ac rfl
theorem Asy {n o : Nat} : pop (.fieldA n o x) e H K = Afz n o (x.ev e) K := Ac rfl
theorem AwQ {ag : Bool} {sz n o : Nat} : pop (.field ag sz n o x) e H K = AkW ag sz n o (x.ev e) K := Ac rfl
theorem Azl {k : Nat} : pop (.idxA k x i) e H K = Aoq k (x.ev e) (i.ev e) K := Ac rfl
theorem Awx {n k : Nat} : pop (.idxAA n k x i) e H K = AiT n k (x.ev e) (i.ev e) K := Ac rfl
theorem AEt {ag : Bool} {n k : Nat} : pop (.idx ag n k x i) e H K = AA5 ag n k (x.ev e) (i.ev e) K := Ac rfl
theorem AAK : pop (.idxS x i) e H K = ArO (x.ev e) (i.ev e) K := Ac rfl
theorem ADv {n : Nat} : pop (.ext n x) e H K = ABl n (x.ev e) K := Ac rfl
theorem AzR : pop (.lenS x) e H K = Asj (x.ev e) K := Ac rfl
theorem Az1 : pop (.lenV x) e H K = Ao9 (x.ev e) K := Ac rfl
theorem ADw : pop (.slS x lo hi) e H K = ABX (x.ev e) (evO e lo) (evO e hi) K := by
 show (match x.ev e with | .val (.string s) => bnd e lo hi (bl s).length (bl s).length fun l h => K (.val (.string (str (((bl s).drop l).take (h - l))))) | _ => False) = _
 simp only [Arr]; rfl
theorem ADz {k : Nat} : pop (.slV k x lo hi) e H K = AyQ k (x.ev e) (evO e lo) (evO e hi) K := by
 rw [ACz]; simp only [Arr]; rfl
theorem AC3 {n k : Nat} : pop (.slA n k x lo hi) e H K = AyG H n k (x.ev e) (evO e lo) (evO e hi) K := by
 rw [ADr]; simp only [Arr]; rfl
theorem AwI {t : TypeId} : pop (.iface t x) e H K = Anx t (x.ev e) K := Ac rfl
theorem AEn {f : Fn} {xs ys : List Opd} : pop (.mkf f xs ys) e H K = ABC f (evs e xs) (evs e ys) K := by
 rw [ACC]; unfold ABC evs; rw [← List.map_append]
 refine congrArg (· ∧ _) (propext ⟨fun h y hy => ?_, fun h y hy => h _ (List.mem_map.2 ⟨y, hy, rfl⟩)⟩)
 obtain ⟨z, hz, rfl⟩ := List.mem_map.1 hy; exact h z hz
theorem Azh : pop (.nilc x) e H K = AkH (x.ev e) K := Ac rfl
theorem ADt : pop (.min x y) e H K = ABZ (x.ev e) (y.ev e) K := Ac rfl
theorem ACH : pop (.max x y) e H K = ACd (x.ev e) (y.ev e) K := Ac rfl
theorem AD9 {g : GOp} {xs : List Opd} : pop (.gen g xs) e H K = Ag9 g H (evs e xs) K := Ac rfl
theorem ADm {n : Bool} : pop (.eqB x y n) e H K = AAd n (x.ev e) (y.ev e) K := Ac rfl
theorem ADc {kd : Nat} {n : Bool} : pop (.eqN kd x y n) e H K = ABp n (GH kd (x.ev e)) (GH kd (y.ev e)) K := Ac rfl
theorem Awn {zs : List TV} {szs : List Nat} {ps : List (Nat × Opd)} : pop (.build zs szs ps) e H K = Fz (GN e szs ps) (Cb (TV.agg (Iy e zs ps)) K) := Ac rfl
theorem Aue {n k : Nat} {zs : List TV} {ps : List (Nat × Opd)} : pop (.buildA n k zs ps) e H K = Fz (GN e (List.replicate n k) ps) (Fz (CO e ps) (Cb (TV.arr n k (Iy e zs ps)) K)) := Ac rfl
theorem ADV {k n : Nat} {z : TV} {ps : List (Nat × Opd)} : pop (.bsl k n z ps) e H K = Fz (GN e (List.replicate n k) ps) (Fz (CO e ps ∧ n ≤ 1000) (Cb (TV.sl k (Iy e (List.replicate n z) ps)) K)) := by
 show ((_ ∧ _ ∧ _) ∧ _) = _
 simp only [Fz, Cb, and_assoc]
theorem Axu {z : TV} : sop P (.alloc z) e H KK = Cb (H.length) fun n => Cb (H ++ [.obj 0 z]) fun H' => KK (.op n 0 []) H' := Ac rfl
theorem AtH {z : TV} {t : TypeId} : sop P (.allocT z t) e H KK = Cb (H.length) fun n => Cb (AC z) fun m => Cb (H ++ [.obj 0 z, .fact n 0 t m]) fun H' => KK (.op n 0 []) H' := Ac rfl
theorem AzH {t : TypeId} : sop P (.boxT x t) e H KK = Cb (x.ev e) fun v => Fz (lays v = true) (Cb (H.length) fun n => Cb (AC v) fun m => Cb (H ++ [.obj 0 v, .fact n 0 t m]) fun H' => KK (.op n 0 []) H') := Ac rfl
theorem AAw {f : FuncId} : sop P (.bstr f x) e H KK = AuB P f (Aot H (x.ev e)) H KK := Ac rfl
def As6 (x : TV) (H : List Ob) (K : TV → List Ob → Prop) [Tg K] : Prop := match x with
 | .val (.string s) => K (.op H.length 0 []) (H ++ [.sit (bl s) 0])
 | _ => False
@[congr] theorem ADJ {x x' : TV} {H' : List Ob} (h1 : x = x') (h2 : H = H') : As6 x H KK = As6 x' H' KK := by rw [h1, h2]
theorem Ay4 : sop P (.rngS x) e H KK = As6 (x.ev e) H KK := Ac rfl
theorem AsT {s : ByteArray} : As6 (.val (.string s)) H KK = Cb H.length fun n => Cb (H ++ [.sit (bl s) 0]) fun H' => KK (.op n 0 []) H' := Ac rfl
def Aqm : Option Ob → Option (List UInt8 × Nat)
 | some (.sit s pos) => some (s, pos)
 | _ => none
theorem Aun {s : List UInt8} {pos : Nat} : Aqm (some (.sit s pos)) = some (s, pos) := Ac rfl
def AqB (x : TV) (H : List Ob) (K : TV → List Ob → Prop) [Tg K] : Prop := match x with
 | .op id 0 [] => (match H[id]? with
  | some (.sit s pos) => if pos < s.length then K (.tup [.val (.bool true), .val (.int .i64 (pos : Int)), .val (.int .i32 ((Utf8.decode (str s) pos).1 : Int))]) (H.set id (.sit s (pos + (Utf8.decode (str s) pos).2))) else K (.tup [.val (.bool false)]) H
  | _ => False)
 | _ => False
@[congr] theorem ADQ {x x' : TV} {H' : List Ob} (h1 : x = x') (h2 : H = H') : AqB x H KK = AqB x' H' KK := by rw [h1, h2]
theorem AAO : sop P (.nxtS x) e H KK = AqB (x.ev e) H KK := Ac rfl
theorem Atl {id : Nat} : AqB (.op id 0 []) H KK = Cj (Aqm H[id]?) fun p => vif (decide (p.2 < p.1.length))
  (Cb (H.set id (.sit p.1 (p.2 + (Utf8.decode (str p.1) p.2).2))) fun H' => KK (.tup [.val (.bool true), .val (.int .i64 (p.2 : Int)), .val (.int .i32 ((Utf8.decode (str p.1) p.2).1 : Int))]) H') (KK (.tup [.val (.bool false)]) H) := by
 unfold AqB
 cases h : H[id]? with
 | none => simp [Aqm, Cj, h]
 | some o =>
  cases o with
  | sit s pos => simp only [h, Aqm, Cj, Cb]; by_cases hp : pos < s.length <;> simp [vif, hp]
  | _ => simp [Aqm, Cj, h]
theorem ACI : sop P (.box x) e H KK = Cb (x.ev e) fun v => Fz (lays v = true) (Cb (H.length) fun n => Cb (H ++ [.obj 0 v]) fun H' => KK (.op n 0 []) H') := Ac rfl
theorem Atx {k n : Nat} {z : TV} {ps : List (Nat × Opd)} : sop P (.bslice k n z ps) e H KK = Fz (GN e (List.replicate n k) ps) (Fz (CO e ps ∧ n ≤ 1000) (Cb H.length fun m => Cb (H ++ [.obj 0 (.arr n k (Iy e (List.replicate n z) ps))]) fun H' => KK (.os k m 0 [] 0 n n) H')) := by
 rw [Au2]; simp only [Fz, Cb, and_assoc]
def AgU (kk : MK) : Option Ob → Option (List (List UInt8 × TV))
 | some (.mpo kk' es) => if kk' = kk then some es else none
 | _ => none
def AhH (kk : MK) : Option Ob → Option (List (List UInt8 × TV))
 | some (.mpo kk' es) => if kk' = kk then some es else none
 | some (.mpd kk' zs _) => if kk' = kk then some (zs.map (·.2)) else none
 | _ => none
theorem AvD {kk : MK} {es : List (List UInt8 × TV)} : AhH kk (some (.mpo kk es)) = some es := by simp [AhH]
theorem AyC {kk : MK} {zs : List (Nat × List UInt8 × TV)} {cl : Nat} : AhH kk (some (.mpd kk zs cl)) = some (zs.map (·.2)) := by simp [AhH]
def Amm : Option Ob → Option (List (List UInt8 × TV))
 | some (.mpo _ es) => some es
 | some (.mpd _ zs _) => some (zs.map (·.2))
 | _ => none
theorem Aub {kk : MK} {es : List (List UInt8 × TV)} : Amm (some (.mpo kk es)) = some es := by simp [Amm]
theorem AwF {kk : MK} {zs : List (Nat × List UInt8 × TV)} {cl : Nat} : Amm (some (.mpd kk zs cl)) = some (zs.map (·.2)) := by simp [Amm]
theorem Axh {kk : MK} {es : List (List UInt8 × TV)} : stO (some (.mpo kk es)) = some (kk, Aga 0 es, es.length) := Ac rfl
theorem AxO {kk : MK} {zs : List (Nat × List UInt8 × TV)} {cl : Nat} : stO (some (.mpd kk zs cl)) = some (kk, zs, cl) := Ac rfl
def ArG (x : TV) (H : List Ob) (K : TV → List Ob → Prop) [Tg K] : Prop := match x with
 | .mp id 0 => (match stO H[id]? with
  | some (_, _, cl) => K (.op H.length 0 []) (H ++ [.mit id [] cl])
  | none => False)
 | _ => False
@[congr] theorem ADy {x x' : TV} {H' : List Ob} (h1 : x = x') (h2 : H = H') : ArG x H KK = ArG x' H' KK := by rw [h1, h2]
theorem AAN : sop P (.rngM x) e H KK = ArG (x.ev e) H KK := Ac rfl
theorem Avf {id : Nat} : ArG (.mp id 0) H KK = Cj (stO H[id]?) fun p => Cb H.length fun n => Cb (H ++ [.mit id [] p.2.2]) fun H' => KK (.op n 0 []) H' := by
 unfold ArG
 cases h : stO H[id]? with
 | none => simp [Cj, h]
 | some o => obtain ⟨a, b, c⟩ := o; simp [Cj, Cb, h]
def AjL : Option Ob → Option (Nat × List Nat × Nat)
 | some (.mit m sn cl) => some (m, sn, cl)
 | _ => none
theorem Au3 {m cl : Nat} {sn : List Nat} : AjL (some (.mit m sn cl)) = some (m, sn, cl) := Ac rfl
def Apz (x : TV) (H : List Ob) (K : TV → List Ob → Prop) [Tg K] : Prop := match x with
 | .op id 0 [] => (match H[id]? with
  | some (.mit m sn cl) => (match stO H[m]? with
   | some (kk, zs, cl') => (cl' = cl ∧ ∀ z ∈ zs, z.1 < cl) ∧ (∀ z ∈ zs, z.1 ∉ sn → K (.tup [.val (.bool true), kTV kk z.2.1, z.2.2]) (H.set id (.mit m (sn ++ [z.1]) cl))) ∧ ((∀ z ∈ zs, z.1 ∈ sn) → K (.tup [.val (.bool false)]) H)
   | none => False)
  | _ => False)
 | _ => False
@[congr] theorem ADZ {x x' : TV} {H' : List Ob} (h1 : x = x') (h2 : H = H') : Apz x H KK = Apz x' H' KK := by rw [h1, h2]
theorem AyV : sop P (.nxtM x) e H KK = Apz (x.ev e) H KK := Ac rfl
def ABW (id m : Nat) (sn : List Nat) (cl : Nat) (kk : MK) (zs : List (Nat × List UInt8 × TV)) (cl' : Nat) (H : List Ob) (K : TV → List Ob → Prop) [Tg K] : Prop :=
 (cl' = cl ∧ ∀ z ∈ zs, z.1 < cl) ∧ (∀ z ∈ zs, z.1 ∉ sn → K (.tup [.val (.bool true), kTV kk z.2.1, z.2.2]) (H.set id (.mit m (sn ++ [z.1]) cl))) ∧ ((∀ z ∈ zs, z.1 ∈ sn) → K (.tup [.val (.bool false)]) H)
@[congr] theorem AEV {id m : Nat} {sn sn' : List Nat} {cl c2 : Nat} {kk : MK} {zs zs' : List (Nat × List UInt8 × TV)} {cl' c2' : Nat} {H' : List Ob} (h1 : sn = sn') (h2 : cl = c2) (h3 : zs = zs') (h4 : cl' = c2') (h5 : H = H') : ABW id m sn cl kk zs cl' H KK = ABW id m sn' c2 kk zs' c2' H' KK := by rw [h1, h2, h3, h4, h5]
theorem Au5 {id : Nat} : Apz (.op id 0 []) H KK = Cj (AjL H[id]?) fun p => Cj (stO H[p.1]?) fun q => ABW id p.1 p.2.1 p.2.2 q.1 q.2.1 q.2.2 H KK := by
 unfold Apz
 cases h : H[id]? with
 | none => simp [AjL, Cj, h]
 | some o =>
  cases o with
  | mit m sn cl =>
   simp only [h, AjL, Cj]
   cases h2 : stO H[m]? with
   | none => simp
   | some q => obtain ⟨a, b, c⟩ := q; simp only [ABW]
  | _ => simp [AjL, Cj, h]
def Ay1 (p : Nat × List Nat × Nat) (q : MK × List (Nat × List UInt8 × TV) × Nat) : Option TV := match p.2.1.getLast? with
 | some s => if q.2.2 = p.2.2 then (match q.2.1.find? (·.1 == s) with
  | some z => some (.tup [kTV q.1 z.2.1, z.2.2])
  | none => none) else none
 | none => none
def AyP (kk : MK) (o : Option Ob) : Option (List (Nat × List UInt8 × TV) × Nat) := match stO o with
 | some (kk', zs, cl) => if kk' = kk then some (zs, cl) else none
 | none => none
theorem Avk {kk : MK} {es : List (List UInt8 × TV)} : AyP kk (some (.mpo kk es)) = some (Aga 0 es, es.length) := by simp [AyP, stO]
theorem At7 {kk : MK} {zs : List (Nat × List UInt8 × TV)} {cl : Nat} : AyP kk (some (.mpd kk zs cl)) = some (zs, cl) := by simp [AyP, stO]
def Aqs (kk : MK) (m k : TV) (H : List Ob) (K : TV → List Ob → Prop) [Tg K] : Prop := match m, C9 kk k with
 | .mp id 0, some kb => (match stO H[id]? with
  | some (kk', zs, cl) => kk' = kk ∧ K .any (H.set id (.mpd kk (zs.eraseIdx (Aff kb (zs.map (·.2)))) cl))
  | none => False)
 | _, _ => False
@[congr] theorem ACV {kk : MK} {H' : List Ob} {m m' k k' : TV} (h1 : m = m') (h2 : k = k') (h4 : H = H') : Aqs kk m k H KK = Aqs kk m' k' H' KK := by rw [h1, h2, h4]
theorem ABn {kk : MK} {m k : Opd} : sop P (.delM kk m k) e H KK = Aqs kk (m.ev e) (k.ev e) H KK := Ac rfl
theorem AuE {kk : MK} {id : Nat} {kx : TV} : Aqs kk (.mp id 0) kx H KK = Cj (AyP kk H[id]?) fun p => Cj (C9 kk kx) fun kb => Cb (p.1.eraseIdx (Aff kb (p.1.map (·.2)))) fun zs => Cb (H.set id (.mpd kk zs p.2)) fun H' => KK .any H' := by
 unfold Aqs AyP
 cases h : stO H[id]? with
 | none => cases C9 kk kx <;> simp [h, Cj]
 | some q =>
  obtain ⟨kk', zs, cl⟩ := q
  by_cases hk : kk' = kk
  ·subst hk; cases C9 kk' kx <;> simp [h, Cj, Cb]
  ·cases C9 kk kx <;> simp [h, Cj, hk]
def ABY (H : List Ob) (x : TV) (K : TV → List Ob → Prop) [Tg K] : Prop := match x with
 | .os k id ver [] off n cp => n ≠ 0 ∧ obV H[id]? = some ver ∧ K (.os k id ver [] off n cp) H
 | _ => False
@[congr] theorem AEy {H' : List Ob} {x x' : TV} (h0 : H = H') (h1 : x = x') : ABY H x KK = ABY H' x' KK := by rw [h0, h1]
theorem AC6 {x : Opd} : sop P (.cvS x) e H KK = ABY H (x.ev e) KK := Ac rfl
theorem Aw5 {k id ver off n cp : Nat} : ABY H (.os k id ver [] off n cp) KK = Fz (n ≠ 0) (Fz (obV H[id]? = some ver) (KK (.os k id ver [] off n cp) H)) := Ac rfl
theorem Az8 {v : Nat} {y : TV} : obV (some (.obj v y)) = some v := Ac rfl
def ApE (k : Nat) (z x : TV) (H : List Ob) (K : TV → List Ob → Prop) [Tg K] : Prop := match x with
 | .os k' id ver p off n cp => AbV k (.os k' id ver p off n cp) (List.replicate n z) H fun _ H' => K .any H'
 | .val (.slice none 0 0) => K .any H
 | _ => False
@[congr] theorem ACU {k : Nat} {z x x' : TV} {H' : List Ob} (h1 : x = x') (h2 : H = H') : ApE k z x H KK = ApE k z x' H' KK := by rw [h1, h2]
theorem ABt {k : Nat} {z : TV} : sop P (.clrS k z x) e H KK = ApE k z (x.ev e) H KK := Ac rfl
theorem Arv {k : Nat} {z : TV} : ApE k z (.val (.slice none 0 0)) H KK = KK .any H := Ac rfl
theorem As2 {k id ver off n cp : Nat} {p : List (Nat × Nat)} {z : TV} : ApE k z (.os k id ver p off n cp) H KK = Cb (List.replicate n z) fun ys => Am5 k (.os k id ver p off n cp) (some ys) H fun _ H' => KK .any H' := Ac rfl
theorem At1 {kk : MK} {es : List (List UInt8 × TV)} : AgU kk (some (.mpo kk es)) = some es := by simp [AgU]
theorem Azg {l : List UInt8} : C9 .str (.val (.string (str l))) = some l := by simp [C9, bl, str]
theorem ABw {n : Nat} {l : List UInt8} : C9 (.arr n) (.arr n 1 (l.map by8)) = some l := by
 unfold C9; simp only [Aew, Abh, and_self, if_true]
theorem Ayr {z : TV} {r : Option TV} : AgZ z false r = r.getD z := by simp [AgZ]
theorem Ax5 {z : TV} {r : Option TV} : AgZ z true r = .tup [r.getD z, .val (.bool r.isSome)] := by simp [AgZ]
def AyJ (x : TV) (A : Prop) [Tg A] : Prop := match x with
 | .val (.int _ _) => A
 | _ => False
@[congr] theorem AEP {x x' : TV} {A : Prop} (h : x = x') : AyJ x A = AyJ x' A := by rw [h]
theorem Ax6 {q : IntKind} {n : Int} {A : Prop} : AyJ (.val (.int q n)) A = A := by simp [AyJ]
theorem AAB {kk : MK} : sop P (.mkm kk none) e H KK = Cb H.length fun n => Cb (H ++ [.mpo kk []]) fun H' => KK (.mp n 0) H' := by simp [sop, Cb]
theorem AAG {kk : MK} : sop P (.mkm kk (some x)) e H KK = AyJ (x.ev e) (Cb H.length fun n => Cb (H ++ [.mpo kk []]) fun H' => KK (.mp n 0) H') := by
 simp only [sop, Cb, AyJ]
 cases x.ev e with
 | val v => cases v <;> simp
 | _ => simp
def AqI (kk : MK) (m k v : TV) (H : List Ob) (K : TV → List Ob → Prop) [Tg K] : Prop := match m, C9 kk k with
 | .mp id 0, some kb => (match H[id]? with
  | some (.mpo kk' es) => (kk' = kk ∧ lays v = true) ∧ K .any (H.set id (.mpo kk (Aa9 kb v es)))
  | _ => False)
 | _, _ => False
@[congr] theorem ACs {kk : MK} {H' : List Ob} {m m' k k' v v' : TV} (h1 : m = m') (h2 : k = k') (h3 : v = v') (h4 : H = H') : AqI kk m k v H KK = AqI kk m' k' v' H' KK := by rw [h1, h2, h3, h4]
theorem AA6 {kk : MK} {m k : Opd} : sop P (.mupd kk m k x) e H KK = AqI kk (m.ev e) (k.ev e) (x.ev e) H KK := Ac rfl
def Aqe (kk : MK) (z m k : TV) (H : List Ob) (K : TV → List Ob → Prop) [Tg K] : Prop := match m, C9 kk k with
 | .mp id 0, some kb => (match H[id]? with
  | some (.mpo kk' es) => kk' = kk ∧ K (.tup [(AaU kb es).getD z, .val (.int .i64 (Aff kb es))]) (H.set id (.mpo kk (Aa9 kb ((AaU kb es).getD z) es)))
  | _ => False)
 | _, _ => False
@[congr] theorem AC1 {kk : MK} {H' : List Ob} {z m m' k k' : TV} (h1 : m = m') (h2 : k = k') (h4 : H = H') : Aqe kk z m k H KK = Aqe kk z m' k' H' KK := by rw [h1, h2, h4]
theorem AAp {kk : MK} {z : TV} {m k : Opd} : sop P (.ment kk z m k) e H KK = Aqe kk z (m.ev e) (k.ev e) H KK := Ac rfl
def AqE (m st v : TV) (H : List Ob) (K : TV → List Ob → Prop) [Tg K] : Prop := match m, st with
 | .mp id 0, .val (.int _ j) => (match H[id]? with
  | some (.mpo kk es) => (0 ≤ j ∧ lays v = true) ∧ (match es[j.toNat]? with
   | some (k, _) => K .any (H.set id (.mpo kk (es.set j.toNat (k, v))))
   | none => False)
  | _ => False)
 | _, _ => False
@[congr] theorem AC5 {H' : List Ob} {m m' st st' v v' : TV} (h1 : m = m') (h2 : st = st') (h3 : v = v') (h4 : H = H') : AqE m st v H KK = AqE m' st' v' H' KK := by rw [h1, h2, h3, h4]
theorem Azr {m st : Opd} : sop P (.mest m st x) e H KK = AqE (m.ev e) (st.ev e) (x.ev e) H KK := Ac rfl
theorem Axm {sz : Nat} : sop P (.store sz x y) e H KK = Alh H sz (x.ev e) (y.ev e) KK := Ac rfl
theorem AC4 {k n : Nat} {z : TV} : sop P (.mks k n z x y) e H KK = AB7 H k n z (x.ev e) (y.ev e) KK := Ac rfl
theorem ADq {k n : Nat} {et : TypeId} : sop P (.app k n et x y) e H KK = AxD k n et (x.ev e) (Df H k (y.ev e)) H KK := Ac rfl
theorem AzF {et : TypeId} : sop P (.appS et x y) e H KK = Auk et (x.ev e) (y.ev e) H KK := Ac rfl
theorem AAf {k : Nat} : sop P (.copy k x y) e H KK = Am5 k (x.ev e) (Df H k (y.ev e)) H KK := Ac rfl
theorem Ayx : sop P (.copyS x y) e H KK = AnO (x.ev e) (y.ev e) H KK := Ac rfl
theorem ABK {k n : Nat} {z : TV} : sop P (.appZ k n z x y) e H KK = Asn k n z (x.ev e) (y.ev e) H KK := Ac rfl
theorem AD5 {n : Bool} : sop P (.eqS x n) e H KK = AvT n (x.ev e) H KK := Ac rfl
theorem ADI : sop P (.s2b x) e H KK = ACa H (x.ev e) KK := Ac rfl
theorem Azf {f : FuncId} {args : List Opd} : sop P (.call f args) e H KK = Cb (evs e args) fun xs => Fz (Aby xs) (VC P f xs H KK) := by
 rw [ABo, YS]; rfl
theorem ADi {nm : String} {args : List Opd} : sop P (.inv x nm args) e H KK = Cb (evs e args) fun xs => Fz (Aby xs) (AzU P nm (x.ev e) xs H KK) := by
 show ((∀ y ∈ args, DW (y.ev e) = false) ∧ _) = _
 rw [YS]; rfl
theorem Axn {args : List Opd} : sop P (.callv x args) e H KK = Cb (evs e args) fun xs => Fz (Aby xs) (AiV P (x.ev e) xs H KK) := by
 rw [AwZ, YS]; rfl
end

section
variable {K : TV → Prop} {KK : TV → List Ob → Prop} {x y : TV} {cs ys : List TV} {n n' k k' : Nat} {id ver off cp : Nat} {p : List (Nat × Nat)} {j : Int} {q : IntKind} {lo hi : Option TV}
theorem AtY {t : Bool} : AqP (.val (.bool t)) x y K = vif t (K x) (K y) := by cases t <;> simp [AqP, vif]
theorem Awh {t : TypeId} {op : BinOp} {u v : Value} : AB3 t op (.val u) (.val v) K = Fz (AtX u v = true) (Cj (ET t op u v) fun r => Cb (TV.val r) K) := by
 show (_ ∧ _) = _; cases ET t op u v <;> rfl
theorem AAS {op : UnOp} {u : Value} : Pun op (.val u) K = Cj (unV op u) fun r => Cb (TV.val r) K := by
 unfold Pun; simp only; cases unV op u <;> rfl
theorem Au6 {k : IntKind} : AuD k (.val (.int q j)) K = Cb (TV.val (.int k (k.wrap j))) K := Ac rfl
theorem Ayo {s : ByteArray} : AB6 (.val (.string s)) K = K (.val (.string s)) := Ac rfl
theorem Awt : ABV (some cs) K = Fz (∀ y ∈ cs, Amu y) (Cb (TV.val (.string (str (cs.map Ad1)))) K) := Ac rfl
theorem Atd {ag : Bool} {sz : Nat} : Al8 H ag sz (.fp y) K = Fz (Ai4 ag sz y) (K y) := Ac rfl
theorem AtV {ag : Bool} {sz : Nat} : Al8 H ag sz (.op id ver p) K = Cj (JO H[id]? ver) fun x => Cj (JD p x) fun y => Fz (Ai4 ag sz y) (K y) := by
 unfold Al8
 simp only
 cases h : H[id]? with
 | none => simp [JO, Cj]
 | some o =>
  cases o with
  | gone v => simp [JO, Cj]
  | ice v m y => simp [JO, Cj]
  | fact i v t m => simp [JO, Cj]
  | bld v t l => simp [JO, Cj]
  | lp st pe fn N en ps ca cb => simp [JO, Cj]
  | mpo kk es => simp [JO, Cj]
  | mpd kk zs cl => simp [JO, Cj]
  | mit m sn cl => simp [JO, Cj]
  | sit s pos => simp [JO, Cj]
  | obj v x =>
   by_cases hv : v = ver
   ·subst hv; simp only [JO, Cj, Fz, if_true, true_and]; cases JD p x <;> rfl
   ·simp [JO, Cj, hv]
theorem AoD {i o : Nat} : Afz i o (.op id ver p) K = Cb (p ++ [(i, o)]) fun p => K (.op id ver p) := Ac rfl
theorem AoS {i o : Nat} : Afz i o (.fp (.agg cs)) K = Fz (BG (cs.take i) = o) (Cj cs[i]? fun y => K (.fp y)) := by
 unfold Afz; simp only; cases cs[i]? <;> rfl
theorem Aqd {ag : Bool} {sz i o : Nat} : AkW ag sz i o (.agg cs) K = Fz (BG (cs.take i) = o) (Cj cs[i]? fun y => Fz (Ai4 ag sz y) (K y)) := by
 unfold AkW; simp only; cases cs[i]? <;> rfl
theorem AuO : Aoq k (.sl k cs) (.val (.int q j)) K = Fz (0 ≤ j) (Cj cs[j.toNat]? fun y => K (.fp y)) := by
 unfold Aoq; simp only [true_and]; cases cs[j.toNat]? <;> rfl
theorem Avg : Aoq k (.os k id ver p off n cp) (.val (.int q j)) K = Fz (0 ≤ j ∧ j < n) (Cb (off + j.toNat) fun m => Cb (p ++ [(m, m * k)]) fun p => K (.op id ver p)) := by
 show (k = k ∧ _) = _; simp [Fz, Cb, and_assoc]
theorem Ap2 : AiT n k (.fp (.arr n k cs)) (.val (.int q j)) K = Fz (0 ≤ j) (Cj cs[j.toNat]? fun y => K (.fp y)) := by
 unfold AiT; simp only [true_and]; cases cs[j.toNat]? <;> rfl
theorem ApS : AiT n k (.op id ver p) (.val (.int q j)) K = Fz (0 ≤ j ∧ j < n) (Cb j.toNat fun m => Cb (p ++ [(m, m * k)]) fun p => K (.op id ver p)) := by
 show (_ ∧ _) = _; simp [Fz, Cb, and_assoc]
theorem AxV {ag : Bool} : AA5 ag n k (.arr n k cs) (.val (.int q j)) K = Fz (0 ≤ j) (Cj cs[j.toNat]? fun y => Fz (Ai4 ag k y) (K y)) := by
 unfold AA5; simp only [true_and]; cases cs[j.toNat]? <;> rfl
theorem AtL {s : ByteArray} : ArO (.val (.string s)) (.val (.int q j)) K = Fz (0 ≤ j) (Cj (bl s)[j.toNat]? fun b => K (by8 b)) := by
 unfold ArO; simp only; cases (bl s)[j.toNat]? <;> rfl
theorem Axa {i : Nat} : ABl i (.tup cs) K = Cj cs[i]? K := by
 unfold ABl; simp only; cases cs[i]? <;> rfl
theorem Att {s : ByteArray} : Asj (.val (.string s)) K = Cb (TV.val (.int .i64 (bl s).length)) K := Ac rfl
theorem AsP : Ao9 (.sl k cs) K = Cb (TV.val (.int .i64 cs.length)) K := Ac rfl
theorem AsO : Ao9 (.os k id ver p off n cp) K = K (.val (.int .i64 n)) := Ac rfl
theorem ArQ {ad : Option Addr} {c : Nat} : Ao9 (.val (.slice ad n c)) K = K (.val (.int .i64 n)) := Ac rfl
section
variable {len lim : Nat} {KN : Nat → Nat → Prop} {l h : Int} {q2 : IntKind}
theorem AxY : Akc none none len lim KN = Fz (len ≤ lim) (KN 0 len) := by
 show ((0 ≤ (0:Int) ∧ (0:Int) ≤ (len : Int) ∧ (len : Int) ≤ lim) ∧ KN (Int.toNat 0) (Int.toNat len)) = _
 simp [Fz]
theorem AxT : Akc (some (.val (.int q l))) none len lim KN = Fz (0 ≤ l ∧ l ≤ len ∧ (len : Int) ≤ lim) (Cb l.toNat fun l => KN l len) := by
 show ((0 ≤ l ∧ l ≤ (len : Int) ∧ (len : Int) ≤ lim) ∧ KN l.toNat (Int.toNat len)) = _
 simp [Fz, Cb]
theorem Aye : Akc none (some (.val (.int q h))) len lim KN = Fz (0 ≤ h ∧ h ≤ lim) (Cb h.toNat fun h => KN 0 h) := by
 show ((0 ≤ (0:Int) ∧ 0 ≤ h ∧ h ≤ lim) ∧ KN (Int.toNat 0) h.toNat) = _
 simp [Fz, Cb]
theorem Aw6 : Akc (some (.val (.int q l))) (some (.val (.int q2 h))) len lim KN = Fz (0 ≤ l ∧ l ≤ h ∧ h ≤ lim) (Cb l.toNat fun l => Cb h.toNat fun h => KN l h) := Ac rfl
end
theorem Axv {s : ByteArray} : ABX (.val (.string s)) lo hi K = Akc lo hi (bl s).length (bl s).length fun l h => Cb (((bl s).drop l).take (h - l)) fun r => K (.val (.string (str r))) := Ac rfl
theorem Awz : AyQ k (.sl k cs) lo hi K = Akc lo hi cs.length cs.length fun l h => Cb ((cs.drop l).take (h - l)) fun r => K (.sl k r) := by
 exact propext ⟨fun h => h.2, fun h => ⟨rfl, h⟩⟩
theorem AxE : AyQ k (.os k id ver p off n cp) lo hi K = Akc lo hi n cp fun l h => Cb (off + l) fun o => Cb (h - l) fun m => Cb (cp - l) fun c => K (.os k id ver p o m c) := by
 exact propext ⟨fun h => h.2, fun h => ⟨rfl, h⟩⟩
theorem Avy {ad : Option Addr} : AyQ k (.val (.slice ad 0 0)) lo hi K = Akc lo hi 0 0 fun l h => K (.val (.slice ad 0 0)) := Ac rfl
theorem AwY : AyG H n k (.fp (.arr n k cs)) lo hi K = Fz (n ≤ 9223372036854775807) (Akc lo hi n n fun l h => Cb ((cs.drop l).take (h - l)) fun r => K (.sl k r)) := by
 exact propext ⟨fun h => ⟨h.2.2.1, h.2.2.2⟩, fun h => ⟨rfl, rfl, h.1, h.2⟩⟩
def AkL : Option TV → Nat → Nat → Option (List TV)
 | some (.arr n' k' cs), n, k => if n' = n ∧ k' = k then some cs else none
 | _, _, _ => none
theorem As5 : AkL (some (.arr n k cs)) n k = some cs := by simp [AkL]
theorem AxJ : AyG H n k (.op id ver p) lo hi K = Cj (JO H[id]? ver) fun x => Fz (n ≤ 9223372036854775807) (Cj (AkL (JD p x) n k) fun _ => Akc lo hi n n fun l h => Cb (h - l) fun m => Cb (n - l) fun c => K (.os k id ver p l m c)) := by
 unfold AyG
 simp only
 cases h : H[id]? with
 | none => simp [JO, Cj]
 | some o =>
  cases o with
  | gone v => simp [JO, Cj]
  | ice v m y => simp [JO, Cj]
  | fact i v t m => simp [JO, Cj]
  | bld v t l => simp [JO, Cj]
  | lp st pe fn N en ps ca cb => simp [JO, Cj]
  | mpo kk es => simp [JO, Cj]
  | mpd kk zs cl => simp [JO, Cj]
  | mit m sn cl => simp [JO, Cj]
  | sit s pos => simp [JO, Cj]
  | obj v x =>
   by_cases hv : v = ver
   ·simp only [JO, Cj, hv, Fz, Cb, if_true, true_and]
    congr 1
    cases hg : JD p x with
    | none => simp [AkL]
    | some y =>
     cases y with
     | arr n2 k2 ds =>
      by_cases h1 : n2 = n
      ·by_cases h2 : k2 = k
       ·simp [AkL, h1, h2]; exact Iff.rfl
       ·simp [AkL, h1, h2]
      ·simp [AkL, h1]
     | _ => simp [AkL]
   ·simp [JO, Cj, hv]
theorem Aro {t : TypeId} : Anx t x K = Fz (lays x = true) (K (.ifc t x)) := Ac rfl
theorem Aw7 {f : Fn} : ABC f cs ys K = Fz (Aby (cs ++ ys)) (K (.fn f cs ys)) := Ac rfl
theorem Aug : AkH (.op id ver p) K = K (.op id ver p) := Ac rfl
theorem AtJ : AkH (.fp y) K = K (.fp y) := Ac rfl
theorem AuS {f : FuncId} {a b : List TV} : AkH (.fn (.func f) a b) K = K (.fn (.func f) a b) := Ac rfl
theorem ArZ {t : TypeId} : AkH (.ifc t y) K = K (.ifc t y) := Ac rfl
theorem Ao8 {f : FuncId} {a b : Array Value} : AkH (.val (.func (.func f) a b)) K = K (.val (.func (.func f) a b)) := Ac rfl
section
variable {a b : Int} {q2 : IntKind}
theorem AwC : ABZ (.val (.int q a)) (.val (.int q2 b)) K = vif (decide (b < a)) (K (.val (.int q b))) (K (.val (.int q a))) := by
 show K _ = _
 by_cases h : b < a <;> simp [vif, h]
theorem AxC : ACd (.val (.int q a)) (.val (.int q2 b)) K = vif (decide (a < b)) (K (.val (.int q b))) (K (.val (.int q a))) := by
 show K _ = _
 by_cases h : a < b <;> simp [vif, h]
theorem Avm {q1 q2 q3 : IntKind} {l h m : Int} : Ag9 (.sl3 k) H [.sl k cs, .val (.int q1 l), .val (.int q2 h), .val (.int q3 m)] K = Fz (0 ≤ l ∧ l ≤ h ∧ h ≤ m ∧ m ≤ cs.length) (Cb ((cs.drop l.toNat).take (h.toNat - l.toNat)) fun r => K (.sl k r)) := by
 unfold Ag9 gev Fz Cb
 simp only [true_and]
 by_cases hc : 0 ≤ l ∧ l ≤ h ∧ h ≤ m ∧ m ≤ cs.length
 ·rw [if_pos hc]; simp [hc]
 ·rw [if_neg hc]; simp only [hc, false_and]
theorem AsC {sh : List EL} {b : Bool} {xs ys : List TV} : Ag9 (.eqR sh b) H [.agg xs, .agg ys] K = Cj (Ajt sh xs ys) fun r => Cb (TV.val (.bool (xor b r))) K := by
 have hg : gev (.eqR sh b) H [.agg xs, .agg ys] = (Ajt sh xs ys).map fun r => .val (.bool (xor b r)) := by unfold gev; rfl
 unfold Ag9 Cj Cb
 rw [hg]
 cases Ajt sh xs ys <;> rfl
theorem AuF : Ajt [] [] [] = some true := Ac rfl
theorem Az3 {l : List EL} {k : IntKind} {a b : Int} {xs ys : List TV} : Ajt (.i :: l) (.val (.int k a) :: xs) (.val (.int k b) :: ys) = (Ajt l xs ys).map fun r => (a == b) && r := by rw [Ajt, if_pos rfl]
theorem AA8 {l : List EL} {a b : ByteArray} {xs ys : List TV} : Ajt (.s :: l) (.val (.string a) :: xs) (.val (.string b) :: ys) = (Ajt l xs ys).map fun r => (a == b) && r := Ac rfl
theorem AAI {l : List EL} {n : Nat} {a b : List UInt8} {xs ys : List TV} : Ajt (.b n :: l) (.arr n 1 (a.map by8) :: xs) (.arr n 1 (b.map by8) :: ys) = (Ajt l xs ys).map fun r => (a == b) && r := by
 rw [Ajt]
 simp only [Aew, Abh, and_self, if_true]
theorem Avn {n : Nat} {b : Bool} {xs ys : List UInt8} : Ag9 (.eqA n b) H [.arr n 1 (xs.map by8), .arr n 1 (ys.map by8)] K = Cb (TV.val (.bool (xor b (xs == ys)))) K := by
 unfold Ag9 gev Cb
 simp only [Aew, Abh, and_self, if_true]
theorem AuQ {q : IntKind} {n : Int} : Ag9 .r2s H [.val (.int q n)] K = Cb (TV.val (.string (Utf8.encode n))) K := Ac rfl
theorem AuZ {t t' : TypeId} : Ag9 (.tas t) H [.ifc t' x] K = Fz (t' = t) (K x) := by
 unfold Ag9 gev Fz
 by_cases h : t' = t <;> simp [h]
theorem Aqi {a : Option Addr} {l n : Nat} : Ag9 .capV H [.val (.slice a l n)] K = Cb (TV.val (.int .i64 (n : Int))) K := Ac rfl
theorem Ass {n : Nat} : Ag9 (.s2a n k) H [.sl k cs] K = Fz (0 < n ∧ n ≤ cs.length) (Cb (cs.take n) fun r => K (.fp (.arr n k r))) := by
 unfold Ag9 gev Fz Cb
 simp only [true_and]
 by_cases hc : 0 < n ∧ n ≤ cs.length
 ·rw [if_pos hc]; simp [hc]
 ·rw [if_neg hc]; simp only [hc, false_and]
theorem AAz {s t : Bool} : AAd false (.val (.bool s)) (.val (.bool t)) K = Cb (TV.val (.bool (s == t))) K := by
 show K _ = _; simp [Cb]
theorem AAW {s t : Bool} : AAd true (.val (.bool s)) (.val (.bool t)) K = Cb (TV.val (.bool (!(s == t)))) K := by
 show K _ = _; simp [Cb]
theorem ABd {m b : Bool} : ABp m (some true) (some b) K = Cb (TV.val (.bool (xor m b))) K := Ac rfl
theorem Azu {m : Bool} : ABp m (some false) (some true) K = Cb (TV.val (.bool (xor m false))) K := Ac rfl
end
theorem Avr {kk : MK} {m : Nat} {kx v : TV} : AqI kk (.mp m 0) kx v H KK = Cj (AgU kk H[m]?) fun es => Cj (C9 kk kx) fun kb => Fz (lays v = true) (Cb (Aa9 kb v es) fun es' => Cb (H.set m (.mpo kk es')) fun H' => KK .any H') := by
 unfold AqI
 cases hh : H[m]? with
 | none => cases C9 kk kx <;> simp [hh, AgU, Cj]
 | some o =>
  cases o with
  | mpo kk' es =>
   by_cases hk : kk' = kk
   ·subst hk; cases C9 kk' kx <;> simp [hh, AgU, Cj, Fz, Cb]
   ·cases C9 kk kx <;> simp [hh, AgU, Cj, hk]
  | _ => cases C9 kk kx <;> simp [hh, AgU, Cj]
theorem Auc {kk : MK} {m : Nat} {kx z : TV} : Aqe kk z (.mp m 0) kx H KK = Cj (AgU kk H[m]?) fun es => Cj (C9 kk kx) fun kb => Cb ((AaU kb es).getD z) fun y => Cb (Aff kb es) fun p => Cb (Aa9 kb y es) fun es' => Cb (H.set m (.mpo kk es')) fun H' => KK (.tup [y, .val (.int .i64 (p : Int))]) H' := by
 unfold Aqe
 cases hh : H[m]? with
 | none => cases C9 kk kx <;> simp [hh, AgU, Cj]
 | some o =>
  cases o with
  | mpo kk' es =>
   by_cases hk : kk' = kk
   ·subst hk; cases C9 kk' kx <;> simp [hh, AgU, Cj, Cb]
   ·cases C9 kk kx <;> simp [hh, AgU, Cj, hk]
  | _ => cases C9 kk kx <;> simp [hh, AgU, Cj]
def AiX : Option Ob → Option (MK × List (List UInt8 × TV))
 | some (.mpo kk es) => some (kk, es)
 | _ => none
theorem ApM {kk : MK} {es : List (List UInt8 × TV)} : AiX (some (.mpo kk es)) = some (kk, es) := by simp [AiX]
theorem Aud {m j : Nat} {q : IntKind} {v : TV} : AqE (.mp m 0) (.val (.int q (j : Int))) v H KK = Cj (AiX H[m]?) fun p => Fz (lays v = true) (Cj p.2[j]? fun y => Cb (p.2.set j (y.1, v)) fun es' => Cb (H.set m (.mpo p.1 es')) fun H' => KK .any H') := by
 unfold AqE
 cases hh : H[m]? with
 | none => simp [hh, AiX, Cj]
 | some o =>
  cases o with
  | mpo kk' es =>
   simp only [hh, AiX, Cj, Fz, Cb, Int.natCast_nonneg, true_and, Int.toNat_natCast]
   cases es[j]? <;> simp
  | _ => simp [hh, AiX, Cj]
theorem Asb {kk : MK} {z kx : TV} {ok : Bool} {m : Nat} : Ag9 (.look kk z ok) H [.mp m 0, kx] K = Cj (AhH kk H[m]?) fun es => Cj (C9 kk kx) fun kb => Cb (AgZ z ok (AaU kb es)) K := by
 unfold Ag9 gev AjE
 cases hh : H[m]? with
 | none => cases hb : C9 kk kx <;> simp [hh, hb, AhH, Cj]
 | some o =>
  cases o with
  | mpo kk' es =>
   by_cases hk : kk' = kk
   ·subst hk; cases hb : C9 kk' kx <;> simp [hh, hb, AhH, Cj, Cb]
   ·cases hb : C9 kk kx <;> simp [hh, hb, AhH, Cj, hk]
  | mpd kk' zs cl =>
   by_cases hk : kk' = kk
   ·subst hk; cases hb : C9 kk' kx <;> simp [hh, hb, AhH, Cj, Cb]
   ·cases hb : C9 kk kx <;> simp [hh, hb, AhH, Cj, hk]
  | _ => cases hb : C9 kk kx <;> simp [hh, hb, AhH, Cj]
theorem AoI {kk : MK} {z kx : TV} {ok : Bool} : Ag9 (.look kk z ok) H [.val (.map none), kx] K = Cj (C9 kk kx) fun kb => Cb (AgZ z ok none) K := by
 unfold Ag9 gev AjE
 cases hb : C9 kk kx <;> simp [hb, Cj, Cb]
theorem Aqh {m : Nat} : Ag9 .lenM H [.mp m 0] K = Cj (Amm H[m]?) fun p => Cb p.length fun n => Cb (TV.val (.int .i64 (n : Int))) K := by
 unfold Ag9 gev At8
 cases hh : H[m]? with
 | none => simp [hh, Amm, Cj]
 | some o => cases o <;> simp [hh, Amm, Cj, Cb]
theorem AqW {id : Nat} : Ag9 .entM H [.op id 0 []] K = Cj (AjL H[id]?) fun p => Cj (stO H[p.1]?) fun q => Cj (Ay1 p q) K := by
 unfold Ag9 gev ABO
 cases hh : H[id]? with
 | none => simp [hh, AjL, Cj]
 | some o =>
  cases o with
  | mit m sn cl =>
   simp only [hh, AjL, Cj, Ay1]
   cases h2 : stO H[m]? with
   | none => simp
   | some q =>
    obtain ⟨kk, zs, cl'⟩ := q
    cases h3 : sn.getLast? with
    | none => simp
    | some s =>
     by_cases hc : cl' = cl
     ·subst hc; cases hf : zs.find? (·.1 == s) <;> simp [hf]
     ·simp [hc]
  | _ => simp [hh, AjL, Cj]
theorem Aq3 {sz : Nat} : Alh H sz (.op id ver p) y KK = Fz (lays y = true ∧ AC y = sz) (Cj (JO H[id]? ver) fun z => Cj (setP p z y) fun z' => Cb (H.set id (.obj ver z')) fun H' => KK .any H') := by
 unfold Alh
 simp only [Fz]
 congr 1
 cases h : H[id]? with
 | none => simp [JO, Cj]
 | some o =>
  cases o with
  | gone v => simp [JO, Cj]
  | ice v m y => simp [JO, Cj]
  | fact i v t m => simp [JO, Cj]
  | bld v t l => simp [JO, Cj]
  | lp st pe fn N en ps ca cb => simp [JO, Cj]
  | mpo kk es => simp [JO, Cj]
  | mpd kk zs cl => simp [JO, Cj]
  | mit m sn cl => simp [JO, Cj]
  | sit s pos => simp [JO, Cj]
  | obj v x =>
   by_cases hv : v = ver
   ·subst hv; simp only [JO, Cj, Cb, if_true, true_and]; cases setP p x y <;> rfl
   ·simp [JO, Cj, hv]
theorem AwS {z : TV} {l c : Int} {q2 : IntKind} {bytes : Nat} : AB7 H k bytes z (.val (.int q l)) (.val (.int q2 c)) KK = Fz (0 ≤ l ∧ l ≤ c ∧ (bytes : Int) * c ≤ 281474976710656 ∧ c ≤ 9223372036854775807) (Cb l.toNat fun l => Cb c.toNat fun c => Cb H.length fun m => Cb (H ++ [.obj 0 (.arr c k (List.replicate c z))]) fun H' => KK (.os k m 0 [] 0 l c) H') := Ac rfl
theorem AvE {bytes : Nat} {et : TypeId} : AxD k bytes et (.val (.slice none 0 0)) (some ys) H KK = Fz (ys.length * bytes ≤ 140737488355328 ∧ ys.length ≤ 9223372036854775807) (Cb ys.length fun n => Cb H.length fun m => Cb (H ++ [.obj 1 (.arr n k ys)]) fun H' => KK (.os k m 1 [] 0 n n) H') := Ac rfl
def Am0 : Option TV → Nat → Option (List TV)
 | some (.arr _ k' cs), k => if k' = k then some cs else none
 | _, _ => none
theorem As8 : Am0 (some (.arr n k cs)) k = some cs := by simp [Am0]
theorem Auw {v n2 : Nat} {et : TypeId} : Ath (some (.obj v (.arr n2 k cs))) v k et off n ys = some (.obj (v + 1) (.arr (n + ys.length) k ((cs.drop off).take n ++ ys))) := by simp [Ath]
theorem Anz {v : Nat} {et : TypeId} {l m : List UInt8} : Ath (some (.bld v et l)) v 1 et 0 n (m.map by8) = some (.bld (v + 1) et (l.take n ++ m)) := by
 simp only [Ath, Aew, Abh, and_self, if_true]
theorem ApQ {v : Nat} {et : TypeId} {l : List UInt8} {b : UInt8} : Ath (some (.bld v et l)) v 1 et 0 n [by8 b] = some (.bld (v + 1) et (l.take n ++ [b])) := Anz (m := [b])
theorem Atr {v n2 : Nat} : AyI (some (.obj v (.arr n2 k cs))) = cs.length := by simp [AyI]
theorem Auz {v : Nat} {et : TypeId} {l : List UInt8} : AyI (some (.bld v et l)) = l.length := by simp [AyI]
theorem Axy {bytes : Nat} {et : TypeId} : AxD k bytes et (.os k id ver [] off n cp) (some ys) H KK = Cj (Ath H[id]? ver k et off n ys) fun o => Fz (off + n ≤ AyI H[id]? ∧ (n + ys.length) * bytes ≤ 140737488355328 ∧ n + ys.length ≤ 9223372036854775807)
   (Cb (n + ys.length) fun m => Cb (H.set id o) fun H' => KK (.os k id (ver + 1) [] 0 m m) H') := by
 unfold AxD AlY
 simp only [true_and]
 cases h : Ath H[id]? ver k et off n ys with
 | none => simp [Cj]
 | some o => simp [Cj, Fz, Cb]
theorem AuX {s : ByteArray} {et : TypeId} : Auk et x (.val (.string s)) H KK = Cb ((bl s).map by8) fun ys => AxD 1 1 et x (some ys) H KK := Ac rfl
def ACS : Option TV → Option Nat
 | some (.arr n _ _) => some n
 | _ => none
theorem AwU : ACS (some (.arr n k cs)) = some n := Ac rfl
theorem Au7 : Am5 k (.os k id ver p off n cp) (some ys) H KK = Cj (JO H[id]? ver) fun z => Cj (Am0 (JD p z) k) fun cs => Cj (ACS (JD p z)) fun N => Fz (off + n ≤ cs.length) (Cj (setP p z (.arr N k (cs.take off ++ (ys.take n ++ cs.drop (off + min ys.length n))))) fun z' =>
  Cb (H.set id (.obj ver z')) fun H' => Cb (TV.val (.int .i64 (min ys.length n : Nat))) fun r => KK r H') := by
 unfold Am5 AbV
 simp only [true_and]
 cases h : H[id]? with
 | none => simp [JO, Cj]
 | some o =>
  cases o with
  | gone v => simp [JO, Cj]
  | ice v m y => simp [JO, Cj]
  | fact i v t m => simp [JO, Cj]
  | bld v t l => simp [JO, Cj]
  | lp st pe fn N en ps ca cb => simp [JO, Cj]
  | mpo kk es => simp [JO, Cj]
  | mpd kk zs cl => simp [JO, Cj]
  | mit m sn cl => simp [JO, Cj]
  | sit s pos => simp [JO, Cj]
  | obj v x =>
   by_cases hv : v = ver
   ·simp only [JO, Cj, hv, if_true, true_and]
    cases hg : JD p x with
    | none => simp [Am0]
    | some y =>
     cases y with
     | arr n2 k2 ds =>
      by_cases h1 : k2 = k
      ·subst h1; simp only [Am0, ACS, Fz, Cb, if_true, true_and]; refine congrArg (_ ∧ ·) ?_; cases setP p x (.arr n2 k2 (ds.take off ++ (ys.take n ++ ds.drop (off + min ys.length n)))) <;> rfl
      ·simp [Am0, h1]
     | _ => simp [Am0]
   ·simp [JO, Cj, hv]
theorem Ap7 {s : ByteArray} : AnO x (.val (.string s)) H KK = Cb ((bl s).map by8) fun ys => Am5 1 x (some ys) H KK := Ac rfl
theorem Asm {f : FuncId} {j v : Nat} {l : List UInt8} : AuB P f (some (j, v, l)) H KK = Fz (ACc P f) (Fz (l.length ≤ 9223372036854775807) (Cb (H.set j (.gone v)) fun H' => KK (.val (.string (str l))) H')) := Ac rfl
def ABb (o : Option Ob) (j v n : Nat) (a : TV) : Option (Nat × Nat × List UInt8) := match o with
 | some (.bld v3 t l) => if v3 = v ∧ t = Akt ∧ n = l.length ∧ AC a = 1 then some (j, v, l) else none
 | _ => none
def AsK (H : List Ob) (j v n : Nat) (a : TV) : Option (Nat × Nat × List UInt8) := ABb H[j]? j v n a
def Apc (H : List Ob) (q : Option TV) : Option (Nat × Nat × List UInt8) := match q with
 | some (.agg [a, .os 1 j v2 [] 0 n cp]) => AsK H j v2 n a
 | _ => none
theorem Ati {id ver : Nat} {p : List (Nat × Nat)} : Aot H (.op id ver p) = Apc H ((JO H[id]? ver).bind (JD p)) := by
 unfold Aot
 simp only []
 cases h : H[id]? with
 | none => simp [JO, Apc]
 | some o =>
  cases o with
  | obj v y =>
   by_cases hv : v = ver
   ·simp only [JO, hv, if_true, Option.bind_some]
    unfold Apc AsK ABb
    rfl
   ·simp [JO, Apc, hv]
  | _ => simp [JO, Apc]
theorem AtN {a : TV} {j v n cp : Nat} : Apc H (some (.agg [a, .os 1 j v [] 0 n cp])) = AsK H j v n a := Ac rfl
theorem Avb {a : TV} {j v n : Nat} : AsK H j v n a = ABb H[j]? j v n a := Ac rfl
theorem AwT {a : TV} {j v n : Nat} {l : List UInt8} (hn : n = l.length) (ha : AC a = 1) : ABb (some (.bld v 5 l)) j v n a = some (j, v, l) := by
 simp [ABb, hn, ha, Akt]
theorem Axk {s : ByteArray} : ACa H (.val (.string s)) KK = Fz ((bl s).length ≤ 9223372036854775807) (Cb (bl s).length fun n => Cb ((bl s).map by8) fun r => Cb H.length fun m => Cb (H ++ [.obj 0 (.arr n 1 r)]) fun H' => KK (.os 1 m 0 [] 0 n n) H') := Ac rfl
theorem Atg {z : TV} {j : Int} {bytes : Nat} : Asn k bytes z (.val (.slice none 0 0)) (.val (.int .i64 j)) H KK = Fz (0 ≤ j ∧ (bytes : Int) * j ≤ 140737488355328 ∧ j ≤ 9223372036854775807) (Cb j.toNat fun n => Cb H.length fun m => Cb (H ++ [.obj 0 (.arr n k (List.replicate n z))]) fun H' => KK (.os k m 0 [] 0 n n) H') := Ac rfl
theorem Avz {n : Bool} {a : Option Addr} {l c : Nat} : AvT n (.val (.slice a l c)) H KK = KK (.val (.bool (xor n a.isNone))) H := Ac rfl
theorem Ayj {n : Bool} : AvT n (.sl k cs) H KK = vif (decide (cs.length = 0)) (Api H KK) (KK (.val (.bool n)) H) := by
 unfold AvT vif Api
 by_cases h : cs = []
 ·subst h; simp
 ·have h2 : ¬ cs.length = 0 := fun e => h (List.length_eq_zero_iff.1 e)
  simp [h, h2]
theorem AwD {n : Bool} {m off l cp : Nat} {p : List (Nat × Nat)} : AvT n (.os k m ver p off l cp) H KK = vif (decide (l = 0)) (Api H KK) (KK (.val (.bool n)) H) := by
 unfold AvT vif Api
 by_cases h : l = 0
 ·subst h; simp
 ·simp [h]
theorem Apu {f : FuncId} {a b : List TV} : AiV P (.fn (.func f) a b) cs H KK = Fz (AgG P f = true) (Cb (a ++ cs ++ b) fun xs => VC P f xs H KK) := Ac rfl
theorem Aoh {f : FuncId} : AiV P (.val (.func (.func f) #[] #[])) cs H KK = Fz (AgG P f = true) (VC P f cs H KK) := by
 exact propext ⟨fun h => ⟨h.2.1, h.2.2⟩, fun h => ⟨rfl, h.1, h.2⟩⟩
theorem AqC : AiV P (.yl id ver) cs H KK = VY P id ver cs H KK := Ac rfl
theorem AxQ {nm : String} {t : TypeId} : AzU P nm (.ifc t x) cs H KK = AyR P (Avp P t nm) x cs H KK := by
 unfold AzU AB9 AyR
 show (match Avp P t nm with | some (f, none) => _ | some (f, some (ag, sz)) => _ | none => False) = _
 rcases Avp P t nm with _ | ⟨f, _ | ⟨ag, sz⟩⟩ <;> rfl
theorem AzS {f : FuncId} : AyR P (some (f, none)) x cs H KK = Fz (AgG P f = true) (Cb (x :: cs) fun xs => VC P f xs H KK) := Ac rfl
theorem ABk {f : FuncId} {ag : Bool} {sz : Nat} : AyR P (some (f, some (ag, sz))) x cs H KK = Fz (AgG P f = true) (Al8 H ag sz x fun y => Cb (y :: cs) fun xs => VC P f xs H KK) := Ac rfl
theorem ADj {t : Bool} {A B : Prop} : Gd (some t) true A B = vif t A B := Ac rfl
theorem ADH {t : Bool} {A B : Prop} : Gd (some t) false A B = vif t B A := by cases t <;> simp [Gd, vif]
theorem Bqz {b : Bool} {A B : Prop} : Gd none b A B = B := Ac rfl
end

section
variable {Q : VEx → Env → List Ob → Prop} {l : List VO} {kp : List Nat} {a b : Af}
def AuJ (x : TV) (A B : Prop) [Tg A] [Tg B] : Prop := match x with
  | .val (.bool t) => if t = true then A else B
  | _ => False
@[congr] theorem ACu {x x' : TV} {A B : Prop} (h : x = x') : AuJ x A B = AuJ x' A B := by rw [h]
theorem Atj {t : Bool} {A B : Prop} : AuJ (.val (.bool t)) A B = vif t A B := Ac rfl
theorem AEm : vwp P (.ops l kp) Q e H = AgJ P l (fun e H => Cb (forget kp e) fun e => Q .nor e H) e H := Ac rfl
def Au8 (zs : List Nat) (e : Env) (H : List Ob) (K : Env → List Ob → Prop) [Tg K] : Prop := AyM zs K e H
@[congr] theorem ACP {zs : List Nat} {e e' : Env} {H H' : List Ob} {K : Env → List Ob → Prop} (h1 : e = e') (h2 : H = H') : Au8 zs e H K = Au8 zs e' H' K := by rw [h1, h2]
theorem ADx {K : Env → List Ob → Prop} : Au8 [] e H K = K e H := Ac rfl
theorem AzI {l r : List VO} {zs kp : List Nat} : vwp P (.opsZ l zs r kp) Q e H = AgJ P l (fun e H => Au8 zs e H fun e H => AgJ P r (fun e H => Cb (forget kp e) fun e => Q .nor e H) e H) e H := Ac rfl
theorem ABA {n : Nat} : vwp P (.draw n l kp) Q e H = (vq P (l.take n) (fun e => AgJ P (l.drop n) (fun e H => Cb (forget kp e) fun e => Q .nor e H) e H) e H) := Ac rfl
def Thn (P : Program) (b : Af) (Q : VEx → Env → List Ob → Prop) : VEx → Env → List Ob → Prop := fun x e H => match x with | .nor => vwp P b Q e H | .exit i => Q (.exit i) e H | .ret => Q .ret e H | .pan u => Q (.pan u) e H
theorem Ax3 : Thn P b Q .nor e H = vwp P b Q e H := Ac rfl
theorem AvB {i : Nat} : Thn P b Q (.exit i) e H = Q (.exit i) e H := Ac rfl
theorem AxG : Thn P b Q .ret e H = Q .ret e H := Ac rfl
theorem AD2 : vwp P (.seq a b) Q e H = vwp P a (Thn P b Q) e H := Ac rfl
def Blk (id : Nat) (Q : VEx → Env → List Ob → Prop) : VEx → Env → List Ob → Prop := fun x e H => match x with | .nor => Q .nor e H | .exit i => if i = id then Q .nor e H else Q (.exit i) e H | .ret => Q .ret e H | .pan u => Q (.pan u) e H
theorem Axi {id : Nat} : Blk id Q .nor e H = Q .nor e H := Ac rfl
theorem AuT {id : Nat} : Blk id Q (.exit id) e H = Q .nor e H := by simp [Blk]
theorem Amd {id i : Nat} (h : i ≠ id) : Blk id Q (.exit i) e H = Q (.exit i) e H := by simp [Blk, h]
theorem AwN {id : Nat} : Blk id Q .ret e H = Q .ret e H := Ac rfl
theorem AxS {id : Nat} : vwp P (.block id a) Q e H = vwp P a (Blk id Q) e H := Ac rfl
theorem Azy {c : Opd} : vwp P (.cond c a b) Q e H = AuJ (c.ev e) (vwp P a Q e H) (vwp P b Q e H) := Ac rfl
def Rnd (n0 : Nat) (lv : List Nat) (Q : VEx → Env → List Ob → Prop) (I : Nat → Env → List Ob → Prop) (n : Nat) : VEx → Env → List Ob → Prop := fun x e H => match x with
 | .nor => ∃ m g, m < n ∧ (n0 ≤ g ∧ (H.length ≤ g ∨ (Agi g (forget lv e) = true ∧ Ae7 g (H.take g) = true))) ∧ I m (forget lv e) (H.take g)
 | .exit i => Q (.exit i) e H | .ret => Q .ret e H | .pan u => Q (.pan u) e H
section
variable {n0 : Nat} {lv : List Nat} {I : Nat → Env → List Ob → Prop} {n : Nat}
theorem Atb {i : Nat} : Rnd n0 lv Q I n (.exit i) e H = Q (.exit i) e H := Ac rfl
theorem Awk : Rnd n0 lv Q I n .ret e H = Q .ret e H := Ac rfl
theorem Ce (m : Nat) (hm : m < n) (h : n0 ≤ H.length) (hR : I m (forget lv e) H) : Rnd n0 lv Q I n .nor e H := by
 refine ⟨m, H.length, hm, ⟨h, .inl (Nat.le_refl _)⟩, ?_⟩
 rw [List.take_length]; exact hR
theorem Amo (m g : Nat) (hm : m < n) (h : n0 ≤ g) (he : Agi g (forget lv e) = true) (hH : Ae7 g (H.take g) = true) (hR : I m (forget lv e) (H.take g)) : Rnd n0 lv Q I n .nor e H :=
 ⟨m, g, hm, ⟨h, .inr ⟨he, hH⟩⟩, hR⟩
end
theorem E9 {lv : List Nat} {H0 : List Ob} (I : Nat → Env → List Ob → Prop) (n : Nat) (h0 : I n (forget lv e) H0)
  (hs : ∀ n e H, I n e H → vwp P a (Rnd H0.length lv Q I n) e H) : vwp P (.loop lv a) Q e H0 := by
 rw [AzX]
 exact ⟨I, n, h0, hs⟩
theorem o_g {d s : Nat} {o : VOp} {b : Bool} {r : List VO} {K : Env → List Ob → Prop} : AgJ P (⟨some d, o, some (s, b)⟩ :: r) K e H = Aik e s fun e q => Gd q b (vop P o e H (fun x H => AgJ P r K ((d, x) :: e) H)) (AgJ P r K ((d, .val undef) :: e) H) := by
 rw [AAc]; refine congrArg (Aik e s) ?_; funext e q; cases q <;> rfl
def Aqv (x : TV) (e : Env) (s : Nat) (Q : Env → Option Bool → Prop) [Tg Q] : Prop := match x with
 | .val v => Q e (isB v)
 | .any => (∀ t, Q ((s, .val (.bool t)) :: e) (some t)) ∧ ∀ v, isB v = none → Q ((s, .val v) :: e) none
 | _ => False
@[congr] theorem AD6 {x x' : TV} {s : Nat} {Q : Env → Option Bool → Prop} (h : x = x') : Aqv x e s Q = Aqv x' e s Q := by rw [h]
theorem AyW {s : Nat} {Q : Env → Option Bool → Prop} : Aik e s Q = Aqv (get e s) e s Q := Ac rfl
theorem Ax2 {b : Bool} {s : Nat} {Q : Env → Option Bool → Prop} : Aqv (.val (.bool b)) e s Q = Q e (some b) := Ac rfl
theorem Ayu {s : Nat} {Q : Env → Option Bool → Prop} : Aqv (.val undef) e s Q = Q e none := Ac rfl
theorem u_c {d : Nat} {f : FuncId} {args : List Opd} {r : List VO} {K : Env → Prop} : vq P (⟨some d, .s (.call f args), none⟩ :: r) K e H = Cb (evs e args) fun xs => Fz (Aby xs) (vex fun x => VC P f xs H (fun y H' => y = x ∧ H' = H) ∧ vq P r K ((d, x) :: e) H) := by
 rw [Bqn, YS]; rfl
def Gq (x : TV) (b : Bool) (A B : Prop) [Tg A] [Tg B] : Prop := match x with
 | .val v => if isB v = some b then A else B
 | _ => False
@[congr] theorem BqH {x x' : TV} {b : Bool} {A B : Prop} (h : x = x') : Gq x b A B = Gq x' b A B := by rw [h]
theorem Bqg {t : Bool} {A B : Prop} : Gq (.val (.bool t)) true A B = vif t A B := by cases t <;> simp [Gq, vif, isB]
theorem Bqk {b : Bool} {A B : Prop} : Gq (.val undef) b A B = B := by simp [Gq, isB, undef]
theorem BqC {t : Bool} {A B : Prop} : Gq (.val (.bool t)) false A B = vif t B A := by cases t <;> simp [Gq, vif, isB]
theorem u_g {d s : Nat} {o : VOp} {b : Bool} {r : List VO} {K : Env → Prop} : vq P (⟨some d, o, some (s, b)⟩ :: r) K e H = Gq (get e s) b (Ah1 P o e H fun x => vq P r K ((d, x) :: e) H) (vq P r K ((d, .val undef) :: e) H) := Ac rfl
theorem Bqu {f : FuncId} {args : List Opd} {k : TV → Prop} : Ah1 P (.s (.call f args)) e H k = Cb (evs e args) fun xs => Fz (Aby xs) (vex fun x => VC P f xs H (fun y H' => y = x ∧ H' = H) ∧ k x) := by
 rw [AwO, YS]; rfl
def Az2 (P : Program) (x : TV) (s k : Nat) (c : Af) (Q : VEx → Env → List Ob → Prop) (e : Env) (H : List Ob) : Prop := match x with
  | .val (.slice none 0 0) => vwp P c Q ((s, .os k H.length 0 [] 0 0 0) :: e) (H ++ [.obj 0 (.arr 0 k [])])
  | _ => vwp P c Q e H
@[congr] theorem AEA {x x' : TV} {s k : Nat} (h : x = x') : Az2 P x s k a Q e H = Az2 P x' s k a Q e H := by rw [h]
theorem ADU {s k : Nat} : vwp P (.own s k a) Q e H = Az2 P (get e s) s k a Q e H := Ac rfl
theorem AsW {s k : Nat} : Az2 P (.val (.slice none 0 0)) s k a Q e H = vwp P a Q ((s, .os k H.length 0 [] 0 0 0) :: e) (H ++ [.obj 0 (.arr 0 k [])]) := Ac rfl
theorem Ayf {s k k' id ver off n cp : Nat} {p : List (Nat × Nat)} : Az2 P (.os k' id ver p off n cp) s k a Q e H = vwp P a Q e H := Ac rfl
end
theorem ACl {t : Nat} {K : TV → Prop} : res [.tmp t] e H K = Cb (get e t) K := Ac rfl
theorem AAn {t : Nat} {r : List VR} {K : List TV → Prop} : Al3 (.tmp t :: r) e H K = Cb (get e t) fun x => Al3 r e H fun xs => K (x :: xs) := Ac rfl
def AEF (K : TV → Prop) (xs : List TV) : Prop := match xs with
 | [x] => K x
 | xs => (∀ x ∈ xs, DW x = false) ∧ K (.tup xs)
theorem AuY {x y : TV} {l : List TV} {K : TV → Prop} : AEF K (x :: y :: l) = Fz (Aby (x :: y :: l)) (Cb (TV.tup (x :: y :: l)) K) := Ac rfl
theorem AzP {r s : VR} {l : List VR} {K : TV → Prop} : res (r :: s :: l) e H K = Al3 (r :: s :: l) e H (AEF K) := Ac rfl
theorem Azb {a sz : Nat} {ag : Bool} {K : TV → Prop} : res [.cell a ag sz] e H K = pop (.load ag sz (.t a)) e H K := Ac rfl
theorem ACJ {K : TV → Prop} : res [] e H K = K (.tup []) := by rw [Arz]; simp
end

def VCP (P : Program) (f : FuncId) (xs : List TV) (H : List Ob) (K : TV → List Ob → Prop) (KP : Value → List Ob → Prop) [Tg K] [Tg KP] : Prop := Ady P f xs H K KP
@[congr] theorem AzD {P : Program} {f : FuncId} {xs xs' : List TV} {H H' : List Ob} {K : TV → List Ob → Prop} {KP : Value → List Ob → Prop} (he : xs = xs') (hH : H = H') : VCP P f xs H K KP = VCP P f xs' H' K KP := by rw [he, hH]
def AyK (x : TV) (K : Value → Prop) [Tg K] : Prop := match x with
 | .val (.iface t v) => K (.iface t v)
 | .ifc t (.val v) => K (.iface t v)
 | _ => False
@[congr] theorem Bqf {x x' : TV} {K : Value → Prop} (h : x = x') : AyK x K = AyK x' K := by rw [h]
theorem Avh {t : TypeId} {v : Value} {K : Value → Prop} : AyK (.ifc t (.val v)) K = K (.iface t v) := Ac rfl
theorem Axe {t : TypeId} {v : Value} {K : Value → Prop} : AyK (.val (.iface t v)) K = K (.iface t v) := Ac rfl
section
variable {P : Program} {e : Env} {H : List Ob} {r : List VO} {K : Env → List Ob → Prop} {PP : Value → List Ob → Prop} {Q : VEx → Env → List Ob → Prop}
@[congr] theorem Axb {l : List VO} {e' : Env} {H' : List Ob} (he : e = e') (hH : H = H') : Abv P PP l K e H = Abv P PP l K e' H' := by rw [he, hH]
@[congr] theorem Axq {o : VOp} {e' : Env} {H' : List Ob} {KK : TV → List Ob → Prop} (he : e = e') (hH : H = H') : pvop P PP o e H KK = pvop P PP o e' H' KK := by rw [he, hH]
theorem ABj {l : List VO} {kp : List Nat} : vwp P (.pops l kp) Q e H = Abv P (fun u H => Q (.pan u) (Am2 l e) H) l (fun e H => Cb (forget kp e) fun e => Q .nor e H) e H := Ac rfl
theorem Ayg {n : Nat} {l : List VO} {kp : List Nat} : vwp P (.pdraw n l kp) Q e H = (vq P (l.take n) (fun e => Abv P (fun u H => Q (.pan u) [] H) (l.drop n) (fun e H => Cb (forget kp e) fun e => Q .nor e H) e H) e H) := Ac rfl
theorem AA2 : Abv P PP [] K e H = K e H := Ac rfl
theorem Bqj {d : Nat} {o : VOp} : Abv P PP (⟨some d, o, none⟩ :: r) K e H = pvop P PP o e H (fun x H => Abv P PP r K ((d, x) :: e) H) := Ac rfl
theorem ADg {o : VOp} : Abv P PP (⟨none, o, none⟩ :: r) K e H = pvop P PP o e H (fun x H => Abv P PP r K e H) := Ac rfl
theorem Bqx {d s : Nat} {o : VOp} {b : Bool} : Abv P PP (⟨some d, o, some (s, b)⟩ :: r) K e H = Aik e s fun e q => Gd q b (pvop P PP o e H (fun x H => Abv P PP r K ((d, x) :: e) H)) (Abv P PP r K ((d, .val undef) :: e) H) := by
 show Vd (pvop P PP) _ K e H = _
 rw [Vd]
 refine congrArg (Aik e s) ?_; funext e q; cases q <;> rfl
theorem AA9 {o : POp} {KK : TV → List Ob → Prop} : pvop P PP (.p o) e H KK = pop o e H fun x => KK x H := Ac rfl
theorem Aq6 {f : FuncId} {args : List Opd} {KK : TV → List Ob → Prop} : pvop P PP (.s (.call f args)) e H KK = Cb (evs e args) fun xs => Fz (Aby xs) (VCP P f xs H KK PP) := by
 show ((∀ x ∈ args, DW (x.ev e) = false) ∧ _) = _
 rw [YS]; rfl
theorem AtU {x : Opd} {KK : TV → List Ob → Prop} : pvop P PP (.s (.pan x)) e H KK = AyK (x.ev e) (fun u => PP u H) := by
 show (match x.ev e with | .val (.iface t v) => PP (.iface t v) H | .ifc t (.val v) => PP (.iface t v) H | _ => False) = _
 unfold AyK
 split <;> simp_all
theorem Apa {z : TV} {KK : TV → List Ob → Prop} : pvop P PP (.s (.alloc z)) e H KK = sop P (.alloc z) e H KK := Ac rfl
theorem Avv {x : Opd} {KK : TV → List Ob → Prop} : pvop P PP (.s (.box x)) e H KK = sop P (.box x) e H KK := Ac rfl
theorem AmY {k n : Nat} {z : TV} {ps : List (Nat × Opd)} {KK : TV → List Ob → Prop} : pvop P PP (.s (.bslice k n z ps)) e H KK = sop P (.bslice k n z ps) e H KK := Ac rfl
theorem Apg {sz : Nat} {x v : Opd} {KK : TV → List Ob → Prop} : pvop P PP (.s (.store sz x v)) e H KK = sop P (.store sz x v) e H KK := Ac rfl
theorem Auu {k bytes : Nat} {z : TV} {l c : Opd} {KK : TV → List Ob → Prop} : pvop P PP (.s (.mks k bytes z l c)) e H KK = sop P (.mks k bytes z l c) e H KK := Ac rfl
theorem As7 {k bytes : Nat} {et : TypeId} {x y : Opd} {KK : TV → List Ob → Prop} : pvop P PP (.s (.app k bytes et x y)) e H KK = sop P (.app k bytes et x y) e H KK := Ac rfl
theorem ApR {et : TypeId} {x y : Opd} {KK : TV → List Ob → Prop} : pvop P PP (.s (.appS et x y)) e H KK = sop P (.appS et x y) e H KK := Ac rfl
theorem Ap5 {k n : Nat} {z : TV} {x y : Opd} {KK : TV → List Ob → Prop} : pvop P PP (.s (.appZ k n z x y)) e H KK = sop P (.appZ k n z x y) e H KK := Ac rfl
theorem Atc {x : Opd} {n : Bool} {KK : TV → List Ob → Prop} : pvop P PP (.s (.eqS x n)) e H KK = sop P (.eqS x n) e H KK := Ac rfl
theorem As1 {x : Opd} {KK : TV → List Ob → Prop} : pvop P PP (.s (.s2b x)) e H KK = sop P (.s2b x) e H KK := Ac rfl
theorem Apn {k : Nat} {x y : Opd} {KK : TV → List Ob → Prop} : pvop P PP (.s (.copy k x y)) e H KK = sop P (.copy k x y) e H KK := Ac rfl
theorem Aoy {x y : Opd} {KK : TV → List Ob → Prop} : pvop P PP (.s (.copyS x y)) e H KK = sop P (.copyS x y) e H KK := Ac rfl
theorem Aov {x : Opd} {args : List Opd} {KK : TV → List Ob → Prop} : pvop P PP (.s (.callv x args)) e H KK = sop P (.callv x args) e H KK := Ac rfl
theorem Atu {x : Opd} {nm : String} {args : List Opd} {KK : TV → List Ob → Prop} : pvop P PP (.s (.inv x nm args)) e H KK = sop P (.inv x nm args) e H KK := Ac rfl
theorem Auf {kk : MK} {h : Option Opd} {KK : TV → List Ob → Prop} : pvop P PP (.s (.mkm kk h)) e H KK = sop P (.mkm kk h) e H KK := Ac rfl
theorem ApN {kk : MK} {m k x : Opd} {KK : TV → List Ob → Prop} : pvop P PP (.s (.mupd kk m k x)) e H KK = sop P (.mupd kk m k x) e H KK := Ac rfl
theorem Arx {kk : MK} {z : TV} {m k : Opd} {KK : TV → List Ob → Prop} : pvop P PP (.s (.ment kk z m k)) e H KK = sop P (.ment kk z m k) e H KK := Ac rfl
theorem Arf {m st x : Opd} {KK : TV → List Ob → Prop} : pvop P PP (.s (.mest m st x)) e H KK = sop P (.mest m st x) e H KK := Ac rfl
theorem AmZ {z : TV} {t : TypeId} {KK : TV → List Ob → Prop} : pvop P PP (.s (.allocT z t)) e H KK = sop P (.allocT z t) e H KK := Ac rfl
theorem ApW {x : Opd} {t : TypeId} {KK : TV → List Ob → Prop} : pvop P PP (.s (.boxT x t)) e H KK = sop P (.boxT x t) e H KK := Ac rfl
theorem Aql {x : Opd} {KK : TV → List Ob → Prop} : pvop P PP (.s (.rngS x)) e H KK = sop P (.rngS x) e H KK := Ac rfl
theorem Aqu {x : Opd} {KK : TV → List Ob → Prop} : pvop P PP (.s (.nxtS x)) e H KK = sop P (.nxtS x) e H KK := Ac rfl
theorem Ap8 {x : Opd} {KK : TV → List Ob → Prop} : pvop P PP (.s (.rngM x)) e H KK = sop P (.rngM x) e H KK := Ac rfl
theorem Aq4 {x : Opd} {KK : TV → List Ob → Prop} : pvop P PP (.s (.nxtM x)) e H KK = sop P (.nxtM x) e H KK := Ac rfl
theorem Aqq {kk : MK} {m k : Opd} {KK : TV → List Ob → Prop} : pvop P PP (.s (.delM kk m k)) e H KK = sop P (.delM kk m k) e H KK := Ac rfl
theorem Asz {x : Opd} {KK : TV → List Ob → Prop} : pvop P PP (.s (.cvS x)) e H KK = sop P (.cvS x) e H KK := Ac rfl
theorem Arj {k : Nat} {z : TV} {x : Opd} {KK : TV → List Ob → Prop} : pvop P PP (.s (.clrS k z x)) e H KK = sop P (.clrS k z x) e H KK := Ac rfl
theorem ApP {f : FuncId} {x : Opd} {KK : TV → List Ob → Prop} : pvop P PP (.s (.bstr f x)) e H KK = sop P (.bstr f x) e H KK := Ac rfl
theorem AxZ {b : Af} {u : Value} : Thn P b Q (.pan u) e H = Q (.pan u) e H := Ac rfl
theorem Ayp {id : Nat} {u : Value} : Blk id Q (.pan u) e H = Q (.pan u) e H := Ac rfl
theorem Awv {n0 : Nat} {lv : List Nat} {I : Nat → Env → List Ob → Prop} {n : Nat} {u : Value} : Rnd n0 lv Q I n (.pan u) e H = Q (.pan u) e H := Ac rfl
theorem AoN {vr : List VR} {R : TV → List Ob → Prop} {RP : Value → List Ob → Prop} : ArL vr R RP .ret e H = res vr e H fun x => R x H := Ac rfl
theorem Ao5 {vr : List VR} {R : TV → List Ob → Prop} {RP : Value → List Ob → Prop} : ArL vr R RP .nor e H = res vr e H fun x => R x H := Ac rfl
theorem Ao7 {vr : List VR} {R : TV → List Ob → Prop} {RP : Value → List Ob → Prop} {u : Value} : ArL vr R RP (.pan u) e H = RP u H := Ac rfl
def Alq (P : Program) (PP : Value → List Ob → Prop) (Ss : SsT) (l : List VO) (K : Env → List Ob → Prop) (e : Env) (H : List Ob) : Prop := Vd (pvopS P PP Ss) l K e H
@[congr] theorem Axs {Ss : SsT} {l : List VO} {e' : Env} {H' : List Ob} (he : e = e') (hH : H = H') : Alq P PP Ss l K e H = Alq P PP Ss l K e' H' := by rw [he, hH]
@[congr] theorem Av9 {Ss : SsT} {o : VOp} {e' : Env} {H' : List Ob} {KK : TV → List Ob → Prop} (he : e = e') (hH : H = H') : pvopS P PP Ss o e H KK = pvopS P PP Ss o e' H' KK := by rw [he, hH]
theorem AwP {n : Nat} {l : List VO} {kp : List Nat} : vwp P (.sdraw n l kp) Q e H = (vq P (l.take (nOf n)) (fun e => Alq P (fun u H => Q (.pan u) [] H) (ssN n l) (l.drop (nOf n)) (fun e H => Cb (forget kp e) fun e => Q .nor e H) e H) e H) := Ac rfl
section
variable {Ss : SsT}
theorem ABs : Alq P PP Ss [] K e H = K e H := Ac rfl
theorem BqF {d : Nat} {o : VOp} : Alq P PP Ss (⟨some d, o, none⟩ :: r) K e H = pvopS P PP Ss o e H (fun x H => Alq P PP Ss r K ((d, x) :: e) H) := Ac rfl
theorem AC2 {o : VOp} : Alq P PP Ss (⟨none, o, none⟩ :: r) K e H = pvopS P PP Ss o e H (fun x H => Alq P PP Ss r K e H) := Ac rfl
theorem AyY {o : POp} {KK : TV → List Ob → Prop} : pvopS P PP Ss (.p o) e H KK = pop o e H fun x => KK x H := Ac rfl
theorem Aqb {f : FuncId} {args : List Opd} {KK : TV → List Ob → Prop} : pvopS P PP Ss (.s (.call f args)) e H KK = Cb (evs e args) fun xs => Fz (Aby xs) (VCP P f xs H (fun x H' => KK x H' ∧ Yh Ss.l e H H') PP) := by
 show ((∀ x ∈ args, DW (x.ev e) = false) ∧ _) = _
 rw [YS]; rfl
theorem Aoi {sz : Nat} {x v : Opd} {KK : TV → List Ob → Prop} : pvopS P PP Ss (.s (.store sz x v)) e H KK = sop P (.store sz x v) e H fun x H' => KK x H' ∧ Yh Ss.st e H H' := Ac rfl
theorem AoJ {z : TV} {KK : TV → List Ob → Prop} : pvopS P PP Ss (.s (.alloc z)) e H KK = sop P (.alloc z) e H KK := Ac rfl
theorem AtF {k bytes : Nat} {z : TV} {l c : Opd} {KK : TV → List Ob → Prop} : pvopS P PP Ss (.s (.mks k bytes z l c)) e H KK = sop P (.mks k bytes z l c) e H KK := Ac rfl
theorem AsZ {k bytes : Nat} {et : TypeId} {x y : Opd} {KK : TV → List Ob → Prop} : pvopS P PP Ss (.s (.app k bytes et x y)) e H KK = vif Ss.ap (sop P (.app k bytes et x y) e H fun x H' => KK x H' ∧ Yh Ss.l e H H') (sop P (.app k bytes et x y) e H KK) := by
 show sop P (.app k bytes et x y) e H (fun x H' => KK x H' ∧ (Ss.ap = true → Yh Ss.l e H H')) = _
 unfold vif
 split
 ·rename_i h
  congr 1; funext x H'; simp [h]
 ·rename_i h
  congr 1; funext x H'; simp [h]
theorem ABN {n : Nat} : nOf n = n % 10000 := Ac rfl
theorem ABm {n : Nat} {l : List VO} : (ssN n l).ap = decide (10000 ≤ n) := Ac rfl
theorem AmM {k n : Nat} {z : TV} {ps : List (Nat × Opd)} {KK : TV → List Ob → Prop} : pvopS P PP Ss (.s (.bslice k n z ps)) e H KK = sop P (.bslice k n z ps) e H KK := Ac rfl
end
theorem Abg {e : Env} {H H' : List Ob} : Yh [] e H H' := Yh.nil
theorem AxL {s : Nat} {Ss : List Nat} {e : Env} {H H' : List Ob} {id ver : Nat} {p : List (Nat × Nat)} (h : get e s = .op id ver p) (h1 : H'[id]? = H[id]?) (h2 : Yh Ss e H H') : Yh (s :: Ss) e H H' := fun t ht id' hg => by
 rcases List.mem_cons.1 ht with rfl | ht
 ·rw [h] at hg; cases hg; exact h1
 ·exact h2 t ht id' hg
theorem Aan {s : Nat} {Ss : List Nat} {e : Env} {H H' : List Ob} (h : (match get e s with | .op _ _ _ => false | .os _ _ _ _ _ _ _ => false | _ => true) = true) (h2 : Yh Ss e H H') : Yh (s :: Ss) e H H' := fun t ht id' hg => by
 rcases List.mem_cons.1 ht with rfl | ht
 ·revert hg h
  cases get e t <;> simp [Az9]
 ·exact h2 t ht id' hg
theorem Aw.callsP {f : FuncId} {args : List TV} {R : TV → List Ob → Prop} {RP : Value → List Ob → Prop} (h : Aw P f args H R) : VCP P f args H R RP := h.mayP
end
def Ai := (And.intro (And.intro (And.intro (And.intro (And.intro (And.intro (And.intro (And.intro @ACi @Azw) (And.intro @AEh @Bqi)) (And.intro (And.intro @Ay8 @ADa) (And.intro @ADh @AzB))) (And.intro (And.intro (And.intro @Asy @AwQ) (And.intro @Azl @Awx)) (And.intro (And.intro @AEt @AAK) (And.intro @ADv @AzR)))) (And.intro (And.intro (And.intro (And.intro @Az1 @ADw) (And.intro @ADz @AC3)) (And.intro (And.intro @AwI @AEn) (And.intro @Azh @ADt))) (And.intro (And.intro (And.intro @ACH @ADm) (And.intro @ADc @AD9)) (And.intro (And.intro @Awn @Aue) (And.intro @ADV @Axu))))) (And.intro (And.intro (And.intro (And.intro (And.intro @AtH @ACI) (And.intro @AzH @AAw)) (And.intro (And.intro @Ay4 @AAO) (And.intro @AAN @AyV))) (And.intro (And.intro (And.intro @ABn @ABt) (And.intro @AC6 @Atx)) (And.intro (And.intro @Axm @AC4) (And.intro @ADq @AzF)))) (And.intro (And.intro (And.intro (And.intro @AAf @Ayx) (And.intro @ADI @ABK)) (And.intro (And.intro @AD5 @AAB) (And.intro @AAG @AA6))) (And.intro (And.intro (And.intro @AAp @Azr) (And.intro @Azf @Axn)) (And.intro (And.intro @ADi @AEm) (And.intro @AzI @ADx)))))) (And.intro (And.intro (And.intro (And.intro (And.intro (And.intro @ABA @AAk) (And.intro @AD2 @AxS)) (And.intro (And.intro @Azy @AyX) (And.intro @AEp @Axg))) (And.intro (And.intro (And.intro @ADU @AAU) (And.intro @Av0 @AsB)) (And.intro (And.intro @AAV @ABM) (And.intro @AwL @o_g)))) (And.intro (And.intro (And.intro (And.intro @AyW @ADM) (And.intro @AEi @AAD)) (And.intro (And.intro @BqG @u_c) (And.intro @u_g @AyF))) (And.intro (And.intro (And.intro @Bqu @AlF) (And.intro @AlH @ACl)) (And.intro (And.intro @Azb @ACJ) (And.intro @AzP @AnV))))) (And.intro (And.intro (And.intro (And.intro (And.intro @AAn @Akv) (And.intro @AuY @Ax3)) (And.intro (And.intro @AvB @AxG) (And.intro @Axi @AuT))) (And.intro (And.intro (And.intro @Amd @AwN) (And.intro @Atb @Awk)) (And.intro (And.intro @ABj @Ayg) (And.intro @AwP @ABs)))) (And.intro (And.intro (And.intro (And.intro @BqF @AC2) (And.intro @AyY @Aqb)) (And.intro (And.intro @Aoi @AoJ) (And.intro @AtF @AsZ))) (And.intro (And.intro (And.intro @AmM @AA2) (And.intro @Bqj @ADg)) (And.intro (And.intro @Bqx @AA9) (And.intro @Aq6 @AtU))))))) (And.intro (And.intro (And.intro (And.intro (And.intro (And.intro @Apa @Avv) (And.intro @AmY @Apg)) (And.intro (And.intro @Auu @As7) (And.intro @ApR @As1))) (And.intro (And.intro (And.intro @Ap5 @Atc) (And.intro @Apn @Aoy)) (And.intro (And.intro @Aov @Atu) (And.intro @Auf @ApN)))) (And.intro (And.intro (And.intro (And.intro @Arx @Arf) (And.intro @AmZ @ApW)) (And.intro (And.intro @Aql @Aqu) (And.intro @Ap8 @Aq4))) (And.intro (And.intro (And.intro @Aqq @Arj) (And.intro @Asz @ApP)) (And.intro (And.intro @AxZ @Ayp) (And.intro @Awv @AoN))))) (And.intro @Ao5 @Ao7)))
def Ae := (And.intro (And.intro (And.intro (And.intro (And.intro (And.intro (And.intro (And.intro @ABN @ABm) (And.intro @Axe @Avh)) (And.intro (And.intro @Atf @ArR) (And.intro @Ays @AxB))) (And.intro (And.intro (And.intro @AAl @AzA) (And.intro @Azj @Ar0)) (And.intro (And.intro @AtG @Awi) (And.intro @AsN @AAx)))) (And.intro (And.intro (And.intro (And.intro @ApL @Axd) (And.intro @AsG @ABu)) (And.intro (And.intro @Awf @ABz) (And.intro @AAQ @Ark))) (And.intro (And.intro (And.intro @AwX @Aus) (And.intro @Aw4 @AtY)) (And.intro (And.intro @Awh @AAS) (And.intro @Au6 @Ayo))))) (And.intro (And.intro (And.intro (And.intro (And.intro @Awt @Atd) (And.intro @AtV @AoD)) (And.intro (And.intro @AoS @Aqd) (And.intro @AuO @Avg))) (And.intro (And.intro (And.intro @Ap2 @ApS) (And.intro @AxV @AtL)) (And.intro (And.intro @Axa @Att) (And.intro @AsP @AsO)))) (And.intro (And.intro (And.intro (And.intro @ArQ @AxY) (And.intro @AxT @Aye)) (And.intro (And.intro @Aw6 @Axv) (And.intro @Awz @AxE))) (And.intro (And.intro (And.intro @Avy @AwY) (And.intro @As5 @AxJ)) (And.intro (And.intro @Aro @Aw7) (And.intro @Aug @AtJ)))))) (And.intro (And.intro (And.intro (And.intro (And.intro (And.intro @AuS @ArZ) (And.intro @Ao8 @AwC)) (And.intro (And.intro @AxC @AAz) (And.intro @AAW @ABd))) (And.intro (And.intro (And.intro @Azu @Avm) (And.intro @Avn @AsC)) (And.intro (And.intro @AuF @Az3) (And.intro @AA8 @AAI)))) (And.intro (And.intro (And.intro (And.intro @Asb @AoI) (And.intro @Aqh @AuQ)) (And.intro (And.intro @Ass @Aqi) (And.intro @AuZ @Atg))) (And.intro (And.intro (And.intro @Avz @Ayj) (And.intro @AwD @At1)) (And.intro (And.intro @ApM @AvD) (And.intro @AyC @Aub))))) (And.intro (And.intro (And.intro (And.intro (And.intro @AwF @Axh) (And.intro @AxO @Avf)) (And.intro (And.intro @Au5 @Au3) (And.intro @AuE @Avk))) (And.intro (And.intro (And.intro @At7 @Arv) (And.intro @As2 @Aw5)) (And.intro (And.intro @Az8 @AqW) (And.intro @Azg @ABw)))) (And.intro (And.intro (And.intro (And.intro @Ayr @Ax5) (And.intro @Ax6 @Avr)) (And.intro (And.intro @Auc @Aud) (And.intro @Option.getD_none.{0} @Option.getD_some.{0}))) (And.intro (And.intro (And.intro @Aq3 @AwS) (And.intro @AvE @As8)) (And.intro (And.intro @Auw @Anz) (And.intro @ApQ @Atr))))))) (And.intro (And.intro (And.intro (And.intro (And.intro (And.intro @Auz @Axy) (And.intro @AuX @AwU)) (And.intro (And.intro @Au7 @Ap7) (And.intro @Axk @Asm))) (And.intro (And.intro (And.intro @AsT @Atl) (And.intro @Aun @Ati)) (And.intro (And.intro @AtN @Avb) (And.intro @AwT @Apu)))) (And.intro (And.intro (And.intro (And.intro @AxQ @AzS) (And.intro @ABk @Aoh)) (And.intro (And.intro @AqC @ADj) (And.intro @ADH @Bqz))) (And.intro (And.intro (And.intro @Atj @Ax2) (And.intro @Ayu @Bqg)) (And.intro (And.intro @BqC @Bqk) (And.intro @AsW @Ayf))))) (And.intro (And.intro (And.intro @Aty @AuR) (And.intro @Ayv @AuW)) (And.intro @AqK @Aok))))
def Ag := (And.intro (And.intro (And.intro (And.intro (And.intro (And.intro (And.intro (And.intro @As3 @Asl) (And.intro @Axz @AwR)) (And.intro (And.intro @Ayb @Awu) (And.intro @AuH @Avs))) (And.intro (And.intro (And.intro @Au9 @Asw) (And.intro @Aw9 @Awg)) (And.intro (And.intro @Ax1 @AqU) (And.intro @Aqw @Asv)))) (And.intro (And.intro (And.intro (And.intro @Avc @AuM) (And.intro @Asp @AqV)) (And.intro (And.intro @ArJ @ApA) (And.intro @ApY @At3))) (And.intro (And.intro (And.intro @Asg @Ata) (And.intro @Asx @Axo)) (And.intro (And.intro @Aw1 @AwW) (And.intro @AxA @Atp))))) (And.intro (And.intro (And.intro (And.intro (And.intro @As9 @Au4) (And.intro @Aua @Awm)) (And.intro (And.intro @Axr @AwA) (And.intro @ArB @ArE))) (And.intro (And.intro (And.intro @AtO @AsJ) (And.intro @Asu @Aul)) (And.intro (And.intro @Ar6 @Aux) (And.intro @AtW @Ap3)))) (And.intro (And.intro (And.intro (And.intro @Ar4 @AvA) (And.intro @Ate @AuU)) (And.intro (And.intro @Avl @Aq8) (And.intro @ApI @AuN))) (And.intro (And.intro (And.intro @AvJ @AvC) (And.intro @Aqy @Arn)) (And.intro (And.intro @Aou @Al9) (And.intro @Aq5 @ArS)))))) (And.intro (And.intro (And.intro (And.intro (And.intro (And.intro @Apx @ApJ) (And.intro @Ao4 @AtQ)) (And.intro (And.intro @Ar7 @Amw) (And.intro @Ak9 @Aos))) (And.intro (And.intro (And.intro @AtT @Apt) (And.intro @Alv @Aj3)) (And.intro (And.intro @Bqv @Bqp) (And.intro @Bqs @Yg)))) (And.intro (And.intro (And.intro (And.intro @Ku @Akg) (And.intro @Ii @Je)) (And.intro (And.intro @An5 @AoF) (And.intro @AmU @Apl))) (And.intro (And.intro (And.intro @AoU @AsA) (And.intro @Apf @Am1)) (And.intro (And.intro @Aor @AmF) (And.intro @Arc @AoP))))) (And.intro (And.intro (And.intro (And.intro (And.intro @Amn @AkC) (And.intro @Akf @Aij)) (And.intro (And.intro @AxN @AsM) (And.intro @Arz @AvI))) (And.intro (And.intro (And.intro @AnV @AuC) (And.intro @Akv @AlF)) (And.intro (And.intro @AlH @Aum) (And.intro @Avo @Ayt)))) (And.intro (And.intro (And.intro (And.intro @Ax4 @Avw) (And.intro @Aww @Axt)) (And.intro (And.intro @AtI @Ava) (And.intro @Au1 @Ar2))) (And.intro (And.intro (And.intro @AoH @Ayz) (And.intro @AwG @AAP)) (And.intro (And.intro @AxK @Aw2) (And.intro @Ayh @AwB))))))) (And.intro (And.intro (And.intro @Avj @ArF) (And.intro @AqX @Avt)) (And.intro (And.intro @ACe @AzM) @AAE)))
theorem AoB {α β : Type} {f : α → β} {l : List α} {i : Nat} : (l.map f).drop i = (l.drop i).map f := List.map_drop.symm
theorem AoT {α β : Type} {f : α → β} {l : List α} {i : Nat} : (l.map f).take i = (l.take i).map f := List.map_take.symm
theorem AAe {b : UInt8} : IntKind.i64.wrap (b.toNat : Int) = b.toNat := Dp (by omega) (by have := b.toNat_lt; omega)
theorem AvU {n : Nat} : IntKind.u8.wrap (n : Int) = ((UInt8.ofNat n).toNat : Int) := by
 rw [IntKind.wrap_u8, UInt8.toNat_ofNat']; omega
theorem Azn {α : Type} {n i : Nat} {a : α} (h : i < n) : (List.replicate n a)[i]? = some a := by simp [h]
section
variable {a b c : Nat}
theorem Aui : (a : Int) * (b : Int) = ((a * b : Nat) : Int) := Ac rfl
theorem Atv (h : b ≤ a) : (a : Int) - (b : Int) = ((a - b : Nat) : Int) := by omega
theorem Au0 : (a : Int) / (b : Int) = ((a / b : Nat) : Int) := Ac rfl
theorem Avi : (a : Int) % (b : Int) = ((a % b : Nat) : Int) := Ac rfl
variable {t : TypeId} {k2 : IntKind}
theorem AAM (h1 : b ≤ 63) (h2 : a * 2 ^ b ≤ 9223372036854775807) : ET t .shl (.int .i64 (a : Int)) (.int k2 (b : Int)) = some (.int .i64 ((a * 2 ^ b : Nat) : Int)) := by
 have e : (a : Int) * 2 ^ ((b : Int).toNat) = ((a * 2 ^ b : Nat) : Int) := by rw [Int.toNat_natCast, Int.natCast_mul, Int.natCast_pow]; rfl
 rw [AC9 (by omega) (by omega) (by rw [e]; omega) (by rw [e]; omega), e]
theorem Azc (h1 : b ≤ 63) : ET t .shr (.int .i64 (a : Int)) (.int k2 (b : Int)) = some (.int .i64 ((a / 2 ^ b : Nat) : Int)) := by
 have e : (a : Int) / 2 ^ ((b : Int).toNat) = ((a / 2 ^ b : Nat) : Int) := by rw [Int.toNat_natCast, Int.natCast_ediv, Int.natCast_pow]; rfl
 rw [ADN (by omega) (by omega) (by omega), e]
variable {k : IntKind}
theorem Azp (h : b ≠ 0) : ET t .rem (.int k (a : Int)) (.int k (b : Int)) = some (.int k ((a % b : Nat) : Int)) := by rw [ACn (by omega) (by omega), Int.natCast_emod]
theorem ArY (h : b ≠ 0) (h2 : a ≤ 9223372036854775807) : ET t .quo (.int .i64 (a : Int)) (.int .i64 (b : Int)) = some (.int .i64 ((a / b : Nat) : Int)) := by rw [ACw (by omega) (by omega) (by omega), Int.natCast_ediv]
end
theorem Aw.toPureV {P : Program} {f : FuncId} {args : List TV} {R : TV → Prop} (h : Aw P f args [] fun x H' => Cj (frz H' x) R) : Bj P f args R :=
 Aw.toPure (h.mono fun x H' hx => by
  cases hf : frz H' x with
  | none => rw [hf] at hx; exact hx
  | some y => rw [hf] at hx; exact hx)
abbrev mv_ (d s : Nat) : VO := ⟨some d, .p (.mov (.t s)), none⟩
abbrev po_ (d : Nat) (p : POp) : VO := ⟨some d, .p p, none⟩
abbrev so_ (d : Nat) (q : SOp) : VO := ⟨some d, .s q, none⟩
abbrev ci_ (n : Nat) : Opd := .c (.int .i64 (n : Int))
theorem DD {P : Program} {f : FuncId} {fn : Func} {vc : Af} {vr : List VR} (n : Nat) (hf : P.funcs[f]? = some fn) (ht : fn.body.bind (trC P fn.ntmps) = some (er vc)) (hr : trR P fn.results.toList = some vr) (hn : fn.ntmps = n) :
  ∀ ⦃args : List TV⦄ ⦃H : List Ob⦄ ⦃R : TV → List Ob → Prop⦄, args.length ≤ n → vwp P vc (Ak4 vr R) (Aka 0 args) H → Aw P f args H R := fun _ _ _ h1 h2 => Arq hf ht hr (hn ▸ h1) h2
theorem Aa {c c' : Af} (h : c = c') : ∀ (P : Program) (Q : VEx → Env → List Ob → Prop) (e : Env) (H : List Ob), vwp P c Q e H = vwp P c' Q e H := fun _ _ _ _ => by rw [h]
theorem Ad {α : Type} : (∀ {l : List α} {i : Nat} {a : α}, (l.set i a).length = l.length) ∧ (∀ {l m : List α}, (l ++ m).length = l.length + m.length) ∧ (∀ {a : α} {l : List α}, (a :: l).length = l.length + 1) ∧ ([] : List α).length = 0 := ⟨List.length_set, List.length_append, List.length_cons, List.length_nil⟩
theorem Aw.toFreshV {P : Program} {f : FuncId} {args : List TV} {R : TV → Prop} (h : Aw P f args [] fun x H' => Cj (frs H' x) R) : Y8 P f args R :=
 Aw.toFresh (h.mono fun x H' hx => by
  cases hf : frs H' x with
  | none => rw [hf] at hx; exact hx
  | some y => rw [hf] at hx; exact hx)
theorem Aur {α : Type} {l : List α} {n : Nat} (h : l.length ≤ n) : l.take n = l := List.take_of_length_le h
theorem AEq {α : Type} {c : Prop} [Decidable c] {a b : α} (h : c) : (if c then a else b) = a := if_pos h
theorem ADl {α : Type} {c : Prop} [Decidable c] {a b : α} (h : ¬ c) : (if c then a else b) = b := if_neg h
theorem AmE {α : Type} {l : List α} {n : Nat} (h : n ≤ l.length) : (l.take n).length = n := by simp [h]
theorem Aki {α : Type} {l : List α} {i : Nat} : (l.drop i).take (l.length - i) = l.drop i := List.take_of_length_le (by simp)
theorem Ato {a b : Nat} : a + b - a = b := Nat.add_sub_cancel_left a b
theorem AuV {α : Type} {l m : List α} : (l ++ m).take l.length = l := List.take_left
theorem Atz {α : Type} {l m : List α} : (l ++ m).drop l.length = m := List.drop_left
theorem At5 {a b : Nat} : a + b - b = a := Nat.add_sub_cancel a b
def Ah := (And.intro (And.intro (And.intro (And.intro (And.intro (And.intro (And.intro @AuV @Atz) (And.intro @Ato @Aki)) (And.intro (And.intro @AmE @List.length_drop.{0}) (And.intro @AEq @ADl))) (And.intro (And.intro (And.intro @Aur @At5) (And.intro @Nat.zero_le @ABJ)) (And.intro (And.intro @List.nil_append.{0} @List.length_nil.{0}) (And.intro @List.length_cons.{0} @List.cons_append.{0})))) (And.intro (And.intro (And.intro (And.intro @List.getElem?_cons_zero.{0} @List.getElem?_cons_succ.{0}) (And.intro @List.set_cons_zero.{0} @List.set_cons_succ.{0})) (And.intro (And.intro @List.map_cons.{0,0} @List.map_nil.{0,0}) (And.intro @AuK @AvG))) (And.intro (And.intro (And.intro @true_and @and_true) (And.intro @List.take_zero.{0} @List.take_succ_cons.{0})) (And.intro (And.intro @List.drop_succ_cons.{0} @List.take_nil.{0}) (And.intro @List.drop_nil.{0} @Nat.zero_add))))) (And.intro (And.intro (And.intro (And.intro (And.intro @ACh @ADn) (And.intro @AEk @AEa)) (And.intro (And.intro @ADR @AEw) (And.intro @ADL @ACR))) (And.intro (And.intro (And.intro @ADP @ACy) (And.intro @Bqw @Azp)) (And.intro (And.intro @ArY @Av5) (And.intro @AqO @ArV)))) (And.intro (And.intro (And.intro (And.intro @Arl @Ar8) (And.intro @AoO @Arw)) (And.intro (And.intro @Aq0 @Aq1) (And.intro @ArC @ApU))) (And.intro (And.intro (And.intro @Bool.false_xor @Bool.true_xor) (And.intro @ACj @ADk)) (And.intro (And.intro @ADK @decide_true) (And.intro @decide_false @Bool.not_true)))))) (And.intro (And.intro (And.intro (And.intro (And.intro (And.intro @Bool.not_false @not_true_eq_false) (And.intro @not_false_eq_true @Bool.false_eq_true)) (And.intro (And.intro @Bool.true_eq_false @Option.bind_some.{0,0}) (And.intro @Option.map_some.{0,0} @Bool.and_self))) (And.intro (And.intro (And.intro @and_self @Nat.sub_zero) (And.intro @Nat.mul_one @List.length_map.{0,0})) (And.intro (And.intro @Int.toNat_natCast @List.getElem?_map.{0,0}) (And.intro @Int.natCast_nonneg @List.length_append.{0})))) (And.intro (And.intro (And.intro (And.intro @List.drop_zero.{0} @AoB) (And.intro @AoT @Auh)) (And.intro (And.intro @AtA @At9) (And.intro @Ayl @Aws))) (And.intro (And.intro (And.intro @AwE @Ayq) (And.intro @List.replicate_zero.{0} @List.take_length.{0})) (And.intro (And.intro @List.length_set.{0} @List.length_replicate.{0}) (And.intro @AAe @Dp))))) (And.intro (And.intro (And.intro (And.intro @AvU @List.set_set.{0}) (And.intro @List.getElem?_nil.{0} @Azn)) (And.intro (And.intro @Aui @Atv) (And.intro @Au0 @Avi))) (And.intro @AAM @Azc))))
end Go.Proofs.YtliaddbbmnfioaaGreatDoor

