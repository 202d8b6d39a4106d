/- What the proof of DeflateRoundCard stands on (texts merged; names shortened by a program): part 4. -/
import Derived.Test.YtfgljddikcghhaaDoorQC
import Derived.ProofKit
import Derived.OpenShut
import Derived.ShutString
import Derived.ChangeOld
import Derived.Below
import Derived.Carry
import Derived.SizedLaws
import Derived.Lib.LaidTab
import Derived.LaidHandle
import Derived.Test.YtfgljddikcghhaaDoorProg
import Derived.KernelRfl
namespace Go.Proofs.YtfgljddikcghhaaDoor
open Go.RowKit
variable [AO]
set_option linter.unusedSectionVars false
set_option linter.unusedSimpArgs false
set_option linter.unusedVariables false
set_option autoImplicit false

/-- An equation that simp is to take for no definition. -/
theorem Ad {α : Sort _} {a b : α} (h : a = b) : a = b := h

/-- Numbers, truth values, strings. -/
abbrev i64 (n : Int) : TV := .val (.int .i64 n)
abbrev tb (b : Bool) : TV := .val (.bool b)
abbrev ts (l : List UInt8) : TV := .val (.string (str l))
/-- Bytes, strings, numbers in memory. -/
abbrev slB (l : List UInt8) : TV := .sl 1 (l.map by8)
abbrev slS (l : List (List UInt8)) : TV := .sl 1 (l.map ts)

section
variable {P : Program} {e : Env} {H : List Ob}
theorem AEu {c : Opd} {a : Opd} {b : Opd} {K : TV → Prop} : pop (.pick c a b) e H K = (match c.ev e with
  | .val (.bool t) => K (if t then a.ev e else b.ev e)
  | _ => False) := Ad rfl
theorem AEV {x : Opd} {K : TV → Prop} : pop (.b2s x) e H K = (match CB H 1 (x.ev e) with
  | some cs => (∀ y ∈ cs, ApH y) ∧ K (.val (.string (str (cs.map AhM))))
  | none => False) := Ad rfl
theorem AEG {ag : Bool} {sz : Nat} {x : Opd} {K : TV → Prop} : pop (.load ag sz x) e H K = (match x.ev e with
  | .fp y => Amt ag sz y ∧ K y
  | .op id ver p => (match H[id]? with
   | some (.obj v x) => v = ver ∧ (match VD p x with | some y => Amt ag sz y ∧ K y | none => False)
   | _ => False)
  | _ => False) := Ad rfl
theorem ACx {n : Nat} {k : Nat} {x : Opd} {i : Opd} {K : TV → Prop} : pop (.idxAA n k x i) e H K = (match x.ev e, i.ev e with
  | .fp (.arr n' k' cs), .val (.int _ j) => k' = k ∧ n' = n ∧ 0 ≤ j ∧ (match cs[j.toNat]? with | some y => K (.fp y) | none => False)
  | .op id ver p, .val (.int _ j) => 0 ≤ j ∧ j < n ∧ K (.op id ver (p ++ [(j.toNat, j.toNat * k)]))
  | _, _ => False) := Ad rfl
theorem AEA {x : Opd} {K : TV → Prop} : pop (.lenV x) e H K = (match x.ev e with
  | .val (.slice _ n _) => K (.val (.int .i64 n))
  | .sl _ cs => K (.val (.int .i64 cs.length))
  | .os _ _ _ _ _ n _ => K (.val (.int .i64 n))
  | _ => False) := Ad rfl
theorem ACc {k : Nat} {x : Opd} {lo : Option Opd} {hi : Option Opd} {K : TV → Prop} : pop (.slV k x lo hi) e H K = (match x.ev e with
  | .sl k' cs => k' = k ∧ bnd e lo hi cs.length cs.length fun l h => K (.sl k ((cs.drop l).take (h - l)))
  | .os k' id ver p off n cp => k' = k ∧ bnd e lo hi n cp fun l h => K (.os k id ver p (off + l) (h - l) (cp - l))
  | .val (.slice ad 0 0) => bnd e lo hi 0 0 fun l h => K (.val (.slice ad 0 0))
  | _ => False) := Ad rfl
theorem ACC {n : Nat} {k : Nat} {x : Opd} {lo : Option Opd} {hi : Option Opd} {K : TV → Prop} : pop (.slA n k x lo hi) e H K = (match x.ev e with
  | .fp (.arr n' k' cs) => k' = k ∧ n' = n ∧ n ≤ 9223372036854775807 ∧ bnd e lo hi n n fun l h => K (.sl k ((cs.drop l).take (h - l)))
  | .op id ver p => (match H[id]? with
   | some (.obj v x) => v = ver ∧ n ≤ 9223372036854775807 ∧ (match VD p x with | some (.arr n' k' cs) => k' = k ∧ n' = n ∧ bnd e lo hi n n fun l h => K (.os k id ver p l (h - l) (n - l)) | _ => False)
   | _ => False)
  | _ => False) := Ad rfl
theorem AEm {f : Fn} {first : List Opd} {caps : List Opd} {K : TV → Prop} : pop (.mkf f first caps) e H K = ((∀ x ∈ first ++ caps, CU (x.ev e) = false) ∧ K (.fn f (first.map (·.ev e)) (caps.map (·.ev e)))) := Ad rfl
theorem AED {x : Opd} {K : TV → Prop} : pop (.nilc x) e H K = (match x.ev e with
  | .op id ver p => K (.op id ver p)
  | .fp y => K (.fp y)
  | .fn (.func f) a b => K (.fn (.func f) a b)
  | .ifc t y => K (.ifc t y)
  | .val (.func (.func f) a b) => K (.val (.func (.func f) a b))
  | _ => False) := Ad rfl
theorem AuU {k : Nat} {n : Nat} {z : TV} {ps : List (Nat × Opd)} {K : TV → List Ob → Prop} : sop P (.bslice k n z ps) e H K = ((Fb e (List.replicate n k) ps ∧ Ce e ps ∧ n ≤ 1000) ∧ K (.os k H.length 0 [] 0 n n) (H ++ [.obj 0 (.arr n k (LZ e (List.replicate n z) ps))])) := Ad rfl
theorem ADE {sz : Nat} {x : Opd} {v : Opd} {K : TV → List Ob → Prop} : sop P (.store sz x v) e H K = ((lays (v.ev e) = true ∧ AU (v.ev e) = sz) ∧ (match x.ev e with
  | .op id ver p => (match H[id]? with
   | some (.obj vr y) => vr = ver ∧ (match Aen p y (v.ev e) with | some y' => K .any (H.set id (.obj ver y')) | none => False)
   | _ => False)
  | _ => False)) := Ad rfl
theorem AAf {f : FuncId} {args : List Opd} {K : TV → List Ob → Prop} : sop P (.call f args) e H K = ((∀ x ∈ args, CU (x.ev e) = false) ∧ Ap P f (args.map (·.ev e)) H K) := Ad rfl
theorem AyF {x : Opd} {args : List Opd} {K : TV → List Ob → Prop} : sop P (.callv x args) e H K = ((∀ x ∈ args, CU (x.ev e) = false) ∧ (match x.ev e with
  | .fn (.func f) first caps => AiC P f = true ∧ Ap P f (first ++ args.map (·.ev e) ++ caps) H K
  | .val (.func (.func f) xs ys) => (xs.isEmpty && ys.isEmpty) = true ∧ AiC P f = true ∧ Ap P f (args.map (·.ev e)) H K
  | .yl id ver => AnQ P id ver (args.map (·.ev e)) H K
  | _ => False)) := Ad rfl
theorem AA7  {Q : VEx → Env → List Ob → Prop} : vwp P (.skip ) Q e H = (Q .nor e H) := Ad rfl
theorem AEW {a : Af} {b : Af} {Q : VEx → Env → List Ob → Prop} : vwp P (.seq a b) Q e H = (vwp P a (fun x e H => match x with | .nor => vwp P b Q e H | .exit i => Q (.exit i) e H | .ret => Q .ret e H | .pan u => Q (.pan u) e H) e H) := Ad rfl
theorem AzU {lv : List Nat} {c : Af} {Q : VEx → Env → List Ob → Prop} {H0 : List Ob} : vwp P (.loop lv c) Q e H0 = (∃ (I : Nat → Env → List Ob → Prop) (n : Nat), I n (forget lv e) H0 ∧
   ∀ n e H, I n e H → vwp P c (fun x e H => match x with | .nor => ∃ m g, m < n ∧ (H0.length ≤ g ∧ (H.length ≤ g ∨ (Ag0 g (forget lv e) = true ∧ YF g (H.take g) = true))) ∧ I m (forget lv e) (H.take g) | .exit i => Q (.exit i) e H | .ret => Q .ret e H | .pan u => Q (.pan u) e H) e H) := Ad rfl
theorem AzK {id : Nat} {Q : VEx → Env → List Ob → Prop} : vwp P (.exit id) Q e H = (Q (.exit id) e H) := Ad rfl
theorem ACR  {Q : VEx → Env → List Ob → Prop} : vwp P (.ret ) Q e H = (Q .ret e H) := Ad rfl
theorem AyA {c : Af} {Q : VEx → Env → List Ob → Prop} : vwp P (.scope c) Q e H = (vwp P c Q e H) := Ad rfl
theorem AE5 {s k : Nat} {c : Af} {Q : VEx → Env → List Ob → Prop} : vwp P (.own s k c) Q e H = (match get e s with
  | .val (.slice none 0 0) => vwp P c Q ((s, .os k H.length 0 [] 0 0 0) :: e) (H ++ [.obj 0 (.arr 0 k [])])
  | _ => vwp P c Q e H) := Ad rfl
theorem Azr {s k : Nat} {p : List (Nat × Nat)} {c : Af} {Q : VEx → Env → List Ob → Prop} : vwp P (.ownB s p k c) Q e H = (match get e s with
  | .op id ver p0 => (match H[id]? with
   | some (.obj v x) => v = ver ∧ (match VD (p0 ++ p) x with
    | some (.val (.slice none 0 0)) => (match Aen (p0 ++ p) x (.os k H.length 0 [] 0 0 0) with
     | some x' => vwp P c Q e (H.set id (.obj ver x') ++ [.obj 0 (.arr 0 k [])])
     | none => False)
    | _ => vwp P c Q e H)
   | _ => False)
  | _ => False) := Ad rfl
theorem Az7 {s : Nat} {t : TypeId} {p : List (Nat × Nat)} {c : Af} {Q : VEx → Env → List Ob → Prop} : vwp P (.ownT s p t c) Q e H = (match get e s with
  | .op id ver p0 => (match H[id]? with
   | some (.obj v x) => v = ver ∧ (match VD (p0 ++ p) x with
    | some (.val (.slice none 0 0)) => (match Aen (p0 ++ p) x (.os 1 H.length 0 [] 0 0 0) with
     | some x' => vwp P c Q e (H.set id (.obj ver x') ++ [.bld 0 t []])
     | none => False)
    | _ => vwp P c Q e H)
   | _ => False)
  | _ => False) := Ad rfl
theorem AmH {s k id ver off n cp m : Nat} {xs : List TV} {c : Af} {Q : VEx → Env → List Ob → Prop} (hg : get e s = .os k id ver [] off n cp) (ho : H[id]? = some (.obj ver (.arr m k xs))) (hn : off + n ≤ xs.length) (h : vwp P c Q ((s, .sl k ((xs.drop off).take n)) :: e) (H.set id (.gone ver))) : vwp P (.frz s c) Q e H := by
 rw [vwp, hg]
 simp only [ho]
 refine ⟨trivial, ?_⟩
 have : Dp [] k off n (.arr m k xs) = some ((xs.drop off).take n) := by unfold Dp; simp [VD, hn]
 rw [this]; exact h
theorem AuQ {K : Env → List Ob → Prop} : Ahl P [] K e H = K e H := Ad rfl
theorem AAL {d : Nat} {o : POp} {r : List VO} {K : Env → List Ob → Prop} : Ahl P (⟨some d, .p o, none⟩ :: r) K e H = pop o e H fun x => Ahl P r K ((d, x) :: e) H := Ad rfl
theorem AzX {d : Nat} {o : SOp} {r : List VO} {K : Env → List Ob → Prop} : Ahl P (⟨some d, .s o, none⟩ :: r) K e H = sop P o e H fun x H => Ahl P r K ((d, x) :: e) H := Ad rfl
theorem AwM {o : SOp} {r : List VO} {K : Env → List Ob → Prop} : Ahl P (⟨none, .s o, none⟩ :: r) K e H = sop P o e H fun x H => Ahl P r K e H := Ad rfl
theorem AAE {d s : Nat} {o : VOp} {b : Bool} {r : List VO} {K : Env → List Ob → Prop} : Ahl P (⟨some d, o, some (s, b)⟩ :: r) K e H = Aju e s fun e q => match q with
 | some t => if t = b then vop P o e H (fun x H => Ahl P r K ((d, x) :: e) H) else Ahl P r K ((d, .val undef) :: e) H
 | none => Ahl P r K ((d, .val undef) :: e) H := Ad rfl
theorem ACj {o : POp} {K : TV → List Ob → Prop} : vop P (.p o) e H K = pop o e H fun x => K x H := Ad rfl
theorem ACr {o : SOp} {K : TV → List Ob → Prop} : vop P (.s o) e H K = sop P o e H K := Ad rfl
theorem AAa {K : Env → Prop} : vq P [] K e H = K e := Ad rfl
theorem AFc {d : Nat} {o : POp} {r : List VO} {K : Env → Prop} : vq P (⟨some d, .p o, none⟩ :: r) K e H = pop o e H fun x => vq P r K ((d, x) :: e) H := Ad rfl
theorem AEZ {d : Nat} {f : FuncId} {args : List Opd} {r : List VO} {K : Env → Prop} : vq P (⟨some d, .s (.call f args), none⟩ :: r) K e H = ((∀ x ∈ args, CU (x.ev e) = false) ∧ ∃ x, Ap P f (args.map (·.ev e)) H (fun y H' => y = x ∧ H' = H) ∧ vq P r K ((d, x) :: e) H) := Ad rfl
theorem Ayo {o : POp} {k : TV → Prop} : Amj P (.p o) e H k = pop o e H k := Ad rfl
theorem AxH {f : FuncId} {args : List Opd} {k : TV → Prop} : Amj P (.s (.call f args)) e H k = ((∀ x ∈ args, CU (x.ev e) = false) ∧ ∃ x, Ap P f (args.map (·.ev e)) H (fun y H' => y = x ∧ H' = H) ∧ k x) := Ad rfl
variable {t : TypeId} {a b : Int} {k : IntKind}
theorem EU {n : Int} (h1 : -9223372036854775808 ≤ n) (h2 : n ≤ 9223372036854775807) : IntKind.i64.wrap n = n := by rw [IntKind.wrap_i64]; omega
theorem ADA (h1 : -9223372036854775808 ≤ a + b) (h2 : a + b ≤ 9223372036854775807) : D6 t .add (.int .i64 a) (.int .i64 b) = some (.int .i64 (a + b)) := by
 rw [show D6 t .add (.int .i64 a) (.int .i64 b) = some (.int .i64 (IntKind.i64.wrap (a + b))) from rfl, EU h1 h2]
theorem ADv (h1 : -9223372036854775808 ≤ a - b) (h2 : a - b ≤ 9223372036854775807) : D6 t .sub (.int .i64 a) (.int .i64 b) = some (.int .i64 (a - b)) := by
 rw [show D6 t .sub (.int .i64 a) (.int .i64 b) = some (.int .i64 (IntKind.i64.wrap (a - b))) from rfl, EU h1 h2]
theorem ADU (h1 : -9223372036854775808 ≤ a * b) (h2 : a * b ≤ 9223372036854775807) : D6 t .mul (.int .i64 a) (.int .i64 b) = some (.int .i64 (a * b)) := by
 rw [show D6 t .mul (.int .i64 a) (.int .i64 b) = some (.int .i64 (IntKind.i64.wrap (a * b))) from rfl, EU h1 h2]
theorem ADN : D6 t .eql (.int k a) (.int k b) = some (.bool (decide (a = b))) := by
 rw [show D6 t .eql (.int k a) (.int k b) = some (.bool (a == b)) from by simp [D6, binOp, Op.intCmp]; rfl]; rfl
theorem ACS : D6 t .neq (.int k a) (.int k b) = some (.bool (!decide (a = b))) := by
 rw [show D6 t .neq (.int k a) (.int k b) = some (.bool (a != b)) from by simp [D6, binOp, Op.intCmp]; rfl]; rfl
theorem AC3 : D6 t .lss (.int k a) (.int k b) = some (.bool (decide (a < b))) := by simp [D6, binOp, Op.intCmp]; rfl
theorem AD4 : D6 t .leq (.int k a) (.int k b) = some (.bool (decide (a ≤ b))) := by simp [D6, binOp, Op.intCmp]; rfl
theorem ACI : D6 t .gtr (.int k a) (.int k b) = some (.bool (decide (b < a))) := by simp [D6, binOp, Op.intCmp]; rfl
theorem ACt : D6 t .geq (.int k a) (.int k b) = some (.bool (decide (b ≤ a))) := by simp [D6, binOp, Op.intCmp]; rfl
theorem Arb : DL 0 (.val (.pointer none)) = some true := Ad rfl
theorem ApZ {i v : Nat} {p : List (Nat × Nat)} : DL 0 (.op i v p) = some false := Ad rfl
theorem Aq1 {x : TV} : DL 0 (.fp x) = some false := Ad rfl
theorem Aqb : DL 1 (.val .nilIface) = some true := Ad rfl
theorem Api {t : TypeId} {x : TV} : DL 1 (.ifc t x) = some false := Ad rfl
theorem Arx : DL 2 (.val (.map none)) = some true := Ad rfl
theorem Arf {i v : Nat} : DL 2 (.mp i v) = some false := Ad rfl
theorem ApS {i v : Nat} : DL 3 (.yl i v) = some false := Ad rfl
theorem AqA : DL 3 (.val .nilFunc) = some true := Ad rfl
theorem AsA {f : Fn} {a b : List TV} : DL 3 (.fn f a b) = some false := Ad rfl
theorem ABU {n : Int} (h0 : 0 ≤ n) (h1 : n < 18446744073709551616) : (BitVec.ofInt 64 n).toNat = n.toNat := by
 rw [BitVec.toNat_ofInt]
 have : n % ((2 ^ 64 : Nat) : Int) = n := Int.emod_eq_of_lt h0 (by simpa using h1)
 rw [this]
theorem AAZ (h1 : 0 ≤ a) (h2 : a ≤ 9223372036854775807) (h3 : 0 ≤ b) (h4 : b ≤ 9223372036854775807) : D6 t .and (.int .i64 a) (.int .i64 b) = some (.int .i64 ((a.toNat &&& b.toNat : Nat) : Int)) := by
 rw [show D6 t .and (.int .i64 a) (.int .i64 b) = some (.int .i64 (IntKind.i64.wrap ((BitVec.ofInt 64 a &&& BitVec.ofInt 64 b).toNat : Int))) from rfl, BitVec.toNat_and, ABU h1 (by omega), ABU h3 (by omega)]
 have := Nat.and_le_left (n := a.toNat) (m := b.toNat)
 rw [EU (by omega) (by omega)]
theorem AE3 (h1 : 0 ≤ a) (h2 : a ≤ 9223372036854775807) (h3 : 0 ≤ b) (h4 : b ≤ 9223372036854775807) : D6 t .or (.int .i64 a) (.int .i64 b) = some (.int .i64 ((a.toNat ||| b.toNat : Nat) : Int)) := by
 rw [show D6 t .or (.int .i64 a) (.int .i64 b) = some (.int .i64 (IntKind.i64.wrap ((BitVec.ofInt 64 a ||| BitVec.ofInt 64 b).toNat : Int))) from rfl, BitVec.toNat_or, ABU h1 (by omega), ABU h3 (by omega)]
 have := Nat.or_lt_two_pow (n := 63) (x := a.toNat) (y := b.toNat) (by omega) (by omega)
 rw [EU (by omega) (by omega)]
theorem ADs {k2 : IntKind} (h1 : 0 ≤ b) (h2 : b ≤ 63) (h3 : 0 ≤ a * 2 ^ b.toNat) (h4 : a * 2 ^ b.toNat ≤ 9223372036854775807) : D6 t .shl (.int .i64 a) (.int k2 b) = some (.int .i64 (a * 2 ^ b.toNat)) := by
 have e : binOp .shl t (.int .i64 a) (.int k2 b) = pure (.int .i64 (a * 2 ^ b.toNat)) := by
  show Op.shift .shl .i64 a k2 b = _
  unfold Op.shift
  rw [if_neg (by omega)]
  have hm : min b.toNat IntKind.i64.bits = b.toNat := by
   have : IntKind.i64.bits = 64 := rfl
   omega
  simp only [hm]
  rw [EU (by omega) h4]
 unfold D6; rw [e]; rfl
theorem ADk {k2 : IntKind} (h1 : 0 ≤ b) (h2 : b ≤ 63) (h3 : 0 ≤ a) : D6 t .shr (.int .i64 a) (.int k2 b) = some (.int .i64 (a / 2 ^ b.toNat)) := by
 have e : binOp .shr t (.int .i64 a) (.int k2 b) = pure (.int .i64 (a / 2 ^ b.toNat)) := by
  show Op.shift .shr .i64 a k2 b = _
  unfold Op.shift
  rw [if_neg (by omega)]
  have hm : min b.toNat IntKind.i64.bits = b.toNat := by
   have : IntKind.i64.bits = 64 := rfl
   omega
  simp only [hm]
  rw [Int.fdiv_eq_ediv_of_nonneg _ (by exact Int.le_of_lt (Int.pow_pos (by omega)))]
 unfold D6; rw [e]; rfl
theorem ADj (h1 : 0 ≤ a) (h2 : b ≠ 0) : D6 t .rem (.int k a) (.int k b) = some (.int k (a % b)) := by
 have e : binOp .rem t (.int k a) (.int k b) = pure (.int k (a % b)) := by
  unfold binOp
  simp only [ne_eq, not_true_eq_false, if_false, Op.intDiv, h2, Int.tmod_eq_emod_of_nonneg h1]
 unfold D6; rw [e]; rfl
theorem AEh (h1 : 0 ≤ a) (h2 : 0 < b) (h3 : a ≤ 9223372036854775807) : D6 t .quo (.int .i64 a) (.int .i64 b) = some (.int .i64 (a / b)) := by
 have e : binOp .quo t (.int .i64 a) (.int .i64 b) = pure (.int .i64 (a / b)) := by
  unfold binOp
  simp only [ne_eq, not_true_eq_false, if_false, Op.intDiv, show ¬ b = 0 from by omega, Int.tdiv_eq_ediv_of_nonneg h1]
  have h4 : a / b ≤ a := Int.ediv_le_self _ h1
  have h5 : 0 ≤ a / b := Int.ediv_nonneg h1 (by omega)
  rw [EU (by omega) (by omega)]
 unfold D6; rw [e]; rfl
theorem Awc {x y : UInt8} : D6 t .xor (.int .u8 (x.toNat : Int)) (.int .u8 (y.toNat : Int)) = some (.int .u8 ((x ^^^ y).toNat : Int)) := by
 rw [show D6 t .xor (.int .u8 (x.toNat : Int)) (.int .u8 (y.toNat : Int)) = some (.int .u8 (IntKind.u8.wrap ((BitVec.ofInt 8 (x.toNat : Int) ^^^ BitVec.ofInt 8 (y.toNat : Int)).toNat : Int))) from rfl]
 rw [BitVec.ofInt_natCast, BitVec.ofInt_natCast, UInt8.toNat_xor, BitVec.toNat_xor, BitVec.toNat_ofNat, BitVec.toNat_ofNat, Nat.mod_eq_of_lt x.toNat_lt, Nat.mod_eq_of_lt y.toNat_lt]
 have := Nat.xor_lt_two_pow (n := 8) x.toNat_lt y.toNat_lt
 rw [IntKind.wrap_u8]; congr 2; omega
theorem AbT (l : List UInt8) : (str l).toList = l := by simp [str, ByteArray.toList_eq]
theorem AnM {l m : List UInt8} : (l == m) = decide (l = m) := by
 by_cases h : l = m <;> simp [h]
theorem ACb {l m : List UInt8} : D6 t .eql (.string (str l)) (.string (str m)) = some (.bool (decide (l = m))) := by
 rw [show D6 t .eql (.string (str l)) (.string (str m)) = some (.bool ((str l).toList == (str m).toList)) from rfl, AbT, AbT, AnM]
theorem ACe {l m : List UInt8} : D6 t .neq (.string (str l)) (.string (str m)) = some (.bool (!decide (l = m))) := by
 rw [show D6 t .neq (.string (str l)) (.string (str m)) = some (.bool (!((str l).toList == (str m).toList))) from rfl, AbT, AbT, AnM]
theorem ADi {b : Bool} : unV .not (.bool b) = some (.bool (!b)) := Ad rfl
theorem Atd {u : Value} : Avo (.int k a) u = true := by cases u <;> rfl
theorem Aui {s : ByteArray} {u : Value} : Avo (.string s) u = true := by cases u <;> rfl

theorem AtO {v : Value} : Afq (TV.val v) = false := Ad rfl
theorem Avy  : Afq (TV.any) = false := Ad rfl
theorem AwV {k : Nat} {cs : List TV} : Afq (TV.sl k cs) = false := Ad rfl
theorem Ayr {x : TV} : Afq (TV.fp x) = false := Ad rfl
theorem AyD {i : Nat} {v : Nat} {p : List (Nat × Nat)} : Afq (TV.op i v p) = false := Ad rfl
theorem Ayt {k : Nat} {i : Nat} {v : Nat} {p : List (Nat × Nat)} {o : Nat} {n : Nat} {cp : Nat} : Afq (TV.os k i v p o n cp) = false := Ad rfl
theorem AuB {cs : List TV} : Afq (TV.agg cs) = true := Ad rfl
theorem Avp {n : Nat} {k : Nat} {cs : List TV} : Afq (TV.arr n k cs) = true := Ad rfl
theorem Av1 {vs : List TV} : Afq (TV.tup vs) = false := Ad rfl
theorem Ave {t : TypeId} {x : TV} : Afq (TV.ifc t x) = false := Ad rfl
theorem Ayj {f : Fn} {a : List TV} {b : List TV} : Afq (TV.fn f a b) = false := Ad rfl
theorem Ax9 {i : Nat} {v : Nat} : Afq (TV.mp i v) = false := Ad rfl
theorem Aw0 {i : Nat} {v : Nat} : Afq (TV.yl i v) = false := Ad rfl
theorem ArA {v : Value} : CU (TV.val v) = false := Ad rfl
theorem Ar7  : CU (TV.any) = false := Ad rfl
theorem AuS {k : Nat} {cs : List TV} : CU (TV.sl k cs) = false := Ad rfl
theorem As0 {x : TV} : CU (TV.fp x) = false := Ad rfl
theorem Aub {i : Nat} {v : Nat} {p : List (Nat × Nat)} : CU (TV.op i v p) = false := Ad rfl
theorem Atu {k : Nat} {i : Nat} {v : Nat} {p : List (Nat × Nat)} {o : Nat} {n : Nat} {cp : Nat} : CU (TV.os k i v p o n cp) = false := Ad rfl
theorem Arq {cs : List TV} : CU (TV.agg cs) = false := Ad rfl
theorem ApY {n : Nat} {k : Nat} {cs : List TV} : CU (TV.arr n k cs) = false := Ad rfl
theorem Aqi {vs : List TV} : CU (TV.tup vs) = true := Ad rfl
theorem Asd {t : TypeId} {x : TV} : CU (TV.ifc t x) = false := Ad rfl
theorem AtQ {f : Fn} {a : List TV} {b : List TV} : CU (TV.fn f a b) = false := Ad rfl
theorem Auu {i : Nat} {v : Nat} : CU (TV.mp i v) = false := Ad rfl
theorem As4 {i : Nat} {v : Nat} : CU (TV.yl i v) = false := Ad rfl
theorem Au5  : lays (TV.any) = false := Ad rfl
theorem Aya {k : Nat} {cs : List TV} : lays (TV.sl k cs) = true := Ad rfl
theorem Axs {x : TV} : lays (TV.fp x) = true := Ad rfl
theorem AwU {i : Nat} {v : Nat} {p : List (Nat × Nat)} : lays (TV.op i v p) = true := Ad rfl
theorem AwC {k : Nat} {i : Nat} {v : Nat} {p : List (Nat × Nat)} {o : Nat} {n : Nat} {cp : Nat} : lays (TV.os k i v p o n cp) = true := Ad rfl
theorem Av5 {cs : List TV} : lays (TV.agg cs) = true := Ad rfl
theorem Av4 {n : Nat} {k : Nat} {cs : List TV} : lays (TV.arr n k cs) = true := Ad rfl
theorem Ava {vs : List TV} : lays (TV.tup vs) = false := Ad rfl
theorem AsO {t : TypeId} {x : TV} : lays (TV.ifc t x) = true := Ad rfl
theorem Axk {f : Fn} {a : List TV} {b : List TV} : lays (TV.fn f a b) = true := Ad rfl
theorem Axm {i : Nat} {v : Nat} : lays (TV.mp i v) = true := Ad rfl
theorem AxQ {i : Nat} {v : Nat} : lays (TV.yl i v) = true := Ad rfl
theorem Asg {v : Value} : EN (TV.val v) = true := Ad rfl
theorem ArT  : EN (TV.any) = true := Ad rfl
theorem AsX {k : Nat} {cs : List TV} : EN (TV.sl k cs) = true := Ad rfl
theorem Att {x : TV} : EN (TV.fp x) = true := Ad rfl
theorem Aua {i : Nat} {v : Nat} {p : List (Nat × Nat)} : EN (TV.op i v p) = false := Ad rfl
theorem AsP {k : Nat} {i : Nat} {v : Nat} {p : List (Nat × Nat)} {o : Nat} {n : Nat} {cp : Nat} : EN (TV.os k i v p o n cp) = false := Ad rfl
theorem Asa {n : Nat} {k : Nat} {cs : List TV} : EN (TV.arr n k cs) = true := Ad rfl
theorem Atv {i : Nat} {v : Nat} : EN (TV.mp i v) = false := Ad rfl
theorem Ata {i : Nat} {v : Nat} : EN (TV.yl i v) = false := Ad rfl
theorem Ap0 {v : Value} : AU (TV.val v) = 1 := Ad rfl
theorem ArZ  : AU (TV.any) = 1 := Ad rfl
theorem Avt {k : Nat} {cs : List TV} : AU (TV.sl k cs) = 1 := Ad rfl
theorem AuZ {x : TV} : AU (TV.fp x) = 1 := Ad rfl
theorem As1 {i : Nat} {v : Nat} {p : List (Nat × Nat)} : AU (TV.op i v p) = 1 := Ad rfl
theorem AsQ {k : Nat} {i : Nat} {v : Nat} {p : List (Nat × Nat)} {o : Nat} {n : Nat} {cp : Nat} : AU (TV.os k i v p o n cp) = 1 := Ad rfl
theorem Aqp {vs : List TV} : AU (TV.tup vs) = 1 := Ad rfl
theorem AqM {t : TypeId} {x : TV} : AU (TV.ifc t x) = 1 := Ad rfl
theorem Atc {f : Fn} {a : List TV} {b : List TV} : AU (TV.fn f a b) = 1 := Ad rfl
theorem Avz {i : Nat} {v : Nat} : AU (TV.mp i v) = 1 := Ad rfl
theorem AvZ {i : Nat} {v : Nat} : AU (TV.yl i v) = 1 := Ad rfl
theorem Ari {cs : List TV} : AU (.agg cs) = BP cs := by rw [AU]
theorem Ars {n k : Nat} {cs : List TV} : AU (.arr n k cs) = n * k := by rw [AU]
theorem AoD : BP [] = 0 := Ad rfl
theorem AmT {x : TV} {xs : List TV} : BP (x :: xs) = AU x + BP xs := by rw [BP]
theorem Ark {cs : List TV} : EN (.agg cs) = EJ cs := by rw [EN]
theorem ArE {t : TypeId} {x : TV} : EN (.ifc t x) = EN x := by rw [EN]
theorem Arj {cs : List TV} : EN (.tup cs) = EJ cs := by rw [EN]
theorem Ap8 : EJ [] = true := Ad rfl
theorem Apd {x : TV} {xs : List TV} : EJ (x :: xs) = (EN x && EJ xs) := by rw [EJ]
theorem Auw {k : IntKind} {n : Int} : lays (.val (.int k n)) = true := Ad rfl
theorem AqP {b : Bool} : lays (.val (.bool b)) = true := Ad rfl
theorem Anl {s : ByteArray} : lays (.val (.string s)) = true := Ad rfl
theorem AlS {p : Option Addr} : lays (.val (.pointer p)) = true := Ad rfl
theorem Ao1 {p : Option Addr} {n c : Nat} : lays (.val (.slice p n c)) = true := Ad rfl
theorem As7 {r : Option Nat} : lays (.val (.map r)) = true := Ad rfl
theorem ArF {f : Fn} {a b : Array Value} : lays (.val (.func f a b)) = true := Ad rfl
theorem Aln : lays (.val .nilFunc) = true := Ad rfl
theorem Akz : lays (.val .nilIface) = true := Ad rfl
theorem AFi {e : Env} {n : Nat} : (Opd.t n).ev e = get e n := Ad rfl
theorem AFe {e : Env} {n : Nat} : (Opd.g n).ev e = (match YK n with | some x => .fp x.tv | none => .val (.pointer (some ⟨n, 0, none⟩))) := Ad rfl
theorem AFd {e : Env} {v : Value} : (Opd.c v).ev e = .val v := Ad rfl
theorem AvR {x : TV} : VD [] x = some x := Ad rfl
theorem AtJ {i d : Nat} {p : List (Nat × Nat)} {cs : List TV} : VD ((i, d) :: p) (.agg cs) = if BP (cs.take i) = d then (cs[i]?).bind (VD p) else none := by rw [VD]
theorem Av6 {i d n k : Nat} {p : List (Nat × Nat)} {cs : List TV} : VD ((i, d) :: p) (.arr n k cs) = if d = i * k then (cs[i]?).bind (VD p) else none := by rw [VD]
theorem Aof {x y : TV} : Aen [] x y = if AU y = AU x then some y else none := by rw [Aen]
theorem AvB {i d : Nat} {p : List (Nat × Nat)} {cs : List TV} {y : TV} : Aen ((i, d) :: p) (.agg cs) y = if BP (cs.take i) = d then (cs[i]?).bind fun c => (Aen p c y).map fun c' => .agg (cs.set i c') else none := by rw [Aen]
theorem AuN {i d n k : Nat} {p : List (Nat × Nat)} {cs : List TV} {y : TV} : Aen ((i, d) :: p) (.arr n k cs) y = if d = i * k ∧ EN y = true then (cs[i]?).bind fun c => (Aen p c y).map fun c' => .arr n k (cs.set i c') else none := by rw [Aen]
theorem AoR {e : Env} : forget [] e = [] := Ad rfl
theorem AmS {e : Env} {s : Nat} {ks : List Nat} : forget (s :: ks) e = (s, get e s) :: forget ks e := Ad rfl
theorem Ara {i : Nat} : Ahg i [] = [] := Ad rfl
theorem AoH {i : Nat} {x : TV} {xs : List TV} : Ahg i (x :: xs) = (i, x) :: Ahg (i + 1) xs := Ad rfl
theorem Atm {ag : Bool} {sz : Nat} {y : TV} : Amt ag sz y = (AU y = sz ∧ Afq y = ag) := Ad rfl
theorem AoF {H : List Ob} {k k2 : Nat} {cs : List TV} : CB H k (.sl k2 cs) = if k2 = k then some cs else none := Ad rfl
theorem Anq {H : List Ob} {k : Nat} {p : Option Addr} {n c : Nat} : CB H k (.val (.slice p n c)) = if n = 0 ∧ p.isNone ∧ c = 0 then some [] else none := Ad rfl
theorem AoI {H : List Ob} {k k2 i v o n cp : Nat} {p : List (Nat × Nat)} : CB H k (.os k2 i v p o n cp) = if k2 = k then (match H[i]? with | some (.obj vr x) => if vr = v then Dp p k o n x else none | _ => none) else none := Ad rfl
theorem AmM {k k2 o n N : Nat} {cs : List TV} : Dp [] k o n (.arr N k2 cs) = if k2 = k ∧ o + n ≤ cs.length then some ((cs.drop o).take n) else none := Ad rfl
theorem ArS {e : Env} {zs : List TV} : LZ e zs [] = zs := Ad rfl
theorem Ao7 {e : Env} {zs : List TV} {i : Nat} {x : Opd} {ps : List (Nat × Opd)} : LZ e zs ((i, x) :: ps) = LZ e (zs.set i (x.ev e)) ps := Ad rfl
theorem Anj {e : Env} {ks : List Nat} : Fb e ks [] = True := Ad rfl
theorem AlW {e : Env} {ks : List Nat} {i : Nat} {x : Opd} {ps : List (Nat × Opd)} : Fb e ks ((i, x) :: ps) = ((lays (x.ev e) = true ∧ ks[i]? = some (AU (x.ev e))) ∧ Fb e ks ps) := Ad rfl
theorem Aj9 {e : Env} : Ce e [] = True := Ad rfl
theorem Ajf {e : Env} {i : Nat} {x : Opd} {ps : List (Nat × Opd)} : Ce e ((i, x) :: ps) = (EN (x.ev e) = true ∧ Ce e ps) := Ad rfl
theorem AyJ {t : Nat} {e : Env} {H : List Ob} {K : TV → Prop} : res [.tmp t] e H K = K (get e t) := Ad rfl
theorem AtH {a sz : Nat} {ag : Bool} {e : Env} {H : List Ob} {K : TV → Prop} : res [.cell a ag sz] e H K = pop (.load ag sz (.t a)) e H K := Ad rfl
theorem Aq6 {e : Env} {H : List Ob} {K : TV → Prop} : res [] e H K = ((∀ x ∈ ([] : List TV), CU x = false) ∧ K (.tup [])) := Ad rfl
theorem ADq {r s : VR} {e : Env} {H : List Ob} {K : TV → Prop} : res [r, s] e H K = AmB [r, s] e H fun xs => match xs with | [x] => K x | xs => (∀ x ∈ xs, CU x = false) ∧ K (.tup xs) := Ad rfl
theorem AsU {r s : VR} {l : List VR} {e : Env} {H : List Ob} {K : TV → Prop} : res (r :: s :: l) e H K = AmB (r :: s :: l) e H fun xs => match xs with | [x] => K x | xs => (∀ x ∈ xs, CU x = false) ∧ K (.tup xs) := Ad rfl
theorem An4 {e : Env} {H : List Ob} {K : List TV → Prop} : AmB [] e H K = K [] := Ad rfl
theorem Au0 {t : Nat} {r : List VR} {e : Env} {H : List Ob} {K : List TV → Prop} : AmB (.tmp t :: r) e H K = AmB r e H fun xs => K (get e t :: xs) := Ad rfl
theorem Amo {a sz : Nat} {ag : Bool} {r : List VR} {e : Env} {H : List Ob} {K : List TV → Prop} : AmB (.cell a ag sz :: r) e H K = pop (.load ag sz (.t a)) e H fun x => AmB r e H fun xs => K (x :: xs) := Ad rfl
theorem AlF {vr : List VR} {R : TV → List Ob → Prop} {e : Env} {H : List Ob} : Aia vr R .ret e H = res vr e H fun x => R x H := Ad rfl
theorem Ak9 {vr : List VR} {R : TV → List Ob → Prop} {e : Env} {H : List Ob} : Aia vr R .nor e H = res vr e H fun x => R x H := Ad rfl
theorem AvG {H : List Ob} {g : TV → Option TV} {v : Value} : IQ H g (TV.val v) = some (.val v) := by rw [IQ]
theorem Au7 {H : List Ob} {g : TV → Option TV}  : IQ H g (TV.any) = some (.any) := by rw [IQ]
theorem Ayz {H : List Ob} {g : TV → Option TV} {k : Nat} {cs : List TV} : IQ H g (TV.sl k cs) = some (.sl k cs) := by rw [IQ]
theorem AxW {H : List Ob} {g : TV → Option TV} {x : TV} : IQ H g (TV.fp x) = some (.fp x) := by rw [IQ]
theorem Auc {H : List Ob} {g : TV → Option TV} {n : Nat} {k : Nat} {cs : List TV} : IQ H g (TV.arr n k cs) = some (.arr n k cs) := by rw [IQ]
theorem AxP {H : List Ob} {g : TV → Option TV} {k i v o n cp : Nat} {p : List (Nat × Nat)} : IQ H g (.os k i v p o n cp) = (match H[i]? with | some (.obj vr x) => if vr = v then (Dp p k o n x).map (.sl k) else none | _ => none) := by rw [IQ]; rfl
theorem AxV {H : List Ob} {g : TV → Option TV} {i v : Nat} {p : List (Nat × Nat)} : IQ H g (.op i v p) = (match H[i]? with | some (.obj vr x) => if vr = v then (VD p x).bind fun y => (g y).map .fp else none | _ => none) := by rw [IQ]; rfl
theorem AvX {H : List Ob} {g : TV → Option TV} {cs : List TV} : IQ H g (.agg cs) = (XC H g cs).map .agg := by rw [IQ]
theorem Avd {H : List Ob} {g : TV → Option TV} {cs : List TV} : IQ H g (.tup cs) = (XC H g cs).map .tup := by rw [IQ]
theorem Auz {H : List Ob} {g : TV → Option TV} {t : TypeId} {x : TV} : IQ H g (.ifc t x) = (IQ H g x).map (.ifc t) := by rw [IQ]
theorem Ap2 {H : List Ob} {g : TV → Option TV} : XC H g [] = some [] := Ad rfl
theorem Ao9 {H : List Ob} {g : TV → Option TV} {x : TV} {xs : List TV} : XC H g (x :: xs) = (match IQ H g x, XC H g xs with | some x, some xs => some (x :: xs) | _, _ => none) := by rw [XC]; rfl
theorem ADl {H : List Ob} {x : TV} : frz H x = IQ H (An3 H 2) x := Ad rfl
theorem ABz {H : List Ob} {x : List TV} : Azs H x = XC H (An3 H 2) x := Ad rfl
theorem AzG {H : List Ob} {d : Nat} {x : TV} : An3 H (d + 1) x = IQ H (An3 H d) x := Ad rfl
theorem AxO {H : List Ob} {v : Value} : frs H (.val v) = some (.val v) := by rw [frs]
theorem Ayq {H : List Ob} : frs H .any = some .any := by rw [frs]
theorem AAe {H : List Ob} {k i v o n cp : Nat} {p : List (Nat × Nat)} : frs H (.os k i v p o n cp) = (match H[i]? with | some (.obj vr x) => if vr = v then (match Dp p k o n x with | some cs => if Tz cs then some (.sl k cs) else none | none => none) else none | _ => none) := by rw [frs]; try rfl
theorem Aw7 {H : List Ob} {cs : List TV} : frs H (.agg cs) = (AmD H cs).map .agg := by rw [frs]
theorem AwT {H : List Ob} {n k : Nat} {cs : List TV} : frs H (.arr n k cs) = if Tz cs then some (.arr n k cs) else none := by rw [frs]
theorem Axh {H : List Ob} {cs : List TV} : frs H (.tup cs) = (AmD H cs).map .tup := by rw [frs]
theorem Ax6 {H : List Ob} {t : TypeId} {x : TV} : frs H (.ifc t x) = (frs H x).map (.ifc t) := by rw [frs]
theorem Au6 {H : List Ob} : AmD H [] = some [] := by rw [AmD]
theorem Aro {H : List Ob} {x : TV} {xs : List TV} : AmD H (x :: xs) = (match frs H x, AmD H xs with | some x, some xs => some (x :: xs) | _, _ => none) := by rw [AmD]; try rfl
theorem AsF {l : List UInt8} : Tz (l.map by8) = true := by
 induction l with
 | nil => rfl
 | cons x l ih => rw [List.map_cons, Tz, ih]; rfl
theorem Atn {l : List (List UInt8)} : Tz (l.map ts) = true := by
 induction l with
 | nil => rfl
 | cons x l ih => rw [List.map_cons, Tz, ih]; rfl
theorem Avu {l : List UInt8} {i : Nat} {b : UInt8} : (l.map by8).set i (.val (.int .u8 (b.toNat : Int))) = (l.set i b).map by8 := by rw [List.map_set]
theorem At5 {l : List UInt8} : (l.map by8).map AhM = l := by
 rw [List.map_map]
 have : (AhM ∘ by8) = id := by funext b; simp
 rw [this, List.map_id]
theorem Au1 {l : List UInt8} : (∀ y ∈ l.map by8, ApH y) = True := by simp
theorem Ato {a b : Nat} : ((a : Int) + (b : Int)) = ((a + b : Nat) : Int) := by omega
theorem Axn {a b : Nat} : ((a : Int) < (b : Int)) = (a < b) := by simp
theorem Ax8 {a b : Nat} : ((a : Int) ≤ (b : Int)) = (a ≤ b) := by simp
theorem AxT {a b : Nat} : ((a : Int) = (b : Int)) = (a = b) := propext ⟨fun h => by omega, fun h => by omega⟩
theorem AwP {a : Nat} : (0 ≤ (a : Int)) = True := by simp

theorem Azp {d s : Nat} {x : TV} : get ((d, x) :: e) s = if d = s then x else get e s := Ad rfl
end
end Go.Proofs.YtfgljddikcghhaaDoor


namespace Go.Proofs.YtfgljddikcghhaaDoor
open Go.RowKit
variable [AO]
set_option linter.unusedSectionVars false
set_option linter.unusedSimpArgs false
set_option linter.unusedVariables false
set_option autoImplicit false
universe u
set_option linter.defProp false

/-- (What it marks is not looked into by simp.) -/
class Tg {α : Sort u} (a : α) : Type where
instance tg {α : Sort u} (a : α) : Tg a := {}
def vif (t : Bool) (A B : Prop) [Tg A] [Tg B] : Prop := if t = true then A else B
def BV {α : Type} (o : Option α) (K : α → Prop) [Tg K] : Prop := match o with | some y => K y | none => False
def Ea (A K : Prop) [Tg K] : Prop := A ∧ K
def BD {α : Type} (x : α) (K : α → Prop) [Tg K] : Prop := K x
def vex (K : TV → Prop) [Tg K] : Prop := ∃ x, K x
def VC (P : Program) (f : FuncId) (xs : List TV) (H : List Ob) (K : TV → List Ob → Prop) [Tg K] : Prop := Ap P f xs H K
def VY (P : Program) (id ver : Nat) (xs : List TV) (H : List Ob) (K : TV → List Ob → Prop) [Tg K] : Prop := AnQ P id ver xs H K
section
variable {A A' B K : Prop} {α : Type}
@[congr] theorem ABA {t t' : Bool} (h : t = t') : vif t A B = vif t' A B := by rw [h]
@[congr] theorem Ay4 {o o' : Option α} {K : α → Prop} (h : o = o') : BV o K = BV o' K := by rw [h]
@[congr] theorem Ay7 (h : A = A') : Ea A K = Ea A' K := by rw [h]
@[congr] theorem Ay5 {x x' : α} {K : α → Prop} (h : x = x') : BD x K = BD x' K := by rw [h]
@[congr] theorem AAh {P : Program} {c : Af} {Q : VEx → Env → List Ob → Prop} {e e' : Env} {H H' : List Ob} (he : e = e') (hH : H = H') : vwp P c Q e H = vwp P c Q e' H' := by rw [he, hH]
@[congr] theorem ABN {P : Program} {f : FuncId} {xs xs' : List TV} {H H' : List Ob} {K : TV → List Ob → Prop} (he : xs = xs') (hH : H = H') : VC P f xs H K = VC P f xs' H' K := by rw [he, hH]
@[congr] theorem AB9 {P : Program} {id ver : Nat} {xs xs' : List TV} {H H' : List Ob} {K : TV → List Ob → Prop} (he : xs = xs') (hH : H = H') : VY P id ver xs H K = VY P id ver xs' H' K := by rw [he, hH]
theorem Av2 : vif true A B = A := by simp [vif]
theorem Asv : vif false A B = B := by simp [vif]
theorem Az6 {p : Prop} [Decidable p] (h : p) : vif (decide p) A B = A := by simp [vif, h]
theorem Azu {p : Prop} [Decidable p] (h : ¬ p) : vif (decide p) A B = B := by simp [vif, h]
theorem AxD {t : Bool} : vif (!t) A B = vif t B A := by cases t <;> simp [vif]
theorem Ayu {s t : Bool} : vif (s && t) A B = vif s (vif t A B) B := by cases s <;> simp [vif]
theorem AAD {s t : Bool} : vif (s || t) A B = vif s A (vif t A B) := by cases s <;> simp [vif]
theorem Asu {y : α} {K : α → Prop} : BV (some y) K = K y := rfl
theorem Av0 {β : Type} {f : α → β} {o : Option α} {K : β → Prop} : BV (o.map f) K = BV o fun y => K (f y) := by cases o <;> rfl
theorem Axx {cs : List α} {i : Nat} {K : α → Prop} (h : i < cs.length) : BV cs[i]? K = K cs[i] := by rw [List.getElem?_eq_getElem h]; rfl
theorem Aqd (h : A) : Ea A K = K := by simp [Ea, h]
theorem AAW : Ea True K = K := by simp [Ea]
theorem Atg : Ea (A ∧ B) K = Ea A (Ea B K) := by simp [Ea, and_assoc]
theorem Axe {x : α} {K : α → Prop} : BD x K = K x := rfl
end

def Oo : Option Ob → Nat → Option TV
 | some (.obj v x), ver => if v = ver then some x else none
 | _, _ => none
theorem Ati {v : Nat} {x : TV} : Oo (some (.obj v x)) v = some x := by simp [Oo]
section
variable {H l : List Ob} {o : Ob} {n k : Nat}
theorem AAt (h : H.length = n) : (H ++ l)[n]? = l[0]? := by rw [List.getElem?_append_right (by omega), h, Nat.sub_self]
theorem AwG (h : H.length = n) : (H ++ l)[n + k]? = l[k]? := by rw [List.getElem?_append_right (by omega)]; congr 1; omega
theorem Azm (h : n < H.length) : (H ++ l)[n]? = H[n]? := List.getElem?_append_left h
theorem Azd (h : n < H.length) : (H.set n o)[n]? = some o := by simp [h]
theorem Aqz {m : Nat} (h : m ≠ n) : (H.set m o)[n]? = H[n]? := by rw [List.getElem?_set_ne h]
theorem Axt (h : H.length = n) : (H ++ l).set n o = H ++ l.set 0 o := by rw [List.set_append_right _ _ (by omega), h, Nat.sub_self]
theorem AuA (h : H.length = n) : (H ++ l).set (n + k) o = H ++ l.set k o := by rw [List.set_append_right _ _ (by omega)]; congr 2; omega
theorem Ay2 (h : n < H.length) : (H ++ l).set n o = H.set n o ++ l := List.set_append_left _ _ h
end

section
variable {P : Program} {e : Env} {H : List Ob}
def ArK (c a b : TV) (K : TV → Prop) [Tg K] : Prop := match c with | .val (.bool t) => K (if t then a else b) | _ => False
def ABX (t : TypeId) (op : BinOp) (x y : TV) (K : TV → Prop) [Tg K] : Prop := match x, y with
  | .val u, .val v => Avo u v = true ∧ (match D6 t op u v with | some r => K (.val r) | none => False)
  | _, _ => False
def Pun (op : UnOp) (x : TV) (K : TV → Prop) [Tg K] : Prop := match x with
  | .val u => (match unV op u with | some r => K (.val r) | none => False)
  | _ => False
def AuG (k : IntKind) (x : TV) (K : TV → Prop) [Tg K] : Prop := match x with
  | .val (.int _ n) => K (.val (.int k (k.wrap n)))
  | _ => False
def ABY (x : TV) (K : TV → Prop) [Tg K] : Prop := match x with
  | .val (.string s) => K (.val (.string s))
  | _ => False
def AB2 (x : Option (List TV)) (K : TV → Prop) [Tg K] : Prop := match x with
  | some cs => (∀ y ∈ cs, ApH y) ∧ K (.val (.string (str (cs.map AhM))))
  | none => False
def AoS (H : List Ob) (ag : Bool) (sz : Nat) (x : TV) (K : TV → Prop) [Tg K] : Prop := match x with
  | .fp y => Amt ag sz y ∧ K y
  | .op id ver p => (match H[id]? with
   | some (.obj v x) => v = ver ∧ (match VD p x with | some y => Amt ag sz y ∧ K y | none => False)
   | _ => False)
  | _ => False
def AfK (i off : Nat) (x : TV) (K : TV → Prop) [Tg K] : Prop := match x with
  | .op id ver p => K (.op id ver (p ++ [(i, off)]))
  | .fp (.agg cs) => BP (cs.take i) = off ∧ (match cs[i]? with | some y => K (.fp y) | none => False)
  | _ => False
def Alf (ag : Bool) (sz i off : Nat) (x : TV) (K : TV → Prop) [Tg K] : Prop := match x with
  | .agg cs => BP (cs.take i) = off ∧ (match cs[i]? with | some y => Amt ag sz y ∧ K y | none => False)
  | _ => False
def AoJ (k : Nat) (x i : TV) (K : TV → Prop) [Tg K] : Prop := match x, i with
  | .sl k' cs, .val (.int _ j) => k' = k ∧ 0 ≤ j ∧ (match cs[j.toNat]? with | some y => K (.fp y) | none => False)
  | .os k' id ver p off n cp, .val (.int _ j) => k' = k ∧ 0 ≤ j ∧ j < n ∧ K (.op id ver (p ++ [(off + j.toNat, (off + j.toNat) * k)]))
  | _, _ => False
def Ajy (n k : Nat) (x i : TV) (K : TV → Prop) [Tg K] : Prop := match x, i with
  | .fp (.arr n' k' cs), .val (.int _ j) => k' = k ∧ n' = n ∧ 0 ≤ j ∧ (match cs[j.toNat]? with | some y => K (.fp y) | none => False)
  | .op id ver p, .val (.int _ j) => 0 ≤ j ∧ j < n ∧ K (.op id ver (p ++ [(j.toNat, j.toNat * k)]))
  | _, _ => False
def AAv (ag : Bool) (n k : Nat) (x i : TV) (K : TV → Prop) [Tg K] : Prop := match x, i with
  | .arr n' k' cs, .val (.int _ j) => k' = k ∧ n' = n ∧ 0 ≤ j ∧ (match cs[j.toNat]? with | some y => Amt ag k y ∧ K y | none => False)
  | _, _ => False
def Aqv (x i : TV) (K : TV → Prop) [Tg K] : Prop := match x, i with
  | .val (.string s), .val (.int _ j) => 0 ≤ j ∧ (match (bl s)[j.toNat]? with | some b => K (by8 b) | none => False)
  | _, _ => False
def Azz (i : Nat) (x : TV) (K : TV → Prop) [Tg K] : Prop := match x with
  | .tup xs => (match xs[i]? with | some y => K y | none => False)
  | _ => False
def AsR (x : TV) (K : TV → Prop) [Tg K] : Prop := match x with
  | .val (.string s) => K (.val (.int .i64 (bl s).length))
  | _ => False
def Apk (x : TV) (K : TV → Prop) [Tg K] : Prop := match x with
  | .val (.slice _ n _) => K (.val (.int .i64 n))
  | .sl _ cs => K (.val (.int .i64 cs.length))
  | .os _ _ _ _ _ n _ => K (.val (.int .i64 n))
  | _ => False
def AkY (lo hi : Option TV) (len lim : Nat) (K : Nat → Nat → Prop) [Tg K] : Prop :=
 match (match lo with | none => some 0 | some x => (match x with | .val (.int _ i) => some i | _ => none)), (match hi with | none => some (len : Int) | some x => (match x with | .val (.int _ i) => some i | _ => none)) with
 | some l, some h => (0 ≤ l ∧ l ≤ h ∧ h ≤ lim) ∧ K l.toNat h.toNat
 | _, _ => False
def evO (e : Env) : Option Opd → Option TV
 | none => none
 | some x => some (x.ev e)
theorem AtF : evO e none = none := Ad rfl
theorem At4 {x : Opd} : evO e (some x) = some (x.ev e) := Ad rfl
theorem Aqy {lo hi : Option Opd} {len lim : Nat} {K : Nat → Nat → Prop} : bnd e lo hi len lim K = AkY (evO e lo) (evO e hi) len lim K := by
 cases lo <;> cases hi <;> rfl
def ABZ (x : TV) (lo hi : Option TV) (K : TV → Prop) [Tg K] : Prop := match x with
  | .val (.string s) => AkY lo hi (bl s).length (bl s).length fun l h => K (.val (.string (str (((bl s).drop l).take (h - l)))))
  | _ => False
def Azb (k : Nat) (x : TV) (lo hi : Option TV) (K : TV → Prop) [Tg K] : Prop := match x with
  | .sl k' cs => k' = k ∧ AkY lo hi cs.length cs.length fun l h => K (.sl k ((cs.drop l).take (h - l)))
  | .os k' id ver p off n cp => k' = k ∧ AkY lo hi n cp fun l h => K (.os k id ver p (off + l) (h - l) (cp - l))
  | .val (.slice ad 0 0) => AkY lo hi 0 0 fun l h => K (.val (.slice ad 0 0))
  | _ => False
def Aza (H : List Ob) (n k : Nat) (x : TV) (lo hi : Option TV) (K : TV → Prop) [Tg K] : Prop := match x with
  | .fp (.arr n' k' cs) => k' = k ∧ n' = n ∧ n ≤ 9223372036854775807 ∧ AkY lo hi n n fun l h => K (.sl k ((cs.drop l).take (h - l)))
  | .op id ver p => (match H[id]? with
   | some (.obj v x) => v = ver ∧ n ≤ 9223372036854775807 ∧ (match VD p x with | some (.arr n' k' cs) => k' = k ∧ n' = n ∧ AkY lo hi n n fun l h => K (.os k id ver p l (h - l) (n - l)) | _ => False)
   | _ => False)
  | _ => False
def Aoq (t : TypeId) (x : TV) (K : TV → Prop) [Tg K] : Prop := lays x = true ∧ K (.ifc t x)
def ABo (f : Fn) (first caps : List TV) (K : TV → Prop) [Tg K] : Prop := (∀ x ∈ first ++ caps, CU x = false) ∧ K (.fn f first caps)
def Amg (x : TV) (K : TV → Prop) [Tg K] : Prop := match x with
  | .op id ver p => K (.op id ver p)
  | .fp y => K (.fp y)
  | .fn (.func f) a b => K (.fn (.func f) a b)
  | .ifc t y => K (.ifc t y)
  | .val (.func (.func f) a b) => K (.val (.func (.func f) a b))
  | _ => False
def ABT (x y : TV) (K : TV → Prop) [Tg K] : Prop := match x, y with
  | .val (.int k a), .val (.int _ b) => K (.val (.int k (if b < a then b else a)))
  | _, _ => False
def ABR (x y : TV) (K : TV → Prop) [Tg K] : Prop := match x, y with
  | .val (.int k a), .val (.int _ b) => K (.val (.int k (if b > a then b else a)))
  | _, _ => False
def Alv (g : GOp) (H : List Ob) (xs : List TV) (K : TV → Prop) [Tg K] : Prop := match gev g H xs with
  | some y => K y
  | none => False
def Azt (neg : Bool) (x y : TV) (K : TV → Prop) [Tg K] : Prop := match x, y with
  | .val (.bool a), .val (.bool b) => K (.val (.bool (xor neg (a == b))))
  | _, _ => False
def AAk (neg : Bool) (x y : Option Bool) (K : TV → Prop) [Tg K] : Prop := match x, y with
  | some true, some b => K (.val (.bool (xor neg b)))
  | some false, some true => K (.val (.bool (xor neg false)))
  | _, _ => False
def AlA (H : List Ob) (sz : Nat) (x v : TV) (K : TV → List Ob → Prop) [Tg K] : Prop := (lays v = true ∧ AU v = sz) ∧ (match x with
  | .op id ver p => (match H[id]? with
   | some (.obj vr y) => vr = ver ∧ (match Aen p y v with | some y' => K .any (H.set id (.obj ver y')) | none => False)
   | _ => False)
  | _ => False)
def ABW (H : List Ob) (k bytes : Nat) (z l c : TV) (K : TV → List Ob → Prop) [Tg K] : Prop := match l, c with
  | .val (.int _ l), .val (.int _ c) => (0 ≤ l ∧ l ≤ c ∧ (bytes : Int) * c ≤ 281474976710656 ∧ c ≤ 9223372036854775807) ∧ K (.os k H.length 0 [] 0 l.toNat c.toNat) (H ++ [.obj 0 (.arr c.toNat k (List.replicate c.toNat z))])
  | _, _ => False
def Axv (k bytes : Nat) (et : TypeId) (x : TV) (y : Option (List TV)) (H : List Ob) (K : TV → List Ob → Prop) [Tg K] : Prop := match y with
  | some ys => Anb k bytes et x ys H K
  | none => False
def Apt (k : Nat) (x : TV) (y : Option (List TV)) (H : List Ob) (K : TV → List Ob → Prop) [Tg K] : Prop := match y with
  | some ys => Ah4 k x ys H K
  | none => False
def At6 (et : TypeId) (x y : TV) (H : List Ob) (K : TV → List Ob → Prop) [Tg K] : Prop := match y with
  | .val (.string s) => Anb 1 1 et x ((bl s).map by8) H K
  | _ => False
def Aoh (x y : TV) (H : List Ob) (K : TV → List Ob → Prop) [Tg K] : Prop := match y with
  | .val (.string s) => Ah4 1 x ((bl s).map by8) H K
  | _ => False
def AsN (P : Program) (f : FuncId) (x : Option (Nat × Nat × List UInt8)) (H : List Ob) (K : TV → List Ob → Prop) [Tg K] : Prop := ADz P f ∧ (match x with
  | some (j, v, l) => l.length ≤ 9223372036854775807 ∧ K (.val (.string (str l))) (H.set j (.gone v))
  | none => False)
def AB6 (H : List Ob) (x : TV) (K : TV → List Ob → Prop) [Tg K] : Prop := match x with
  | .val (.string s) => (bl s).length ≤ 9223372036854775807 ∧ K (.os 1 H.length 0 [] 0 (bl s).length (bl s).length) (H ++ [.obj 0 (.arr (bl s).length 1 ((bl s).map by8))])
  | _ => False
def Avk (k bytes : Nat) (z x n : TV) (H : List Ob) (K : TV → List Ob → Prop) [Tg K] : Prop := match x, n with
  | .val (.slice none 0 0), .val (.int .i64 j) => (0 ≤ j ∧ (bytes : Int) * j ≤ 140737488355328 ∧ j ≤ 9223372036854775807) ∧ K (.os k H.length 0 [] 0 j.toNat j.toNat) (H ++ [.obj 0 (.arr j.toNat k (List.replicate j.toNat z))])
  | _, _ => False
def Ape (H : List Ob) (K : TV → List Ob → Prop) [Tg K] : Prop := K (.val (.bool true)) H ∧ K (.val (.bool false)) H
def Awh (neg : Bool) (x : TV) (H : List Ob) (K : TV → List Ob → Prop) [Tg K] : Prop := match x with
  | .val (.slice a _ _) => K (.val (.bool (xor neg a.isNone))) H
  | .sl _ cs => (cs = [] → K (.val (.bool true)) H ∧ K (.val (.bool false)) H) ∧ (cs ≠ [] → K (.val (.bool neg)) H)
  | .os _ _ _ _ _ n _ => (n = 0 → K (.val (.bool true)) H ∧ K (.val (.bool false)) H) ∧ (n ≠ 0 → K (.val (.bool neg)) H)
  | _ => False
def Aj0 (P : Program) (x : TV) (args : List TV) (H : List Ob) (K : TV → List Ob → Prop) [Tg K] : Prop := match x with
  | .fn (.func f) first caps => AiC P f = true ∧ Ap P f (first ++ args ++ caps) H K
  | .val (.func (.func f) xs ys) => (xs.isEmpty && ys.isEmpty) = true ∧ AiC P f = true ∧ Ap P f args H K
  | .yl id ver => AnQ P id ver args H K
  | _ => False
def Gd (q : Option Bool) (b : Bool) (A B : Prop) [Tg A] [Tg B] : Prop := match q with
 | some t => if t = b then A else B
 | none => B
def evs (e : Env) (xs : List Opd) : List TV := xs.map (·.ev e)
theorem AyN : evs e [] = [] := Ad rfl
theorem Avg {x : Opd} {xs : List Opd} : evs e (x :: xs) = x.ev e :: evs e xs := Ad rfl
def Ad5 (xs : List TV) : Prop := ∀ x ∈ xs, CU x = false
theorem Ass : Ad5 [] = True := by simp [Ad5]
theorem ApB {x : TV} {xs : List TV} : Ad5 (x :: xs) = (CU x = false ∧ Ad5 xs) := by simp [Ad5]
theorem AbR {args : List Opd} : (∀ x ∈ args, CU (x.ev e) = false) = Ad5 (evs e args) := by simp [Ad5, evs]

section
variable {c c' a a' b b' x x' y y' : TV} {K : TV → Prop} {KK : TV → List Ob → Prop} {lo lo' hi hi' : Option TV} {ox ox' : Option (List TV)} {q q' q2 q2' : Option Bool} {xs xs' : List TV} {A B : Prop} {H' : List Ob}
@[congr] theorem ADo (h1 : c = c') (h2 : a = a') (h3 : b = b') : ArK c a b K = ArK c' a' b' K := by rw [h1, h2, h3]
@[congr] theorem AEp {t : TypeId} {op : BinOp} (h1 : x = x') (h2 : y = y') : ABX t op x y K = ABX t op x' y' K := by rw [h1, h2]
@[congr] theorem AE2 {op : UnOp} (h1 : x = x') : Pun op x K = Pun op x' K := by rw [h1]
@[congr] theorem ADX {k : IntKind} (h1 : x = x') : AuG k x K = AuG k x' K := by rw [h1]
@[congr] theorem AEO (h1 : x = x') : ABY x K = ABY x' K := by rw [h1]
@[congr] theorem AEz (h1 : ox = ox') : AB2 ox K = AB2 ox' K := by rw [h1]
@[congr] theorem ADT {ag : Bool} {sz : Nat} (h1 : x = x') (h2 : H = H') : AoS H ag sz x K = AoS H' ag sz x' K := by rw [h1, h2]
@[congr] theorem AzB {i o : Nat} (h1 : x = x') : AfK i o x K = AfK i o x' K := by rw [h1]
@[congr] theorem ABQ {ag : Bool} {sz i o : Nat} (h1 : x = x') : Alf ag sz i o x K = Alf ag sz i o x' K := by rw [h1]
@[congr] theorem ADH {k : Nat} (h1 : x = x') (h2 : y = y') : AoJ k x y K = AoJ k x' y' K := by rw [h1, h2]
@[congr] theorem AB8 {n k : Nat} (h1 : x = x') (h2 : y = y') : Ajy n k x y K = Ajy n k x' y' K := by rw [h1, h2]
@[congr] theorem AEx {ag : Bool} {n k : Nat} (h1 : x = x') (h2 : y = y') : AAv ag n k x y K = AAv ag n k x' y' K := by rw [h1, h2]
@[congr] theorem ACX (h1 : x = x') (h2 : y = y') : Aqv x y K = Aqv x' y' K := by rw [h1, h2]
@[congr] theorem AEN {i : Nat} (h1 : x = x') : Azz i x K = Azz i x' K := by rw [h1]
@[congr] theorem ADJ (h1 : x = x') : AsR x K = AsR x' K := by rw [h1]
@[congr] theorem AEl (h1 : x = x') : Apk x K = Apk x' K := by rw [h1]
@[congr] theorem AEH {n m : Nat} {K : Nat → Nat → Prop} {n' m' : Nat} (h1 : lo = lo') (h2 : hi = hi') (h3 : n = n') (h4 : m = m') : AkY lo hi n m K = AkY lo' hi' n' m' K := by rw [h1, h2, h3, h4]
@[congr] theorem AEP (h1 : x = x') (h2 : lo = lo') (h3 : hi = hi') : ABZ x lo hi K = ABZ x' lo' hi' K := by rw [h1, h2, h3]
@[congr] theorem AEv {k : Nat} (h1 : x = x') (h2 : lo = lo') (h3 : hi = hi') : Azb k x lo hi K = Azb k x' lo' hi' K := by rw [h1, h2, h3]
@[congr] theorem AEC {n k : Nat} (h0 : H = H') (h1 : x = x') (h2 : lo = lo') (h3 : hi = hi') : Aza H n k x lo hi K = Aza H' n k x' lo' hi' K := by rw [h0, h1, h2, h3]
@[congr] theorem ABO {t : TypeId} (h1 : x = x') : Aoq t x K = Aoq t x' K := by rw [h1]
@[congr] theorem AEy {f : Fn} {ys ys' : List TV} (h1 : xs = xs') (h2 : ys = ys') : ABo f xs ys K = ABo f xs' ys' K := by rw [h1, h2]
@[congr] theorem ADK (h1 : x = x') : Amg x K = Amg x' K := by rw [h1]
@[congr] theorem AEK (h1 : x = x') (h2 : y = y') : ABT x y K = ABT x' y' K := by rw [h1, h2]
@[congr] theorem AEL (h1 : x = x') (h2 : y = y') : ABR x y K = ABR x' y' K := by rw [h1, h2]
@[congr] theorem AEq {g : GOp} {xs xs' : List TV} (h1 : H = H') (h2 : xs = xs') : Alv g H xs K = Alv g H' xs' K := by rw [h1, h2]
@[congr] theorem AEr {n : Bool} (h1 : x = x') (h2 : y = y') : Azt n x y K = Azt n x' y' K := by rw [h1, h2]
@[congr] theorem AEs {n : Bool} (h1 : q = q') (h2 : q2 = q2') : AAk n q q2 K = AAk n q' q2' K := by rw [h1, h2]
@[congr] theorem AB5 {sz : Nat} (h0 : H = H') (h1 : x = x') (h2 : y = y') : AlA H sz x y KK = AlA H' sz x' y' KK := by rw [h0, h1, h2]
@[congr] theorem AEE {k n : Nat} {z : TV} (h0 : H = H') (h1 : x = x') (h2 : y = y') : ABW H k n z x y KK = ABW H' k n z x' y' KK := by rw [h0, h1, h2]
@[congr] theorem AEQ {k n : Nat} {et : TypeId} (h0 : H = H') (h1 : x = x') (h2 : ox = ox') : Axv k n et x ox H KK = Axv k n et x' ox' H' KK := by rw [h0, h1, h2]
@[congr] theorem AEf {k : Nat} (h0 : H = H') (h1 : x = x') (h2 : ox = ox') : Apt k x ox H KK = Apt k x' ox' H' KK := by rw [h0, h1, h2]
@[congr] theorem ADc {et : TypeId} (h0 : H = H') (h1 : x = x') (h2 : y = y') : At6 et x y H KK = At6 et x' y' H' KK := by rw [h0, h1, h2]
@[congr] theorem ABP (h0 : H = H') (h1 : x = x') (h2 : y = y') : Aoh x y H KK = Aoh x' y' H' KK := by rw [h0, h1, h2]
@[congr] theorem ACs {P : Program} {f : FuncId} {r r' : Option (Nat × Nat × List UInt8)} (h0 : H = H') (h1 : r = r') : AsN P f r H KK = AsN P f r' H' KK := by rw [h0, h1]
@[congr] theorem AC0 {k n : Nat} {z : TV} (h0 : H = H') (h1 : x = x') (h2 : y = y') : Avk k n z x y H KK = Avk k n z x' y' H' KK := by rw [h0, h1, h2]
@[congr] theorem AEt {n : Bool} (h0 : H = H') (h1 : x = x') : Awh n x H KK = Awh n x' H' KK := by rw [h0, h1]
@[congr] theorem ACW (h0 : H = H') : Ape H KK = Ape H' KK := by rw [h0]
@[congr] theorem AEw (h0 : H = H') (h1 : x = x') : AB6 H x KK = AB6 H' x' KK := by rw [h0, h1]
@[congr] theorem AB4 (h0 : H = H') (h1 : x = x') (h2 : xs = xs') : Aj0 P x xs H KK = Aj0 P x' xs' H' KK := by rw [h0, h1, h2]
@[congr] theorem AFj {b : Bool} (h1 : q = q') : Gd q b A B = Gd q' b A B := by rw [h1]
end

section
variable {K : TV → Prop} {KK : TV → List Ob → Prop} {x y i a b c : Opd} {lo hi : Option Opd}
theorem ADC : pop (.mov x) e H K = BD (x.ev e) K := Ad rfl
theorem Azn : pop (.pick c a b) e H K = ArK (c.ev e) (a.ev e) (b.ev e) K := Ad rfl
theorem ACo {t : TypeId} {op : BinOp} : pop (.bin t op x y) e H K = ABX t op (x.ev e) (y.ev e) K := Ad rfl
theorem AER {op : UnOp} : pop (.un op x) e H K = Pun op (x.ev e) K := Ad rfl
theorem AAl {k : IntKind} : pop (.conv k x) e H K = AuG k (x.ev e) K := Ad rfl
theorem AD0 : pop (.s2s x) e H K = ABY (x.ev e) K := Ad rfl
theorem AEn : pop (.b2s x) e H K = AB2 (CB H 1 (x.ev e)) K := Ad rfl
theorem AAM {ag : Bool} {sz : Nat} : pop (.load ag sz x) e H K = AoS H ag sz (x.ev e) K := Ad rfl
theorem Awa {n o : Nat} : pop (.fieldA n o x) e H K = AfK n o (x.ev e) K := Ad rfl
theorem Axc {ag : Bool} {sz n o : Nat} : pop (.field ag sz n o x) e H K = Alf ag sz n o (x.ev e) K := Ad rfl
theorem AAw {k : Nat} : pop (.idxA k x i) e H K = AoJ k (x.ev e) (i.ev e) K := Ad rfl
theorem AxM {n k : Nat} : pop (.idxAA n k x i) e H K = Ajy n k (x.ev e) (i.ev e) K := Ad rfl
theorem AC7 {ag : Bool} {n k : Nat} : pop (.idx ag n k x i) e H K = AAv ag n k (x.ev e) (i.ev e) K := Ad rfl
theorem ABf : pop (.idxS x i) e H K = Aqv (x.ev e) (i.ev e) K := Ad rfl
theorem ADt {n : Nat} : pop (.ext n x) e H K = Azz n (x.ev e) K := Ad rfl
theorem AzV : pop (.lenS x) e H K = AsR (x.ev e) K := Ad rfl
theorem ABp : pop (.lenV x) e H K = Apk (x.ev e) K := Ad rfl
theorem AD7 : pop (.slS x lo hi) e H K = ABZ (x.ev e) (evO e lo) (evO e hi) K := by
 show (match x.ev e with | .val (.string s) => bnd e lo hi (bl s).length (bl s).length fun l h => K (.val (.string (str (((bl s).drop l).take (h - l))))) | _ => False) = _
 simp only [Aqy]; rfl
theorem ADd {k : Nat} : pop (.slV k x lo hi) e H K = Azb k (x.ev e) (evO e lo) (evO e hi) K := by
 rw [ACc]; simp only [Aqy]; rfl
theorem ADp {n k : Nat} : pop (.slA n k x lo hi) e H K = Aza H n k (x.ev e) (evO e lo) (evO e hi) K := by
 rw [ACC]; simp only [Aqy]; rfl
theorem AwB {t : TypeId} : pop (.iface t x) e H K = Aoq t (x.ev e) K := Ad rfl
theorem AEb {f : Fn} {xs ys : List Opd} : pop (.mkf f xs ys) e H K = ABo f (evs e xs) (evs e ys) K := by
 rw [AEm]; unfold ABo evs; rw [← List.map_append]
 refine congrArg (· ∧ _) (propext ⟨fun h y hy => ?_, fun h y hy => h _ (List.mem_map.2 ⟨y, hy, rfl⟩)⟩)
 obtain ⟨z, hz, rfl⟩ := List.mem_map.1 hy; exact h z hz
theorem AAd : pop (.nilc x) e H K = Amg (x.ev e) K := Ad rfl
theorem AD3 : pop (.min x y) e H K = ABT (x.ev e) (y.ev e) K := Ad rfl
theorem ACw : pop (.max x y) e H K = ABR (x.ev e) (y.ev e) K := Ad rfl
theorem ACv {g : GOp} {xs : List Opd} : pop (.gen g xs) e H K = Alv g H (evs e xs) K := Ad rfl
theorem ACK {n : Bool} : pop (.eqB x y n) e H K = Azt n (x.ev e) (y.ev e) K := Ad rfl
theorem AD6 {kd : Nat} {n : Bool} : pop (.eqN kd x y n) e H K = AAk n (DL kd (x.ev e)) (DL kd (y.ev e)) K := Ad rfl
theorem Aye {zs : List TV} {szs : List Nat} {ps : List (Nat × Opd)} : pop (.build zs szs ps) e H K = Ea (Fb e szs ps) (BD (TV.agg (LZ e zs ps)) K) := Ad rfl
theorem AsW {n k : Nat} {zs : List TV} {ps : List (Nat × Opd)} : pop (.buildA n k zs ps) e H K = Ea (Fb e (List.replicate n k) ps) (Ea (Ce e ps) (BD (TV.arr n k (LZ e zs ps)) K)) := Ad rfl
theorem AxN {z : TV} : sop P (.alloc z) e H KK = BD (H.length) fun n => BD (H ++ [.obj 0 z]) fun H' => KK (.op n 0 []) H' := Ad rfl
theorem Aug {z : TV} {t : TypeId} : sop P (.allocT z t) e H KK = BD (H.length) fun n => BD (AU z) fun m => BD (H ++ [.obj 0 z, .fact n 0 t m]) fun H' => KK (.op n 0 []) H' := Ad rfl
theorem ABh {t : TypeId} : sop P (.boxT x t) e H KK = BD (x.ev e) fun v => Ea (lays v = true) (BD (H.length) fun n => BD (AU v) fun m => BD (H ++ [.obj 0 v, .fact n 0 t m]) fun H' => KK (.op n 0 []) H') := Ad rfl
theorem Azg {f : FuncId} : sop P (.bstr f x) e H KK = AsN P f (Ao2 H (x.ev e)) H KK := Ad rfl
def Avl (x : TV) (H : List Ob) (K : TV → List Ob → Prop) [Tg K] : Prop := match x with
 | .val (.string s) => K (.op H.length 0 []) (H ++ [.sit (bl s) 0])
 | _ => False
@[congr] theorem ACq {x x' : TV} {H' : List Ob} (h1 : x = x') (h2 : H = H') : Avl x H KK = Avl x' H' KK := by rw [h1, h2]
theorem AzR : sop P (.rngS x) e H KK = Avl (x.ev e) H KK := Ad rfl
theorem Avc {s : ByteArray} : Avl (.val (.string s)) H KK = BD H.length fun n => BD (H ++ [.sit (bl s) 0]) fun H' => KK (.op n 0 []) H' := Ad rfl
def Asp : Option Ob → Option (List UInt8 × Nat)
 | some (.sit s pos) => some (s, pos)
 | _ => none
theorem Atl {s : List UInt8} {pos : Nat} : Asp (some (.sit s pos)) = some (s, pos) := Ad rfl
def Arz (x : TV) (H : List Ob) (K : TV → List Ob → Prop) [Tg K] : Prop := match x with
 | .op id 0 [] => (match H[id]? with
  | some (.sit s pos) => if pos < s.length then K (.tup [.val (.bool true), .val (.int .i64 (pos : Int)), .val (.int .i32 ((Utf8.decode (str s) pos).1 : Int))]) (H.set id (.sit s (pos + (Utf8.decode (str s) pos).2))) else K (.tup [.val (.bool false)]) H
  | _ => False)
 | _ => False
@[congr] theorem AEg {x x' : TV} {H' : List Ob} (h1 : x = x') (h2 : H = H') : Arz x H KK = Arz x' H' KK := by rw [h1, h2]
theorem AAS : sop P (.nxtS x) e H KK = Arz (x.ev e) H KK := Ad rfl
theorem Au3 {id : Nat} : Arz (.op id 0 []) H KK = BV (Asp H[id]?) fun p => vif (decide (p.2 < p.1.length))
  (BD (H.set id (.sit p.1 (p.2 + (Utf8.decode (str p.1) p.2).2))) fun H' => KK (.tup [.val (.bool true), .val (.int .i64 (p.2 : Int)), .val (.int .i32 ((Utf8.decode (str p.1) p.2).1 : Int))]) H') (KK (.tup [.val (.bool false)]) H) := by
 unfold Arz
 cases h : H[id]? with
 | none => simp [Asp, BV, h]
 | some o =>
  cases o with
  | sit s pos => simp only [h, Asp, BV, BD]; by_cases hp : pos < s.length <;> simp [vif, hp]
  | _ => simp [Asp, BV, h]
theorem AEj : sop P (.box x) e H KK = BD (x.ev e) fun v => Ea (lays v = true) (BD (H.length) fun n => BD (H ++ [.obj 0 v]) fun H' => KK (.op n 0 []) H') := Ad rfl
theorem AvH {k n : Nat} {z : TV} {ps : List (Nat × Opd)} : sop P (.bslice k n z ps) e H KK = Ea (Fb e (List.replicate n k) ps) (Ea (Ce e ps ∧ n ≤ 1000) (BD H.length fun m => BD (H ++ [.obj 0 (.arr n k (LZ e (List.replicate n z) ps))]) fun H' => KK (.os k m 0 [] 0 n n) H')) := by
 rw [AuU]; simp only [Ea, BD, and_assoc]
/-- Maps. -/
def Aab (kk : MK) : Option Ob → Option (List (List UInt8 × TV))
 | some (.mpo kk' es) => if kk' = kk then some es else none
 | _ => none
theorem AuY {kk : MK} {es : List (List UInt8 × TV)} : Aab kk (some (.mpo kk es)) = some es := by simp [Aab]
theorem AzA {l : List UInt8} : CP .str (.val (.string (str l))) = some l := by simp [CP, bl, str]
theorem AAY {n : Nat} {l : List UInt8} : CP (.arr n) (.arr n 1 (l.map by8)) = some l := by
 unfold CP; simp only [Aib, AhR, and_self, if_true]
theorem AxU {z : TV} {r : Option TV} : AiP z false r = r.getD z := by simp [AiP]
theorem AyG {z : TV} {r : Option TV} : AiP z true r = .tup [r.getD z, .val (.bool r.isSome)] := by simp [AiP]
def Ay8 (x : TV) (A : Prop) [Tg A] : Prop := match x with
 | .val (.int _ _) => A
 | _ => False
@[congr] theorem AEB {x x' : TV} {A : Prop} (h : x = x') : Ay8 x A = Ay8 x' A := by rw [h]
theorem AwL {q : IntKind} {n : Int} {A : Prop} : Ay8 (.val (.int q n)) A = A := by simp [Ay8]
theorem AzO {kk : MK} : sop P (.mkm kk none) e H KK = BD H.length fun n => BD (H ++ [.mpo kk []]) fun H' => KK (.mp n 0) H' := by simp [sop, BD]
theorem AAg {kk : MK} : sop P (.mkm kk (some x)) e H KK = Ay8 (x.ev e) (BD H.length fun n => BD (H ++ [.mpo kk []]) fun H' => KK (.mp n 0) H') := by
 simp only [sop, BD, Ay8]
 cases x.ev e with
 | val v => cases v <;> simp
 | _ => simp
def Aqw (kk : MK) (m k v : TV) (H : List Ob) (K : TV → List Ob → Prop) [Tg K] : Prop := match m, CP kk k with
 | .mp id 0, some kb => (match H[id]? with
  | some (.mpo kk' es) => (kk' = kk ∧ lays v = true) ∧ K .any (H.set id (.mpo kk (Ae8 kb v es)))
  | _ => False)
 | _, _ => False
@[congr] theorem ACF {kk : MK} {H' : List Ob} {m m' k k' v v' : TV} (h1 : m = m') (h2 : k = k') (h3 : v = v') (h4 : H = H') : Aqw kk m k v H KK = Aqw kk m' k' v' H' KK := by rw [h1, h2, h3, h4]
theorem AzS {kk : MK} {m k : Opd} : sop P (.mupd kk m k x) e H KK = Aqw kk (m.ev e) (k.ev e) (x.ev e) H KK := Ad rfl
def Aqa (kk : MK) (z m k : TV) (H : List Ob) (K : TV → List Ob → Prop) [Tg K] : Prop := match m, CP kk k with
 | .mp id 0, some kb => (match H[id]? with
  | some (.mpo kk' es) => kk' = kk ∧ K (.tup [(Ac6 kb es).getD z, .val (.int .i64 (Anf kb es))]) (H.set id (.mpo kk (Ae8 kb ((Ac6 kb es).getD z) es)))
  | _ => False)
 | _, _ => False
@[congr] theorem ADe {kk : MK} {H' : List Ob} {z m m' k k' : TV} (h1 : m = m') (h2 : k = k') (h4 : H = H') : Aqa kk z m k H KK = Aqa kk z m' k' H' KK := by rw [h1, h2, h4]
theorem AzT {kk : MK} {z : TV} {m k : Opd} : sop P (.ment kk z m k) e H KK = Aqa kk z (m.ev e) (k.ev e) H KK := Ad rfl
def Ap9 (m st v : TV) (H : List Ob) (K : TV → List Ob → Prop) [Tg K] : Prop := match m, st with
 | .mp id 0, .val (.int _ j) => (match H[id]? with
  | some (.mpo kk es) => (0 ≤ j ∧ lays v = true) ∧ (match es[j.toNat]? with
   | some (k, _) => K .any (H.set id (.mpo kk (es.set j.toNat (k, v))))
   | none => False)
  | _ => False)
 | _, _ => False
@[congr] theorem ACz {H' : List Ob} {m m' st st' v v' : TV} (h1 : m = m') (h2 : st = st') (h3 : v = v') (h4 : H = H') : Ap9 m st v H KK = Ap9 m' st' v' H' KK := by rw [h1, h2, h3, h4]
theorem AzH {m st : Opd} : sop P (.mest m st x) e H KK = Ap9 (m.ev e) (st.ev e) (x.ev e) H KK := Ad rfl
theorem Axo {sz : Nat} : sop P (.store sz x y) e H KK = AlA H sz (x.ev e) (y.ev e) KK := Ad rfl
theorem ACk {k n : Nat} {z : TV} : sop P (.mks k n z x y) e H KK = ABW H k n z (x.ev e) (y.ev e) KK := Ad rfl
theorem AC1 {k n : Nat} {et : TypeId} : sop P (.app k n et x y) e H KK = Axv k n et (x.ev e) (CB H k (y.ev e)) H KK := Ad rfl
theorem AAn {et : TypeId} : sop P (.appS et x y) e H KK = At6 et (x.ev e) (y.ev e) H KK := Ad rfl
theorem AzL {k : Nat} : sop P (.copy k x y) e H KK = Apt k (x.ev e) (CB H k (y.ev e)) H KK := Ad rfl
theorem Axw : sop P (.copyS x y) e H KK = Aoh (x.ev e) (y.ev e) H KK := Ad rfl
theorem AAo {k n : Nat} {z : TV} : sop P (.appZ k n z x y) e H KK = Avk k n z (x.ev e) (y.ev e) H KK := Ad rfl
theorem AEk {n : Bool} : sop P (.eqS x n) e H KK = Awh n (x.ev e) H KK := Ad rfl
theorem ACB : sop P (.s2b x) e H KK = AB6 H (x.ev e) KK := Ad rfl
theorem ABc {f : FuncId} {args : List Opd} : sop P (.call f args) e H KK = BD (evs e args) fun xs => Ea (Ad5 xs) (VC P f xs H KK) := by
 rw [AAf, AbR]; rfl
theorem AwS {args : List Opd} : sop P (.callv x args) e H KK = BD (evs e args) fun xs => Ea (Ad5 xs) (Aj0 P (x.ev e) xs H KK) := by
 rw [AyF, AbR]; rfl
end

section
variable {K : TV → Prop} {KK : TV → List Ob → Prop} {x y : TV} {cs ys : List TV} {n n' k k' : Nat} {id ver off cp : Nat} {p : List (Nat × Nat)} {j : Int} {q : IntKind} {lo hi : Option TV}
theorem AvM {t : Bool} : ArK (.val (.bool t)) x y K = vif t (K x) (K y) := by cases t <;> simp [ArK, vif]
theorem AyX {t : TypeId} {op : BinOp} {u v : Value} : ABX t op (.val u) (.val v) K = Ea (Avo u v = true) (BV (D6 t op u v) fun r => BD (TV.val r) K) := by
 show (_ ∧ _) = _; cases D6 t op u v <;> rfl
theorem Az2 {op : UnOp} {u : Value} : Pun op (.val u) K = BV (unV op u) fun r => BD (TV.val r) K := by
 unfold Pun; simp only; cases unV op u <;> rfl
theorem AuK {k : IntKind} : AuG k (.val (.int q j)) K = BD (TV.val (.int k (k.wrap j))) K := Ad rfl
theorem Axp {s : ByteArray} : ABY (.val (.string s)) K = K (.val (.string s)) := Ad rfl
theorem AxC : AB2 (some cs) K = Ea (∀ y ∈ cs, ApH y) (BD (TV.val (.string (str (cs.map AhM)))) K) := Ad rfl
theorem AsT {ag : Bool} {sz : Nat} : AoS H ag sz (.fp y) K = Ea (Amt ag sz y) (K y) := Ad rfl
theorem Auk {ag : Bool} {sz : Nat} : AoS H ag sz (.op id ver p) K = BV (Oo H[id]? ver) fun x => BV (VD p x) fun y => Ea (Amt ag sz y) (K y) := by
 unfold AoS
 simp only
 cases h : H[id]? with
 | none => simp [Oo, BV]
 | some o =>
  cases o with
  | gone v => simp [Oo, BV]
  | ice v m y => simp [Oo, BV]
  | fact i v t m => simp [Oo, BV]
  | bld v t l => simp [Oo, BV]
  | lp st pe fn N en ps ca cb => simp [Oo, BV]
  | mpo kk es => simp [Oo, BV]
  | sit s pos => simp [Oo, BV]
  | obj v x =>
   by_cases hv : v = ver
   ·subst hv; simp only [Oo, BV, Ea, if_true, true_and]; cases VD p x <;> rfl
   ·simp [Oo, BV, hv]
theorem Apb {i o : Nat} : AfK i o (.op id ver p) K = BD (p ++ [(i, o)]) fun p => K (.op id ver p) := Ad rfl
theorem Apy {i o : Nat} : AfK i o (.fp (.agg cs)) K = Ea (BP (cs.take i) = o) (BV cs[i]? fun y => K (.fp y)) := by
 unfold AfK; simp only; cases cs[i]? <;> rfl
theorem AqI {ag : Bool} {sz i o : Nat} : Alf ag sz i o (.agg cs) K = Ea (BP (cs.take i) = o) (BV cs[i]? fun y => Ea (Amt ag sz y) (K y)) := by
 unfold Alf; simp only; cases cs[i]? <;> rfl
theorem At9 : AoJ k (.sl k cs) (.val (.int q j)) K = Ea (0 ≤ j) (BV cs[j.toNat]? fun y => K (.fp y)) := by
 unfold AoJ; simp only [true_and]; cases cs[j.toNat]? <;> rfl
theorem AuC : AoJ k (.os k id ver p off n cp) (.val (.int q j)) K = Ea (0 ≤ j ∧ j < n) (BD (off + j.toNat) fun m => BD (p ++ [(m, m * k)]) fun p => K (.op id ver p)) := by
 show (k = k ∧ _) = _; simp [Ea, BD, and_assoc]
theorem Aq8 : Ajy n k (.fp (.arr n k cs)) (.val (.int q j)) K = Ea (0 ≤ j) (BV cs[j.toNat]? fun y => K (.fp y)) := by
 unfold Ajy; simp only [true_and]; cases cs[j.toNat]? <;> rfl
theorem Ap6 : Ajy n k (.op id ver p) (.val (.int q j)) K = Ea (0 ≤ j ∧ j < n) (BD j.toNat fun m => BD (p ++ [(m, m * k)]) fun p => K (.op id ver p)) := by
 show (_ ∧ _) = _; simp [Ea, BD, and_assoc]
theorem Ayc {ag : Bool} : AAv ag n k (.arr n k cs) (.val (.int q j)) K = Ea (0 ≤ j) (BV cs[j.toNat]? fun y => Ea (Amt ag k y) (K y)) := by
 unfold AAv; simp only [true_and]; cases cs[j.toNat]? <;> rfl
theorem AuM {s : ByteArray} : Aqv (.val (.string s)) (.val (.int q j)) K = Ea (0 ≤ j) (BV (bl s)[j.toNat]? fun b => K (by8 b)) := by
 unfold Aqv; simp only; cases (bl s)[j.toNat]? <;> rfl
theorem Ax3 {i : Nat} : Azz i (.tup cs) K = BV cs[i]? K := by
 unfold Azz; simp only; cases cs[i]? <;> rfl
theorem Avs {s : ByteArray} : AsR (.val (.string s)) K = BD (TV.val (.int .i64 (bl s).length)) K := Ad rfl
theorem AvE : Apk (.sl k cs) K = BD (TV.val (.int .i64 cs.length)) K := Ad rfl
theorem AtW : Apk (.os k id ver p off n cp) K = K (.val (.int .i64 n)) := Ad rfl
theorem Ase {ad : Option Addr} {c : Nat} : Apk (.val (.slice ad n c)) K = K (.val (.int .i64 n)) := Ad rfl
section
variable {len lim : Nat} {KN : Nat → Nat → Prop} {l h : Int} {q2 : IntKind}
theorem AyS : AkY none none len lim KN = Ea (len ≤ lim) (KN 0 len) := by
 show ((0 ≤ (0:Int) ∧ (0:Int) ≤ (len : Int) ∧ (len : Int) ≤ lim) ∧ KN (Int.toNat 0) (Int.toNat len)) = _
 simp [Ea]
theorem AxA : AkY (some (.val (.int q l))) none len lim KN = Ea (0 ≤ l ∧ l ≤ len ∧ (len : Int) ≤ lim) (BD l.toNat fun l => KN l len) := by
 show ((0 ≤ l ∧ l ≤ (len : Int) ∧ (len : Int) ≤ lim) ∧ KN l.toNat (Int.toNat len)) = _
 simp [Ea, BD]
theorem Aw5 : AkY none (some (.val (.int q h))) len lim KN = Ea (0 ≤ h ∧ h ≤ lim) (BD h.toNat fun h => KN 0 h) := by
 show ((0 ≤ (0:Int) ∧ 0 ≤ h ∧ h ≤ lim) ∧ KN (Int.toNat 0) h.toNat) = _
 simp [Ea, BD]
theorem Axi : AkY (some (.val (.int q l))) (some (.val (.int q2 h))) len lim KN = Ea (0 ≤ l ∧ l ≤ h ∧ h ≤ lim) (BD l.toNat fun l => BD h.toNat fun h => KN l h) := Ad rfl
end
theorem AxK {s : ByteArray} : ABZ (.val (.string s)) lo hi K = AkY lo hi (bl s).length (bl s).length fun l h => BD (((bl s).drop l).take (h - l)) fun r => K (.val (.string (str r))) := Ad rfl
theorem Aw4 : Azb k (.sl k cs) lo hi K = AkY lo hi cs.length cs.length fun l h => BD ((cs.drop l).take (h - l)) fun r => K (.sl k r) := by
 exact propext ⟨fun h => h.2, fun h => ⟨rfl, h⟩⟩
theorem AxY : Azb k (.os k id ver p off n cp) lo hi K = AkY lo hi n cp fun l h => BD (off + l) fun o => BD (h - l) fun m => BD (cp - l) fun c => K (.os k id ver p o m c) := by
 exact propext ⟨fun h => h.2, fun h => ⟨rfl, h⟩⟩
theorem As3 {ad : Option Addr} : Azb k (.val (.slice ad 0 0)) lo hi K = AkY lo hi 0 0 fun l h => K (.val (.slice ad 0 0)) := Ad rfl
theorem Aw6 : Aza H n k (.fp (.arr n k cs)) lo hi K = Ea (n ≤ 9223372036854775807) (AkY lo hi n n fun l h => BD ((cs.drop l).take (h - l)) fun r => K (.sl k r)) := by
 exact propext ⟨fun h => ⟨h.2.2.1, h.2.2.2⟩, fun h => ⟨rfl, rfl, h.1, h.2⟩⟩
/-- An array at the end of a way. -/
def Al8 : Option TV → Nat → Nat → Option (List TV)
 | some (.arr n' k' cs), n, k => if n' = n ∧ k' = k then some cs else none
 | _, _, _ => none
theorem Auh : Al8 (some (.arr n k cs)) n k = some cs := by simp [Al8]
theorem AwX : Aza H n k (.op id ver p) lo hi K = BV (Oo H[id]? ver) fun x => Ea (n ≤ 9223372036854775807) (BV (Al8 (VD p x) n k) fun _ => AkY lo hi n n fun l h => BD (h - l) fun m => BD (n - l) fun c => K (.os k id ver p l m c)) := by
 unfold Aza
 simp only
 cases h : H[id]? with
 | none => simp [Oo, BV]
 | some o =>
  cases o with
  | gone v => simp [Oo, BV]
  | ice v m y => simp [Oo, BV]
  | fact i v t m => simp [Oo, BV]
  | bld v t l => simp [Oo, BV]
  | lp st pe fn N en ps ca cb => simp [Oo, BV]
  | mpo kk es => simp [Oo, BV]
  | sit s pos => simp [Oo, BV]
  | obj v x =>
   by_cases hv : v = ver
   ·simp only [Oo, BV, hv, Ea, BD, if_true, true_and]
    congr 1
    cases hg : VD p x with
    | none => simp [Al8]
    | some y =>
     cases y with
     | arr n2 k2 ds =>
      by_cases h1 : n2 = n
      ·by_cases h2 : k2 = k
       ·simp [Al8, h1, h2]; exact Iff.rfl
       ·simp [Al8, h1, h2]
      ·simp [Al8, h1]
     | _ => simp [Al8]
   ·simp [Oo, BV, hv]
theorem Ap4 {t : TypeId} : Aoq t x K = Ea (lays x = true) (K (.ifc t x)) := Ad rfl
theorem Ayx {f : Fn} : ABo f cs ys K = Ea (Ad5 (cs ++ ys)) (K (.fn f cs ys)) := Ad rfl
theorem As5 : Amg (.op id ver p) K = K (.op id ver p) := Ad rfl
theorem Atf : Amg (.fp y) K = K (.fp y) := Ad rfl
theorem AuI {f : FuncId} {a b : List TV} : Amg (.fn (.func f) a b) K = K (.fn (.func f) a b) := Ad rfl
theorem AqZ {t : TypeId} : Amg (.ifc t y) K = K (.ifc t y) := Ad rfl
theorem AoM {f : FuncId} {a b : Array Value} : Amg (.val (.func (.func f) a b)) K = K (.val (.func (.func f) a b)) := Ad rfl
section
variable {a b : Int} {q2 : IntKind}
theorem Ax0 : ABT (.val (.int q a)) (.val (.int q2 b)) K = vif (decide (b < a)) (K (.val (.int q b))) (K (.val (.int q a))) := by
 show K _ = _
 by_cases h : b < a <;> simp [vif, h]
theorem Aw8 : ABR (.val (.int q a)) (.val (.int q2 b)) K = vif (decide (a < b)) (K (.val (.int q b))) (K (.val (.int q a))) := by
 show K _ = _
 by_cases h : a < b <;> simp [vif, h]
theorem Av7 {q1 q2 q3 : IntKind} {l h m : Int} : Alv (.sl3 k) H [.sl k cs, .val (.int q1 l), .val (.int q2 h), .val (.int q3 m)] K = Ea (0 ≤ l ∧ l ≤ h ∧ h ≤ m ∧ m ≤ cs.length) (BD ((cs.drop l.toNat).take (h.toNat - l.toNat)) fun r => K (.sl k r)) := by
 unfold Alv gev Ea BD
 simp only [true_and]
 by_cases hc : 0 ≤ l ∧ l ≤ h ∧ h ≤ m ∧ m ≤ cs.length
 ·rw [if_pos hc]; simp [hc]
 ·rw [if_neg hc]; simp only [hc, false_and]
theorem Aup {n : Nat} {b : Bool} {xs ys : List UInt8} : Alv (.eqA n b) H [.arr n 1 (xs.map by8), .arr n 1 (ys.map by8)] K = BD (TV.val (.bool (xor b (xs == ys)))) K := by
 unfold Alv gev BD
 simp only [Aib, AhR, and_self, if_true]
theorem AtG {q : IntKind} {n : Int} : Alv .r2s H [.val (.int q n)] K = BD (TV.val (.string (Utf8.encode n))) K := Ad rfl
theorem Ar9 {a : Option Addr} {l n : Nat} : Alv .capV H [.val (.slice a l n)] K = BD (TV.val (.int .i64 (n : Int))) K := Ad rfl
theorem AvV {n : Nat} : Alv (.s2a n k) H [.sl k cs] K = Ea (0 < n ∧ n ≤ cs.length) (BD (cs.take n) fun r => K (.fp (.arr n k r))) := by
 unfold Alv gev Ea BD
 simp only [true_and]
 by_cases hc : 0 < n ∧ n ≤ cs.length
 ·rw [if_pos hc]; simp [hc]
 ·rw [if_neg hc]; simp only [hc, false_and]
theorem ABw {s t : Bool} : Azt false (.val (.bool s)) (.val (.bool t)) K = BD (TV.val (.bool (s == t))) K := by
 show K _ = _; simp [BD]
theorem ABd {s t : Bool} : Azt true (.val (.bool s)) (.val (.bool t)) K = BD (TV.val (.bool (!(s == t)))) K := by
 show K _ = _; simp [BD]
theorem AA1 {m b : Bool} : AAk m (some true) (some b) K = BD (TV.val (.bool (xor m b))) K := Ad rfl
theorem AA3 {m : Bool} : AAk m (some false) (some true) K = BD (TV.val (.bool (xor m false))) K := Ad rfl
end
theorem AuP {kk : MK} {m : Nat} {kx v : TV} : Aqw kk (.mp m 0) kx v H KK = BV (Aab kk H[m]?) fun es => BV (CP kk kx) fun kb => Ea (lays v = true) (BD (Ae8 kb v es) fun es' => BD (H.set m (.mpo kk es')) fun H' => KK .any H') := by
 unfold Aqw
 cases hh : H[m]? with
 | none => cases CP kk kx <;> simp [hh, Aab, BV]
 | some o =>
  cases o with
  | mpo kk' es =>
   by_cases hk : kk' = kk
   ·subst hk; cases CP kk' kx <;> simp [hh, Aab, BV, Ea, BD]
   ·cases CP kk kx <;> simp [hh, Aab, BV, hk]
  | _ => cases CP kk kx <;> simp [hh, Aab, BV]
theorem AsM {kk : MK} {m : Nat} {kx z : TV} : Aqa kk z (.mp m 0) kx H KK = BV (Aab kk H[m]?) fun es => BV (CP kk kx) fun kb => BD ((Ac6 kb es).getD z) fun y => BD (Anf kb es) fun p => BD (Ae8 kb y es) fun es' => BD (H.set m (.mpo kk es')) fun H' => KK (.tup [y, .val (.int .i64 (p : Int))]) H' := by
 unfold Aqa
 cases hh : H[m]? with
 | none => cases CP kk kx <;> simp [hh, Aab, BV]
 | some o =>
  cases o with
  | mpo kk' es =>
   by_cases hk : kk' = kk
   ·subst hk; cases CP kk' kx <;> simp [hh, Aab, BV, BD]
   ·cases CP kk kx <;> simp [hh, Aab, BV, hk]
  | _ => cases CP kk kx <;> simp [hh, Aab, BV]
def Aff : Option Ob → Option (MK × List (List UInt8 × TV))
 | some (.mpo kk es) => some (kk, es)
 | _ => none
theorem ArQ {kk : MK} {es : List (List UInt8 × TV)} : Aff (some (.mpo kk es)) = some (kk, es) := by simp [Aff]
theorem Aus {m j : Nat} {q : IntKind} {v : TV} : Ap9 (.mp m 0) (.val (.int q (j : Int))) v H KK = BV (Aff H[m]?) fun p => Ea (lays v = true) (BV p.2[j]? fun y => BD (p.2.set j (y.1, v)) fun es' => BD (H.set m (.mpo p.1 es')) fun H' => KK .any H') := by
 unfold Ap9
 cases hh : H[m]? with
 | none => simp [hh, Aff, BV]
 | some o =>
  cases o with
  | mpo kk' es =>
   simp only [hh, Aff, BV, Ea, BD, Int.natCast_nonneg, true_and, Int.toNat_natCast]
   cases es[j]? <;> simp
  | _ => simp [hh, Aff, BV]
theorem ApR {kk : MK} {z kx : TV} {ok : Bool} {m : Nat} : Alv (.look kk z ok) H [.mp m 0, kx] K = BV (Aab kk H[m]?) fun es => BV (CP kk kx) fun kb => BD (AiP z ok (Ac6 kb es)) K := by
 unfold Alv gev Aj5
 cases hh : H[m]? with
 | none => cases hb : CP kk kx <;> simp [hh, hb, Aab, BV]
 | some o =>
  cases o with
  | mpo kk' es =>
   by_cases hk : kk' = kk
   ·subst hk; cases hb : CP kk' kx <;> simp [hh, hb, Aab, BV, BD]
   ·cases hb : CP kk kx <;> simp [hh, hb, Aab, BV, hk]
  | _ => cases hb : CP kk kx <;> simp [hh, hb, Aab, BV]
theorem AoC {kk : MK} {z kx : TV} {ok : Bool} : Alv (.look kk z ok) H [.val (.map none), kx] K = BV (CP kk kx) fun kb => BD (AiP z ok none) K := by
 unfold Alv gev Aj5
 cases hb : CP kk kx <;> simp [hb, BV, BD]
theorem Aqf {m : Nat} : Alv .lenM H [.mp m 0] K = BV (Aff H[m]?) fun p => BD p.2.length fun n => BD (TV.val (.int .i64 (n : Int))) K := by
 unfold Alv gev Atw
 cases hh : H[m]? with
 | none => simp [hh, Aff, BV]
 | some o => cases o <;> simp [hh, Aff, BV, BD]
theorem AqC {sz : Nat} : AlA H sz (.op id ver p) y KK = Ea (lays y = true ∧ AU y = sz) (BV (Oo H[id]? ver) fun z => BV (Aen p z y) fun z' => BD (H.set id (.obj ver z')) fun H' => KK .any H') := by
 unfold AlA
 simp only [Ea]
 congr 1
 cases h : H[id]? with
 | none => simp [Oo, BV]
 | some o =>
  cases o with
  | gone v => simp [Oo, BV]
  | ice v m y => simp [Oo, BV]
  | fact i v t m => simp [Oo, BV]
  | bld v t l => simp [Oo, BV]
  | lp st pe fn N en ps ca cb => simp [Oo, BV]
  | mpo kk es => simp [Oo, BV]
  | sit s pos => simp [Oo, BV]
  | obj v x =>
   by_cases hv : v = ver
   ·subst hv; simp only [Oo, BV, BD, if_true, true_and]; cases Aen p x y <;> rfl
   ·simp [Oo, BV, hv]
theorem AyB {z : TV} {l c : Int} {q2 : IntKind} {bytes : Nat} : ABW H k bytes z (.val (.int q l)) (.val (.int q2 c)) KK = Ea (0 ≤ l ∧ l ≤ c ∧ (bytes : Int) * c ≤ 281474976710656 ∧ c ≤ 9223372036854775807) (BD l.toNat fun l => BD c.toNat fun c => BD H.length fun m => BD (H ++ [.obj 0 (.arr c k (List.replicate c z))]) fun H' => KK (.os k m 0 [] 0 l c) H') := Ad rfl
/-- A row that may grow: a nil slice, or an object of one's own. -/
theorem Atz {bytes : Nat} {et : TypeId} : Axv k bytes et (.val (.slice none 0 0)) (some ys) H KK = Ea (ys.length * bytes ≤ 140737488355328 ∧ ys.length ≤ 9223372036854775807) (BD ys.length fun n => BD H.length fun m => BD (H ++ [.obj 1 (.arr n k ys)]) fun H' => KK (.os k m 1 [] 0 n n) H') := Ad rfl
/-- The array in an object. -/
def Anh : Option TV → Nat → Option (List TV)
 | some (.arr _ k' cs), k => if k' = k then some cs else none
 | _, _ => none
theorem Avi : Anh (some (.arr n k cs)) k = some cs := by simp [Anh]
theorem AuV {v n2 : Nat} {et : TypeId} : Avf (some (.obj v (.arr n2 k cs))) v k et off n ys = some (.obj (v + 1) (.arr (n + ys.length) k ((cs.drop off).take n ++ ys))) := by simp [Avf]
theorem AnZ {v : Nat} {et : TypeId} {l m : List UInt8} : Avf (some (.bld v et l)) v 1 et 0 n (m.map by8) = some (.bld (v + 1) et (l.take n ++ m)) := by
 simp only [Avf, Aib, AhR, and_self, if_true]
theorem ArD {v : Nat} {et : TypeId} {l : List UInt8} {b : UInt8} : Avf (some (.bld v et l)) v 1 et 0 n [by8 b] = some (.bld (v + 1) et (l.take n ++ [b])) := AnZ (m := [b])
theorem AuT {v n2 : Nat} : Ay9 (some (.obj v (.arr n2 k cs))) = cs.length := by simp [Ay9]
theorem AuL {v : Nat} {et : TypeId} {l : List UInt8} : Ay9 (some (.bld v et l)) = l.length := by simp [Ay9]
theorem Ayg {bytes : Nat} {et : TypeId} : Axv k bytes et (.os k id ver [] off n cp) (some ys) H KK = BV (Avf H[id]? ver k et off n ys) fun o => Ea (off + n ≤ Ay9 H[id]? ∧ (n + ys.length) * bytes ≤ 140737488355328 ∧ n + ys.length ≤ 9223372036854775807)
   (BD (n + ys.length) fun m => BD (H.set id o) fun H' => KK (.os k id (ver + 1) [] 0 m m) H') := by
 unfold Axv Anb
 simp only [true_and]
 cases h : Avf H[id]? ver k et off n ys with
 | none => simp [BV]
 | some o => simp [BV, Ea, BD]
theorem Avj {s : ByteArray} {et : TypeId} : At6 et x (.val (.string s)) H KK = BD ((bl s).map by8) fun ys => Axv 1 1 et x (some ys) H KK := Ad rfl
/-- How many elements an array has. -/
def ACh : Option TV → Option Nat
 | some (.arr n _ _) => some n
 | _ => none
theorem AxZ : ACh (some (.arr n k cs)) = some n := Ad rfl
theorem AsV : Apt k (.os k id ver p off n cp) (some ys) H KK = BV (Oo H[id]? ver) fun z => BV (Anh (VD p z) k) fun cs => BV (ACh (VD p z)) fun N => Ea (off + n ≤ cs.length) (BV (Aen p z (.arr N k (cs.take off ++ (ys.take n ++ cs.drop (off + min ys.length n))))) fun z' =>
  BD (H.set id (.obj ver z')) fun H' => BD (TV.val (.int .i64 (min ys.length n : Nat))) fun r => KK r H') := by
 unfold Apt Ah4
 simp only [true_and]
 cases h : H[id]? with
 | none => simp [Oo, BV]
 | some o =>
  cases o with
  | gone v => simp [Oo, BV]
  | ice v m y => simp [Oo, BV]
  | fact i v t m => simp [Oo, BV]
  | bld v t l => simp [Oo, BV]
  | lp st pe fn N en ps ca cb => simp [Oo, BV]
  | mpo kk es => simp [Oo, BV]
  | sit s pos => simp [Oo, BV]
  | obj v x =>
   by_cases hv : v = ver
   ·simp only [Oo, BV, hv, if_true, true_and]
    cases hg : VD p x with
    | none => simp [Anh]
    | some y =>
     cases y with
     | arr n2 k2 ds =>
      by_cases h1 : k2 = k
      ·subst h1; simp only [Anh, ACh, Ea, BD, if_true, true_and]; refine congrArg (_ ∧ ·) ?_; cases Aen p x (.arr n2 k2 (ds.take off ++ (ys.take n ++ ds.drop (off + min ys.length n)))) <;> rfl
      ·simp [Anh, h1]
     | _ => simp [Anh]
   ·simp [Oo, BV, hv]
theorem ApW {s : ByteArray} : Aoh x (.val (.string s)) H KK = BD ((bl s).map by8) fun ys => Apt 1 x (some ys) H KK := Ad rfl
theorem Aur {f : FuncId} {j v : Nat} {l : List UInt8} : AsN P f (some (j, v, l)) H KK = Ea (ADz P f) (Ea (l.length ≤ 9223372036854775807) (BD (H.set j (.gone v)) fun H' => KK (.val (.string (str l))) H')) := Ad rfl
def AAi (o : Option Ob) (j v n : Nat) (a : TV) : Option (Nat × Nat × List UInt8) := match o with
 | some (.bld v3 t l) => if v3 = v ∧ t = Ak2 ∧ n = l.length ∧ AU a = 1 then some (j, v, l) else none
 | _ => none
def AtV (H : List Ob) (j v n : Nat) (a : TV) : Option (Nat × Nat × List UInt8) := AAi H[j]? j v n a
def Apx (H : List Ob) (q : Option TV) : Option (Nat × Nat × List UInt8) := match q with
 | some (.agg [a, .os 1 j v2 [] 0 n cp]) => AtV H j v2 n a
 | _ => none
theorem AuF {id ver : Nat} {p : List (Nat × Nat)} : Ao2 H (.op id ver p) = Apx H ((Oo H[id]? ver).bind (VD p)) := by
 unfold Ao2
 simp only []
 cases h : H[id]? with
 | none => simp [Oo, Apx]
 | some o =>
  cases o with
  | obj v y =>
   by_cases hv : v = ver
   ·simp only [Oo, hv, if_true, Option.bind_some]
    unfold Apx AtV AAi
    rfl
   ·simp [Oo, Apx, hv]
  | _ => simp [Oo, Apx]
theorem AuE {a : TV} {j v n cp : Nat} : Apx H (some (.agg [a, .os 1 j v [] 0 n cp])) = AtV H j v n a := Ad rfl
theorem AtU {a : TV} {j v n : Nat} : AtV H j v n a = AAi H[j]? j v n a := Ad rfl
theorem AwW {a : TV} {j v n : Nat} {l : List UInt8} (hn : n = l.length) (ha : AU a = 1) : AAi (some (.bld v 5 l)) j v n a = some (j, v, l) := by
 simp [AAi, hn, ha, Ak2]
theorem Ays {s : ByteArray} : AB6 H (.val (.string s)) KK = Ea ((bl s).length ≤ 9223372036854775807) (BD (bl s).length fun n => BD ((bl s).map by8) fun r => BD H.length fun m => BD (H ++ [.obj 0 (.arr n 1 r)]) fun H' => KK (.os 1 m 0 [] 0 n n) H') := Ad rfl
theorem AvJ {z : TV} {j : Int} {bytes : Nat} : Avk k bytes z (.val (.slice none 0 0)) (.val (.int .i64 j)) H KK = Ea (0 ≤ j ∧ (bytes : Int) * j ≤ 140737488355328 ∧ j ≤ 9223372036854775807) (BD j.toNat fun n => BD H.length fun m => BD (H ++ [.obj 0 (.arr n k (List.replicate n z))]) fun H' => KK (.os k m 0 [] 0 n n) H') := Ad rfl
theorem Ats {n : Bool} {a : Option Addr} {l c : Nat} : Awh n (.val (.slice a l c)) H KK = KK (.val (.bool (xor n a.isNone))) H := Ad rfl
theorem Ayp {n : Bool} : Awh n (.sl k cs) H KK = vif (decide (cs.length = 0)) (Ape H KK) (KK (.val (.bool n)) H) := by
 unfold Awh vif Ape
 by_cases h : cs = []
 ·subst h; simp
 ·have h2 : ¬ cs.length = 0 := fun e => h (List.length_eq_zero_iff.1 e)
  simp [h, h2]
theorem Ayd {n : Bool} {m off l cp : Nat} {p : List (Nat × Nat)} : Awh n (.os k m ver p off l cp) H KK = vif (decide (l = 0)) (Ape H KK) (KK (.val (.bool n)) H) := by
 unfold Awh vif Ape
 by_cases h : l = 0
 ·subst h; simp
 ·simp [h]
theorem Art {f : FuncId} {a b : List TV} : Aj0 P (.fn (.func f) a b) cs H KK = Ea (AiC P f = true) (BD (a ++ cs ++ b) fun xs => VC P f xs H KK) := Ad rfl
theorem AoB {f : FuncId} : Aj0 P (.val (.func (.func f) #[] #[])) cs H KK = Ea (AiC P f = true) (VC P f cs H KK) := by
 exact propext ⟨fun h => ⟨h.2.1, h.2.2⟩, fun h => ⟨rfl, h.1, h.2⟩⟩
theorem Aql : Aj0 P (.yl id ver) cs H KK = VY P id ver cs H KK := Ad rfl
theorem AEd {t : Bool} {A B : Prop} : Gd (some t) true A B = vif t A B := Ad rfl
theorem AD5 {t : Bool} {A B : Prop} : Gd (some t) false A B = vif t B A := by cases t <;> simp [Gd, vif]
theorem AE0 {b : Bool} {A B : Prop} : Gd none b A B = B := Ad rfl
end

section
variable {Q : VEx → Env → List Ob → Prop} {l : List VO} {kp : List Nat} {a b : Af}
def Atq (x : TV) (A B : Prop) [Tg A] [Tg B] : Prop := match x with
  | .val (.bool t) => if t = true then A else B
  | _ => False
@[congr] theorem ACf {x x' : TV} {A B : Prop} (h : x = x') : Atq x A B = Atq x' A B := by rw [h]
theorem As6 {t : Bool} {A B : Prop} : Atq (.val (.bool t)) A B = vif t A B := Ad rfl
theorem AEc : vwp P (.ops l kp) Q e H = Ahl P l (fun e H => BD (forget kp e) fun e => Q .nor e H) e H := Ad rfl
def AnG (zs : List Nat) (e : Env) (H : List Ob) (K : Env → List Ob → Prop) [Tg K] : Prop := Axd zs K e H
@[congr] theorem ADr {zs : List Nat} {e e' : Env} {H H' : List Ob} {K : Env → List Ob → Prop} (h1 : e = e') (h2 : H = H') : AnG zs e H K = AnG zs e' H' K := by rw [h1, h2]
theorem ACi {K : Env → List Ob → Prop} : AnG [] e H K = K e H := Ad rfl
theorem Awf {s k id ver off n cp m : Nat} {zs : List Nat} {xs : List TV} {K : Env → List Ob → Prop} (hg : get e s = .os k id ver [] off n cp) (ho : H[id]? = some (.obj ver (.arr m k xs))) (hn : off + n ≤ xs.length) (h : AnG zs ((s, .sl k ((xs.drop off).take n)) :: e) (H.set id (.gone ver)) K) : AnG (s :: zs) e H K := by
 unfold AnG at h ⊢
 rw [Axd, hg]
 simp only [ho]
 refine ⟨trivial, ?_⟩
 have : Dp [] k off n (.arr m k xs) = some ((xs.drop off).take n) := by unfold Dp; simp [VD, hn]
 rw [this]; exact h
theorem ABJ {l r : List VO} {zs kp : List Nat} : vwp P (.opsZ l zs r kp) Q e H = Ahl P l (fun e H => AnG zs e H fun e H => Ahl P r (fun e H => BD (forget kp e) fun e => Q .nor e H) e H) e H := Ad rfl
theorem AAP {n : Nat} : vwp P (.draw n l kp) Q e H = (vq P (l.take n) (fun e => Ahl P (l.drop n) (fun e H => BD (forget kp e) fun e => Q .nor e H) e H) e H) := Ad rfl
/-- What follows. -/
def Thn (P : Program) (b : Af) (Q : VEx → Env → List Ob → Prop) : VEx → Env → List Ob → Prop := fun x e H => match x with | .nor => vwp P b Q e H | .exit i => Q (.exit i) e H | .ret => Q .ret e H | .pan u => Q (.pan u) e H
theorem AyY : Thn P b Q .nor e H = vwp P b Q e H := Ad rfl
theorem Atx {i : Nat} : Thn P b Q (.exit i) e H = Q (.exit i) e H := Ad rfl
theorem AyE : Thn P b Q .ret e H = Q .ret e H := Ad rfl
theorem ACU : vwp P (.seq a b) Q e H = vwp P a (Thn P b Q) e H := Ad rfl
/-- The end of a block. -/
def Blk (id : Nat) (Q : VEx → Env → List Ob → Prop) : VEx → Env → List Ob → Prop := fun x e H => match x with | .nor => Q .nor e H | .exit i => if i = id then Q .nor e H else Q (.exit i) e H | .ret => Q .ret e H | .pan u => Q (.pan u) e H
theorem AwK {id : Nat} : Blk id Q .nor e H = Q .nor e H := Ad rfl
theorem Atk {id : Nat} : Blk id Q (.exit id) e H = Q .nor e H := by simp [Blk]
theorem AnA {id i : Nat} (h : i ≠ id) : Blk id Q (.exit i) e H = Q (.exit i) e H := by simp [Blk, h]
theorem Axz {id : Nat} : Blk id Q .ret e H = Q .ret e H := Ad rfl
theorem AyO {id : Nat} : vwp P (.block id a) Q e H = vwp P a (Blk id Q) e H := Ad rfl
theorem AAR {c : Opd} : vwp P (.cond c a b) Q e H = Atq (c.ev e) (vwp P a Q e H) (vwp P b Q e H) := Ad rfl
/-- The end of a round, from a beginning with n0 objects on. -/
def Rnd (n0 : Nat) (lv : List Nat) (Q : VEx → Env → List Ob → Prop) (I : Nat → Env → List Ob → Prop) (n : Nat) : VEx → Env → List Ob → Prop := fun x e H => match x with
 | .nor => ∃ m g, m < n ∧ (n0 ≤ g ∧ (H.length ≤ g ∨ (Ag0 g (forget lv e) = true ∧ YF g (H.take g) = true))) ∧ I m (forget lv e) (H.take g)
 | .exit i => Q (.exit i) e H | .ret => Q .ret e H | .pan u => Q (.pan u) e H
section
variable {n0 : Nat} {lv : List Nat} {I : Nat → Env → List Ob → Prop} {n : Nat}
theorem Avw {i : Nat} : Rnd n0 lv Q I n (.exit i) e H = Q (.exit i) e H := Ad rfl
theorem Ayw : Rnd n0 lv Q I n .ret e H = Q .ret e H := Ad rfl
/-- A round's end, all objects kept. -/
theorem Am (m : Nat) (hm : m < n) (h : n0 ≤ H.length) (hR : I m (forget lv e) H) : Rnd n0 lv Q I n .nor e H := by
 refine ⟨m, H.length, hm, ⟨h, .inl (Nat.le_refl _)⟩, ?_⟩
 rw [List.take_length]; exact hR
/-- A round's end; the objects from the g-th on are forgotten. -/
theorem VA (m g : Nat) (hm : m < n) (h : n0 ≤ g) (he : Ag0 g (forget lv e) = true) (hH : YF g (H.take g) = true) (hR : I m (forget lv e) (H.take g)) : Rnd n0 lv Q I n .nor e H :=
 ⟨m, g, hm, ⟨h, .inr ⟨he, hH⟩⟩, hR⟩
end
/-- A LOOP: what holds ahead of each round. -/
theorem Bi {lv : List Nat} {H0 : List Ob} (I : Nat → Env → List Ob → Prop) (n : Nat) (h0 : I n (forget lv e) H0)
  (hs : ∀ n e H, I n e H → vwp P a (Rnd H0.length lv Q I n) e H) : vwp P (.loop lv a) Q e H0 := by
 rw [AzU]
 exact ⟨I, n, h0, hs⟩
theorem o_g {d s : Nat} {o : VOp} {b : Bool} {r : List VO} {K : Env → List Ob → Prop} : Ahl P (⟨some d, o, some (s, b)⟩ :: r) K e H = Aju e s fun e q => Gd q b (vop P o e H (fun x H => Ahl P r K ((d, x) :: e) H)) (Ahl P r K ((d, .val undef) :: e) H) := by
 rw [AAE]; refine congrArg (Aju e s) ?_; funext e q; cases q <;> rfl
def Asn (x : TV) (e : Env) (s : Nat) (Q : Env → Option Bool → Prop) [Tg Q] : Prop := match x with
 | .val v => Q e (isB v)
 | .any => (∀ t, Q ((s, .val (.bool t)) :: e) (some t)) ∧ ∀ v, isB v = none → Q ((s, .val v) :: e) none
 | _ => False
@[congr] theorem ADu {x x' : TV} {s : Nat} {Q : Env → Option Bool → Prop} (h : x = x') : Asn x e s Q = Asn x' e s Q := by rw [h]
theorem AAx {s : Nat} {Q : Env → Option Bool → Prop} : Aju e s Q = Asn (get e s) e s Q := Ad rfl
theorem AwH {b : Bool} {s : Nat} {Q : Env → Option Bool → Prop} : Asn (.val (.bool b)) e s Q = Q e (some b) := Ad rfl
theorem AyP {s : Nat} {Q : Env → Option Bool → Prop} : Asn (.val undef) e s Q = Q e none := Ad rfl
theorem u_c {d : Nat} {f : FuncId} {args : List Opd} {r : List VO} {K : Env → Prop} : vq P (⟨some d, .s (.call f args), none⟩ :: r) K e H = BD (evs e args) fun xs => Ea (Ad5 xs) (vex fun x => VC P f xs H (fun y H' => y = x ∧ H' = H) ∧ vq P r K ((d, x) :: e) H) := by
 rw [AEZ, AbR]; rfl
def Gq (x : TV) (b : Bool) (A B : Prop) [Tg A] [Tg B] : Prop := match x with
 | .val v => if isB v = some b then A else B
 | _ => False
@[congr] theorem AFk {x x' : TV} {b : Bool} {A B : Prop} (h : x = x') : Gq x b A B = Gq x' b A B := by rw [h]
theorem AEU {t : Bool} {A B : Prop} : Gq (.val (.bool t)) true A B = vif t A B := by cases t <;> simp [Gq, vif, isB]
theorem AEY {b : Bool} {A B : Prop} : Gq (.val undef) b A B = B := by simp [Gq, isB, undef]
theorem AE8 {t : Bool} {A B : Prop} : Gq (.val (.bool t)) false A B = vif t B A := by cases t <;> simp [Gq, vif, isB]
theorem u_g {d s : Nat} {o : VOp} {b : Bool} {r : List VO} {K : Env → Prop} : vq P (⟨some d, o, some (s, b)⟩ :: r) K e H = Gq (get e s) b (Amj P o e H fun x => vq P r K ((d, x) :: e) H) (vq P r K ((d, .val undef) :: e) H) := Ad rfl
theorem AE7 {f : FuncId} {args : List Opd} {k : TV → Prop} : Amj P (.s (.call f args)) e H k = BD (evs e args) fun xs => Ea (Ad5 xs) (vex fun x => VC P f xs H (fun y H' => y = x ∧ H' = H) ∧ k x) := by
 rw [AxH, AbR]; rfl
def ABy (P : Program) (x : TV) (s k : Nat) (c : Af) (Q : VEx → Env → List Ob → Prop) (e : Env) (H : List Ob) : Prop := match x with
  | .val (.slice none 0 0) => vwp P c Q ((s, .os k H.length 0 [] 0 0 0) :: e) (H ++ [.obj 0 (.arr 0 k [])])
  | _ => vwp P c Q e H
@[congr] theorem AEM {x x' : TV} {s k : Nat} (h : x = x') : ABy P x s k a Q e H = ABy P x' s k a Q e H := by rw [h]
theorem ADf {s k : Nat} : vwp P (.own s k a) Q e H = ABy P (get e s) s k a Q e H := Ad rfl
theorem Auq {s k : Nat} : ABy P (.val (.slice none 0 0)) s k a Q e H = vwp P a Q ((s, .os k H.length 0 [] 0 0 0) :: e) (H ++ [.obj 0 (.arr 0 k [])]) := Ad rfl
theorem Aw9 {s k k' id ver off n cp : Nat} {p : List (Nat × Nat)} : ABy P (.os k' id ver p off n cp) s k a Q e H = vwp P a Q e H := Ad rfl
end
/-- Results. -/
theorem ADn {t : Nat} {K : TV → Prop} : res [.tmp t] e H K = BD (get e t) K := Ad rfl
theorem ABD {t : Nat} {r : List VR} {K : List TV → Prop} : AmB (.tmp t :: r) e H K = BD (get e t) fun x => AmB r e H fun xs => K (x :: xs) := Ad rfl
def AEJ (K : TV → Prop) (xs : List TV) : Prop := match xs with
 | [x] => K x
 | xs => (∀ x ∈ xs, CU x = false) ∧ K (.tup xs)
theorem AtI {x y : TV} {l : List TV} {K : TV → Prop} : AEJ K (x :: y :: l) = Ea (Ad5 (x :: y :: l)) (BD (TV.tup (x :: y :: l)) K) := Ad rfl
theorem AAF {r s : VR} {l : List VR} {K : TV → Prop} : res (r :: s :: l) e H K = AmB (r :: s :: l) e H (AEJ K) := Ad rfl
theorem Az3 {a sz : Nat} {ag : Bool} {K : TV → Prop} : res [.cell a ag sz] e H K = pop (.load ag sz (.t a)) e H K := Ad rfl
theorem ACA {K : TV → Prop} : res [] e H K = K (.tup []) := by rw [Aq6]; simp
end

def VCP (P : Program) (f : FuncId) (xs : List TV) (H : List Ob) (K : TV → List Ob → Prop) (KP : Value → List Ob → Prop) [Tg K] [Tg KP] : Prop := BR P f xs H K KP
@[congr] theorem AzM {P : Program} {f : FuncId} {xs xs' : List TV} {H H' : List Ob} {K : TV → List Ob → Prop} {KP : Value → List Ob → Prop} (he : xs = xs') (hH : H = H') : VCP P f xs H K KP = VCP P f xs' H' K KP := by rw [he, hH]
def Ay6 (x : TV) (K : Value → Prop) [Tg K] : Prop := match x with
 | .val (.iface t v) => K (.iface t v)
 | .ifc t (.val v) => K (.iface t v)
 | _ => False
@[congr] theorem AEI {x x' : TV} {K : Value → Prop} (h : x = x') : Ay6 x K = Ay6 x' K := by rw [h]
theorem AuD {t : TypeId} {v : Value} {K : Value → Prop} : Ay6 (.ifc t (.val v)) K = K (.iface t v) := Ad rfl
theorem Aym {t : TypeId} {v : Value} {K : Value → Prop} : Ay6 (.val (.iface t v)) K = K (.iface t v) := Ad rfl
section
variable {P : Program} {e : Env} {H : List Ob} {r : List VO} {K : Env → List Ob → Prop} {PP : Value → List Ob → Prop} {Q : VEx → Env → List Ob → Prop}
@[congr] theorem AyK {l : List VO} {e' : Env} {H' : List Ob} (he : e = e') (hH : H = H') : Ab0 P PP l K e H = Ab0 P PP l K e' H' := by rw [he, hH]
@[congr] theorem Aw1 {o : VOp} {e' : Env} {H' : List Ob} {KK : TV → List Ob → Prop} (he : e = e') (hH : H = H') : pvop P PP o e H KK = pvop P PP o e' H' KK := by rw [he, hH]
theorem AzI {l : List VO} {kp : List Nat} : vwp P (.pops l kp) Q e H = Ab0 P (fun u H => Q (.pan u) (AmP l e) H) l (fun e H => BD (forget kp e) fun e => Q .nor e H) e H := Ad rfl
theorem Axr {n : Nat} {l : List VO} {kp : List Nat} : vwp P (.pdraw n l kp) Q e H = (vq P (l.take n) (fun e => Ab0 P (fun u H => Q (.pan u) [] H) (l.drop n) (fun e H => BD (forget kp e) fun e => Q .nor e H) e H) e H) := Ad rfl
theorem Az5 : Ab0 P PP [] K e H = K e H := Ad rfl
theorem AFb {d : Nat} {o : VOp} : Ab0 P PP (⟨some d, o, none⟩ :: r) K e H = pvop P PP o e H (fun x H => Ab0 P PP r K ((d, x) :: e) H) := Ad rfl
theorem ACm {o : VOp} : Ab0 P PP (⟨none, o, none⟩ :: r) K e H = pvop P PP o e H (fun x H => Ab0 P PP r K e H) := Ad rfl
theorem AE6 {d s : Nat} {o : VOp} {b : Bool} : Ab0 P PP (⟨some d, o, some (s, b)⟩ :: r) K e H = Aju e s fun e q => Gd q b (pvop P PP o e H (fun x H => Ab0 P PP r K ((d, x) :: e) H)) (Ab0 P PP r K ((d, .val undef) :: e) H) := by
 show Abn (pvop P PP) _ K e H = _
 rw [Abn]
 refine congrArg (Aju e s) ?_; funext e q; cases q <;> rfl
theorem ABH {o : POp} {KK : TV → List Ob → Prop} : pvop P PP (.p o) e H KK = pop o e H fun x => KK x H := Ad rfl
theorem AqD {f : FuncId} {args : List Opd} {KK : TV → List Ob → Prop} : pvop P PP (.s (.call f args)) e H KK = BD (evs e args) fun xs => Ea (Ad5 xs) (VCP P f xs H KK PP) := by
 show ((∀ x ∈ args, CU (x.ev e) = false) ∧ _) = _
 rw [AbR]; rfl
theorem Auy {x : Opd} {KK : TV → List Ob → Prop} : pvop P PP (.s (.pan x)) e H KK = Ay6 (x.ev e) (fun u => PP u H) := by
 show (match x.ev e with | .val (.iface t v) => PP (.iface t v) H | .ifc t (.val v) => PP (.iface t v) H | _ => False) = _
 unfold Ay6
 split <;> simp_all
theorem AoL {z : TV} {KK : TV → List Ob → Prop} : pvop P PP (.s (.alloc z)) e H KK = sop P (.alloc z) e H KK := Ad rfl
theorem Avb {x : Opd} {KK : TV → List Ob → Prop} : pvop P PP (.s (.box x)) e H KK = sop P (.box x) e H KK := Ad rfl
theorem Am0 {k n : Nat} {z : TV} {ps : List (Nat × Opd)} {KK : TV → List Ob → Prop} : pvop P PP (.s (.bslice k n z ps)) e H KK = sop P (.bslice k n z ps) e H KK := Ad rfl
theorem Ao5 {sz : Nat} {x v : Opd} {KK : TV → List Ob → Prop} : pvop P PP (.s (.store sz x v)) e H KK = sop P (.store sz x v) e H KK := Ad rfl
theorem At1 {k bytes : Nat} {z : TV} {l c : Opd} {KK : TV → List Ob → Prop} : pvop P PP (.s (.mks k bytes z l c)) e H KK = sop P (.mks k bytes z l c) e H KK := Ad rfl
theorem Avr {k bytes : Nat} {et : TypeId} {x y : Opd} {KK : TV → List Ob → Prop} : pvop P PP (.s (.app k bytes et x y)) e H KK = sop P (.app k bytes et x y) e H KK := Ad rfl
theorem Aq4 {et : TypeId} {x y : Opd} {KK : TV → List Ob → Prop} : pvop P PP (.s (.appS et x y)) e H KK = sop P (.appS et x y) e H KK := Ad rfl
theorem ArJ {k n : Nat} {z : TV} {x y : Opd} {KK : TV → List Ob → Prop} : pvop P PP (.s (.appZ k n z x y)) e H KK = sop P (.appZ k n z x y) e H KK := Ad rfl
theorem Aun {x : Opd} {n : Bool} {KK : TV → List Ob → Prop} : pvop P PP (.s (.eqS x n)) e H KK = sop P (.eqS x n) e H KK := Ad rfl
theorem Ate {x : Opd} {KK : TV → List Ob → Prop} : pvop P PP (.s (.s2b x)) e H KK = sop P (.s2b x) e H KK := Ad rfl
theorem Aso {k : Nat} {x y : Opd} {KK : TV → List Ob → Prop} : pvop P PP (.s (.copy k x y)) e H KK = sop P (.copy k x y) e H KK := Ad rfl
theorem AoX {x y : Opd} {KK : TV → List Ob → Prop} : pvop P PP (.s (.copyS x y)) e H KK = sop P (.copyS x y) e H KK := Ad rfl
theorem AoP {x : Opd} {args : List Opd} {KK : TV → List Ob → Prop} : pvop P PP (.s (.callv x args)) e H KK = sop P (.callv x args) e H KK := Ad rfl
theorem Aty {kk : MK} {h : Option Opd} {KK : TV → List Ob → Prop} : pvop P PP (.s (.mkm kk h)) e H KK = sop P (.mkm kk h) e H KK := Ad rfl
theorem Aq9 {kk : MK} {m k x : Opd} {KK : TV → List Ob → Prop} : pvop P PP (.s (.mupd kk m k x)) e H KK = sop P (.mupd kk m k x) e H KK := Ad rfl
theorem Aqr {kk : MK} {z : TV} {m k : Opd} {KK : TV → List Ob → Prop} : pvop P PP (.s (.ment kk z m k)) e H KK = sop P (.ment kk z m k) e H KK := Ad rfl
theorem Asi {m st x : Opd} {KK : TV → List Ob → Prop} : pvop P PP (.s (.mest m st x)) e H KK = sop P (.mest m st x) e H KK := Ad rfl
theorem Anr {z : TV} {t : TypeId} {KK : TV → List Ob → Prop} : pvop P PP (.s (.allocT z t)) e H KK = sop P (.allocT z t) e H KK := Ad rfl
theorem ApP {x : Opd} {t : TypeId} {KK : TV → List Ob → Prop} : pvop P PP (.s (.boxT x t)) e H KK = sop P (.boxT x t) e H KK := Ad rfl
theorem Aq5 {x : Opd} {KK : TV → List Ob → Prop} : pvop P PP (.s (.rngS x)) e H KK = sop P (.rngS x) e H KK := Ad rfl
theorem AqJ {x : Opd} {KK : TV → List Ob → Prop} : pvop P PP (.s (.nxtS x)) e H KK = sop P (.nxtS x) e H KK := Ad rfl
theorem Aqs {f : FuncId} {x : Opd} {KK : TV → List Ob → Prop} : pvop P PP (.s (.bstr f x)) e H KK = sop P (.bstr f x) e H KK := Ad rfl
theorem AwQ {b : Af} {u : Value} : Thn P b Q (.pan u) e H = Q (.pan u) e H := Ad rfl
theorem AyT {id : Nat} {u : Value} : Blk id Q (.pan u) e H = Q (.pan u) e H := Ad rfl
theorem AyR {n0 : Nat} {lv : List Nat} {I : Nat → Env → List Ob → Prop} {n : Nat} {u : Value} : Rnd n0 lv Q I n (.pan u) e H = Q (.pan u) e H := Ad rfl
theorem Apw {vr : List VR} {R : TV → List Ob → Prop} {RP : Value → List Ob → Prop} : AjC vr R RP .ret e H = res vr e H fun x => R x H := Ad rfl
theorem AoU {vr : List VR} {R : TV → List Ob → Prop} {RP : Value → List Ob → Prop} : AjC vr R RP .nor e H = res vr e H fun x => R x H := Ad rfl
theorem AoZ {vr : List VR} {R : TV → List Ob → Prop} {RP : Value → List Ob → Prop} {u : Value} : AjC vr R RP (.pan u) e H = RP u H := Ad rfl
def Amx (P : Program) (PP : Value → List Ob → Prop) (Ss : List Nat) (l : List VO) (K : Env → List Ob → Prop) (e : Env) (H : List Ob) : Prop := Abn (pvopS P PP Ss) l K e H
@[congr] theorem AxX {Ss : List Nat} {l : List VO} {e' : Env} {H' : List Ob} (he : e = e') (hH : H = H') : Amx P PP Ss l K e H = Amx P PP Ss l K e' H' := by rw [he, hH]
@[congr] theorem Aww {Ss : List Nat} {o : VOp} {e' : Env} {H' : List Ob} {KK : TV → List Ob → Prop} (he : e = e') (hH : H = H') : pvopS P PP Ss o e H KK = pvopS P PP Ss o e' H' KK := by rw [he, hH]
theorem AxB {n : Nat} {l : List VO} {kp : List Nat} : vwp P (.sdraw n l kp) Q e H = (vq P (l.take n) (fun e => Amx P (fun u H => Q (.pan u) [] H) (ABv l) (l.drop n) (fun e H => BD (forget kp e) fun e => Q .nor e H) e H) e H) := Ad rfl
section
variable {Ss : List Nat}
theorem ABg : Amx P PP Ss [] K e H = K e H := Ad rfl
theorem AFh {d : Nat} {o : VOp} : Amx P PP Ss (⟨some d, o, none⟩ :: r) K e H = pvopS P PP Ss o e H (fun x H => Amx P PP Ss r K ((d, x) :: e) H) := Ad rfl
theorem AD8 {o : VOp} : Amx P PP Ss (⟨none, o, none⟩ :: r) K e H = pvopS P PP Ss o e H (fun x H => Amx P PP Ss r K e H) := Ad rfl
theorem ABB {o : POp} {KK : TV → List Ob → Prop} : pvopS P PP Ss (.p o) e H KK = pop o e H fun x => KK x H := Ad rfl
theorem Aqu {f : FuncId} {args : List Opd} {KK : TV → List Ob → Prop} : pvopS P PP Ss (.s (.call f args)) e H KK = BD (evs e args) fun xs => Ea (Ad5 xs) (VCP P f xs H (fun x H' => KK x H' ∧ Abx Ss e H H') PP) := by
 show ((∀ x ∈ args, CU (x.ev e) = false) ∧ _) = _
 rw [AbR]; rfl
theorem Apg {sz : Nat} {x v : Opd} {KK : TV → List Ob → Prop} : pvopS P PP Ss (.s (.store sz x v)) e H KK = sop P (.store sz x v) e H fun x H' => KK x H' ∧ Abx Ss e H H' := Ad rfl
theorem AoN {z : TV} {KK : TV → List Ob → Prop} : pvopS P PP Ss (.s (.alloc z)) e H KK = sop P (.alloc z) e H KK := Ad rfl
theorem AvI {k bytes : Nat} {z : TV} {l c : Opd} {KK : TV → List Ob → Prop} : pvopS P PP Ss (.s (.mks k bytes z l c)) e H KK = sop P (.mks k bytes z l c) e H KK := Ad rfl
theorem AvS {k bytes : Nat} {et : TypeId} {x y : Opd} {KK : TV → List Ob → Prop} : pvopS P PP Ss (.s (.app k bytes et x y)) e H KK = sop P (.app k bytes et x y) e H KK := Ad rfl
theorem Am5 {k n : Nat} {z : TV} {ps : List (Nat × Opd)} {KK : TV → List Ob → Prop} : pvopS P PP Ss (.s (.bslice k n z ps)) e H KK = sop P (.bslice k n z ps) e H KK := Ad rfl
end
theorem Ap.callsP {f : FuncId} {args : List TV} {R : TV → List Ob → Prop} {RP : Value → List Ob → Prop} (h : Ap P f args H R) : VCP P f args H R RP := h.mayP
theorem BR.callsP {f : FuncId} {args : List TV} {R R' : TV → List Ob → Prop} {RP RP' : Value → List Ob → Prop} (h : BR P f args H R RP) (hr : ∀ x H', R x H' → R' x H') (hp : ∀ u H', RP u H' → RP' u H') : VCP P f args H R' RP' := h.mono hr hp
end
def Ag := (And.intro (And.intro (And.intro (And.intro (And.intro (And.intro (And.intro (And.intro @ADC @Azn) (And.intro @ACo @AER)) (And.intro (And.intro @AAl @AD0) (And.intro @AEn @AAM))) (And.intro (And.intro (And.intro @Awa @Axc) (And.intro @AAw @AxM)) (And.intro (And.intro @AC7 @ABf) (And.intro @ADt @AzV)))) (And.intro (And.intro (And.intro (And.intro @ABp @AD7) (And.intro @ADd @ADp)) (And.intro (And.intro @AwB @AEb) (And.intro @AAd @AD3))) (And.intro (And.intro (And.intro @ACw @ACK) (And.intro @AD6 @ACv)) (And.intro (And.intro @Aye @AsW) (And.intro @AxN @Aug))))) (And.intro (And.intro (And.intro (And.intro (And.intro @AEj @ABh) (And.intro @Azg @AzR)) (And.intro (And.intro @AAS @AvH) (And.intro @Axo @ACk))) (And.intro (And.intro (And.intro @AC1 @AAn) (And.intro @AzL @Axw)) (And.intro (And.intro @ACB @AAo) (And.intro @AEk @AzO)))) (And.intro (And.intro (And.intro (And.intro @AAg @AzS) (And.intro @AzT @AzH)) (And.intro (And.intro @ABc @AwS) (And.intro @AEc @ABJ))) (And.intro (And.intro (And.intro @ACi @AAP) (And.intro @AA7 @ACU)) (And.intro (And.intro @AyO @AAR) (And.intro @AzK @ACR)))))) (And.intro (And.intro (And.intro (And.intro (And.intro (And.intro @AyA @ADf) (And.intro @Azr @Az7)) (And.intro (And.intro @AuQ @AAL) (And.intro @AzX @AwM))) (And.intro (And.intro (And.intro @o_g @AAx) (And.intro @ACj @ACr)) (And.intro (And.intro @AAa @AFc) (And.intro @u_c @u_g)))) (And.intro (And.intro (And.intro (And.intro @Ayo @AE7) (And.intro @AlF @Ak9)) (And.intro (And.intro @ADn @Az3) (And.intro @ACA @AAF))) (And.intro (And.intro (And.intro @An4 @ABD) (And.intro @Amo @AtI)) (And.intro (And.intro @AyY @Atx) (And.intro @AyE @AwK))))) (And.intro (And.intro (And.intro (And.intro (And.intro @Atk @AnA) (And.intro @Axz @Avw)) (And.intro (And.intro @Ayw @AzI) (And.intro @Axr @AxB))) (And.intro (And.intro (And.intro @ABg @AFh) (And.intro @AD8 @ABB)) (And.intro (And.intro @Aqu @Apg) (And.intro @AoN @AvI)))) (And.intro (And.intro (And.intro (And.intro @AvS @Am5) (And.intro @Az5 @AFb)) (And.intro (And.intro @ACm @AE6) (And.intro @ABH @AqD))) (And.intro (And.intro (And.intro @Auy @AoL) (And.intro @Avb @Am0)) (And.intro (And.intro @Ao5 @At1) (And.intro @Avr @Aq4))))))) (And.intro (And.intro (And.intro (And.intro (And.intro @Ate @ArJ) (And.intro @Aun @Aso)) (And.intro (And.intro @AoX @AoP) (And.intro @Aty @Aq9))) (And.intro (And.intro (And.intro @Aqr @Asi) (And.intro @Anr @ApP)) (And.intro (And.intro @Aq5 @AqJ) (And.intro @Aqs @AwQ)))) (And.intro (And.intro (And.intro @AyT @AyR) (And.intro @Apw @AoU)) @AoZ)))
def Ac := (And.intro (And.intro (And.intro (And.intro (And.intro (And.intro (And.intro (And.intro @Aym @AuD) (And.intro @Av2 @Asv)) (And.intro (And.intro @AxD @Ayu) (And.intro @AAD @Az6))) (And.intro (And.intro (And.intro @Azu @Asu) (And.intro @Av0 @Axx)) (And.intro (And.intro @Atg @AAW) (And.intro @Aqd @Axe)))) (And.intro (And.intro (And.intro (And.intro @Ati @AAt) (And.intro @AwG @Azm)) (And.intro (And.intro @Azd @Aqz) (And.intro @Axt @AuA))) (And.intro (And.intro (And.intro @Ay2 @AvM) (And.intro @AyX @Az2)) (And.intro (And.intro @AuK @Axp) (And.intro @AxC @AsT))))) (And.intro (And.intro (And.intro (And.intro (And.intro @Auk @Apb) (And.intro @Apy @AqI)) (And.intro (And.intro @At9 @AuC) (And.intro @Aq8 @Ap6))) (And.intro (And.intro (And.intro @Ayc @AuM) (And.intro @Ax3 @Avs)) (And.intro (And.intro @AvE @AtW) (And.intro @Ase @AyS)))) (And.intro (And.intro (And.intro (And.intro @AxA @Aw5) (And.intro @Axi @AxK)) (And.intro (And.intro @Aw4 @AxY) (And.intro @As3 @Aw6))) (And.intro (And.intro (And.intro @Auh @AwX) (And.intro @Ap4 @Ayx)) (And.intro (And.intro @As5 @Atf) (And.intro @AuI @AqZ)))))) (And.intro (And.intro (And.intro (And.intro (And.intro (And.intro @AoM @Ax0) (And.intro @Aw8 @ABw)) (And.intro (And.intro @ABd @AA1) (And.intro @AA3 @Av7))) (And.intro (And.intro (And.intro @Aup @ApR) (And.intro @AoC @Aqf)) (And.intro (And.intro @AtG @AvV) (And.intro @Ar9 @AvJ)))) (And.intro (And.intro (And.intro (And.intro @Ats @Ayp) (And.intro @Ayd @AuY)) (And.intro (And.intro @ArQ @AzA) (And.intro @AAY @AxU))) (And.intro (And.intro (And.intro @AyG @AwL) (And.intro @AuP @AsM)) (And.intro (And.intro @Aus @Option.getD_none.{0}) (And.intro @Option.getD_some.{0} @AqC))))) (And.intro (And.intro (And.intro (And.intro (And.intro @AyB @Atz) (And.intro @Avi @AuV)) (And.intro (And.intro @AnZ @ArD) (And.intro @AuT @AuL))) (And.intro (And.intro (And.intro @Ayg @Avj) (And.intro @AxZ @AsV)) (And.intro (And.intro @ApW @Ays) (And.intro @Aur @Avc)))) (And.intro (And.intro (And.intro (And.intro @Au3 @Atl) (And.intro @AuF @AuE)) (And.intro (And.intro @AtU @AwW) (And.intro @Art @AoB))) (And.intro (And.intro (And.intro @Aql @AEd) (And.intro @AD5 @AE0)) (And.intro (And.intro @As6 @AwH) (And.intro @AyP @AEU))))))) (And.intro (And.intro (And.intro (And.intro @AE8 @AEY) (And.intro @Auq @Aw9)) (And.intro (And.intro @AtF @At4) (And.intro @AyN @Avg))) (And.intro @Ass @ApB)))
def Ah := (And.intro (And.intro (And.intro (And.intro (And.intro (And.intro (And.intro (And.intro @AtO @Avy) (And.intro @AwV @Ayr)) (And.intro (And.intro @AyD @Ayt) (And.intro @AuB @Avp))) (And.intro (And.intro (And.intro @Av1 @Ave) (And.intro @Ayj @Ax9)) (And.intro (And.intro @Aw0 @ArA) (And.intro @Ar7 @AuS)))) (And.intro (And.intro (And.intro (And.intro @As0 @Aub) (And.intro @Atu @Arq)) (And.intro (And.intro @ApY @Aqi) (And.intro @Asd @AtQ))) (And.intro (And.intro (And.intro @Auu @As4) (And.intro @Au5 @Aya)) (And.intro (And.intro @Axs @AwU) (And.intro @AwC @Av5))))) (And.intro (And.intro (And.intro (And.intro (And.intro @Av4 @Ava) (And.intro @AsO @Axk)) (And.intro (And.intro @Axm @AxQ) (And.intro @Asg @ArT))) (And.intro (And.intro (And.intro @AsX @Att) (And.intro @Aua @AsP)) (And.intro (And.intro @Asa @Atv) (And.intro @Ata @Ap0)))) (And.intro (And.intro (And.intro (And.intro @ArZ @Avt) (And.intro @AuZ @As1)) (And.intro (And.intro @AsQ @Aqp) (And.intro @AqM @Atc))) (And.intro (And.intro (And.intro @Avz @AvZ) (And.intro @Ari @Ars)) (And.intro (And.intro @AoD @AmT) (And.intro @Ark @ArE)))))) (And.intro (And.intro (And.intro (And.intro (And.intro (And.intro @Arj @Ap8) (And.intro @Apd @Auw)) (And.intro (And.intro @AqP @Anl) (And.intro @AlS @Ao1))) (And.intro (And.intro (And.intro @As7 @ArF) (And.intro @Aln @Akz)) (And.intro (And.intro @AFi @AFd) (And.intro @AFe @AvR)))) (And.intro (And.intro (And.intro (And.intro @AtJ @Av6) (And.intro @Aof @AvB)) (And.intro (And.intro @AuN @AoR) (And.intro @AmS @Ara))) (And.intro (And.intro (And.intro @AoH @Atm) (And.intro @AoF @Anq)) (And.intro (And.intro @AoI @AmM) (And.intro @ArS @Ao7))))) (And.intro (And.intro (And.intro (And.intro (And.intro @Anj @AlW) (And.intro @Aj9 @Ajf)) (And.intro (And.intro @AyJ @AtH) (And.intro @Aq6 @AsU))) (And.intro (And.intro (And.intro @An4 @Au0) (And.intro @Amo @AlF)) (And.intro (And.intro @Ak9 @AvG) (And.intro @Au7 @Ayz)))) (And.intro (And.intro (And.intro (And.intro @AxW @Auc) (And.intro @AxP @AxV)) (And.intro (And.intro @AvX @Avd) (And.intro @Auz @Ap2))) (And.intro (And.intro (And.intro @Ao9 @AxO) (And.intro @Ayq @AAe)) (And.intro (And.intro @Aw7 @AwT) (And.intro @Axh @Ax6))))))) (And.intro (And.intro (And.intro @Au6 @Aro) (And.intro @AsF @Atn)) (And.intro (And.intro @ADl @ABz) @AzG)))
theorem Apz {α β : Type} {f : α → β} {l : List α} {i : Nat} : (l.map f).drop i = (l.drop i).map f := List.map_drop.symm
theorem Aph {α β : Type} {f : α → β} {l : List α} {i : Nat} : (l.map f).take i = (l.take i).map f := List.map_take.symm
theorem AAU {b : UInt8} : IntKind.i64.wrap (b.toNat : Int) = b.toNat := EU (by omega) (by have := b.toNat_lt; omega)
theorem AAQ {n : Nat} : IntKind.u8.wrap (n : Int) = ((UInt8.ofNat n).toNat : Int) := by
 rw [IntKind.wrap_u8, UInt8.toNat_ofNat']; omega
theorem ABk {α : Type} {n i : Nat} {a : α} (h : i < n) : (List.replicate n a)[i]? = some a := by simp [h]
section
variable {a b c : Nat}
theorem Av9 : (a : Int) * (b : Int) = ((a * b : Nat) : Int) := Ad rfl
theorem At3 (h : b ≤ a) : (a : Int) - (b : Int) = ((a - b : Nat) : Int) := by omega
theorem AvQ : (a : Int) / (b : Int) = ((a / b : Nat) : Int) := Ad rfl
theorem AvT : (a : Int) % (b : Int) = ((a % b : Nat) : Int) := Ad rfl
variable {t : TypeId} {k2 : IntKind}
theorem Awu (h1 : b ≤ 63) (h2 : a * 2 ^ b ≤ 9223372036854775807) : D6 t .shl (.int .i64 (a : Int)) (.int k2 (b : Int)) = some (.int .i64 ((a * 2 ^ b : Nat) : Int)) := by
 have e : (a : Int) * 2 ^ ((b : Int).toNat) = ((a * 2 ^ b : Nat) : Int) := by rw [Int.toNat_natCast, Int.natCast_mul, Int.natCast_pow]; rfl
 rw [ADs (by omega) (by omega) (by rw [e]; omega) (by rw [e]; omega), e]
theorem Az0 (h1 : b ≤ 63) : D6 t .shr (.int .i64 (a : Int)) (.int k2 (b : Int)) = some (.int .i64 ((a / 2 ^ b : Nat) : Int)) := by
 have e : (a : Int) / 2 ^ ((b : Int).toNat) = ((a / 2 ^ b : Nat) : Int) := by rw [Int.toNat_natCast, Int.natCast_ediv, Int.natCast_pow]; rfl
 rw [ADk (by omega) (by omega) (by omega), e]
variable {k : IntKind}
theorem Azj (h : b ≠ 0) : D6 t .rem (.int k (a : Int)) (.int k (b : Int)) = some (.int k ((a % b : Nat) : Int)) := by rw [ADj (by omega) (by omega), Int.natCast_emod]
theorem AA4 (h : b ≠ 0) (h2 : a ≤ 9223372036854775807) : D6 t .quo (.int .i64 (a : Int)) (.int .i64 (b : Int)) = some (.int .i64 ((a / b : Nat) : Int)) := by rw [AEh (by omega) (by omega) (by omega), Int.natCast_ediv]
end
theorem Ap.toPureV {P : Program} {f : FuncId} {args : List TV} {R : TV → Prop} (h : Ap P f args [] fun x H' => BV (frz H' x) R) : D5 P f args R :=
 Ap.toPure (h.mono fun x H' hx => by
  cases hf : frz H' x with
  | none => rw [hf] at hx; exact hx
  | some y => rw [hf] at hx; exact hx)
abbrev mv_ (d s : Nat) : VO := ⟨some d, .p (.mov (.t s)), none⟩
abbrev po_ (d : Nat) (p : POp) : VO := ⟨some d, .p p, none⟩
abbrev so_ (d : Nat) (q : SOp) : VO := ⟨some d, .s q, none⟩
abbrev ci_ (n : Nat) : Opd := .c (.int .i64 (n : Int))
theorem EK {P : Program} {f : FuncId} {fn : Func} {vc : Af} {vr : List VR} (n : Nat) (hf : P.funcs[f]? = some fn) (ht : fn.body.bind (trC P fn.ntmps) = some (er vc)) (hr : trR P fn.results.toList = some vr) (hn : fn.ntmps = n) :
  ∀ ⦃args : List TV⦄ ⦃H : List Ob⦄ ⦃R : TV → List Ob → Prop⦄, args.length ≤ n → vwp P vc (Aia vr R) (Ahg 0 args) H → Ap P f args H R := fun _ _ _ h1 h2 => AqY hf ht hr (hn ▸ h1) h2
theorem Alg {P : Program} {f : FuncId} {fn : Func} {vc : Af} {vr : List VR} (n : Nat) (hf : P.funcs[f]? = some fn) (ht : fn.body.bind (trC P fn.ntmps) = some (er vc)) (hr : trR P fn.results.toList = some vr) (hn : fn.ntmps = n) :
  ∀ ⦃args : List TV⦄ ⦃H : List Ob⦄ ⦃R : TV → List Ob → Prop⦄ ⦃RP : Value → List Ob → Prop⦄, args.length ≤ n → vwp P vc (AjC vr R RP) (Ahg 0 args) H → BR P f args H R RP := fun _ _ _ _ h1 h2 => Apl hf ht hr (hn ▸ h1) h2
theorem Aa {c c' : Af} (h : c = c') : ∀ (P : Program) (Q : VEx → Env → List Ob → Prop) (e : Env) (H : List Ob), vwp P c Q e H = vwp P c' Q e H := fun _ _ _ _ => by rw [h]
theorem Ae {α : Type} : (∀ {l : List α} {i : Nat} {a : α}, (l.set i a).length = l.length) ∧ (∀ {l m : List α}, (l ++ m).length = l.length + m.length) ∧ (∀ {a : α} {l : List α}, (a :: l).length = l.length + 1) ∧ ([] : List α).length = 0 := ⟨List.length_set, List.length_append, List.length_cons, List.length_nil⟩
theorem Ap.toFreshV {P : Program} {f : FuncId} {args : List TV} {R : TV → Prop} (h : Ap P f args [] fun x H' => BV (frs H' x) R) : Ado P f args R :=
 Ap.toFresh (h.mono fun x H' hx => by
  cases hf : frs H' x with
  | none => rw [hf] at hx; exact hx
  | some y => rw [hf] at hx; exact hx)
theorem AvF {α : Type} {l : List α} {n : Nat} (h : l.length ≤ n) : l.take n = l := List.take_of_length_le h
theorem ADm {α : Type} {c : Prop} [Decidable c] {a b : α} (h : c) : (if c then a else b) = a := if_pos h
theorem ADB {α : Type} {c : Prop} [Decidable c] {a b : α} (h : ¬ c) : (if c then a else b) = b := if_neg h
theorem Anm {α : Type} {l : List α} {n : Nat} (h : n ≤ l.length) : (l.take n).length = n := by simp [h]
theorem Ake {α : Type} {l : List α} {i : Nat} : (l.drop i).take (l.length - i) = l.drop i := List.take_of_length_le (by simp)
theorem AuH {a b : Nat} : a + b - a = b := Nat.add_sub_cancel_left a b
theorem As8 {α : Type} {l m : List α} : (l ++ m).take l.length = l := List.take_left
theorem Auo {α : Type} {l m : List α} : (l ++ m).drop l.length = m := List.drop_left
theorem AtT {a b : Nat} : a + b - b = a := Nat.add_sub_cancel a b
def Ai := (And.intro (And.intro (And.intro (And.intro (And.intro (And.intro (And.intro @As8 @Auo) (And.intro @AuH @Ake)) (And.intro (And.intro @Anm @List.length_drop.{0}) (And.intro @ADm @ADB))) (And.intro (And.intro (And.intro @AvF @AtT) (And.intro @Nat.zero_le @Azp)) (And.intro (And.intro @List.nil_append.{0} @List.length_nil.{0}) (And.intro @List.length_cons.{0} @List.cons_append.{0})))) (And.intro (And.intro (And.intro (And.intro @List.getElem?_cons_zero.{0} @List.getElem?_cons_succ.{0}) (And.intro @List.set_cons_zero.{0} @List.set_cons_succ.{0})) (And.intro (And.intro @List.map_cons.{0,0} @List.map_nil.{0,0}) (And.intro @Atd @Aui))) (And.intro (And.intro (And.intro @true_and @and_true) (And.intro @List.take_zero.{0} @List.take_succ_cons.{0})) (And.intro (And.intro @List.drop_succ_cons.{0} @List.take_nil.{0}) (And.intro @List.drop_nil.{0} @Nat.zero_add))))) (And.intro (And.intro (And.intro (And.intro (And.intro @ADA @ADU) (And.intro @ADv @ADN)) (And.intro (And.intro @ACS @AC3) (And.intro @AD4 @ACI))) (And.intro (And.intro (And.intro @ACt @AAZ) (And.intro @AE3 @Azj)) (And.intro (And.intro @AA4 @Awc) (And.intro @Arb @ApZ)))) (And.intro (And.intro (And.intro (And.intro @Aq1 @Aqb) (And.intro @Api @Arx)) (And.intro (And.intro @Arf @AqA) (And.intro @AsA @ApS))) (And.intro (And.intro (And.intro @Bool.false_xor @Bool.true_xor) (And.intro @ACb @ACe)) (And.intro (And.intro @ADi @decide_true) (And.intro @decide_false @Bool.not_true)))))) (And.intro (And.intro (And.intro (And.intro (And.intro (And.intro @Bool.not_false @not_true_eq_false) (And.intro @not_false_eq_true @Bool.false_eq_true)) (And.intro (And.intro @Bool.true_eq_false @Option.bind_some.{0,0}) (And.intro @Option.map_some.{0,0} @Bool.and_self))) (And.intro (And.intro (And.intro @and_self @Nat.sub_zero) (And.intro @Nat.mul_one @List.length_map.{0,0})) (And.intro (And.intro @Int.toNat_natCast @List.getElem?_map.{0,0}) (And.intro @Int.natCast_nonneg @List.length_append.{0})))) (And.intro (And.intro (And.intro (And.intro @List.drop_zero.{0} @Apz) (And.intro @Aph @At5)) (And.intro (And.intro @Au1 @Ato) (And.intro @Axn @Ax8))) (And.intro (And.intro (And.intro @AxT @AwP) (And.intro @List.replicate_zero.{0} @List.take_length.{0})) (And.intro (And.intro @List.length_set.{0} @List.length_replicate.{0}) (And.intro @AAU @EU))))) (And.intro (And.intro (And.intro (And.intro @AAQ @List.set_set.{0}) (And.intro @List.getElem?_nil.{0} @ABk)) (And.intro (And.intro @Av9 @At3) (And.intro @AvQ @AvT))) (And.intro @Awu @Az0))))
end Go.Proofs.YtfgljddikcghhaaDoor


namespace Go.Proofs.YtfgljddikcghhaaDoor
open Go.RowKit Go.WideShapes Go.ChangeShapes
variable [AO]
set_option linter.unusedSectionVars false
set_option linter.unusedVariables false
set_option linter.unusedSimpArgs false
set_option autoImplicit false

/-- All blocks that are there stay as they are. -/
def came (w : World) : Ctx := ⟨fun _ _ => none, [], fun b => b < w.heap.size⟩
/-- All data of a type have a reading of this form. -/
def AgZ (P : Program) (t : TypeId) {α : Type} (f : α → TV) (ok : α → Prop) : Prop :=
 ∀ {H : Type} (enc : TypeId × Value → H) (w : World) (fuel : Nat) (cs : List Value) (d : DataW H) (ps : List MemPlace),
  DataW.trod enc P w 0 (fun _ => true) true fuel t cs = some (d, ps) → (d.weights P t).all (· ≤ reachBytes) = true → ∃ a, Aq (came w) w (f a) cs ∧ ok a

theorem Amm {α β : Type} {f : α → Option β} : ∀ {l : List α} {xs : List β}, l.mapM f = some xs → xs.length = l.length ∧ ∀ (i : Nat) a, l[i]? = some a → ∃ x, xs[i]? = some x ∧ f a = some x
 | [], xs, h => by simp at h; subst h; simp
 | a :: l, xs, h => by
  rw [List.mapM_cons] at h
  cases hf : f a with
  | none => rw [hf] at h; cases h
  | some y =>
   rw [hf] at h
   cases hl : l.mapM f with
   | none => rw [hl] at h; cases h
   | some ys =>
    rw [hl] at h
    have e : xs = y :: ys := by simpa using h.symm
    subst e
    obtain ⟨h1, h2⟩ := Amm hl
    refine ⟨by simp [h1], fun i b hb => ?_⟩
    cases i with
    | zero => simp at hb; subst hb; exact ⟨y, by simp, hf⟩
    | succ i => simpa using h2 i b (by simpa using hb)
theorem Afs {β : Type} {f : Nat → Option β} {n : Nat} {xs : List β} (h : (List.range n).mapM f = some xs) : xs.length = n ∧ ∀ i, i < n → ∃ x, xs[i]? = some x ∧ f i = some x := by
 obtain ⟨h1, h2⟩ := Amm h
 exact ⟨by simpa using h1, fun i hi => h2 i i (by simp [hi])⟩

section
variable {P : Program} {t e : TypeId}
theorem An7 {H : Type} {enc : TypeId × Value → H} {w : World} {fuel : Nat} {cs : List Value} {x : DataW H × List MemPlace} (h : DataW.trod enc P w 0 (fun _ => true) true fuel t cs = some x) : ∃ n, fuel = n + 1 := by
 cases fuel with
 | zero => simp [DataW.trod] at h
 | succ n => exact ⟨n, rfl⟩

theorem Apf {k : IntKind} (ht : P.underlying t = some (.int k)) : AgZ P t (fun n => .val (.int k n)) (fun n => (Lit.int k n).wf = true) := by
 intro H enc w fuel cs d ps h _
 obtain ⟨n, rfl⟩ := An7 h
 unfold DataW.trod at h; rw [ht] at h
 split at h <;> rename_i h1 <;> try (simp at h1; done)
 all_goals try (cases h; done)
 all_goals try (simp only [Option.some.injEq, TypeDesc.int.injEq] at h1)
 all_goals first
  | (subst h1; split at h; (rename_i hc; obtain ⟨rfl, hw⟩ := hc; cases h; exact ⟨_, by rw [Aq]; exact ⟨rfl, rfl⟩, hw⟩); cases h)
  | (simp at h1; done)
  | (simp at h; done)
end

theorem Adh {H : Type} {P : Program} {e : TypeId} {d : DataW H} {n : Nat} (hn : n ∈ d.weights P e) : ∀ {ds : List (DataW H)}, d ∈ ds → n ∈ DataW.weightsAll P e ds
 | d0 :: ds, h => by
  simp only [DataW.weightsAll, List.mem_append]
  rcases List.mem_cons.1 h with rfl | h
  ·exact Or.inl hn
  ·exact Or.inr (Adh hn h)
theorem AbO {l m : List Nat} (h : m.all (· ≤ reachBytes) = true) (hs : ∀ n ∈ l, n ∈ m) : l.all (· ≤ reachBytes) = true := List.all_eq_true.2 fun n hn => List.all_eq_true.1 h n (hs n hn)

theorem AyC (a : Addr) (i j : Nat) : (a.add i).add j = a.add (i + j) := by
 unfold Addr.add
 by_cases h1 : i = 0 <;> by_cases h2 : j = 0 <;> simp [h1, h2, Nat.add_assoc]
theorem Atr (b off i : Nat) : (⟨b, off, none⟩ : Addr).add i = ⟨b, off + i, none⟩ := by
 unfold Addr.add
 by_cases h1 : i = 0 <;> simp [h1]
theorem Apv {w : World} {a : Addr} {n : Nat} {us : List Value} (h : w.cells? 0 a n = some us) : us.length = n ∧ ∀ i, i < n → ∃ u, us[i]? = some u ∧ w.cell? (a.add i) = some u := by
 unfold World.cells? at h
 rw [if_pos (Nat.zero_le _)] at h
 exact Afs h

/-- Elements that lie one behind the other. -/
theorem Al5 {α : Type} {f : α → TV} {ok : α → Prop} {k : Nat} (hw : ∀ a, ok a → AU (f a) = k) {w : World} {b off : Nat} : ∀ (n i0 : Nat), (∀ i, i < n → ∃ us a, Aq (came w) w (f a) us ∧ ok a ∧ us.length = k ∧ Dc w b (off + (i0 + i) * k) us) →
  ∃ (l : List α) (us : List Value), l.length = n ∧ (∀ a ∈ l, ok a) ∧ Ar (came w) w (l.map f) us ∧ us.length = n * k ∧ Dc w b (off + i0 * k) us
 | 0, i0, _ => ⟨[], [], rfl, by simp, by rw [List.map_nil, Ar], by simp, fun j u h => by simp at h⟩
 | n + 1, i0, h => by
  obtain ⟨us, a, h1, h2, h3, h4⟩ := h 0 (by omega)
  obtain ⟨l, vs, k1, k2, k3, k4, k5⟩ := Al5 hw n (i0 + 1) (fun i hi => by
   obtain ⟨us, a, h1, h2, h3, h4⟩ := h (i + 1) (by omega)
   exact ⟨us, a, h1, h2, h3, by rw [show i0 + 1 + i = i0 + (i + 1) from by omega]; exact h4⟩)
  refine ⟨a :: l, us ++ vs, by simp [k1], fun c hc => ?_, ?_, ?_, ?_⟩
  ·rcases List.mem_cons.1 hc with rfl | hc
   ·exact h2
   ·exact k2 c hc
  ·rw [List.map_cons, Ar]; exact ⟨us, vs, rfl, h1, k3⟩
  ·rw [List.length_append, h3, k4, Nat.succ_mul, Nat.add_comm]
  ·intro j u hj
   by_cases hjk : j < k
   ·rw [List.getElem?_append_left (by omega)] at hj
    have := h4 j u hj
    rwa [Nat.add_zero] at this
   ·rw [List.getElem?_append_right (by omega), h3] at hj
    have := k5 (j - k) u hj
    rw [show off + (i0 + 1) * k + (j - k) = off + i0 * k + j from by rw [Nat.succ_mul]; omega] at this
    exact this

section
variable {P : Program} {t e : TypeId} {α : Type} {f : α → TV} {ok : α → Prop} {k B : Nat}
theorem Alq (ht : P.underlying t = some (.slice e)) (hk : P.cellsOf e = k) (hB : P.bytesOf e = B) (hc : AgZ P e f ok) (hw : ∀ a, ok a → AU (f a) = k) (h0 : k ≠ 0) :
  AgZ P t (fun l : List α => .sl k (l.map f)) (fun l => (∀ a ∈ l, ok a) ∧ l.length * B ≤ 140737488351232 ∧ l.length ≤ 9223372036854775807) := by
 intro H enc w fuel cs d ps h hwt
 obtain ⟨n, rfl⟩ := An7 h
 unfold DataW.trod at h; rw [ht] at h
 split at h <;> rename_i h1 <;> try (simp at h1; done)
 all_goals first
  | (simp at h; done)
  | skip
 ·cases h
  refine ⟨[], ?_, by simp, by simp, by simp⟩
  rw [Aq]; exact ⟨by simp, .inl ⟨rfl, none, 0, rfl, by omega⟩⟩
 ·rename_i a len cap
  simp only [Option.some.injEq, TypeDesc.slice.injEq] at h1
  subst h1
  split at h
  ·rename_i hcond
   obtain ⟨-, hlc, hcm⟩ := hcond
   rw [Option.bind_eq_some_iff] at h
   obtain ⟨elems, he, h⟩ := h
   rw [if_pos rfl, Option.map_eq_some_iff] at h
   obtain ⟨rest, hr, h⟩ := h
   simp only [Prod.mk.injEq] at h
   obtain ⟨rfl, rfl⟩ := h
   obtain ⟨e1, e2⟩ := Afs he
   obtain ⟨r1, _⟩ := Afs hr
   unfold maxLen at hcm
   simp only [DataW.weights, ht, List.all_cons, Bool.and_eq_true, reachBytes, List.length_map, e1, r1, hB] at hwt
   have hcapB : cap * B ≤ 140737488351232 := by have := of_decide_eq_true hwt.1; rwa [Nat.add_sub_cancel' hlc] at this
   have hlen : len * B ≤ 140737488351232 := Nat.le_trans (Nat.mul_le_mul_right _ hlc) hcapB
   have hwe : (DataW.weightsAll P e (elems.map (·.1))).all (· ≤ reachBytes) = true := AbO (m := DataW.weightsAll P e (elems.map (·.1)) ++ DataW.weightsAll P e (rest.map (·.1))) hwt.2 (fun n hn => List.mem_append_left _ hn)
   obtain ⟨b, off, spot⟩ := a
   have key : ∀ i, i < len → ∃ us a, Aq (came w) w (f a) us ∧ ok a ∧ us.length = k ∧ (∀ j u, us[j]? = some u → w.cell? ((⟨b, off, spot⟩ : Addr).add (i * k + j)) = some u) := by
    intro i hi
    obtain ⟨x, hx, hxe⟩ := e2 i hi
    rw [Option.bind_eq_some_iff] at hxe
    obtain ⟨us, hus, htr⟩ := hxe
    rw [hk] at hus
    obtain ⟨c1, c2⟩ := Apv hus
    obtain ⟨a, ha, hok⟩ := hc enc w n us x.1 x.2 htr (AbO hwe fun m hm => Adh hm (List.mem_map.2 ⟨x, List.mem_of_getElem? hx, rfl⟩))
    refine ⟨us, a, ha, hok, c1, fun j u hj => ?_⟩
    have hjk : j < k := by rw [← c1]; exact (List.getElem?_eq_some_iff.1 hj).1
    obtain ⟨u', hu', hcu⟩ := c2 j hjk
    rw [hj] at hu'; cases hu'
    rw [AyC] at hcu
    exact hcu
   by_cases hl0 : len = 0
   ·subst hl0
    refine ⟨[], ?_, by simp, by simp, by simp⟩
    rw [Aq]; exact ⟨by simp, .inl ⟨rfl, _, cap, rfl, hcm⟩⟩
   ·have hsp : spot = none := by
     obtain ⟨us, a, _, _, c1, c2⟩ := key 0 (by omega)
     have hu : us[0]? = some us[0] := List.getElem?_eq_getElem (by omega)
     have := c2 0 _ hu
     simpa [Addr.add] using World.cell?_spot this
    subst hsp
    obtain ⟨l, us, l1, l2, l3, l4, l5⟩ := Al5 (f := f) (ok := ok) hw (w := w) (b := b) (off := off) len 0 (fun i hi => by
     obtain ⟨us, a, h1, h2, h3, h4⟩ := key i hi
     refine ⟨us, a, h1, h2, h3, fun j u hj => ?_⟩
     have := h4 j u hj
     rw [Atr] at this
     rw [Nat.zero_add, Nat.add_assoc]; exact this)
    refine ⟨l, ?_, l2, by rw [l1]; exact hlen, by omega⟩
    rw [Aq]
    refine ⟨fun x hx => ?_, .inr ⟨b, off, cap, us, by rw [List.length_map, l1], by rw [List.length_map, l1]; exact hlc, hcm, ?_, l3, by simpa using l5⟩⟩
    ·obtain ⟨a, ha, rfl⟩ := List.mem_map.1 hx; exact hw a (l2 a ha)
    ·have hus : 0 < us.length := by rw [l4]; exact Nat.mul_pos (by omega) (by omega)
     exact AwJ (l5 0 us[0] (List.getElem?_eq_getElem hus))
  ·cases h
end
section
variable {P : Program} {t e : TypeId} {α : Type} {f : α → TV} {ok : α → Prop} {k : Nat}
theorem AjQ {β : Type} {g : β → TV} {ok' : β → Prop} (h : AgZ P t f ok) (hm : ∀ a, ok a → ∃ b, f a = g b ∧ ok' b) : AgZ P t g ok' := by
 intro H enc w fuel cs d ps h1 h2
 obtain ⟨a, h3, h4⟩ := h enc w fuel cs d ps h1 h2
 obtain ⟨b, h5, h6⟩ := hm a h4
 exact ⟨b, by rw [← h5]; exact h3, h6⟩
theorem Arr (ht : P.underlying t = some (.int .u8)) : AgZ P t by8 (fun _ => True) :=
 AjQ (Apf ht) fun n h => by
  have := bounds_u8 h
  refine ⟨UInt8.ofNat n.toNat, ?_, trivial⟩
  rw [by8, UInt8.toNat_ofNat', Nat.mod_eq_of_lt (by omega)]
  congr 2; omega
/-- A slice of bytes. -/
theorem AgQ (ht : P.underlying t = some (.slice e)) (he : P.underlying e = some (.int .u8)) (hk : P.cellsOf e = 1) (hB : P.bytesOf e = 1) : AgZ P t slB (fun l => l.length ≤ 140737488351232) :=
 AjQ (Alq ht hk hB (Arr he) (fun _ _ => rfl) (by omega)) fun l h => ⟨l, rfl, by have := h.2; omega⟩
end


def AeD (P : Program) (ts : List TypeId) {α : Type} (f : α → List TV) (ok : α → Prop) : Prop :=
 ∀ {H : Type} (enc : TypeId × Value → H) (w : World) (vs : List Value) (ds : List (DataW H)) (ps : List MemPlace),
  DataW.TrodAll enc P w 0 (fun _ => true) true ts vs ds ps → (∀ (j : Nat) t v, ts[j]? = some t → vs[j]? = some v → ∃ base, Value.okWide P w .any base t v) → (DataW.weightsEach P ts ds).all (· ≤ reachBytes) = true → ∃ a, BH (came w) w (f a) vs ∧ ok a
theorem Aj6 {P : Program} : AeD P [] (fun _ : Unit => []) (fun _ => True) := by
 intro H enc w vs ds ps h _ _
 obtain ⟨rfl, rfl, rfl⟩ := trodAll_nil h
 exact ⟨(), by rw [BH], trivial⟩
/-- A value of a type is what its cells make of it. -/
def AsB (P : Program) (t : TypeId) (b : Bool) : Prop := ∀ w base v, Value.okWide P w .any base t v → if b then ∃ cs, v = .agg cs else v.cells = #[v]
theorem Ag2 {P : Program} {t e : TypeId} (ht : P.underlying t = some (.slice e)) : AsB P t false := fun w _ v h => by obtain ⟨_, _, _, rfl⟩ := okWide_slice ht h; rfl
theorem Asr {c : Ctx} {P : Program} {w : World} {t : TypeId} {v : Value} {x : TV} {b : Bool} (hf : AsB P t b) {base : Nat} (hv : Value.okWide P w .any base t v) (hx : Afq x = b) : v = mkV x v.cells.toList := by
 have h := hf w base v hv
 cases b with
 | true =>
  simp only [if_true] at h
  obtain ⟨cs, rfl⟩ := h
  rw [AnI hx]; simp [Value.cells]
 | false =>
  simp only [Bool.false_eq_true, if_false] at h
  rw [h]
  exact (Ah1 hx).symm
theorem Adm {P : Program} {t : TypeId} {ts : List TypeId} {α β : Type} {f : α → TV} {ok : α → Prop} {g : β → List TV} {ok' : β → Prop} {b : Bool} (hc : AgZ P t f ok) (hf : AsB P t b) (hm : ∀ a, Afq (f a) = b) (hr : AeD P ts g ok') :
  AeD P (t :: ts) (fun x : α × β => f x.1 :: g x.2) (fun x => ok x.1 ∧ ok' x.2) := by
 intro H enc w vs ds ps h hv hw
 obtain ⟨v, vs', d, ds', p, q, rfl, rfl, rfl, h0, r0⟩ := trodAll_cons h
 simp only [DataW.weightsEach] at hw
 obtain ⟨fuel, hfu⟩ := h0
 obtain ⟨a, ha, hoka⟩ := hc enc w fuel _ d p hfu (AbO hw fun n hn => List.mem_append_left _ hn)
 obtain ⟨b, hb, hokb⟩ := hr enc w vs' ds' q r0 (fun j t v h1 h2 => hv (j + 1) t v (by simpa using h1) (by simpa using h2)) (AbO hw fun n hn => List.mem_append_right _ hn)
 refine ⟨(a, b), BH.cons.2 ⟨v, vs', rfl, .inr (.inr ⟨v.cells.toList, ha, Asr (c := came w) hf (hv 0 t v rfl rfl).choose_spec (hm a)⟩), hb⟩, hoka, hokb⟩

/-- All that came in reads as it did. -/
theorem AeE {H : Type} {enc : TypeId × Value → H} {P : Program} (hl : laidOutB P = true) {W W' : World} (hb : Below W.heap.size W W') : ∀ {ts : List TypeId} {vs : List Value} {ds : List (DataW H)} {ps : List MemPlace}, (ts.all fun t => P.readableRec t && decide (t < P.types.size)) = true →
  DataW.TrodAll enc P W 0 (fun _ => true) true ts vs ds ps → DataW.TrodAll enc P W' 0 (fun b => decide (b < W.heap.size)) true ts vs ds ps
 | [], vs, ds, ps, _, h => by
  obtain ⟨rfl, rfl, rfl⟩ := trodAll_nil h
  exact trodAll_mk0
 | t :: ts, vs, ds, ps, hr, h => by
  obtain ⟨v, vs', d, ds', p, q, rfl, rfl, rfl, h0, r0⟩ := trodAll_cons h
  simp only [List.all_cons, Bool.and_eq_true, decide_eq_true_eq] at hr
  refine trodAll_cons_mk (Below.trod hl hr.1.1 hr.1.2 h0 hb ?_) (AeE hl hb (by simpa using hr.2) r0)
  obtain ⟨m, hm⟩ := h0
  exact DataW.trod_lt m _ _ _ hm

theorem Zr.below {F F' : Nat → Prop} {w w' : World} (h : Zr F w F' w') : Below w.heap.size w w' := ⟨h.os, h.tape, h.output, h.size, fun k hk => h.same k hk⟩
/-- THE WALK OF A STATEMENT, out of what the machine of values says of it. -/
theorem ABC {P : Program} {f : FuncId} {ts : List TypeId} {α : Type} {g : α → List TV} {ok : α → Prop} (hc : AeD P ts g ok) (hlaw : ∀ a, ok a → D5 P f (g a) (fun x => x = tb true)) {H : Type} {enc : TypeId × Value → H} {w : World} {args : Array Value} {ds : List (DataW H)} {ps : List MemPlace}
  (h : DataW.TrodAll enc P w 0 (fun _ => true) true ts args.toList ds ps) (hv : ∀ (j : Nat) t v, ts[j]? = some t → args.toList[j]? = some v → ∃ base, Value.okWide P w .any base t v) (hw : (DataW.weightsEach P ts ds).all (· ≤ reachBytes) = true) (hg : TD (fun b => b < w.heap.size) w) :
  Calls P f args w fun e w' => e = .returned (.bool true) ∧ Below w.heap.size w w' := by
 obtain ⟨a, ha, hok⟩ := hc enc w args.toList ds ps h hv hw
 have := hlaw a hok (fun _ _ => none) (fun b => b < w.heap.size) w args.toList ⟨fun b h => h, hg⟩ ha
 rw [Array.toArray_toList] at this
 refine this.mono ?_
 rintro e w' ⟨v, x, F', rfl, rfl, hx, hst⟩
 rw [Rep.val] at hx
 exact ⟨by rw [hx], hst.below⟩
end Go.Proofs.YtfgljddikcghhaaDoor


namespace Go.Proofs.YtfgljddikcghhaaDoor
open Go.RowKit
variable [AO]
set_option linter.unusedSectionVars false
set_option linter.unusedVariables false

theorem Apm {g : Nat} {x : GV} (h : YK g = some x) : (g, x) ∈ AO.l := by
 unfold YK at h
 obtain ⟨p, hp, rfl⟩ := Option.map_eq_some_iff.1 h
 have h1 := List.mem_of_find?_eq_some hp
 have h2 := List.find?_some hp
 have h3 : p.1 = g := by simpa using h2
 obtain ⟨a, b⟩ := p
 simp only at h3; subst h3; exact h1
section
omit [AO]
theorem Ar1 {P : Program} {w : World} {name : String} {g : Nat} {cs : Array Value} (hg : P.globalNamed name = some g) (h : w.var? P name = some cs) : ∃ t fr, w.heap[g]? = some (.cells cs t fr) := by
 unfold World.var? at h
 rw [hg, Option.bind_some] at h
 split at h
 ·rename_i c t fr hh; cases h; exact ⟨t, fr, hh⟩
 ·cases h
/-- A number's or a text's type. -/
def AuX (P : Program) (t : TypeId) : Bool := match P.underlying t with
 | some (.int _) => true
 | some .string => true
 | _ => false
def ABS : DataW Unit → Option Value
 | .lit (.int k n) => some (.int k n)
 | .lit (.string l) => some (.string ⟨l.toArray⟩)
 | _ => none
variable {P : Program} {w : World} {fuel : Nat} {cs : List Value}
theorem Am3 {t : TypeId} {x : DataW Unit × List MemPlace} (ht : AuX P t = true) (h : DataW.trod (fun _ => ()) P w 0 (fun _ => true) false fuel t cs = some x) : ∃ v, ABS x.1 = some v ∧ cs = [v] := by
 unfold AuX at ht
 split at ht
 ·rename_i k hk
  obtain ⟨n, rfl, rfl, _⟩ := DataW.trod_int hk h
  exact ⟨_, rfl, rfl⟩
 ·rename_i hk
  obtain ⟨s, rfl, rfl, _⟩ := DataW.trod_string hk h
  exact ⟨_, rfl, by simp⟩
 ·cases ht
theorem AmR {t e : TypeId} {n : Nat} {ds : List (DataW Unit)} {p : List MemPlace} {vs : List Value} (ht : P.underlying t = some (.array n e)) (he : AuX P e = true) (hce : P.cellsOf e = 1) (hct : P.cellsOf t = n) (hv : ds.map ABS = vs.map some)
  (h : DataW.trod (fun _ => ()) P w 0 (fun _ => true) false fuel t cs = some (.agg ds, p)) : cs = vs := by
 cases fuel with
 | zero => simp [DataW.trod] at h
 | succ fuel =>
  simp only [DataW.trod, ht, hce, hct, Nat.mul_one] at h
  split at h
  ·rename_i hl
   obtain ⟨xs, hm, hx⟩ := Option.map_eq_some_iff.1 h
   have hxs : xs.map (·.1) = ds := by
    have := congrArg Prod.fst hx
    simpa using this
   have hxl : xs.length = n := by simpa using Lib.mapM_length hm
   have hvl : vs.length = n := by
    have h1 := congrArg List.length hxs
    have h2 := congrArg List.length hv
    simp at h1 h2
    omega
   apply List.ext_getElem?
   intro i
   by_cases hi : i < n
   ·obtain ⟨b, hb, hf⟩ := Lib.mapM_at hm i i (by simp [hi])
    obtain ⟨v, hv1, hv2⟩ := Am3 he hf
    have h1 : cs[i]? = some v := by
     have := congrArg (·[0]?) hv2
     simpa [List.getElem?_take, List.getElem?_drop] using this
    have h2 : ds[i]? = some b.1 := by rw [← hxs]; simp [hb]
    have h3 : (ds.map ABS)[i]? = some (some v) := by simp [h2, hv1]
    rw [hv] at h3
    simp only [List.getElem?_map, Option.map_eq_some_iff, Option.some.injEq] at h3
    obtain ⟨u, hu, rfl⟩ := h3
    rw [h1, hu]
   ·rw [List.getElem?_eq_none (by omega), List.getElem?_eq_none (by omega)]
  ·cases h
theorem AnJ {name : String} {d : DataW Unit} : ∀ {laid : List (String × DataW Unit)} {ps : List MemPlace}, DataW.LaidVars P w laid ps → (name, d) ∈ laid →
  ∃ g t cs fuel p, P.globalNamed name = some g ∧ (P.globals[g]?).map (·.type) = some t ∧ w.var? P name = some cs ∧ DataW.trod (fun _ => ()) P w 0 (fun _ => true) false fuel t cs.toList = some (d, p)
 | [], ps, _, hm => by simp at hm
 | (n, d') :: r, ps, h, hm => by
  obtain ⟨g, t, cs, fuel, p, q, h1, h2, h3, h4, h5, _⟩ := h
  rcases List.mem_cons.1 hm with e | hm
  ·cases e; exact ⟨g, t, cs, fuel, p, h1, h2, h3, h4⟩
  ·exact AnJ h5 hm
/-- A laid array lies there. -/
theorem AsI {laid : List (String × DataW Unit)} (h : laidMet P laid w) {name : String} {ds : List (DataW Unit)} (hm : (name, DataW.agg ds) ∈ laid) {g : Nat} {t e : TypeId} {n : Nat} {vs : List Value} (hg : P.globalNamed name = some g) (hty : (P.globals[g]?).map (·.type) = some t)
  (ht : P.underlying t = some (.array n e)) (he : AuX P e = true) (hce : P.cellsOf e = 1) (hct : P.cellsOf t = n) (hv : ds.map ABS = vs.map some) : ∃ tt fr, w.heap[g]? = some (.cells vs.toArray tt fr) := by
 obtain ⟨ps, h, _⟩ := h
 obtain ⟨g', t', cs, fuel, p, h1, h2, h3, h4⟩ := AnJ h hm
 obtain rfl := Option.some.inj (hg.symm.trans h1)
 obtain rfl := Option.some.inj (hty.symm.trans h2)
 have := AmR ht he hce hct hv h4
 have e : cs = vs.toArray := by rw [← this, Array.toArray_toList]
 rw [e] at h3
 exact Ar1 hg h3
end
end Go.Proofs.YtfgljddikcghhaaDoor


namespace Go.Proofs.YtfgljddikcghhaaDoor
variable [AO]
set_option linter.unusedSectionVars false
set_option linter.unusedVariables false
set_option linter.defProp false
set_option maxRecDepth 100000

def Ho : Af := .seq (.ops [po_ 53 (.bin 3 .lss (.t 52) (.t 51))] [0, 3, 50, 51, 52, 53])
 (.seq (.cond (.t 53)
 (.skip)
 (.exit 1))
 (.seq (.block 2 (.seq (.ops [po_ 54 (.idxA 1 (.t 50) (.t 52)),
  po_ 55 (.load false 1 (.t 54)),
  mv_ 7 55] [0, 3, 7, 50, 51, 52])
 (.pops [mv_ 56 0,
  mv_ 57 7,
  so_ 58 (.call 25 [.t 56, .t 57])] [0, 3, 50, 51, 52])))
 (.ops [po_ 59 (.bin 3 .add (.t 52) (ci_ 1)),
  mv_ 52 59] [0, 3, 50, 51, 52])))
def G5 : Af := .seq (.pops [mv_ 48 0,
  mv_ 49 5,
  so_ 50 (.call 16 [.t 48, .t 49]),
  po_ 51 (.lenV (.t 50)),
  po_ 52 (.mov (ci_ 0))] [0, 3, 50, 51, 52])
 (.block 1 (.loop [0, 3, 50, 51, 52] Ho))
def Ha : Af := .seq (.seq (.draw 6 [mv_ 34 5,
  po_ 35 (.bin 3 .xor (.t 34) (ci_ 65535)),
  mv_ 36 4,
  po_ 37 (.idxA 1 (.t 36) (ci_ 2)),
  po_ 38 (.load false 1 (.t 37)),
  po_ 39 (.conv .i64 (.t 38)),
  mv_ 40 4,
  po_ 41 (.idxA 1 (.t 40) (ci_ 3)),
  po_ 42 (.load false 1 (.t 41)),
  po_ 43 (.conv .i64 (.t 42)),
  po_ 44 (.bin 3 .shl (.t 43) (.c (.int .u64 ((8 : Nat) : Int)))),
  po_ 45 (.bin 3 .or (.t 39) (.t 44)),
  po_ 46 (.bin 3 .neq (.t 35) (.t 45))] [0, 3, 5, 46])
 (.cond (.t 46)
 (.pops [po_ 47 (.iface 28 (ci_ 10)),
   ⟨none, .s (.pan (.t 47)), none⟩] [0, 3, 5])
 (.skip)))
 G5
def Gt : Af := .seq (.draw 4 [mv_ 24 4,
  po_ 25 (.idxA 1 (.t 24) (ci_ 0)),
  po_ 26 (.load false 1 (.t 25)),
  po_ 27 (.conv .i64 (.t 26)),
  mv_ 28 4,
  po_ 29 (.idxA 1 (.t 28) (ci_ 1)),
  po_ 30 (.load false 1 (.t 29)),
  po_ 31 (.conv .i64 (.t 30)),
  po_ 32 (.bin 3 .shl (.t 31) (.c (.int .u64 ((8 : Nat) : Int)))),
  po_ 33 (.bin 3 .or (.t 27) (.t 32)),
  mv_ 5 33] [0, 3, 4, 5])
 Ha
def He : Af := .seq (.pops [mv_ 22 0,
  so_ 23 (.call 16 [.t 22, .c (.int .i64 ((4 : Nat) : Int))]),
  mv_ 4 23] [0, 3, 4])
 Gt
def GR : Af := .seq (.ops [mv_ 20 0,
  so_ 21 (.call 15 [.t 20])] [0, 3])
 He
def F9 : Af := .seq (.ops [so_ 63 (.call 26 []),
  mv_ 62 63,
  po_ 64 (.ext 0 (.t 62)),
  po_ 65 (.ext 1 (.t 62)),
  mv_ 8 64,
  mv_ 9 65] [0, 3, 8, 9])
 (.pops [mv_ 66 0,
  mv_ 67 8,
  so_ 68 (.call 28 [.t 67, .c (.bool false), .c (.bool false)]),
  mv_ 69 9,
  so_ 70 (.call 28 [.t 69, .c (.bool false), .c (.bool false)]),
  so_ 71 (.call 27 [.t 66, .t 68, .t 70])] [3])
def GH : Af := .seq (.pops [mv_ 75 0,
  so_ 76 (.call 29 [.t 75]),
  mv_ 74 76,
  po_ 77 (.ext 0 (.t 74)),
  po_ 78 (.ext 1 (.t 74)),
  mv_ 10 77,
  mv_ 11 78] [0, 3, 10, 11])
 (.pops [mv_ 79 0,
  mv_ 80 10,
  so_ 81 (.call 28 [.t 80, .c (.bool true), .c (.bool false)]),
  mv_ 82 11,
  so_ 83 (.call 28 [.t 82, .c (.bool true), .c (.bool true)]),
  so_ 84 (.call 27 [.t 79, .t 81, .t 83])] [3])
def Gw : Af := .cond (.t 72)
 GH
 (.pops [po_ 17 (.iface 28 (ci_ 10)),
   ⟨none, .s (.pan (.t 17)), none⟩] [3])
def Fp : Af := .seq (.ops [po_ 73 (.bin 3 .eql (.t 16) (ci_ 2)),
  mv_ 72 73] [0, 3, 72])
 Gw
def Fv : Af := .cond (.t 60)
 F9
 Fp
def FP : Af := .seq (.ops [po_ 61 (.bin 3 .eql (.t 16) (ci_ 1)),
  mv_ 60 61] [0, 3, 16, 60])
 Fv
def FK : Af := .cond (.t 18)
 GR
 FP
def Fj : Af := .block 0 (.seq (.ops [po_ 19 (.bin 3 .eql (.t 16) (ci_ 0)),
  mv_ 18 19] [0, 3, 16, 18])
 FK)
def FN : Af := .seq (.ops [mv_ 85 3,
  mv_ 2 85] [2])
 (.ret)
def FO : Af := .seq (.seq (.pops [mv_ 15 0,
  so_ 16 (.call 24 [.t 15, .c (.int .i64 ((2 : Nat) : Int))])] [0, 3, 16])
 Fj)
 FN
def FC : Af := .seq (.pops [mv_ 12 0,
  so_ 13 (.call 24 [.t 12, .c (.int .i64 ((1 : Nat) : Int))]),
  po_ 14 (.bin 3 .eql (.t 13) (ci_ 1)),
  mv_ 3 14] [0, 3])
 FO
def KG : Af := .seq (.ops [po_ 2 (.mov (.c (.bool false)))] [0])
 FC
def KC : List VR := [.tmp 2]
theorem YV : Tryd.f14.body.bind (trC Tryd.prog Tryd.f14.ntmps) = some (er KG) := by kernel_rfl
theorem YW : trR Tryd.prog Tryd.f14.results.toList = some KC := by kernel_rfl
def RS := Aa Ho.eq_1
def QT := Aa G5.eq_1
def QI := Aa Ha.eq_1
def PU := Aa Gt.eq_1
def Qu := Aa He.eq_1
def Qv := Aa GR.eq_1
def PV := Aa F9.eq_1
def QD := Aa GH.eq_1
def Qc := Aa Gw.eq_1
def Pi := Aa Fp.eq_1
def Ph := Aa Fv.eq_1
def Pm := Aa FP.eq_1
def Pv := Aa FK.eq_1
def PD := Aa Fj.eq_1
def PL := Aa FN.eq_1
def Py := Aa FO.eq_1
def Pq := Aa FC.eq_1
def VN := Aa KG.eq_1
theorem WT {K : TV → Prop} {e : Env} {H : List Ob} : res KC e H K = res [.tmp 2] e H K := Ad rfl
def AA := (And.intro (And.intro (And.intro (And.intro (And.intro @RS @QT) (And.intro @QI @PU)) (And.intro (And.intro @Qu @Qv) (And.intro @PV @QD))) (And.intro (And.intro (And.intro @Qc @Pi) (And.intro @Ph @Pm)) (And.intro (And.intro @Pv @PD) (And.intro @PL @Py)))) (And.intro (And.intro @Pq @VN) @WT))
def Yt := Alg 86 Tryd.func14 YV YW rfl

def Kr : Af := .ops [mv_ 2 0,
  mv_ 3 0,
  po_ 4 (.nilc (.t 2)),
  po_ 5 (.fieldA 1 1 (.t 4)),
  ⟨none, .s (.store 1 (.t 5) (.c (.int .u32 ((0 : Nat) : Int)))), none⟩,
  po_ 6 (.nilc (.t 3)),
  po_ 7 (.fieldA 2 2 (.t 6)),
  ⟨none, .s (.store 1 (.t 7) (ci_ 0)), none⟩] []
def Kv : List VR := []
theorem YZ : Tryd.f15.body.bind (trC Tryd.prog Tryd.f15.ntmps) = some (er Kr) := by kernel_rfl
theorem Zt : trR Tryd.prog Tryd.f15.results.toList = some Kv := by kernel_rfl
def WO := Aa Kr.eq_1
theorem Xn {K : TV → Prop} {e : Env} {H : List Ob} : res Kv e H K = res [] e H K := Ad rfl
def YU := (And.intro @WO @Xn)
def XM := EK 8 Tryd.func15 YZ Zt rfl

def I7 : Af := .seq (.ops [mv_ 14 0,
  po_ 15 (.nilc (.t 14)),
  po_ 16 (.fieldA 0 0 (.t 15)),
  po_ 17 (.load false 1 (.t 16)),
  mv_ 18 1,
  mv_ 19 1,
  po_ 20 (.gen (.sl3 1) [.t 17, .c (.int .i64 ((0 : Nat) : Int)), .t 18, .t 19]),
  mv_ 5 20] [0, 1, 5])
 (.seq (.ops [mv_ 21 0,
  mv_ 22 0,
  po_ 23 (.nilc (.t 22)),
  po_ 24 (.fieldA 0 0 (.t 23)),
  po_ 25 (.load false 1 (.t 24)),
  mv_ 26 1,
  po_ 27 (.slV 1 (.t 25) (some (.t 26)) none),
  po_ 28 (.nilc (.t 21)),
  po_ 29 (.fieldA 0 0 (.t 28)),
  ⟨none, .s (.store 1 (.t 29) (.t 27)), none⟩] [5])
 (.seq (.ops [mv_ 30 5,
  mv_ 4 30] [4])
 (.ret)))
def II : Af := .seq (.seq (.ops [mv_ 6 1,
  mv_ 7 0,
  po_ 8 (.nilc (.t 7)),
  po_ 9 (.fieldA 0 0 (.t 8)),
  po_ 10 (.load false 1 (.t 9)),
  po_ 11 (.lenV (.t 10)),
  po_ 12 (.bin 3 .gtr (.t 6) (.t 11))] [0, 1, 12])
 (.cond (.t 12)
 (.pops [po_ 13 (.iface 28 (ci_ 10)),
   ⟨none, .s (.pan (.t 13)), none⟩] [0, 1])
 (.skip)))
 I7
def NZ : Af := .seq (.ops [po_ 4 (.mov (.c (.slice none 0 0)))] [0, 1])
 II
def LV : List VR := [.tmp 4]
theorem Abk : Tryd.f16.body.bind (trC Tryd.prog Tryd.f16.ntmps) = some (er NZ) := by kernel_rfl
theorem Abm : trR Tryd.prog Tryd.f16.results.toList = some LV := by kernel_rfl
def Ti := Aa I7.eq_1
def SK := Aa II.eq_1
def Xx := Aa NZ.eq_1
theorem Yr {K : TV → Prop} {e : Env} {H : List Ob} : res LV e H K = res [.tmp 4] e H K := Ad rfl
def Md := (And.intro (And.intro @Ti @SK) (And.intro @Xx @Yr))
def Zk := Alg 31 Tryd.func16 Abk Abm rfl

def IL : Af := .seq (.ops [mv_ 38 0,
  mv_ 39 0,
  po_ 40 (.nilc (.t 39)),
  po_ 41 (.fieldA 0 0 (.t 40)),
  po_ 42 (.load false 1 (.t 41)),
  po_ 43 (.slV 1 (.t 42) (some (ci_ 1)) none),
  po_ 44 (.nilc (.t 38)),
  po_ 45 (.fieldA 0 0 (.t 44)),
  ⟨none, .s (.store 1 (.t 45) (.t 43)), none⟩] [0, 1])
 (.ops [mv_ 46 0,
  po_ 47 (.nilc (.t 46)),
  po_ 48 (.fieldA 2 2 (.t 47)),
  po_ 49 (.load false 1 (.t 48)),
  po_ 50 (.bin 3 .add (.t 49) (ci_ 8)),
  po_ 51 (.nilc (.t 46)),
  po_ 52 (.fieldA 2 2 (.t 51)),
  ⟨none, .s (.store 1 (.t 52) (.t 50)), none⟩] [0, 1])
def IU : Af := .seq (.draw 11 [mv_ 19 0,
  po_ 20 (.nilc (.t 19)),
  po_ 21 (.fieldA 1 1 (.t 20)),
  po_ 22 (.load false 1 (.t 21)),
  mv_ 23 0,
  po_ 24 (.nilc (.t 23)),
  po_ 25 (.fieldA 0 0 (.t 24)),
  po_ 26 (.load false 1 (.t 25)),
  po_ 27 (.idxA 1 (.t 26) (ci_ 0)),
  po_ 28 (.load false 1 (.t 27)),
  po_ 29 (.conv .u32 (.t 28)),
  mv_ 30 0,
  po_ 31 (.nilc (.t 30)),
  po_ 32 (.fieldA 2 2 (.t 31)),
  po_ 33 (.load false 1 (.t 32)),
  po_ 34 (.bin 36 .shl (.t 29) (.t 33)),
  po_ 35 (.bin 36 .or (.t 22) (.t 34)),
  po_ 36 (.nilc (.t 19)),
  po_ 37 (.fieldA 1 1 (.t 36)),
  ⟨none, .s (.store 1 (.t 37) (.t 35)), none⟩] [0, 1])
 IL
def I4 : Af := .block 1 (.seq (.seq (.ops [mv_ 12 0,
  po_ 13 (.nilc (.t 12)),
  po_ 14 (.fieldA 0 0 (.t 13)),
  po_ 15 (.load false 1 (.t 14)),
  po_ 16 (.lenV (.t 15)),
  po_ 17 (.bin 3 .eql (.t 16) (ci_ 0))] [0, 1, 17])
 (.cond (.t 17)
 (.pops [po_ 18 (.iface 28 (ci_ 10)),
   ⟨none, .s (.pan (.t 18)), none⟩] [0, 1])
 (.skip)))
 IU)
def IY : Af := .seq (.seq (.ops [mv_ 6 0,
  po_ 7 (.nilc (.t 6)),
  po_ 8 (.fieldA 2 2 (.t 7)),
  po_ 9 (.load false 1 (.t 8)),
  mv_ 10 1,
  po_ 11 (.bin 3 .lss (.t 9) (.t 10))] [0, 1, 11])
 (.cond (.t 11)
 (.skip)
 (.exit 0)))
 I4
def IB : Af := .seq (.ops [mv_ 61 0,
  po_ 62 (.nilc (.t 61)),
  po_ 63 (.fieldA 1 1 (.t 62)),
  po_ 64 (.load false 1 (.t 63)),
  mv_ 65 1,
  po_ 66 (.bin 36 .shr (.t 64) (.t 65)),
  po_ 67 (.nilc (.t 61)),
  po_ 68 (.fieldA 1 1 (.t 67)),
  ⟨none, .s (.store 1 (.t 68) (.t 66)), none⟩] [0, 1, 5])
 (.seq (.ops [mv_ 69 0,
  po_ 70 (.nilc (.t 69)),
  po_ 71 (.fieldA 2 2 (.t 70)),
  po_ 72 (.load false 1 (.t 71)),
  mv_ 73 1,
  po_ 74 (.bin 3 .sub (.t 72) (.t 73)),
  po_ 75 (.nilc (.t 69)),
  po_ 76 (.fieldA 2 2 (.t 75)),
  ⟨none, .s (.store 1 (.t 76) (.t 74)), none⟩] [5])
 (.seq (.ops [mv_ 77 5,
  po_ 78 (.conv .i64 (.t 77)),
  mv_ 4 78] [4])
 (.ret)))
def IK : Af := .seq (.draw 4 [mv_ 53 0,
  po_ 54 (.nilc (.t 53)),
  po_ 55 (.fieldA 1 1 (.t 54)),
  po_ 56 (.load false 1 (.t 55)),
  mv_ 57 1,
  po_ 58 (.bin 36 .shl (.c (.int .u32 ((1 : Nat) : Int))) (.t 57)),
  po_ 59 (.bin 36 .sub (.t 58) (.c (.int .u32 ((1 : Nat) : Int)))),
  po_ 60 (.bin 36 .and (.t 56) (.t 59)),
  mv_ 5 60] [0, 1, 5])
 IB
def Iz : Af := .seq (.block 0 (.loop [0, 1] IY))
 IK
def NW : Af := .seq (.ops [po_ 4 (.mov (ci_ 0))] [0, 1])
 Iz
def Nu : List VR := [.tmp 4]
theorem Aao : Tryd.f24.body.bind (trC Tryd.prog Tryd.f24.ntmps) = some (er NW) := by kernel_rfl
theorem ZY : trR Tryd.prog Tryd.f24.results.toList = some Nu := by kernel_rfl
def Tm := Aa IL.eq_1
def SY := Aa IU.eq_1
def Tu := Aa I4.eq_1
def TC := Aa IY.eq_1
def Tt := Aa IB.eq_1
def Tn := Aa IK.eq_1
def SX := Aa Iz.eq_1
def XI := Aa NW.eq_1
theorem Xv {K : TV → Prop} {e : Env} {H : List Ob} : res Nu e H K = res [.tmp 4] e H K := Ad rfl
def Dj := (And.intro (And.intro (And.intro (And.intro @Tm @SY) (And.intro @Tu @TC)) (And.intro (And.intro @Tt @Tn) (And.intro @SX @XI))) @Xv)
def Zb := Alg 79 Tryd.func24 Aao ZY rfl

def OL : Af := .seq (.seq (.draw 5 [mv_ 4 0,
  po_ 5 (.nilc (.t 4)),
  po_ 6 (.fieldA 3 3 (.t 5)),
  po_ 7 (.load false 1 (.t 6)),
  po_ 8 (.lenV (.t 7)),
  mv_ 9 0,
  po_ 10 (.nilc (.t 9)),
  po_ 11 (.fieldA 4 4 (.t 10)),
  po_ 12 (.load false 1 (.t 11)),
  po_ 13 (.bin 3 .geq (.t 8) (.t 12))] [0, 1, 13])
 (.cond (.t 13)
 (.pops [po_ 14 (.iface 28 (ci_ 11)),
   ⟨none, .s (.pan (.t 14)), none⟩] [0, 1])
 (.skip)))
 (.ops [mv_ 15 0,
  mv_ 16 0,
  po_ 17 (.nilc (.t 16)),
  po_ 18 (.fieldA 3 3 (.t 17)),
  po_ 19 (.load false 1 (.t 18)),
  mv_ 20 1,
  ⟨some 21, .s (.bslice 1 1 (.val (.int .u8 ((0 : Nat) : Int))) [⟨0, .t 20⟩]), none⟩,
  so_ 22 (.app 1 1 5 (.t 19) (.t 21)),
  po_ 23 (.nilc (.t 15)),
  po_ 24 (.fieldA 3 3 (.t 23)),
  ⟨none, .s (.store 1 (.t 24) (.t 22)), none⟩] [])
def OA : List VR := []
theorem AbZ : Tryd.f25.body.bind (trC Tryd.prog Tryd.f25.ntmps) = some (er OL) := by kernel_rfl
theorem Ab2 : trR Tryd.prog Tryd.f25.results.toList = some OA := by kernel_rfl
def YY := Aa OL.eq_1
theorem Ze {K : TV → Prop} {e : Env} {H : List Ob} : res OA e H K = res [] e H K := Ad rfl
def Dv := (And.intro @YY @Ze)
def Aaw := Alg 25 Tryd.func25 AbZ Ab2 rfl

def F6 : Af := .seq (.ops [mv_ 27 2,
  po_ 28 (.bin 3 .lss (.t 27) (ci_ 280)),
  mv_ 26 28] [0, 1, 2, 7, 8, 26])
 (.cond (.t 26)
 (.ops [mv_ 29 0,
   mv_ 30 2,
   po_ 31 (.idxA 1 (.t 29) (.t 30)),
   ⟨none, .s (.store 1 (.t 31) (ci_ 7)), none⟩] [0, 1, 7, 8])
 (.ops [mv_ 11 0,
   mv_ 12 2,
   po_ 13 (.idxA 1 (.t 11) (.t 12)),
   ⟨none, .s (.store 1 (.t 13) (ci_ 8)), none⟩] [0, 1, 7, 8]))
def Hq : Af := .cond (.t 20)
 (.ops [mv_ 23 0,
   mv_ 24 2,
   po_ 25 (.idxA 1 (.t 23) (.t 24)),
   ⟨none, .s (.store 1 (.t 25) (ci_ 9)), none⟩] [0, 1, 7, 8])
 F6
def Gg : Af := .seq (.ops [mv_ 21 2,
  po_ 22 (.bin 3 .lss (.t 21) (ci_ 256)),
  mv_ 20 22] [0, 1, 2, 7, 8, 20])
 Hq
def Gj : Af := .cond (.t 14)
 (.ops [mv_ 17 0,
   mv_ 18 2,
   po_ 19 (.idxA 1 (.t 17) (.t 18)),
   ⟨none, .s (.store 1 (.t 19) (ci_ 8)), none⟩] [0, 1, 7, 8])
 Gg
def F5 : Af := .block 2 (.seq (.ops [mv_ 15 2,
  po_ 16 (.bin 3 .lss (.t 15) (ci_ 144)),
  mv_ 14 16] [0, 1, 2, 7, 8, 14])
 Gj)
def GY : Af := .seq (.block 1 (.seq (.ops [mv_ 10 8,
  mv_ 2 10] [0, 1, 2, 7, 8])
 F5))
 (.ops [po_ 32 (.bin 3 .add (.t 8) (ci_ 1)),
  mv_ 8 32] [0, 1, 7, 8])
def Gy : Af := .seq (.cond (.t 9)
 (.skip)
 (.exit 0))
 GY
def GL : Af := .seq (.ops [po_ 9 (.bin 3 .lss (.t 8) (.t 7))] [0, 1, 7, 8, 9])
 Gy
def Gi : Af := .block 0 (.loop [0, 1, 7, 8] GL)
def Fq : Af := .seq (.ops [po_ 36 (.bin 3 .lss (.t 35) (.t 34))] [0, 1, 34, 35, 36])
 (.seq (.cond (.t 36)
 (.skip)
 (.exit 3))
 (.seq (.block 4 (.seq (.ops [mv_ 37 35,
  mv_ 3 37] [0, 1, 3, 34, 35])
 (.ops [mv_ 38 1,
  mv_ 39 3,
  po_ 40 (.idxA 1 (.t 38) (.t 39)),
  ⟨none, .s (.store 1 (.t 40) (ci_ 5)), none⟩] [0, 1, 34, 35])))
 (.ops [po_ 41 (.bin 3 .add (.t 35) (ci_ 1)),
  mv_ 35 41] [0, 1, 34, 35])))
def FB : Af := .frz 1 (.frz 0 (.seq (.ops [mv_ 42 0,
  mv_ 43 1,
  mv_ 0 42,
  mv_ 1 43] [0, 1])
 (.ret)))
def Fz : Af := .seq (.seq (.ops [mv_ 33 1,
  po_ 34 (.lenV (.t 33)),
  po_ 35 (.mov (ci_ 0))] [0, 1, 34, 35])
 (.block 3 (.loop [0, 1, 34, 35] Fq)))
 FB
def Fg : Af := .seq (.seq (.ops [mv_ 6 0,
  po_ 7 (.lenV (.t 6)),
  po_ 8 (.mov (ci_ 0))] [0, 1, 7, 8])
 Gi)
 Fz
def FQ : Af := .seq (.draw 0 [so_ 4 (.mks 1 8 (.val (.int .i64 ((0 : Nat) : Int))) (ci_ 288) (ci_ 288)),
  so_ 5 (.mks 1 8 (.val (.int .i64 ((0 : Nat) : Int))) (ci_ 32) (ci_ 32)),
  mv_ 0 4,
  mv_ 1 5] [0, 1])
 Fg
def Lh : Af := .seq (.ops [po_ 0 (.mov (.c (.slice none 0 0))),
  po_ 1 (.mov (.c (.slice none 0 0)))] [])
 FQ
def KU : List VR := [.tmp 0, .tmp 1]
theorem YP : Tryd.f26.body.bind (trC Tryd.prog Tryd.f26.ntmps) = some (er Lh) := by kernel_rfl
theorem Y9 : trR Tryd.prog Tryd.f26.results.toList = some KU := by kernel_rfl
def PZ := Aa F6.eq_1
def Qo := Aa Hq.eq_1
def Ry := Aa Gg.eq_1
def Qz := Aa Gj.eq_1
def PT := Aa F5.eq_1
def Qk := Aa GY.eq_1
def QL := Aa Gy.eq_1
def Q3 := Aa GL.eq_1
def RQ := Aa Gi.eq_1
def Pj := Aa Fq.eq_1
def PN := Aa FB.eq_1
def PE := Aa Fz.eq_1
def PH := Aa Fg.eq_1
def Pz := Aa FQ.eq_1
def WN := Aa Lh.eq_1
theorem Xp {K : TV → Prop} {e : Env} {H : List Ob} : res KU e H K = res [.tmp 0, .tmp 1] e H K := Ad rfl
def A8 := (And.intro (And.intro (And.intro (And.intro @PZ @Qo) (And.intro @Ry @Qz)) (And.intro (And.intro @PT @Qk) (And.intro @QL @Q3))) (And.intro (And.intro (And.intro @RQ @Pj) (And.intro @PN @PE)) (And.intro (And.intro @PH @Pz) (And.intro @WN @Xp))))
def XA := EK 44 Tryd.func26 YP Y9 rfl

def LQ : Af := .seq (.ops [po_ 21 (.bin 3 .lss (.t 20) (.t 19))] [0, 1, 2, 7, 18, 19, 20, 21])
 (.seq (.cond (.t 21)
 (.skip)
 (.exit 0))
 (.seq (.block 1 (.seq (.ops [po_ 22 (.idxA 1 (.t 18) (.t 20)),
  po_ 23 (.load false 1 (.t 22)),
  mv_ 9 23] [0, 1, 2, 7, 9, 18, 19, 20])
 (.ops [mv_ 24 9,
  po_ 25 (.idxAA 16 1 (.t 7) (.t 24)),
  po_ 26 (.load false 1 (.t 25)),
  po_ 27 (.bin 3 .add (.t 26) (ci_ 1)),
  po_ 28 (.idxAA 16 1 (.t 7) (.t 24)),
  ⟨none, .s (.store 1 (.t 28) (.t 27)), none⟩] [0, 1, 2, 7, 18, 19, 20])))
 (.ops [po_ 29 (.bin 3 .add (.t 20) (ci_ 1)),
  mv_ 20 29] [0, 1, 2, 7, 18, 19, 20])))
def WH : Af := .seq (.block 3 (.seq (.ops [mv_ 34 10,
  po_ 35 (.bin 3 .mul (.t 34) (ci_ 2)),
  mv_ 36 12,
  po_ 37 (.idxAA 16 1 (.t 7) (.t 36)),
  po_ 38 (.load false 1 (.t 37)),
  po_ 39 (.bin 3 .sub (.t 35) (.t 38)),
  mv_ 10 39] [0, 1, 2, 7, 10, 11, 12])
 (.seq (.ops [mv_ 40 11,
  mv_ 41 12,
  po_ 42 (.idxAA 16 1 (.t 7) (.t 41)),
  po_ 43 (.load false 1 (.t 42)),
  po_ 44 (.bin 3 .add (.t 40) (.t 43)),
  mv_ 11 44] [0, 1, 2, 7, 10, 11, 12])
 (.seq (.ops [mv_ 45 10,
  po_ 46 (.bin 3 .lss (.t 45) (ci_ 0))] [0, 1, 2, 7, 10, 11, 12, 46])
 (.cond (.t 46)
 (.pops [po_ 47 (.iface 28 (ci_ 10)),
   ⟨none, .s (.pan (.t 47)), none⟩] [0, 1, 2, 7, 10, 11, 12])
 (.skip))))))
 (.ops [mv_ 32 12,
  po_ 33 (.bin 3 .add (.t 32) (ci_ 1)),
  mv_ 12 33] [0, 1, 2, 7, 10, 11, 12])
def Lu : Af := .seq (.seq (.ops [mv_ 30 12,
  po_ 31 (.bin 3 .lss (.t 30) (ci_ 16))] [0, 1, 2, 7, 10, 11, 12, 31])
 (.cond (.t 31)
 (.skip)
 (.exit 2)))
 WH
def Wi : Af := .block 2 (.loop [0, 1, 2, 7, 10, 11, 12] Lu)
def Xr : Af := .seq (.block 5 (.draw 5 [mv_ 76 14,
  po_ 77 (.bin 3 .add (.t 76) (ci_ 1)),
  mv_ 78 14,
  po_ 79 (.idxAA 17 1 (.t 13) (.t 78)),
  po_ 80 (.load false 1 (.t 79)),
  mv_ 81 14,
  po_ 82 (.idxAA 16 1 (.t 7) (.t 81)),
  po_ 83 (.load false 1 (.t 82)),
  po_ 84 (.bin 3 .add (.t 80) (.t 83)),
  po_ 85 (.bin 3 .shl (.t 84) (.c (.int .u64 ((1 : Nat) : Int)))),
  po_ 86 (.idxAA 17 1 (.t 13) (.t 77)),
  ⟨none, .s (.store 1 (.t 86) (.t 85)), none⟩] [0, 7, 13, 14]))
 (.ops [mv_ 74 14,
  po_ 75 (.bin 3 .add (.t 74) (ci_ 1)),
  mv_ 14 75] [0, 7, 13, 14])
def LU : Af := .seq (.seq (.ops [mv_ 72 14,
  po_ 73 (.bin 3 .lss (.t 72) (ci_ 16))] [0, 7, 13, 14, 73])
 (.cond (.t 73)
 (.skip)
 (.exit 4)))
 Xr
def WM : Af := .block 4 (.loop [0, 7, 13, 14] LU)
def Wx : Af := .seq (.ops [mv_ 98 17,
  po_ 99 (.idxAA 17 1 (.t 13) (.t 98)),
  po_ 100 (.load false 1 (.t 99)),
  mv_ 101 17,
  mv_ 102 16,
  so_ 103 (.call 49 [.t 15, .t 100, .t 101, .t 102])] [13, 15, 17, 89, 90, 91])
 (.ops [mv_ 104 17,
  po_ 105 (.idxAA 17 1 (.t 13) (.t 104)),
  po_ 106 (.load false 1 (.t 105)),
  po_ 107 (.bin 3 .add (.t 106) (ci_ 1)),
  po_ 108 (.idxAA 17 1 (.t 13) (.t 104)),
  ⟨none, .s (.store 1 (.t 108) (.t 107)), none⟩] [13, 15, 89, 90, 91])
def WV : Af := .seq (.ops [mv_ 96 17,
  po_ 97 (.bin 3 .gtr (.t 96) (ci_ 0))] [13, 15, 16, 17, 89, 90, 91, 97])
 (.cond (.t 97)
 Wx
 (.skip))
def UM : Af := .seq (.block 7 (.seq (.ops [mv_ 93 91,
  po_ 94 (.idxA 1 (.t 89) (.t 91)),
  po_ 95 (.load false 1 (.t 94)),
  mv_ 16 93,
  mv_ 17 95] [13, 15, 16, 17, 89, 90, 91])
 WV))
 (.ops [po_ 109 (.bin 3 .add (.t 91) (ci_ 1)),
  mv_ 91 109] [13, 15, 89, 90, 91])
def Ue : Af := .seq (.cond (.t 92)
 (.skip)
 (.exit 6))
 UM
def JY : Af := .seq (.ops [po_ 92 (.bin 3 .lss (.t 91) (.t 90))] [13, 15, 89, 90, 91, 92])
 Ue
def Uu : Af := .block 6 (.loop [13, 15, 89, 90, 91] JY)
def UF : Af := .seq (.ops [po_ 110 (.load false 1 (.t 15)),
  mv_ 6 110] [6])
 (.ret)
def TR : Af := .seq (.seq (.ops [mv_ 89 0,
  po_ 90 (.lenV (.t 89)),
  po_ 91 (.mov (ci_ 0))] [13, 15, 89, 90, 91])
 Uu)
 UF
def UH : Af := .seq (.ops [po_ 87 (.buildA 2 1 [.val (.int .i64 ((0 : Nat) : Int)), .val (.int .i64 ((0 : Nat) : Int))] []),
  ⟨some 88, .s (.bslice 2 1 (.arr 2 1 [.val (.int .i64 ((0 : Nat) : Int)), .val (.int .i64 ((0 : Nat) : Int))]) [⟨0, .t 87⟩]), none⟩,
  so_ 15 (.alloc (.val (.slice none 0 0))),
  ⟨none, .s (.store 1 (.t 15) (.t 88)), none⟩] [0, 13, 15])
 TR
def Uc : Af := .seq (.seq (.ops [po_ 14 (.mov (ci_ 1))] [0, 7, 13, 14])
 WM)
 UH
def Jq : Af := .seq (.ops [so_ 13 (.alloc (.arr 17 1 [.val (.int .i64 ((0 : Nat) : Int)), .val (.int .i64 ((0 : Nat) : Int)), .val (.int .i64 ((0 : Nat) : Int)), .val (.int .i64 ((0 : Nat) : Int)), .val (.int .i64 ((0 : Nat) : Int)), .val (.int .i64 ((0 : Nat) : Int)), .val (.int .i64 ((0 : Nat) : Int)), .val (.int .i64 ((0 : Nat) : Int)), .val (.int .i64 ((0 : Nat) : Int)), .val (.int .i64 ((0 : Nat) : Int)), .val (.int .i64 ((0 : Nat) : Int)), .val (.int .i64 ((0 : Nat) : Int)), .val (.int .i64 ((0 : Nat) : Int)), .val (.int .i64 ((0 : Nat) : Int)), .val (.int .i64 ((0 : Nat) : Int)), .val (.int .i64 ((0 : Nat) : Int)), .val (.int .i64 ((0 : Nat) : Int))]))] [0, 7, 13])
 Uc
def UC : Af := .seq (.seq (.ops [mv_ 48 10,
  po_ 49 (.bin 3 .gtr (.t 48) (ci_ 0)),
  mv_ 50 49,
  ⟨some 51, .p (.mov (.t 1)), some ⟨50, true⟩⟩,
  ⟨some 52, .p (.mov (.t 51)), some ⟨50, true⟩⟩,
  ⟨some 53, .p (.mov (.t 11)), some ⟨52, true⟩⟩,
  ⟨some 54, .p (.bin 3 .eql (.t 53) (ci_ 1)), some ⟨52, true⟩⟩,
  ⟨some 55, .p (.pick (.t 52) (.t 54) (.c (.bool false))), some ⟨50, true⟩⟩,
  ⟨some 56, .p (.mov (.t 55)), some ⟨50, true⟩⟩,
  ⟨some 57, .p (.idxAA 16 1 (.t 7) (ci_ 1)), some ⟨56, true⟩⟩,
  ⟨some 58, .p (.load false 1 (.t 57)), some ⟨56, true⟩⟩,
  ⟨some 59, .p (.bin 3 .eql (.t 58) (ci_ 1)), some ⟨56, true⟩⟩,
  ⟨some 60, .p (.pick (.t 56) (.t 59) (.c (.bool false))), some ⟨50, true⟩⟩,
  ⟨some 61, .p (.un .not (.t 60)), some ⟨50, true⟩⟩,
  po_ 62 (.pick (.t 50) (.t 61) (.c (.bool false))),
  mv_ 63 62,
  ⟨some 64, .p (.mov (.t 2)), some ⟨63, true⟩⟩,
  ⟨some 65, .p (.mov (.t 64)), some ⟨63, true⟩⟩,
  ⟨some 66, .p (.mov (.t 11)), some ⟨65, true⟩⟩,
  ⟨some 67, .p (.bin 3 .eql (.t 66) (ci_ 0)), some ⟨65, true⟩⟩,
  ⟨some 68, .p (.pick (.t 65) (.t 67) (.c (.bool false))), some ⟨63, true⟩⟩,
  ⟨some 69, .p (.un .not (.t 68)), some ⟨63, true⟩⟩,
  po_ 70 (.pick (.t 63) (.t 69) (.c (.bool false)))] [0, 7, 70])
 (.cond (.t 70)
 (.pops [po_ 71 (.iface 28 (ci_ 10)),
   ⟨none, .s (.pan (.t 71)), none⟩] [0, 7])
 (.skip)))
 Jq
def UU : Af := .seq (.seq (.ops [po_ 12 (.mov (ci_ 1))] [0, 1, 2, 7, 10, 11, 12])
 Wi)
 UC
def Uw : Af := .seq (.ops [po_ 10 (.mov (ci_ 1)),
  po_ 11 (.mov (ci_ 0))] [0, 1, 2, 7, 10, 11])
 UU
def Uk : Af := .seq (.seq (.ops [mv_ 18 0,
  po_ 19 (.lenV (.t 18)),
  po_ 20 (.mov (ci_ 0))] [0, 1, 2, 7, 18, 19, 20])
 (.block 0 (.loop [0, 1, 2, 7, 18, 19, 20] LQ)))
 Uw
def UB : Af := .seq (.ops [so_ 7 (.alloc (.arr 16 1 [.val (.int .i64 ((0 : Nat) : Int)), .val (.int .i64 ((0 : Nat) : Int)), .val (.int .i64 ((0 : Nat) : Int)), .val (.int .i64 ((0 : Nat) : Int)), .val (.int .i64 ((0 : Nat) : Int)), .val (.int .i64 ((0 : Nat) : Int)), .val (.int .i64 ((0 : Nat) : Int)), .val (.int .i64 ((0 : Nat) : Int)), .val (.int .i64 ((0 : Nat) : Int)), .val (.int .i64 ((0 : Nat) : Int)), .val (.int .i64 ((0 : Nat) : Int)), .val (.int .i64 ((0 : Nat) : Int)), .val (.int .i64 ((0 : Nat) : Int)), .val (.int .i64 ((0 : Nat) : Int)), .val (.int .i64 ((0 : Nat) : Int)), .val (.int .i64 ((0 : Nat) : Int))]))] [0, 1, 2, 7])
 Uk
def Adl : Af := .seq (.ops [po_ 6 (.mov (.c (.slice none 0 0)))] [0, 1, 2])
 UB
def VB : List VR := [.tmp 6]
theorem Ajc : Tryd.f28.body.bind (trC Tryd.prog Tryd.f28.ntmps) = some (er Adl) := by kernel_rfl
theorem Ai8 : trR Tryd.prog Tryd.f28.results.toList = some VB := by kernel_rfl
def AdF := Aa LQ.eq_1
def AdW := Aa WH.eq_1
def AdG := Aa Lu.eq_1
def AdD := Aa Wi.eq_1
def Ad8 := Aa Xr.eq_1
def AdU := Aa LU.eq_1
def AdZ := Aa WM.eq_1
def AdP := Aa Wx.eq_1
def Aef := Aa WV.eq_1
def Acz := Aa UM.eq_1
def Ab3 := Aa Ue.eq_1
def AcC := Aa JY.eq_1
def AcJ := Aa Uu.eq_1
def Acf := Aa UF.eq_1
def Ac1 := Aa TR.eq_1
def Aca := Aa UH.eq_1
def Acj := Aa Uc.eq_1
def Acr := Aa Jq.eq_1
def A7 := Aa UC.eq_1
def Acg := Aa UU.eq_1
def AcX := Aa Uw.eq_1
def Acw := Aa Uk.eq_1
def Aci := Aa UB.eq_1
def Ahi := Aa Adl.eq_1
theorem Ag6 {K : TV → Prop} {e : Env} {H : List Ob} : res VB e H K = res [.tmp 6] e H K := Ad rfl
def Bg := (And.intro (And.intro (And.intro (And.intro (And.intro @AdF @AdW) (And.intro @AdG @AdD)) (And.intro (And.intro @Ad8 @AdU) (And.intro @AdZ @AdP))) (And.intro (And.intro (And.intro @Aef @Acz) (And.intro @Ab3 @AcC)) (And.intro (And.intro @AcJ @Acf) (And.intro @Ac1 @Aca)))) (And.intro (And.intro (And.intro (And.intro @Acj @Acr) (And.intro @A7 @Acg)) (And.intro (And.intro @AcX @Acw) (And.intro @Aci @Ahi))) @Ag6))
def Ah9 := Alg 111 Tryd.func28 Ajc Ai8 rfl

def ES : Af := .seq (.ops [mv_ 21 6,
  po_ 22 (.bin 3 .eql (.t 21) (ci_ 256)),
  mv_ 20 22] [0, 1, 2, 6, 20])
 (.cond (.t 20)
 (.ret)
 (.seq (.ops [mv_ 24 6,
   po_ 25 (.bin 3 .gtr (.t 24) (ci_ 285)),
   mv_ 23 25] [0, 1, 2, 6, 23])
  (.cond (.t 23)
  (.pops [po_ 26 (.iface 28 (ci_ 10)),
    ⟨none, .s (.pan (.t 26)), none⟩] [0, 1, 2, 6])
  (.skip))))
def EZ : Af := .seq (.block 4 (.pdraw 5 [mv_ 70 0,
  mv_ 71 0,
  po_ 72 (.nilc (.t 71)),
  po_ 73 (.fieldA 3 3 (.t 72)),
  po_ 74 (.load false 1 (.t 73)),
  mv_ 75 0,
  po_ 76 (.nilc (.t 75)),
  po_ 77 (.fieldA 3 3 (.t 76)),
  po_ 78 (.load false 1 (.t 77)),
  po_ 79 (.lenV (.t 78)),
  mv_ 80 9,
  po_ 81 (.bin 3 .sub (.t 79) (.t 80)),
  po_ 82 (.idxA 1 (.t 74) (.t 81)),
  po_ 83 (.load false 1 (.t 82)),
  so_ 84 (.call 25 [.t 70, .t 83])] [0, 1, 2, 9, 67, 68]))
 (.ops [po_ 85 (.bin 3 .add (.t 68) (ci_ 1)),
  mv_ 68 85] [0, 1, 2, 9, 67, 68])
def EM : Af := .seq (.cond (.t 69)
 (.skip)
 (.exit 3))
 EZ
def CV : Af := .seq (.ops [po_ 69 (.bin 3 .lss (.t 68) (.t 67))] [0, 1, 2, 9, 67, 68, 69])
 EM
def EO : Af := .block 3 (.loop [0, 1, 2, 9, 67, 68] CV)
def EL : Af := .seq (.ops [mv_ 67 8,
  po_ 68 (.mov (ci_ 0))] [0, 1, 2, 9, 67, 68])
 EO
def ER : Af := .seq (.seq (.ops [mv_ 51 9,
  mv_ 52 0,
  po_ 53 (.nilc (.t 52)),
  po_ 54 (.fieldA 3 3 (.t 53)),
  po_ 55 (.load false 1 (.t 54)),
  po_ 56 (.lenV (.t 55)),
  po_ 57 (.bin 3 .gtr (.t 51) (.t 56)),
  mv_ 58 57,
  ⟨some 59, .p (.mov (.t 9)), some ⟨58, false⟩⟩,
  ⟨some 60, .p (.mov (.t 0)), some ⟨58, false⟩⟩,
  ⟨some 61, .p (.nilc (.t 60)), some ⟨58, false⟩⟩,
  ⟨some 62, .p (.fieldA 5 5 (.t 61)), some ⟨58, false⟩⟩,
  ⟨some 63, .p (.load false 1 (.t 62)), some ⟨58, false⟩⟩,
  ⟨some 64, .p (.bin 3 .gtr (.t 59) (.t 63)), some ⟨58, false⟩⟩,
  po_ 65 (.pick (.t 58) (.c (.bool true)) (.t 64))] [0, 1, 2, 8, 9, 65])
 (.cond (.t 65)
 (.pops [po_ 66 (.iface 28 (ci_ 10)),
   ⟨none, .s (.pan (.t 66)), none⟩] [0, 1, 2, 8, 9])
 (.skip)))
 EL
def EP : Af := .seq (.sdraw 3 [po_ 44 (.fieldA 0 0 (.t 7)),
  po_ 45 (.load false 1 (.t 44)),
  mv_ 46 0,
  po_ 47 (.fieldA 1 1 (.t 7)),
  po_ 48 (.load false 1 (.t 47)),
  so_ 49 (.call 24 [.t 46, .t 48]),
  po_ 50 (.bin 3 .add (.t 45) (.t 49)),
  mv_ 9 50] [0, 1, 2, 8, 9])
 ER
def E9 : Af := .seq (.ops [mv_ 42 6,
  so_ 43 (.call 45 [.t 42]),
  ⟨none, .s (.store 2 (.t 7) (.t 43)), none⟩] [0, 1, 2, 7, 8])
 EP
def EF : Af := .seq (.seq (.ops [mv_ 39 6,
  po_ 40 (.bin 3 .gtr (.t 39) (ci_ 29))] [0, 1, 2, 6, 7, 8, 40])
 (.cond (.t 40)
 (.pops [po_ 41 (.iface 28 (ci_ 10)),
   ⟨none, .s (.pan (.t 41)), none⟩] [0, 1, 2, 6, 7, 8])
 (.skip)))
 E9
def Eu : Af := .seq (.pops [mv_ 36 0,
  mv_ 37 2,
  so_ 38 (.call 48 [.t 36, .t 37]),
  mv_ 6 38] [0, 1, 2, 6, 7, 8])
 EF
def EH : Af := .seq (.sdraw 3 [po_ 29 (.fieldA 0 0 (.t 7)),
  po_ 30 (.load false 1 (.t 29)),
  mv_ 31 0,
  po_ 32 (.fieldA 1 1 (.t 7)),
  po_ 33 (.load false 1 (.t 32)),
  so_ 34 (.call 24 [.t 31, .t 33]),
  po_ 35 (.bin 3 .add (.t 30) (.t 34)),
  mv_ 8 35] [0, 1, 2, 7, 8])
 Eu
def En : Af := .seq (.ops [mv_ 27 6,
  so_ 28 (.call 44 [.t 27]),
  so_ 7 (.alloc (.agg [.val (.int .i64 ((0 : Nat) : Int)), .val (.int .i64 ((0 : Nat) : Int))])),
  ⟨none, .s (.store 2 (.t 7) (.t 28)), none⟩] [0, 1, 2, 7])
 EH
def Ew : Af := .seq (.block 2 (.seq (.ops [mv_ 14 6,
  po_ 15 (.bin 3 .lss (.t 14) (ci_ 256)),
  mv_ 13 15] [0, 1, 2, 6, 13])
 (.cond (.t 13)
 (.seq (.pops [mv_ 16 0,
   mv_ 17 6,
   po_ 18 (.conv .u8 (.t 17)),
   so_ 19 (.call 25 [.t 16, .t 18])] [0, 1, 2])
  (.exit 1))
 ES)))
 En
def EE : Af := .block 1 (.seq (.pops [mv_ 10 0,
  mv_ 11 1,
  so_ 12 (.call 48 [.t 10, .t 11]),
  mv_ 6 12] [0, 1, 2, 6])
 Ew)
def IC : Af := .block 0 (.loop [0, 1, 2] EE)
def Ii : List VR := []
theorem Xl : Tryd.f27.body.bind (trC Tryd.prog Tryd.f27.ntmps) = some (er IC) := by kernel_rfl
theorem WS : trR Tryd.prog Tryd.f27.results.toList = some Ii := by kernel_rfl
def Oi := Aa ES.eq_1
def Ol := Aa EZ.eq_1
def Oc := Aa EM.eq_1
def Og := Aa CV.eq_1
def N9 := Aa EO.eq_1
def Oh := Aa EL.eq_1
def Oa := Aa ER.eq_1
def Oe := Aa EP.eq_1
def N8 := Aa E9.eq_1
def MI := Aa EF.eq_1
def MP := Aa Eu.eq_1
def Nl := Aa EH.eq_1
def NG := Aa En.eq_1
def NL := Aa Ew.eq_1
def L8 := Aa EE.eq_1
def Td := Aa IC.eq_1
theorem SQ {K : TV → Prop} {e : Env} {H : List Ob} : res Ii e H K = res [] e H K := Ad rfl
def Aw := (And.intro (And.intro (And.intro (And.intro (And.intro @Oi @Ol) (And.intro @Oc @Og)) (And.intro (And.intro @N9 @Oh) (And.intro @Oa @Oe))) (And.intro (And.intro (And.intro @N8 @MI) (And.intro @MP @Nl)) (And.intro (And.intro @NG @NL) (And.intro @L8 @Td)))) @SQ)
def Vk := Alg 86 Tryd.func27 Xl WS rfl

def Dz : Af := .seq (.ops [po_ 35 (.bin 3 .lss (.t 34) (.t 33))] [0, 4, 5, 7, 32, 33, 34, 35])
 (.seq (.cond (.t 35)
 (.skip)
 (.exit 0))
 (.seq (.block 1 (.seq (.ops [po_ 36 (.idxA 1 (.t 32) (.t 34)),
  po_ 37 (.load false 1 (.t 36)),
  mv_ 9 37] [0, 4, 5, 7, 9, 32, 33, 34])
 (.pops [mv_ 38 7,
  mv_ 39 9,
  mv_ 40 0,
  so_ 41 (.call 24 [.t 40, .c (.int .i64 ((3 : Nat) : Int))]),
  po_ 42 (.idxA 1 (.t 38) (.t 39)),
  ⟨none, .s (.store 1 (.t 42) (.t 41)), none⟩] [0, 4, 5, 7, 32, 33, 34])))
 (.ops [po_ 43 (.bin 3 .add (.t 34) (ci_ 1)),
  mv_ 34 43] [0, 4, 5, 7, 32, 33, 34])))
def Je : Af := .seq (.seq (.ops [mv_ 58 11,
  po_ 59 (.lenV (.t 58)),
  po_ 60 (.bin 3 .eql (.t 59) (ci_ 0))] [0, 4, 5, 10, 11, 60])
 (.cond (.t 60)
 (.pops [po_ 61 (.iface 28 (ci_ 10)),
   ⟨none, .s (.pan (.t 61)), none⟩] [0, 4, 5, 10, 11])
 (.skip)))
 (.sdraw 6 [mv_ 62 11,
  mv_ 63 11,
  po_ 64 (.lenV (.t 63)),
  po_ 65 (.bin 3 .sub (.t 64) (ci_ 1)),
  po_ 66 (.idxA 1 (.t 62) (.t 65)),
  po_ 67 (.load false 1 (.t 66)),
  mv_ 68 0,
  so_ 69 (.call 24 [.t 68, .c (.int .i64 ((2 : Nat) : Int))]),
  po_ 70 (.bin 3 .add (ci_ 3) (.t 69)),
  mv_ 12 67,
  mv_ 13 70] [0, 4, 5, 10, 11, 12, 13])
def Iu : Af := .seq (.ops [po_ 77 (.bin 3 .eql (.t 55) (ci_ 18)),
  mv_ 76 77] [0, 4, 5, 10, 11, 12, 13, 76])
 (.cond (.t 76)
 (.pops [mv_ 78 0,
   so_ 79 (.call 24 [.t 78, .c (.int .i64 ((7 : Nat) : Int))]),
   po_ 80 (.bin 3 .add (ci_ 11) (.t 79)),
   po_ 12 (.mov (ci_ 0)),
   mv_ 13 80] [0, 4, 5, 10, 11, 12, 13])
 (.skip))
def Ja : Af := .seq (.ops [po_ 72 (.bin 3 .eql (.t 55) (ci_ 17)),
  mv_ 71 72] [0, 4, 5, 10, 11, 12, 13, 55, 71])
 (.cond (.t 71)
 (.pops [mv_ 73 0,
   so_ 74 (.call 24 [.t 73, .c (.int .i64 ((3 : Nat) : Int))]),
   po_ 75 (.bin 3 .add (ci_ 3) (.t 74)),
   po_ 12 (.mov (ci_ 0)),
   mv_ 13 75] [0, 4, 5, 10, 11, 12, 13])
 Iu)
def Ij : Af := .cond (.t 56)
 Je
 Ja
def Ih : Af := .block 4 (.seq (.ops [po_ 57 (.bin 3 .eql (.t 55) (ci_ 16)),
  mv_ 56 57] [0, 4, 5, 10, 11, 12, 13, 55, 56])
 Ij)
def DI : Af := .seq (.ops [po_ 92 (.bin 3 .lss (.t 91) (.t 90))] [0, 4, 5, 10, 11, 12, 90, 91, 92])
 (.seq (.cond (.t 92)
 (.skip)
 (.exit 5))
 (.seq (.block 6 (.ops [mv_ 93 11,
  mv_ 94 12,
  ⟨some 95, .s (.bslice 1 1 (.val (.int .i64 ((0 : Nat) : Int))) [⟨0, .t 94⟩]), none⟩,
  so_ 96 (.app 1 8 3 (.t 93) (.t 95)),
  mv_ 11 96] [0, 4, 5, 10, 11, 12, 90, 91]))
 (.ops [po_ 97 (.bin 3 .add (.t 91) (ci_ 1)),
  mv_ 91 97] [0, 4, 5, 10, 11, 12, 90, 91])))
def DC : Af := .seq (.seq (.ops [mv_ 81 11,
  po_ 82 (.lenV (.t 81)),
  mv_ 83 13,
  po_ 84 (.bin 3 .add (.t 82) (.t 83)),
  mv_ 85 4,
  mv_ 86 5,
  po_ 87 (.bin 3 .add (.t 85) (.t 86)),
  po_ 88 (.bin 3 .gtr (.t 84) (.t 87))] [0, 4, 5, 10, 11, 12, 13, 88])
 (.cond (.t 88)
 (.pops [po_ 89 (.iface 28 (ci_ 10)),
   ⟨none, .s (.pan (.t 89)), none⟩] [0, 4, 5, 10, 11, 12, 13])
 (.skip)))
 (.seq (.ops [mv_ 90 13,
  po_ 91 (.mov (ci_ 0))] [0, 4, 5, 10, 11, 12, 90, 91])
 (.block 5 (.own 11 1 (.loop [0, 4, 5, 10, 11, 12, 90, 91] DI))))
def Iy : Af := .seq (.seq (.ops [mv_ 55 12] [0, 4, 5, 10, 11, 12, 13, 55])
 Ih)
 DC
def GU : Af := .block 3 (.seq (.pops [mv_ 52 0,
  mv_ 53 10,
  so_ 54 (.call 48 [.t 52, .t 53]),
  mv_ 12 54,
  po_ 13 (.mov (ci_ 1))] [0, 4, 5, 10, 11, 12, 13])
 Iy)
def Dq : Af := .seq (.seq (.ops [mv_ 46 11,
  po_ 47 (.lenV (.t 46)),
  mv_ 48 4,
  mv_ 49 5,
  po_ 50 (.bin 3 .add (.t 48) (.t 49)),
  po_ 51 (.bin 3 .lss (.t 47) (.t 50))] [0, 4, 5, 10, 11, 51])
 (.cond (.t 51)
 (.skip)
 (.exit 2)))
 GU
def F7 : Af := .frz 11 (.seq (.seq (.ops [mv_ 98 11,
  po_ 99 (.idxA 1 (.t 98) (ci_ 256)),
  po_ 100 (.load false 1 (.t 99)),
  po_ 101 (.bin 3 .eql (.t 100) (ci_ 0))] [4, 11, 101])
 (.cond (.t 101)
 (.pops [po_ 102 (.iface 28 (ci_ 10)),
   ⟨none, .s (.pan (.t 102)), none⟩] [4, 11])
 (.skip)))
 (.seq (.draw 4 [mv_ 103 11,
  mv_ 104 4,
  mv_ 105 4,
  po_ 106 (.gen (.sl3 1) [.t 103, .c (.int .i64 ((0 : Nat) : Int)), .t 104, .t 105]),
  mv_ 107 11,
  mv_ 108 4,
  po_ 109 (.slV 1 (.t 107) (some (.t 108)) none),
  mv_ 2 106,
  mv_ 3 109] [2, 3])
 (.ret)))
def Gz : Af := .seq (.block 2 (.own 11 1 (.loop [0, 4, 5, 10, 11] Dq)))
 F7
def GZ : Af := .seq (.ops [po_ 11 (.mov (.c (.slice none 0 0)))] [0, 4, 5, 10, 11])
 Gz
def Gv : Af := .seq (.pops [mv_ 44 7,
  so_ 45 (.call 28 [.t 44, .c (.bool false), .c (.bool false)]),
  mv_ 10 45] [0, 4, 5, 10])
 GZ
def G7 : Af := .seq (.seq (.ops [mv_ 31 6,
  po_ 32 (.slA 19 1 (.g 1) none (some (.t 31))),
  po_ 33 (.lenV (.t 32)),
  po_ 34 (.mov (ci_ 0))] [0, 4, 5, 7, 32, 33, 34])
 (.block 0 (.loop [0, 4, 5, 7, 32, 33, 34] Dz)))
 Gv
def F8 : Af := .seq (.ops [so_ 30 (.mks 1 8 (.val (.int .i64 ((0 : Nat) : Int))) (ci_ 19) (ci_ 19)),
  mv_ 7 30] [0, 4, 5, 6, 7])
 G7
def Hl : Af := .seq (.seq (.ops [mv_ 23 4,
  po_ 24 (.bin 3 .gtr (.t 23) (ci_ 286)),
  mv_ 25 24,
  ⟨some 26, .p (.mov (.t 5)), some ⟨25, false⟩⟩,
  ⟨some 27, .p (.bin 3 .gtr (.t 26) (ci_ 30)), some ⟨25, false⟩⟩,
  po_ 28 (.pick (.t 25) (.c (.bool true)) (.t 27))] [0, 4, 5, 6, 28])
 (.cond (.t 28)
 (.pops [po_ 29 (.iface 28 (ci_ 10)),
   ⟨none, .s (.pan (.t 29)), none⟩] [0, 4, 5, 6])
 (.skip)))
 F8
def GN : Af := .seq (.pops [mv_ 14 0,
  so_ 15 (.call 24 [.t 14, .c (.int .i64 ((5 : Nat) : Int))]),
  po_ 16 (.bin 3 .add (.t 15) (ci_ 257)),
  mv_ 17 0,
  so_ 18 (.call 24 [.t 17, .c (.int .i64 ((5 : Nat) : Int))]),
  po_ 19 (.bin 3 .add (.t 18) (ci_ 1)),
  mv_ 20 0,
  so_ 21 (.call 24 [.t 20, .c (.int .i64 ((4 : Nat) : Int))]),
  po_ 22 (.bin 3 .add (.t 21) (ci_ 4)),
  mv_ 4 16,
  mv_ 5 19,
  mv_ 6 22] [0, 4, 5, 6])
 Hl
def NH : Af := .seq (.ops [po_ 2 (.mov (.c (.slice none 0 0))),
  po_ 3 (.mov (.c (.slice none 0 0)))] [0])
 GN
def NR : List VR := [.tmp 2, .tmp 3]
theorem AaE : Tryd.f29.body.bind (trC Tryd.prog Tryd.f29.ntmps) = some (er NH) := by kernel_rfl
theorem AaQ : trR Tryd.prog Tryd.f29.results.toList = some NR := by kernel_rfl
def SG := Aa Dz.eq_1
def FM := Aa Je.eq_1
def Df := Aa Iu.eq_1
def BU := Aa Ja.eq_1
def BB := Aa Ij.eq_1
def Bz := Aa Ih.eq_1
def Sz := Aa DI.eq_1
def TA := Aa DC.eq_1
def BA := Aa Iy.eq_1
def QB := Aa GU.eq_1
def Rh := Aa Dq.eq_1
def E5 := Aa F7.eq_1
def RD := Aa Gz.eq_1
def Rj := Aa GZ.eq_1
def QR := Aa Gv.eq_1
def Ri := Aa G7.eq_1
def PW := Aa F8.eq_1
def Qm := Aa Hl.eq_1
def QY := Aa GN.eq_1
def Yc := Aa NH.eq_1
theorem Yd {K : TV → Prop} {e : Env} {H : List Ob} : res NR e H K = res [.tmp 2, .tmp 3] e H K := Ad rfl
def Au := (And.intro (And.intro (And.intro (And.intro (And.intro @SG @FM) (And.intro @Df @BU)) (And.intro (And.intro @BB @Bz) (And.intro @Sz @TA))) (And.intro (And.intro (And.intro @BA @QB) (And.intro @Rh @E5)) (And.intro (And.intro @RD @Rj) (And.intro @QR @Ri)))) (And.intro (And.intro (And.intro @PW @Qm) (And.intro @QY @Yc)) @Yd))
def Zm := Alg 110 Tryd.func29 AaE AaQ rfl

def MX : Af := .draw 10 [mv_ 37 0,
  po_ 38 (.nilc (.t 37)),
  po_ 39 (.load false 1 (.t 38)),
  mv_ 40 8,
  mv_ 41 9,
  mv_ 42 0,
  po_ 43 (.nilc (.t 42)),
  po_ 44 (.load false 1 (.t 43)),
  po_ 45 (.lenV (.t 44)),
  po_ 46 (.bin 3 .sub (.t 45) (ci_ 1)),
  po_ 47 (.idxA 2 (.t 39) (.t 40)),
  po_ 48 (.idxAA 2 1 (.t 47) (.t 41)),
  ⟨none, .s (.store 1 (.t 48) (.t 46)), none⟩] [0, 1, 2, 3, 8, 9]
def MH : Af := .seq (.ops [mv_ 29 0,
  mv_ 30 0,
  po_ 31 (.nilc (.t 30)),
  po_ 32 (.load false 1 (.t 31)),
  po_ 33 (.buildA 2 1 [.val (.int .i64 ((0 : Nat) : Int)), .val (.int .i64 ((0 : Nat) : Int))] []),
  ⟨some 34, .s (.bslice 2 1 (.arr 2 1 [.val (.int .i64 ((0 : Nat) : Int)), .val (.int .i64 ((0 : Nat) : Int))]) [⟨0, .t 33⟩]), none⟩,
  so_ 35 (.app 2 16 97 (.t 32) (.t 34)),
  po_ 36 (.nilc (.t 29)),
  ⟨none, .s (.store 1 (.t 36) (.t 35)), none⟩] [0, 1, 2, 3, 8, 9])
 MX
def Nw : Af := .cond (.t 28)
 MH
 (.skip)
def Nr : Af := .seq (.seq (.ops [mv_ 20 0,
  po_ 21 (.nilc (.t 20)),
  po_ 22 (.load false 1 (.t 21)),
  mv_ 23 8,
  mv_ 24 9,
  po_ 25 (.idxA 2 (.t 22) (.t 23)),
  po_ 26 (.idxAA 2 1 (.t 25) (.t 24)),
  po_ 27 (.load false 1 (.t 26)),
  po_ 28 (.bin 3 .eql (.t 27) (ci_ 0))] [0, 1, 2, 3, 8, 9, 28])
 Nw)
 (.ops [mv_ 49 0,
  po_ 50 (.nilc (.t 49)),
  po_ 51 (.load false 1 (.t 50)),
  mv_ 52 8,
  mv_ 53 9,
  po_ 54 (.idxA 2 (.t 51) (.t 52)),
  po_ 55 (.idxAA 2 1 (.t 54) (.t 53)),
  po_ 56 (.load false 1 (.t 55)),
  mv_ 8 56] [0, 1, 2, 3, 8])
def MM : Af := .seq (.block 1 (.seq (.ops [mv_ 16 1,
  mv_ 17 2,
  po_ 18 (.bin 3 .shr (.t 16) (.t 17)),
  po_ 19 (.bin 3 .and (.t 18) (ci_ 1)),
  mv_ 9 19] [0, 1, 2, 3, 8, 9])
 Nr))
 (.ops [mv_ 14 2,
  po_ 15 (.bin 3 .sub (.t 14) (ci_ 1)),
  mv_ 2 15] [0, 1, 2, 3, 8])
def EY : Af := .seq (.seq (.ops [mv_ 12 2,
  po_ 13 (.bin 3 .gtr (.t 12) (ci_ 0))] [0, 1, 2, 3, 8, 13])
 (.cond (.t 13)
 (.skip)
 (.exit 0)))
 MM
def Nz : Af := .block 0 (.ownB 0 [] 2 (.loop [0, 1, 2, 3, 8] EY))
def Nj : Af := .ops [mv_ 57 0,
  po_ 58 (.nilc (.t 57)),
  po_ 59 (.load false 1 (.t 58)),
  mv_ 60 8,
  mv_ 61 1,
  po_ 62 (.bin 3 .and (.t 61) (ci_ 1)),
  mv_ 63 3,
  po_ 64 (.bin 3 .sub (.c (.int .i64 (-1))) (.t 63)),
  po_ 65 (.idxA 2 (.t 59) (.t 60)),
  po_ 66 (.idxAA 2 1 (.t 65) (.t 62)),
  ⟨none, .s (.store 1 (.t 66) (.t 64)), none⟩] []
def MW : Af := .seq (.seq (.ops [mv_ 10 2,
  po_ 11 (.bin 3 .sub (.t 10) (ci_ 1)),
  mv_ 2 11] [0, 1, 2, 3, 8])
 Nz)
 Nj
def Uf : Af := .seq (.ops [po_ 8 (.mov (ci_ 0))] [0, 1, 2, 3, 8])
 MW
def Ub : List VR := []
theorem Aex : Tryd.f49.body.bind (trC Tryd.prog Tryd.f49.ntmps) = some (er Uf) := by kernel_rfl
theorem AeR : trR Tryd.prog Tryd.f49.results.toList = some Ub := by kernel_rfl
def Yp := Aa MX.eq_1
def X3 := Aa MH.eq_1
def XR := Aa Nw.eq_1
def X5 := Aa Nr.eq_1
def XU := Aa MM.eq_1
def XT := Aa EY.eq_1
def XK := Aa Nz.eq_1
def XP := Aa Nj.eq_1
def Xw := Aa MW.eq_1
def Acy := Aa Uf.eq_1
theorem AcT {K : TV → Prop} {e : Env} {H : List Ob} : res Ub e H K = res [] e H K := Ad rfl
def BJ := (And.intro (And.intro (And.intro (And.intro @Yp @X3) (And.intro @XR @X5)) (And.intro (And.intro @XU @XT) (And.intro @XK @XP))) (And.intro (And.intro @Xw @Acy) @AcT))
def Ad3 := EK 67 Tryd.func49 Aex AeR rfl

def Fh : Af := .block 1 (.seq (.pdraw 4 [mv_ 6 1,
  mv_ 7 5,
  mv_ 8 0,
  po_ 10 (.idxA 2 (.t 6) (.t 7)),
  so_ 9 (.call 24 [.t 8, .c (.int .i64 ((1 : Nat) : Int))]),
  po_ 11 (.idxAA 2 1 (.t 10) (.t 9)),
  po_ 12 (.load false 1 (.t 11)),
  mv_ 5 12] [0, 1, 5])
 (.block 2 (.seq (.ops [mv_ 14 5,
  po_ 15 (.bin 3 .lss (.t 14) (ci_ 0)),
  mv_ 13 15] [0, 1, 5, 13])
 (.cond (.t 13)
 (.seq (.ops [mv_ 16 5,
   po_ 17 (.bin 3 .sub (.c (.int .i64 (-1))) (.t 16)),
   mv_ 4 17] [4])
  (.ret))
 (.seq (.ops [mv_ 19 5,
   po_ 20 (.bin 3 .eql (.t 19) (ci_ 0)),
   mv_ 18 20] [0, 1, 5, 18])
  (.cond (.t 18)
  (.pops [po_ 21 (.iface 28 (ci_ 10)),
    ⟨none, .s (.pan (.t 21)), none⟩] [0, 1, 5])
  (.skip)))))))
def FT : Af := .block 0 (.loop [0, 1, 5] Fh)
def Ff : Af := .seq (.ops [po_ 5 (.mov (ci_ 0))] [0, 1, 5])
 FT
def J4 : Af := .seq (.ops [po_ 4 (.mov (ci_ 0))] [0, 1])
 Ff
def JP : List VR := [.tmp 4]
theorem Ye : Tryd.f48.body.bind (trC Tryd.prog Tryd.f48.ntmps) = some (er J4) := by kernel_rfl
theorem Yl : trR Tryd.prog Tryd.f48.results.toList = some JP := by kernel_rfl
def PM := Aa Fh.eq_1
def PK := Aa FT.eq_1
def PG := Aa Ff.eq_1
def Vl := Aa J4.eq_1
theorem UY {K : TV → Prop} {e : Env} {H : List Ob} : res JP e H K = res [.tmp 4] e H K := Ad rfl
def CG := (And.intro (And.intro (And.intro @PM @PK) (And.intro @PG @Vl)) @UY)
def Xi := Alg 22 Tryd.func48 Ye Yl rfl

def O1 : Af := .seq (.ops [so_ 2 (.alloc (.agg [.val (.int .i64 ((0 : Nat) : Int)), .val (.int .i64 ((0 : Nat) : Int))]))] [0, 2])
 (.seq (.seq (.ops [mv_ 3 0,
  po_ 4 (.bin 3 .eql (.t 3) (ci_ 285))] [0, 2, 4])
 (.cond (.t 4)
 (.seq (.ops [⟨some 5, .p (.build [.val (.int .i64 ((0 : Nat) : Int)), .val (.int .i64 ((0 : Nat) : Int))] [1, 1] [⟨0, .c (.int .i64 ((258 : Nat) : Int))⟩, ⟨1, .c (.int .i64 ((0 : Nat) : Int))⟩]), none⟩,
   ⟨none, .s (.store 2 (.t 2) (.t 5)), none⟩] [2])
  (.ret))
 (.skip)))
 (.seq (.ops [mv_ 6 0,
  po_ 7 (.bin 3 .sub (.t 6) (ci_ 257)),
  so_ 8 (.call 58 [.t 7, .c (.int .i64 ((3 : Nat) : Int)), .c (.int .i64 ((4 : Nat) : Int))]),
  ⟨none, .s (.store 2 (.t 2) (.t 8)), none⟩] [2])
 (.ret)))
def OZ : List VR := [.cell 2 true 2]
theorem Acb : Tryd.f44.body.bind (trC Tryd.prog Tryd.f44.ntmps) = some (er O1) := by kernel_rfl
theorem Aco : trR Tryd.prog Tryd.f44.results.toList = some OZ := by kernel_rfl
def Y3 := Aa O1.eq_1
theorem Zu {K : TV → Prop} {e : Env} {H : List Ob} : res OZ e H K = res [.cell 2 true 2] e H K := Ad rfl
def FU := (And.intro @Y3 @Zu)
def Abu := EK 9 Tryd.func44 Acb Aco rfl

def Kt : Af := .seq (.ops [so_ 2 (.alloc (.agg [.val (.int .i64 ((0 : Nat) : Int)), .val (.int .i64 ((0 : Nat) : Int))]))] [0, 2])
 (.seq (.ops [mv_ 3 0,
  so_ 4 (.call 58 [.t 3, .c (.int .i64 ((1 : Nat) : Int)), .c (.int .i64 ((2 : Nat) : Int))]),
  ⟨none, .s (.store 2 (.t 2) (.t 4)), none⟩] [2])
 (.ret))
def Ku : List VR := [.cell 2 true 2]
theorem Zv : Tryd.f45.body.bind (trC Tryd.prog Tryd.f45.ntmps) = some (er Kt) := by kernel_rfl
theorem Y8 : trR Tryd.prog Tryd.f45.results.toList = some Ku := by kernel_rfl
def WI := Aa Kt.eq_1
theorem Wh {K : TV → Prop} {e : Env} {H : List Ob} : res Ku e H K = res [.cell 2 true 2] e H K := Ad rfl
def Ll := (And.intro @WI @Wh)
def Xu := EK 5 Tryd.func45 Zv Y8 rfl

def Qy : Af := .seq (.seq (.ops [mv_ 25 9,
  mv_ 26 7,
  po_ 27 (.bin 3 .lss (.t 25) (.t 26))] [0, 2, 6, 7, 8, 9, 27])
 (.cond (.t 27)
 (.skip)
 (.exit 0)))
 (.seq (.block 1 (.ops [mv_ 30 8,
  mv_ 31 2,
  mv_ 32 9,
  po_ 33 (.bin 3 .shl (.t 31) (.t 32)),
  po_ 34 (.bin 3 .add (.t 30) (.t 33)),
  mv_ 8 34] [0, 2, 6, 7, 8, 9]))
 (.ops [mv_ 28 9,
  po_ 29 (.bin 3 .add (.t 28) (ci_ 1)),
  mv_ 9 29] [0, 2, 6, 7, 8, 9]))
def Qb : Af := .seq (.ops [mv_ 35 8,
  mv_ 36 0,
  mv_ 37 2,
  po_ 38 (.bin 3 .rem (.t 36) (.t 37)),
  mv_ 39 7,
  po_ 40 (.bin 3 .shl (.t 38) (.t 39)),
  po_ 41 (.bin 3 .add (.t 35) (.t 40)),
  mv_ 42 7,
  ⟨some 43, .p (.build [.val (.int .i64 ((0 : Nat) : Int)), .val (.int .i64 ((0 : Nat) : Int))] [1, 1] [⟨0, .t 41⟩, ⟨1, .t 42⟩]), none⟩,
  ⟨none, .s (.store 2 (.t 6) (.t 43)), none⟩] [6])
 (.ret)
def RH : Af := .seq (.seq (.ops [po_ 9 (.mov (ci_ 1))] [0, 2, 6, 7, 8, 9])
 (.block 0 (.loop [0, 2, 6, 7, 8, 9] Qy)))
 Qb
def QJ : Af := .seq (.ops [mv_ 21 1,
  mv_ 22 2,
  po_ 23 (.bin 3 .mul (ci_ 2) (.t 22)),
  po_ 24 (.bin 3 .add (.t 21) (.t 23)),
  mv_ 8 24] [0, 2, 6, 7, 8])
 RH
def Qh : Af := .seq (.seq (.ops [mv_ 15 7,
  po_ 16 (.bin 3 .eql (.t 15) (ci_ 0))] [0, 1, 2, 6, 7, 16])
 (.cond (.t 16)
 (.seq (.ops [mv_ 17 1,
   mv_ 18 0,
   po_ 19 (.bin 3 .add (.t 17) (.t 18)),
   ⟨some 20, .p (.build [.val (.int .i64 ((0 : Nat) : Int)), .val (.int .i64 ((0 : Nat) : Int))] [1, 1] [⟨0, .t 19⟩, ⟨1, .c (.int .i64 ((0 : Nat) : Int))⟩]), none⟩,
   ⟨none, .s (.store 2 (.t 6) (.t 20)), none⟩] [6])
  (.ret))
 (.skip)))
 QJ
def QH : Af := .seq (.ops [mv_ 10 0,
  mv_ 11 2,
  po_ 12 (.bin 3 .quo (.t 10) (.t 11)),
  po_ 13 (.bin 3 .sub (.t 12) (ci_ 1)),
  po_ 14 (.max (ci_ 0) (.t 13)),
  mv_ 7 14] [0, 1, 2, 6, 7])
 Qh
def Yv : Af := .seq (.ops [so_ 6 (.alloc (.agg [.val (.int .i64 ((0 : Nat) : Int)), .val (.int .i64 ((0 : Nat) : Int))]))] [0, 1, 2, 6])
 QH
def YB : List VR := [.cell 6 true 2]
theorem Ahz : Tryd.f58.body.bind (trC Tryd.prog Tryd.f58.ntmps) = some (er Yv) := by kernel_rfl
theorem Ahm : trR Tryd.prog Tryd.f58.results.toList = some YB := by kernel_rfl
def Aan := Aa Qy.eq_1
def ZM := Aa Qb.eq_1
def Aa9 := Aa RH.eq_1
def ZJ := Aa QJ.eq_1
def Aav := Aa Qh.eq_1
def AaL := Aa QH.eq_1
def Aep := Aa Yv.eq_1
theorem Aeq {K : TV → Prop} {e : Env} {H : List Ob} : res YB e H K = res [.cell 6 true 2] e H K := Ad rfl
def D8 := (And.intro (And.intro (And.intro @Aan @ZM) (And.intro @Aa9 @ZJ)) (And.intro (And.intro @Aav @AaL) (And.intro @Aep @Aeq)))
def Agi := EK 44 Tryd.func58 Ahz Ahm rfl

def UR : Af := .seq (.block 3 (.seq (.ops [po_ 20 (.idxA 1 (.t 16) (.t 18)),
  po_ 21 (.load false 1 (.t 20)),
  mv_ 7 21] [0, 3, 4, 5, 7, 16, 17, 18])
 (.seq (.ops [mv_ 22 3,
  mv_ 23 7,
  po_ 24 (.conv .u32 (.t 23)),
  po_ 25 (.bin 36 .add (.t 22) (.t 24)),
  mv_ 3 25] [0, 3, 4, 5, 16, 17, 18])
 (.ops [mv_ 26 4,
  mv_ 27 3,
  po_ 28 (.bin 36 .add (.t 26) (.t 27)),
  mv_ 4 28] [0, 3, 4, 5, 16, 17, 18]))))
 (.ops [po_ 29 (.bin 3 .add (.t 18) (ci_ 1)),
  mv_ 18 29] [0, 3, 4, 5, 16, 17, 18])
def Uz : Af := .seq (.cond (.t 19)
 (.skip)
 (.exit 2))
 UR
def J3 : Af := .seq (.ops [po_ 19 (.bin 3 .lss (.t 18) (.t 17))] [0, 3, 4, 5, 16, 17, 18, 19])
 Uz
def UD : Af := .block 2 (.loop [0, 3, 4, 5, 16, 17, 18] J3)
def TQ : Af := .seq (.ops [mv_ 30 3,
  po_ 31 (.bin 36 .rem (.t 30) (.c (.int .u32 ((65521 : Nat) : Int)))),
  mv_ 3 31] [0, 3, 4, 5])
 (.seq (.ops [mv_ 32 4,
  po_ 33 (.bin 36 .rem (.t 32) (.c (.int .u32 ((65521 : Nat) : Int)))),
  mv_ 4 33] [0, 3, 4, 5])
 (.ops [mv_ 34 0,
  mv_ 35 5,
  po_ 36 (.slV 1 (.t 34) (some (.t 35)) none),
  mv_ 0 36] [0, 3, 4]))
def UO : Af := .seq (.seq (.ops [mv_ 14 0,
  mv_ 15 5,
  po_ 16 (.slV 1 (.t 14) none (some (.t 15))),
  po_ 17 (.lenV (.t 16)),
  po_ 18 (.mov (ci_ 0))] [0, 3, 4, 5, 16, 17, 18])
 UD)
 TQ
def TU : Af := .block 1 (.seq (.ops [mv_ 11 0,
  po_ 12 (.lenV (.t 11)),
  po_ 13 (.min (.t 12) (ci_ 5000)),
  mv_ 5 13] [0, 3, 4, 5])
 UO)
def Um : Af := .seq (.seq (.ops [mv_ 8 0,
  po_ 9 (.lenV (.t 8)),
  po_ 10 (.bin 3 .gtr (.t 9) (ci_ 0))] [0, 3, 4, 10])
 (.cond (.t 10)
 (.skip)
 (.exit 0)))
 TU
def TN : Af := .seq (.ops [mv_ 37 4,
  po_ 38 (.bin 36 .shl (.t 37) (.c (.int .u64 ((16 : Nat) : Int)))),
  mv_ 39 3,
  po_ 40 (.bin 36 .or (.t 38) (.t 39)),
  mv_ 2 40] [2])
 (.ret)
def P5 : Af := .seq (.block 0 (.loop [0, 3, 4] Um))
 TN
def Qi : Af := .seq (.ops [po_ 3 (.mov (.c (.int .u32 ((1 : Nat) : Int)))),
  po_ 4 (.mov (.c (.int .u32 ((0 : Nat) : Int))))] [0, 3, 4])
 P5
def Abp : Af := .seq (.ops [po_ 2 (.mov (.c (.int .u32 ((0 : Nat) : Int))))] [0])
 Qi
def ZT : List VR := [.tmp 2]
theorem Aih : Tryd.f17.body.bind (trC Tryd.prog Tryd.f17.ntmps) = some (er Abp) := by kernel_rfl
theorem Aio : trR Tryd.prog Tryd.f17.results.toList = some ZT := by kernel_rfl
def Ab5 := Aa UR.eq_1
def AcW := Aa Uz.eq_1
def AcP := Aa J3.eq_1
def AcH := Aa UD.eq_1
def AcE := Aa TQ.eq_1
def AcA := Aa UO.eq_1
def AcR := Aa TU.eq_1
def AcD := Aa Um.eq_1
def AcM := Aa TN.eq_1
def Abv := Aa P5.eq_1
def Aa1 := Aa Qi.eq_1
def AgB := Aa Abp.eq_1
theorem Af7 {K : TV → Prop} {e : Env} {H : List Ob} : res ZT e H K = res [.tmp 2] e H K := Ad rfl
def Ci := (And.intro (And.intro (And.intro (And.intro @Ab5 @AcW) (And.intro @AcP @AcH)) (And.intro (And.intro @AcE @AcA) (And.intro @AcR @AcD))) (And.intro (And.intro (And.intro @AcM @Abv) (And.intro @Aa1 @AgB)) @Af7))
def Ahd := EK 41 Tryd.func17 Aih Aio rfl

end Go.Proofs.YtfgljddikcghhaaDoor


namespace Go.Proofs.YtfgljddikcghhaaDoor
open Go.RowKit
variable [AO]
set_option linter.unusedSectionVars false
set_option linter.unusedSimpArgs false
set_option linter.unusedVariables false
set_option autoImplicit false

section
variable {t : TypeId} {a b : Nat} {k2 : IntKind}
theorem AAc {n : Nat} (h : n < 256) : IntKind.u8.wrap (n : Int) = n := by rw [IntKind.wrap_u8]; omega
theorem bv8 {n : Nat} : (BitVec.ofInt 8 (n : Int)).toNat = n % 256 := by
 rw [BitVec.toNat_ofInt]; omega
theorem AAH : D6 t .add (.int .u8 (a : Int)) (.int .u8 (b : Int)) = some (.int .u8 (((a + b) % 256 : Nat) : Int)) := by
 rw [show D6 t .add (.int .u8 (a : Int)) (.int .u8 (b : Int)) = some (.int .u8 (IntKind.u8.wrap ((a : Int) + b))) from rfl, IntKind.wrap_u8]
 congr 2
theorem Aik (h1 : a < 256) (h2 : b < 256) : D6 t .and (.int .u8 (a : Int)) (.int .u8 (b : Int)) = some (.int .u8 ((a &&& b : Nat) : Int)) := by
 rw [show D6 t .and (.int .u8 (a : Int)) (.int .u8 (b : Int)) = some (.int .u8 (IntKind.u8.wrap ((BitVec.ofInt 8 a &&& BitVec.ofInt 8 b).toNat : Int))) from rfl, BitVec.toNat_and, bv8, bv8, Nat.mod_eq_of_lt (by omega), Nat.mod_eq_of_lt (by omega)]
 have := Nat.and_le_left (n := a) (m := b)
 rw [AAc (by omega)]
theorem Ami (h1 : a < 256) (h2 : b ≤ 8) : D6 t .shr (.int .u8 (a : Int)) (.int k2 (b : Int)) = some (.int .u8 ((a / 2 ^ b : Nat) : Int)) := by
 have e : binOp .shr t (.int .u8 (a : Int)) (.int k2 (b : Int)) = pure (.int .u8 ((a / 2 ^ b : Nat) : Int)) := by
  show Op.shift .shr .u8 a k2 b = _
  unfold Op.shift
  rw [if_neg (by omega)]
  have hm : min ((b : Int)).toNat IntKind.u8.bits = b := by
   have : IntKind.u8.bits = 8 := rfl
   omega
  simp only [hm]
  rw [Int.fdiv_eq_ediv_of_nonneg _ (by exact Int.le_of_lt (Int.pow_pos (by omega)))]
  have hle : a / 2 ^ b ≤ a := Nat.div_le_self _ _
  have e2 : (a : Int) / 2 ^ b = ((a / 2 ^ b : Nat) : Int) := by rw [Int.natCast_ediv, Int.natCast_pow]; rfl
  rw [e2]
 unfold D6; rw [e]; rfl
theorem Aoj (h : b ≠ 0) (h1 : a < 256) : D6 t .quo (.int .u8 (a : Int)) (.int .u8 (b : Int)) = some (.int .u8 ((a / b : Nat) : Int)) := by
 have hz : ¬ (b : Int) = 0 := by omega
 have hle : a / b ≤ a := Nat.div_le_self _ _
 have e2 : (a : Int).tdiv (b : Int) = ((a / b : Nat) : Int) := by rw [Int.tdiv_eq_ediv_of_nonneg (by omega)]; rfl
 have e : binOp .quo t (.int .u8 (a : Int)) (.int .u8 (b : Int)) = pure (.int .u8 ((a / b : Nat) : Int)) := by
  unfold binOp
  simp only [ne_eq, not_true_eq_false, if_false, Op.intDiv, hz, e2, AAc (show a / b < 256 by omega)]
 unfold D6; rw [e]; rfl
end
end Go.Proofs.YtfgljddikcghhaaDoor


namespace Go.Proofs.YtfgljddikcghhaaDoor
open Go.RowKit
variable [AO]
set_option linter.unusedSectionVars false
set_option linter.unusedVariables false
section
variable {t : TypeId} {a b : Nat} {k2 : IntKind}
theorem AjN {n : Nat} (h : n < 4294967296) : IntKind.u32.wrap (n : Int) = n := by rw [IntKind.wrap_u32']; omega
theorem AB3 {n : Nat} : (BitVec.ofInt 32 (n : Int)).toNat = n % 4294967296 := by
 rw [BitVec.toNat_ofInt]; omega
theorem Aml {b : UInt8} : IntKind.u32.wrap (b.toNat : Int) = ((b.toNat : Nat) : Int) := AjN (by have := b.toNat_lt; omega)
theorem AyQ (h : a ≤ 9223372036854775807) : IntKind.i64.wrap (a : Int) = (a : Int) := EU (by omega) (by omega)
theorem AxF (h : b ≤ a) (h2 : a < 4294967296) : D6 t .sub (.int .u32 (a : Int)) (.int .u32 (b : Int)) = some (.int .u32 ((a - b : Nat) : Int)) := by
 rw [show D6 t .sub (.int .u32 (a : Int)) (.int .u32 (b : Int)) = some (.int .u32 (IntKind.u32.wrap ((a : Int) - b))) from rfl, IntKind.wrap_u32']
 congr 2; omega
theorem AyL (h1 : a < 4294967296) (h2 : b < 4294967296) : D6 t .and (.int .u32 (a : Int)) (.int .u32 (b : Int)) = some (.int .u32 ((a &&& b : Nat) : Int)) := by
 rw [show D6 t .and (.int .u32 (a : Int)) (.int .u32 (b : Int)) = some (.int .u32 (IntKind.u32.wrap ((BitVec.ofInt 32 a &&& BitVec.ofInt 32 b).toNat : Int))) from rfl, BitVec.toNat_and, AB3, AB3, Nat.mod_eq_of_lt (by omega), Nat.mod_eq_of_lt (by omega)]
 have := Nat.and_le_left (n := a) (m := b)
 rw [AjN (by omega)]
theorem Alm (h1 : a < 4294967296) (h2 : b < 4294967296) : D6 t .or (.int .u32 (a : Int)) (.int .u32 (b : Int)) = some (.int .u32 ((a ||| b : Nat) : Int)) := by
 rw [show D6 t .or (.int .u32 (a : Int)) (.int .u32 (b : Int)) = some (.int .u32 (IntKind.u32.wrap ((BitVec.ofInt 32 a ||| BitVec.ofInt 32 b).toNat : Int))) from rfl, BitVec.toNat_or, AB3, AB3, Nat.mod_eq_of_lt (by omega), Nat.mod_eq_of_lt (by omega)]
 have := Nat.or_lt_two_pow (n := 32) (x := a) (y := b) (by omega) (by omega)
 rw [AjN (by omega)]
theorem AfY (h2 : b ≤ 31) (h4 : a * 2 ^ b < 4294967296) : D6 t .shl (.int .u32 (a : Int)) (.int k2 (b : Int)) = some (.int .u32 ((a * 2 ^ b : Nat) : Int)) := by
 have e : binOp .shl t (.int .u32 (a : Int)) (.int k2 (b : Int)) = pure (.int .u32 ((a * 2 ^ b : Nat) : Int)) := by
  show Op.shift .shl .u32 a k2 b = _
  unfold Op.shift
  rw [if_neg (by omega)]
  have hm : min ((b : Int)).toNat IntKind.u32.bits = b := by
   have : IntKind.u32.bits = 32 := rfl
   omega
  simp only [hm]
  have e2 : (a : Int) * 2 ^ b = ((a * 2 ^ b : Nat) : Int) := by rw [Int.natCast_mul, Int.natCast_pow]; rfl
  rw [e2, AjN h4]
 unfold D6; rw [e]; rfl
theorem AnD (h2 : b ≤ 32) : D6 t .shr (.int .u32 (a : Int)) (.int k2 (b : Int)) = some (.int .u32 ((a / 2 ^ b : Nat) : Int)) := by
 have e : binOp .shr t (.int .u32 (a : Int)) (.int k2 (b : Int)) = pure (.int .u32 ((a / 2 ^ b : Nat) : Int)) := by
  show Op.shift .shr .u32 a k2 b = _
  unfold Op.shift
  rw [if_neg (by omega)]
  have hm : min ((b : Int)).toNat IntKind.u32.bits = b := by
   have : IntKind.u32.bits = 32 := rfl
   omega
  simp only [hm]
  rw [Int.fdiv_eq_ediv_of_nonneg _ (by exact Int.le_of_lt (Int.pow_pos (by omega)))]
  have e2 : (a : Int) / 2 ^ b = ((a / 2 ^ b : Nat) : Int) := by rw [Int.natCast_ediv, Int.natCast_pow]; rfl
  rw [e2]
 unfold D6; rw [e]; rfl
end
end Go.Proofs.YtfgljddikcghhaaDoor


namespace Go.Proofs.YtfgljddikcghhaaDoor
open Go.RowKit
variable [AO]
set_option linter.unusedSectionVars false
set_option linter.unusedVariables false
set_option linter.unusedSimpArgs false

/-- A number's lowest n bits. -/
def AV : Nat → Nat → List Bool
 | 0, _ => []
 | n + 1, v => (v % 2 == 1) :: AV n (v / 2)
/-- The number of bits. -/
def C9 : List Bool → Nat
 | [] => 0
 | b :: l => (if b then 1 else 0) + 2 * C9 l
/-- All bits that are left. -/
def HY (inn : List UInt8) (held count : Nat) : List Bool := AV count held ++ inn.flatMap fun b => AV 8 b.toNat
section
omit [AO]
theorem AZ : ∀ (n v : Nat), (AV n v).length = n
 | 0, _ => rfl
 | n + 1, v => by rw [AV, List.length_cons, AZ n]
theorem QW : ∀ (c k h b : Nat), h < 2 ^ c → AV (c + k) (h + b * 2 ^ c) = AV c h ++ AV k b
 | 0, k, h, b, hh => by
  have : h = 0 := by simpa using hh
  subst this; simp [AV]
 | c + 1, k, h, b, hh => by
  have e : h + b * 2 ^ (c + 1) = h + 2 * (b * 2 ^ c) := by rw [Nat.pow_succ]; congr 1; rw [Nat.mul_comm (2 ^ c) 2, ← Nat.mul_assoc, Nat.mul_comm b 2, Nat.mul_assoc]
  rw [show c + 1 + k = (c + k) + 1 by omega, AV, AV, e]
  have h1 : (h + 2 * (b * 2 ^ c)) % 2 = h % 2 := by omega
  have h2 : (h + 2 * (b * 2 ^ c)) / 2 = h / 2 + b * 2 ^ c := by omega
  rw [h1, h2, QW c k (h / 2) b (by rw [Nat.pow_succ] at hh; omega)]; rfl
theorem Z7 : ∀ (n v : Nat), C9 (AV n v) = v % 2 ^ n
 | 0, v => by simp [AV, C9, Nat.mod_one]
 | n + 1, v => by
  rw [AV, C9, Z7 n, Nat.pow_succ, Nat.mul_comm (2 ^ n) 2, Nat.mod_mul]
  rcases Nat.mod_two_eq_zero_or_one v with h | h <;> simp [h]
theorem AeI : ∀ (n c v : Nat), n ≤ c → (AV c v).take n = AV n v
 | 0, c, v, _ => by simp [AV]
 | n + 1, 0, v, h => by omega
 | n + 1, c + 1, v, h => by rw [AV, AV, List.take_succ_cons, AeI n c _ (by omega)]
theorem Ae5 : ∀ (n c v : Nat), n ≤ c → (AV c v).drop n = AV (c - n) (v / 2 ^ n)
 | 0, c, v, _ => by simp
 | n + 1, 0, v, h => by omega
 | n + 1, c + 1, v, h => by
  rw [AV, List.drop_succ_cons, Ae5 n c _ (by omega), Nat.div_div_eq_div_mul, Nat.pow_succ, Nat.mul_comm (2 ^ n) 2, show c + 1 - (n + 1) = c - n by omega]
theorem V8 (inn : List UInt8) (h c : Nat) : (HY inn h c).length = c + 8 * inn.length := by
 unfold HY
 rw [List.length_append, AZ]
 congr 1
 induction inn with
 | nil => rfl
 | cons b l ih => rw [List.flatMap_cons, List.length_append, AZ, ih, List.length_cons]; omega
theorem Aj2 {h b c : Nat} (hh : h < 2 ^ c) : h ||| b * 2 ^ c = h + b * 2 ^ c := by
 have := Nat.two_pow_add_eq_or_of_lt hh b
 rw [Nat.mul_comm (2 ^ c) b] at this
 rw [Nat.or_comm, ← this, Nat.add_comm]
theorem AoO {b : UInt8} {r : List UInt8} {h c : Nat} (hh : h < 2 ^ c) : HY r (h ||| b.toNat * 2 ^ c) (c + 8) = HY (b :: r) h c := by
 unfold HY
 rw [Aj2 hh, QW c 8 h b.toNat hh, List.flatMap_cons, List.append_assoc]
theorem AxI {b : UInt8} {h c : Nat} (hh : h < 2 ^ c) : (h ||| b.toNat * 2 ^ c) < 2 ^ (c + 8) := by
 rw [Aj2 hh, Nat.pow_add]
 have := b.toNat_lt
 have h1 : b.toNat * 2 ^ c ≤ 255 * 2 ^ c := Nat.mul_le_mul_right _ (by omega)
 omega
theorem Ap1 {inn : List UInt8} {h c n : Nat} (hn : n ≤ c) : C9 ((HY inn h c).take n) = h % 2 ^ n := by
 unfold HY
 rw [List.take_append_of_le_length (by rw [AZ]; exact hn), AeI n c h hn, Z7]
theorem Agl {inn : List UInt8} {h c n : Nat} (hn : n ≤ c) : (HY inn h c).drop n = HY inn (h / 2 ^ n) (c - n) := by
 unfold HY
 rw [List.drop_append_of_le_length (by rw [AZ]; exact hn), Ae5 n c h hn]
end
abbrev u32 (n : Nat) : TV := .val (.int .u32 (n : Int))
abbrev AwI : Value := .iface 28 (.int .i64 10)
abbrev ADP : Value := .iface 28 (.int .i64 11)
/-- The reader. -/
abbrev rdr (inn : List UInt8) (held count : Nat) (o m w : TV) : Ob := .obj 0 (.agg [slB inn, u32 held, i64 (count : Int), o, m, w])
theorem Bv {α : Type} {l : List α} {i : Nat} {x : α} (h : l[i]? = some x) : l.set i x = l := by
 obtain ⟨hl, rfl⟩ := List.getElem?_eq_some_iff.1 h
 simp
theorem Awn {id : Nat} {inn : List UInt8} {held count : Nat} {o m w : TV} {H : List Ob} (h : H[id]? = some (rdr inn held count o m w)) : Ap Tryd.prog 15 [.op id 0 []] H (fun x H' => H' = H.set id (rdr inn 0 0 o m w)) := by
 have hl : id < H.length := (List.getElem?_eq_some_iff.1 h).1
 refine XM (by simp) ?_
 simp -dsimp (disch := first | assumption | omega | (simp only [Ae]; done) | (simp only [Ae]; omega)) only [↓Ag, Ac, Ah, Ai, eq_self, Nat.reduceEqDiff, ↓reduceIte, Nat.reduceAdd, reduceCtorEq, ↓YU, h]
theorem Ax2 {id n : Nat} {inn : List UInt8} {held count : Nat} {o m w : TV} {H : List Ob} (h : H[id]? = some (rdr inn held count o m w)) (hn : n ≤ 100000) (hi : inn.length ≤ 1000000) : BR Tryd.prog 16 [.op id 0 [], i64 (n : Int)] H (fun x H' => n ≤ inn.length ∧ x = slB (inn.take n) ∧ H' = H.set id (rdr (inn.drop n) held count o m w)) (fun u H' => inn.length < n ∧ u = AwI ∧ H' = H) := by
 have hl : id < H.length := (List.getElem?_eq_some_iff.1 h).1
 refine Zk (by simp) ?_
 by_cases hh : inn.length < n
 ·simp -dsimp (disch := first | assumption | omega | (simp only [Ae]; done) | (simp only [Ae]; omega)) only [↓Ag, Ac, Ah, Ai, eq_self, Nat.reduceEqDiff, ↓reduceIte, Nat.reduceAdd, reduceCtorEq, ↓Md, h]
  exact ⟨hh, rfl⟩
 ·simp -dsimp (disch := first | assumption | omega | (simp only [Ae]; done) | (simp only [Ae]; omega)) only [↓Ag, Ac, Ah, Ai, eq_self, Nat.reduceEqDiff, ↓reduceIte, Nat.reduceAdd, reduceCtorEq, ↓Md, h]
  omega
theorem AzQ {id n : Nat} {inn : List UInt8} {held count : Nat} {o m w : TV} {H : List Ob} (h : H[id]? = some (rdr inn held count o m w)) (hn : n ≤ 16) (hi : inn.length ≤ 1000000) (hc : count ≤ 7) (hh : held < 2 ^ count) : BR Tryd.prog 24 [.op id 0 [], i64 (n : Int)] H
  (fun x H' => ∃ inn' held' count', n ≤ (HY inn held count).length ∧ x = i64 ((C9 ((HY inn held count).take n) : Nat) : Int) ∧ H' = H.set id (rdr inn' held' count' o m w) ∧ inn'.length ≤ inn.length ∧ count' ≤ 7 ∧ held' < 2 ^ count' ∧ HY inn' held' count' = (HY inn held count).drop n)
  (fun u H' => (HY inn held count).length < n ∧ u = AwI ∧ ∃ y, H' = H.set id (.obj 0 y)) := by
 have hl : id < H.length := (List.getElem?_eq_some_iff.1 h).1
 refine Zb (by simp) ?_
 simp -dsimp (disch := first | assumption | omega | (simp only [Ae]; done) | (simp only [Ae]; omega)) only [↓Ag, Ac, Ah, Ai, eq_self, Nat.reduceEqDiff, ↓reduceIte, Nat.reduceAdd, reduceCtorEq, ↓Dj]
 refine Bi (fun q e H' => ∃ inn1 held1 count1, q = n - count1 ∧ e = [(0, .op id 0 []), (1, i64 (n : Int))] ∧ H' = H.set id (rdr inn1 held1 count1 o m w) ∧ inn1.length ≤ inn.length ∧ count1 ≤ 23 ∧ (count1 < n + 8) ∧ held1 < 2 ^ count1 ∧ HY inn1 held1 count1 = HY inn held count) (n - count) ?_ ?_
 ·exact ⟨inn, held, count, rfl, rfl, (Bv h).symm, Nat.le_refl _, by omega, by omega, hh, rfl⟩
 ·rintro q e H' ⟨inn1, held1, count1, rfl, rfl, rfl, k1, k2, k3, k4, k5⟩
  have h' : (H.set id (rdr inn1 held1 count1 o m w))[id]? = some (rdr inn1 held1 count1 o m w) := by simp [hl]
  by_cases hlt : count1 < n
  ·have hpow : 2 ^ count1 ≤ 2 ^ 15 := Nat.pow_le_pow_right (by omega) (by omega)
   cases inn1 with
   | nil =>
    simp -dsimp (disch := first | assumption | omega | (simp only [Ae]; done) | (simp only [Ae]; omega)) only [↓Ag, Ac, Ah, Ai, eq_self, Nat.reduceEqDiff, ↓reduceIte, Nat.reduceAdd, reduceCtorEq, ↓Dj, h']
    refine ⟨?_, rfl, _, rfl⟩
    rw [← k5, V8]; simp; omega
   | cons b r =>
    have hb := b.toNat_lt
    have hx : b.toNat * 2 ^ count1 < 4294967296 := by
     have : b.toNat * 2 ^ count1 ≤ 255 * 2 ^ 15 := Nat.mul_le_mul (by omega) hpow
     omega
    have hx1 : held1 < 4294967296 := by omega
    simp -dsimp (disch := first | assumption | omega | (simp only [Ae]; done) | (simp only [Ae]; omega)) only [↓Ag, Ac, Ah, Ai, eq_self, Nat.reduceEqDiff, ↓reduceIte, Nat.reduceAdd, reduceCtorEq, Nat.reduceLeDiff, ↓Dj, h', Aml, AfY, Alm]
    rw [List.length_cons] at k1
    exact Am (n - (count1 + 8)) (by omega) (by simp) ⟨r, held1 ||| b.toNat * 2 ^ count1, count1 + 8, rfl, rfl, rfl, by omega, by omega, by omega, AxI k4, by rw [AoO k4, k5]⟩
  ·have hpow : 2 ^ n ≤ 2 ^ 16 := Nat.pow_le_pow_right (by omega) hn
   have hp1 : 1 ≤ 2 ^ n := Nat.one_le_two_pow
   have hx : 1 * 2 ^ n < 4294967296 := by omega
   have hx1 : held1 < 4294967296 := by
    have : 2 ^ count1 ≤ 2 ^ 23 := Nat.pow_le_pow_right (by omega) k2
    omega
   simp -dsimp (disch := first | assumption | omega | (simp only [Ae]; done) | (simp only [Ae]; omega)) only [↓Ag, Ac, Ah, Ai, eq_self, Nat.reduceEqDiff, ↓reduceIte, Nat.reduceAdd, reduceCtorEq, ↓Dj, h', AfY, AyL, AxF, AnD]
   have hle : n ≤ count1 := by omega
   refine ⟨inn1, held1 / 2 ^ n, count1 - n, by rw [← k5, V8]; omega, ?_, rfl, k1, by omega, ?_, by rw [← k5, Agl hle]⟩
   ·rw [← k5, Ap1 hle, Nat.one_mul, Nat.and_two_pow_sub_one_eq_mod, AyQ (by have := Nat.mod_le held1 (2 ^ n); omega)]
   ·rw [Nat.div_lt_iff_lt_mul (by omega), ← Nat.pow_add, Nat.sub_add_cancel hle]; exact k4
end Go.Proofs.YtfgljddikcghhaaDoor


namespace Go.Proofs.YtfgljddikcghhaaDoor
open Go.RowKit
variable [AO]
set_option linter.unusedSectionVars false
set_option linter.unusedVariables false
set_option linter.unusedSimpArgs false

theorem DJ {a b : TV} : (List.replicate 1 a).set 0 b = [b] := by simp
/-- A row of bytes of one's own, or none yet. -/
def AkX (H : List Ob) (r : TV) (l : List UInt8) : Option Nat → Prop
 | none => r = .val (.slice none 0 0) ∧ l = []
 | some j => ∃ v, r = .os 1 j v [] 0 l.length l.length ∧ H[j]? = some (.obj v (.arr l.length 1 (l.map by8)))
theorem AET {id : Nat} {inn l : List UInt8} {held count : Nat} {most : Int} {o w : TV} {b : UInt8} {H : List Ob} {J : Option Nat} (h : H[id]? = some (rdr inn held count o (i64 most) w)) (hr : AkX H o l J) (hJ : J ≠ some id) (hl : l.length ≤ 1000000) (hm : -9223372036854775808 ≤ most ∧ most ≤ 9223372036854775807) :
  BR Tryd.prog 25 [.op id 0 [], by8 b] H
   (fun x H' => (l.length : Int) < most ∧ ∃ o' j, H'[id]? = some (rdr inn held count o' (i64 most) w) ∧ AkX H' o' (l ++ [b]) (some j) ∧ j ≠ id ∧ (J = some j ∨ H.length ≤ j) ∧ (∀ i, i < H.length → i ≠ id → J ≠ some i → H'[i]? = H[i]?) ∧ H.length ≤ H'.length)
   (fun u H' => most ≤ (l.length : Int) ∧ u = ADP ∧ H' = H) := by
 have hid : id < H.length := (List.getElem?_eq_some_iff.1 h).1
 refine Aaw (by simp) ?_
 cases J with
 | none =>
  obtain ⟨rfl, rfl⟩ := hr
  by_cases hlm : most ≤ 0
  ·simp -dsimp (disch := first | assumption | omega | (simp only [Ae]; done) | (simp only [Ae]; omega)) only [↓Ag, Ac, Ah, Ai, eq_self, Nat.reduceEqDiff, ↓reduceIte, Nat.reduceAdd, reduceCtorEq, ↓Dv, h]
   exact ⟨by simpa using hlm, rfl⟩
  ·simp -dsimp (disch := first | assumption | omega | (simp only [Ae]; done) | (simp only [Ae]; omega)) only [↓Ag, Ac, Ah, Ai, eq_self, Nat.reduceEqDiff, ↓reduceIte, Nat.reduceAdd, reduceCtorEq, Nat.reduceLeDiff, ↓Dv, h, DJ]
   refine ⟨by simpa using hlm, _, H.length + 1, rfl, ⟨1, rfl, ?_⟩, by omega, .inr (by omega), fun i hi hn _ => ?_, by omega⟩
   ·rw [List.getElem?_append_right (by simp)]; simp
   ·rw [List.append_assoc, List.getElem?_append_left (by simpa using hi), List.getElem?_set_ne (Ne.symm hn)]
 | some j =>
  obtain ⟨v, rfl, hj⟩ := hr
  have hne : j ≠ id := fun e => hJ (by rw [e])
  have hne' : id ≠ j := fun e => hne e.symm
  have hjl : j < H.length := (List.getElem?_eq_some_iff.1 hj).1
  by_cases hlm : most ≤ (l.length : Int)
  ·simp -dsimp (disch := first | assumption | omega | (simp only [Ae]; done) | (simp only [Ae]; omega)) only [↓Ag, Ac, Ah, Ai, eq_self, Nat.reduceEqDiff, ↓reduceIte, Nat.reduceAdd, reduceCtorEq, ↓Dv, h]
   exact ⟨hlm, rfl⟩
  ·simp -dsimp (disch := first | assumption | omega | (simp only [Ae]; done) | (simp only [Ae]; omega)) only [↓Ag, Ac, Ah, Ai, eq_self, Nat.reduceEqDiff, ↓reduceIte, Nat.reduceAdd, reduceCtorEq, Nat.reduceLeDiff, ↓Dv, h, hj, DJ]
   refine ⟨by omega, _, j, rfl, ⟨v + 1, by simp, ?_⟩, hne, .inl rfl, fun i hi hn hn2 => ?_, by omega⟩
   ·rw [List.getElem?_append_left (by simpa using hjl), List.getElem?_set_ne hne', List.getElem?_set_self hjl, List.length_append, List.map_append]; rfl
   ·have hij : j ≠ i := fun e => hn2 (by rw [e])
    rw [List.getElem?_append_left (by simpa using hi), List.getElem?_set_ne (Ne.symm hn), List.getElem?_set_ne hij]
end Go.Proofs.YtfgljddikcghhaaDoor

