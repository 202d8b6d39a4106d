/- Words and rules for the walks of the machine of values. No program in sight. -/
import Derived.Test.YtknphdcjopaaoaaVmJ
namespace Go.Proofs.Ytknphdcjopaaoaa
open Go.RowKit
set_option linter.unusedVariables false
set_option autoImplicit false

/-- An equation that simp is to take for no definition. -/
theorem by_refl {α : Sort _} {a b : α} (h : a = b) : a = b := h

/-- Numbers, truth values, strings. -/
abbrev i64 (n : Int) : TV := .val (.int .i64 n)
abbrev tb (b : Bool) : TV := .val (.bool b)
abbrev ts (l : List UInt8) : TV := .val (.string (str l))
/-- Bytes, strings, numbers in memory. -/
abbrev slB (l : List UInt8) : TV := .sl 1 (l.map by8)
abbrev slS (l : List (List UInt8)) : TV := .sl 1 (l.map ts)

section
variable {P : Program} {e : Env} {H : List Ob}
/-! printed out of the definitions -/
theorem p_mov {x : Opd} {K : TV → Prop} : pop (.mov x) e H K = (K (x.ev e)) := by_refl rfl
theorem p_pick {c : Opd} {a : Opd} {b : Opd} {K : TV → Prop} : pop (.pick c a b) e H K = (match c.ev e with
    | .val (.bool t) => K (if t then a.ev e else b.ev e)
    | _ => False) := by_refl rfl
theorem p_bin {t : TypeId} {op : BinOp} {x : Opd} {y : Opd} {K : TV → Prop} : pop (.bin t op x y) e H K = (match x.ev e, y.ev e with
    | .val u, .val v => calm u v = true ∧ (match binV t op u v with | some r => K (.val r) | none => False)
    | _, _ => False) := by_refl rfl
theorem p_un {op : UnOp} {x : Opd} {K : TV → Prop} : pop (.un op x) e H K = (match x.ev e with
    | .val u => (match unV op u with | some r => K (.val r) | none => False)
    | _ => False) := by_refl rfl
theorem p_conv {k : IntKind} {x : Opd} {K : TV → Prop} : pop (.conv k x) e H K = (match x.ev e with
    | .val (.int _ n) => K (.val (.int k (k.wrap n)))
    | _ => False) := by_refl rfl
theorem p_s2s {x : Opd} {K : TV → Prop} : pop (.s2s x) e H K = (match x.ev e with
    | .val (.string s) => K (.val (.string s))
    | _ => False) := by_refl rfl
theorem p_b2s {x : Opd} {K : TV → Prop} : pop (.b2s x) e H K = (match elemsOf H 1 (x.ev e) with
    | some cs => (∀ y ∈ cs, isBy y) ∧ K (.val (.string (str (cs.map unby))))
    | none => False) := by_refl rfl
theorem p_load {ag : Bool} {sz : Nat} {x : Opd} {K : TV → Prop} : pop (.load ag sz x) e H K = (match x.ev e with
    | .fp y => ldOk ag sz y ∧ K y
    | .op id ver p => (match H[id]? with
      | some (.obj v x) => v = ver ∧ (match getP p x with | some y => ldOk ag sz y ∧ K y | none => False)
      | _ => False)
    | _ => False) := by_refl rfl
theorem p_fieldA {i : Nat} {off : Nat} {x : Opd} {K : TV → Prop} : pop (.fieldA i off x) e H K = (match x.ev e with
    | .op id ver p => K (.op id ver (p ++ [(i, off)]))
    | .fp (.agg cs) => widths (cs.take i) = off ∧ (match cs[i]? with | some y => K (.fp y) | none => False)
    | _ => False) := by_refl rfl
theorem p_field {ag : Bool} {sz : Nat} {i : Nat} {off : Nat} {x : Opd} {K : TV → Prop} : pop (.field ag sz i off x) e H K = (match x.ev e with
    | .agg cs => widths (cs.take i) = off ∧ (match cs[i]? with | some y => ldOk ag sz y ∧ K y | none => False)
    | _ => False) := by_refl rfl
theorem p_idxA {k : Nat} {x : Opd} {i : Opd} {K : TV → Prop} : pop (.idxA k x i) e H K = (match x.ev e, i.ev e with
    | .sl k' cs, .val (.int _ j) => k' = k ∧ 0 ≤ j ∧ (match cs[j.toNat]? with | some y => K (.fp y) | none => False)
    | .os k' id ver p off n cp, .val (.int _ j) => k' = k ∧ 0 ≤ j ∧ j < n ∧ K (.op id ver (p ++ [(off + j.toNat, (off + j.toNat) * k)]))
    | _, _ => False) := by_refl rfl
theorem p_idxAA {n : Nat} {k : Nat} {x : Opd} {i : Opd} {K : TV → Prop} : pop (.idxAA n k x i) e H K = (match x.ev e, i.ev e with
    | .fp (.arr n' k' cs), .val (.int _ j) => k' = k ∧ n' = n ∧ 0 ≤ j ∧ (match cs[j.toNat]? with | some y => K (.fp y) | none => False)
    | .op id ver p, .val (.int _ j) => 0 ≤ j ∧ j < n ∧ K (.op id ver (p ++ [(j.toNat, j.toNat * k)]))
    | _, _ => False) := by_refl rfl
theorem p_idx {ag : Bool} {n : Nat} {k : Nat} {x : Opd} {i : Opd} {K : TV → Prop} : pop (.idx ag n k x i) e H K = (match x.ev e, i.ev e with
    | .arr n' k' cs, .val (.int _ j) => k' = k ∧ n' = n ∧ 0 ≤ j ∧ (match cs[j.toNat]? with | some y => ldOk ag k y ∧ K y | none => False)
    | _, _ => False) := by_refl rfl
theorem p_idxS {x : Opd} {i : Opd} {K : TV → Prop} : pop (.idxS x i) e H K = (match x.ev e, i.ev e with
    | .val (.string s), .val (.int _ j) => 0 ≤ j ∧ (match (bl s)[j.toNat]? with | some b => K (by8 b) | none => False)
    | _, _ => False) := by_refl rfl
theorem p_ext {i : Nat} {x : Opd} {K : TV → Prop} : pop (.ext i x) e H K = (match x.ev e with
    | .tup xs => (match xs[i]? with | some y => K y | none => False)
    | _ => False) := by_refl rfl
theorem p_lenS {x : Opd} {K : TV → Prop} : pop (.lenS x) e H K = (match x.ev e with
    | .val (.string s) => K (.val (.int .i64 (bl s).length))
    | _ => False) := by_refl rfl
theorem p_lenV {x : Opd} {K : TV → Prop} : pop (.lenV x) e H K = (match x.ev e with
    | .val (.slice _ n _) => K (.val (.int .i64 n))
    | .sl _ cs => K (.val (.int .i64 cs.length))
    | .os _ _ _ _ _ n _ => K (.val (.int .i64 n))
    | _ => False) := by_refl rfl
theorem p_slS {x : Opd} {lo : Option Opd} {hi : Option Opd} {K : TV → Prop} : pop (.slS x lo hi) e H K = (match x.ev e with
    | .val (.string s) => bnd e lo hi (bl s).length (bl s).length fun l h => K (.val (.string (str (((bl s).drop l).take (h - l)))))
    | _ => False) := by_refl rfl
theorem p_slV {k : Nat} {x : Opd} {lo : Option Opd} {hi : Option Opd} {K : TV → Prop} : pop (.slV k x lo hi) e H K = (match x.ev e with
    | .sl k' cs => k' = k ∧ bnd e lo hi cs.length cs.length fun l h => K (.sl k ((cs.drop l).take (h - l)))
    | .os k' id ver p off n cp => k' = k ∧ bnd e lo hi n cp fun l h => K (.os k id ver p (off + l) (h - l) (cp - l))
    | .val (.slice ad 0 0) => bnd e lo hi 0 0 fun l h => K (.val (.slice ad 0 0))
    | _ => False) := by_refl rfl
theorem p_slA {n : Nat} {k : Nat} {x : Opd} {lo : Option Opd} {hi : Option Opd} {K : TV → Prop} : pop (.slA n k x lo hi) e H K = (match x.ev e with
    | .fp (.arr n' k' cs) => k' = k ∧ n' = n ∧ n ≤ 9223372036854775807 ∧ bnd e lo hi n n fun l h => K (.sl k ((cs.drop l).take (h - l)))
    | .op id ver p => (match H[id]? with
      | some (.obj v x) => v = ver ∧ n ≤ 9223372036854775807 ∧ (match getP p x with | some (.arr n' k' cs) => k' = k ∧ n' = n ∧ bnd e lo hi n n fun l h => K (.os k id ver p l (h - l) (n - l)) | _ => False)
      | _ => False)
    | _ => False) := by_refl rfl
theorem p_iface {t : TypeId} {x : Opd} {K : TV → Prop} : pop (.iface t x) e H K = (lays (x.ev e) = true ∧ K (.ifc t (x.ev e))) := by_refl rfl
theorem p_mkf {f : Fn} {first : List Opd} {caps : List Opd} {K : TV → Prop} : pop (.mkf f first caps) e H K = ((∀ x ∈ first ++ caps, isTup (x.ev e) = false) ∧ K (.fn f (first.map (·.ev e)) (caps.map (·.ev e)))) := by_refl rfl
theorem p_nilc {x : Opd} {K : TV → Prop} : pop (.nilc x) e H K = (match x.ev e with
    | .op id ver p => K (.op id ver p)
    | .fp y => K (.fp y)
    | .fn (.func f) a b => K (.fn (.func f) a b)
    | .ifc t y => K (.ifc t y)
    | .val (.func (.func f) a b) => K (.val (.func (.func f) a b))
    | _ => False) := by_refl rfl
theorem p_min {x : Opd} {y : Opd} {K : TV → Prop} : pop (.min x y) e H K = (match x.ev e, y.ev e with
    | .val (.int k a), .val (.int _ b) => K (.val (.int k (if b < a then b else a)))
    | _, _ => False) := by_refl rfl
theorem p_max {x : Opd} {y : Opd} {K : TV → Prop} : pop (.max x y) e H K = (match x.ev e, y.ev e with
    | .val (.int k a), .val (.int _ b) => K (.val (.int k (if b > a then b else a)))
    | _, _ => False) := by_refl rfl
theorem p_gen {g : GOp} {xs : List Opd} {K : TV → Prop} : pop (.gen g xs) e H K = (match gev g H (xs.map (·.ev e)) with
    | some y => K y
    | none => False) := by_refl rfl
theorem p_eqB {x : Opd} {y : Opd} {neg : Bool} {K : TV → Prop} : pop (.eqB x y neg) e H K = (match x.ev e, y.ev e with
    | .val (.bool a), .val (.bool b) => K (.val (.bool (xor neg (a == b))))
    | _, _ => False) := by_refl rfl
theorem p_eqN {kd : Nat} {x : Opd} {y : Opd} {neg : Bool} {K : TV → Prop} : pop (.eqN kd x y neg) e H K = (match ptrNil kd (x.ev e), ptrNil kd (y.ev e) with
    | some true, some b => K (.val (.bool (xor neg b)))
    | some false, some true => K (.val (.bool (xor neg false)))
    | _, _ => False) := by_refl rfl
theorem p_build {zs : List TV} {szs : List Nat} {ps : List (Nat × Opd)} {K : TV → Prop} : pop (.build zs szs ps) e H K = (fillsOk e szs ps ∧ K (.agg (fills e zs ps))) := by_refl rfl
theorem p_buildA {n : Nat} {k : Nat} {zs : List TV} {ps : List (Nat × Opd)} {K : TV → Prop} : pop (.buildA n k zs ps) e H K = (fillsOk e (List.replicate n k) ps ∧ fillsPure e ps ∧ K (.arr n k (fills e zs ps))) := by_refl rfl
theorem q_alloc {z : TV} {K : TV → List Ob → Prop} : sop P (.alloc z) e H K = (K (.op H.length 0 []) (H ++ [.obj 0 z])) := by_refl rfl
theorem q_box {x : Opd} {K : TV → List Ob → Prop} : sop P (.box x) e H K = (lays (x.ev e) = true ∧ K (.op H.length 0 []) (H ++ [.obj 0 (x.ev e)])) := by_refl rfl
theorem q_bslice {k : Nat} {n : Nat} {z : TV} {ps : List (Nat × Opd)} {K : TV → List Ob → Prop} : sop P (.bslice k n z ps) e H K = ((fillsOk e (List.replicate n k) ps ∧ fillsPure e ps ∧ n ≤ 1000) ∧ K (.os k H.length 0 [] 0 n n) (H ++ [.obj 0 (.arr n k (fills e (List.replicate n z) ps))])) := by_refl rfl
theorem q_store {sz : Nat} {x : Opd} {v : Opd} {K : TV → List Ob → Prop} : sop P (.store sz x v) e H K = ((lays (v.ev e) = true ∧ width (v.ev e) = sz) ∧ (match x.ev e with
    | .op id ver p => (match H[id]? with
      | some (.obj vr y) => vr = ver ∧ (match setP p y (v.ev e) with | some y' => K .any (H.set id (.obj ver y')) | none => False)
      | _ => False)
    | _ => False)) := by_refl rfl
theorem q_mks {k : Nat} {bytes : Nat} {z : TV} {l : Opd} {c : Opd} {K : TV → List Ob → Prop} : sop P (.mks k bytes z l c) e H K = (match l.ev e, c.ev e with
    | .val (.int _ l), .val (.int _ c) => (0 ≤ l ∧ l ≤ c ∧ (bytes : Int) * c ≤ 281474976710656 ∧ c ≤ 9223372036854775807) ∧ K (.os k H.length 0 [] 0 l.toNat c.toNat) (H ++ [.obj 0 (.arr c.toNat k (List.replicate c.toNat z))])
    | _, _ => False) := by_refl rfl
theorem q_app {k : Nat} {bytes : Nat} {et : TypeId} {x : Opd} {y : Opd} {K : TV → List Ob → Prop} : sop P (.app k bytes et x y) e H K = (match elemsOf H k (y.ev e) with
    | some ys => appTo k bytes et (x.ev e) ys H K
    | none => False) := by_refl rfl
theorem q_appS {et : TypeId} {x : Opd} {y : Opd} {K : TV → List Ob → Prop} : sop P (.appS et x y) e H K = (match y.ev e with
    | .val (.string s) => appTo 1 1 et (x.ev e) ((bl s).map by8) H K
    | _ => False) := by_refl rfl
theorem q_copy {k : Nat} {x : Opd} {y : Opd} {K : TV → List Ob → Prop} : sop P (.copy k x y) e H K = (match elemsOf H k (y.ev e) with
    | some ys => copyTo k (x.ev e) ys H K
    | none => False) := by_refl rfl
theorem q_copyS {x : Opd} {y : Opd} {K : TV → List Ob → Prop} : sop P (.copyS x y) e H K = (match y.ev e with
    | .val (.string s) => copyTo 1 (x.ev e) ((bl s).map by8) H K
    | _ => False) := by_refl rfl
theorem q_s2b {x : Opd} {K : TV → List Ob → Prop} : sop P (.s2b x) e H K = (match x.ev e with
    | .val (.string s) => (bl s).length ≤ 9223372036854775807 ∧ K (.os 1 H.length 0 [] 0 (bl s).length (bl s).length) (H ++ [.obj 0 (.arr (bl s).length 1 ((bl s).map by8))])
    | _ => False) := by_refl rfl
theorem q_call {f : FuncId} {args : List Opd} {K : TV → List Ob → Prop} : sop P (.call f args) e H K = ((∀ x ∈ args, isTup (x.ev e) = false) ∧ VCalls P f (args.map (·.ev e)) H K) := by_refl rfl
theorem q_callv {x : Opd} {args : List Opd} {K : TV → List Ob → Prop} : sop P (.callv x args) e H K = ((∀ x ∈ args, isTup (x.ev e) = false) ∧ (match x.ev e with
    | .fn (.func f) first caps => isGo P f = true ∧ VCalls P f (first ++ args.map (·.ev e) ++ caps) H K
    | .val (.func (.func f) xs ys) => (xs.isEmpty && ys.isEmpty) = true ∧ isGo P f = true ∧ VCalls P f (args.map (·.ev e)) H K
    | .yl id ver => VYield P id ver (args.map (·.ev e)) H K
    | _ => False)) := by_refl rfl
theorem v_ops {l : List VO} {kp : List Nat} {Q : VEx → Env → List Ob → Prop} : vwp P (.ops l kp) Q e H = (vops P l (fun e H => Q .nor (forget kp e) H) e H) := by_refl rfl
theorem v_draw {n : Nat} {l : List VO} {kp : List Nat} {Q : VEx → Env → List Ob → Prop} : vwp P (.draw n l kp) Q e H = (vq P (l.take n) (fun e => vops P (l.drop n) (fun e H => Q .nor (forget kp e) H) e H) e H) := by_refl rfl
theorem v_skip  {Q : VEx → Env → List Ob → Prop} : vwp P (.skip ) Q e H = (Q .nor e H) := by_refl rfl
theorem v_seq {a : VCode} {b : VCode} {Q : VEx → Env → List Ob → Prop} : vwp P (.seq a b) Q e H = (vwp P a (fun x e H => match x with | .nor => vwp P b Q e H | .exit i => Q (.exit i) e H | .ret => Q .ret e H) e H) := by_refl rfl
theorem v_cond {c : Opd} {a : VCode} {b : VCode} {Q : VEx → Env → List Ob → Prop} : vwp P (.cond c a b) Q e H = (match c.ev e with
    | .val (.bool t) => if t = true then vwp P a Q e H else vwp P b Q e H
    | _ => False) := by_refl rfl
theorem v_block {id : Nat} {c : VCode} {Q : VEx → Env → List Ob → Prop} : vwp P (.block id c) Q e H = (vwp P c (fun x e H => match x with | .nor => Q .nor e H | .exit i => if i = id then Q .nor e H else Q (.exit i) e H | .ret => Q .ret e H) e H) := by_refl rfl
theorem v_loop {lv : List Nat} {c : VCode} {Q : VEx → Env → List Ob → Prop} {H0 : List Ob} : vwp P (.loop lv c) Q e H0 = (∃ (I : Nat → Env → List Ob → Prop) (n : Nat), I n (forget lv e) H0 ∧
      ∀ n e H, I n e H → vwp P c (fun x e H => match x with | .nor => ∃ m g, m < n ∧ (H0.length ≤ g ∧ (H.length ≤ g ∨ (belowE g (forget lv e) = true ∧ belowH g (H.take g) = true))) ∧ I m (forget lv e) (H.take g) | .exit i => Q (.exit i) e H | .ret => Q .ret e H) e H) := by_refl rfl
theorem v_exit {id : Nat} {Q : VEx → Env → List Ob → Prop} : vwp P (.exit id) Q e H = (Q (.exit id) e H) := by_refl rfl
theorem v_ret  {Q : VEx → Env → List Ob → Prop} : vwp P (.ret ) Q e H = (Q .ret e H) := by_refl rfl
theorem v_scope {c : VCode} {Q : VEx → Env → List Ob → Prop} : vwp P (.scope c) Q e H = (vwp P c Q e H) := by_refl rfl
theorem v_own {s k : Nat} {c : VCode} {Q : VEx → Env → List Ob → Prop} : vwp P (.own s k c) Q e H = (match get e s with
    | .val (.slice none 0 0) => vwp P c Q ((s, .os k H.length 0 [] 0 0 0) :: e) (H ++ [.obj 0 (.arr 0 k [])])
    | _ => vwp P c Q e H) := by_refl rfl
theorem v_ownB {s k : Nat} {p : List (Nat × Nat)} {c : VCode} {Q : VEx → Env → List Ob → Prop} : vwp P (.ownB s p k c) Q e H = (match get e s with
    | .op id ver p0 => (match H[id]? with
      | some (.obj v x) => v = ver ∧ (match getP (p0 ++ p) x with
        | some (.val (.slice none 0 0)) => (match setP (p0 ++ p) x (.os k H.length 0 [] 0 0 0) with
          | some x' => vwp P c Q e (H.set id (.obj ver x') ++ [.obj 0 (.arr 0 k [])])
          | none => False)
        | _ => vwp P c Q e H)
      | _ => False)
    | _ => False) := by_refl rfl
theorem v_ownT {s : Nat} {t : TypeId} {p : List (Nat × Nat)} {c : VCode} {Q : VEx → Env → List Ob → Prop} : vwp P (.ownT s p t c) Q e H = (match get e s with
    | .op id ver p0 => (match H[id]? with
      | some (.obj v x) => v = ver ∧ (match getP (p0 ++ p) x with
        | some (.val (.slice none 0 0)) => (match setP (p0 ++ p) x (.os 1 H.length 0 [] 0 0 0) with
          | some x' => vwp P c Q e (H.set id (.obj ver x') ++ [.bld 0 t []])
          | none => False)
        | _ => vwp P c Q e H)
      | _ => False)
    | _ => False) := by_refl rfl
theorem vops_nil {K : Env → List Ob → Prop} : vops P [] K e H = K e H := by_refl rfl
theorem vops_p {d : Nat} {o : POp} {r : List VO} {K : Env → List Ob → Prop} : vops P (⟨some d, .p o, none⟩ :: r) K e H = pop o e H fun x => vops P r K ((d, x) :: e) H := by_refl rfl
theorem vops_s {d : Nat} {o : SOp} {r : List VO} {K : Env → List Ob → Prop} : vops P (⟨some d, .s o, none⟩ :: r) K e H = sop P o e H fun x H => vops P r K ((d, x) :: e) H := by_refl rfl
theorem vops_s0 {o : SOp} {r : List VO} {K : Env → List Ob → Prop} : vops P (⟨none, .s o, none⟩ :: r) K e H = sop P o e H fun x H => vops P r K e H := by_refl rfl
theorem vops_g {d s : Nat} {o : VOp} {b : Bool} {r : List VO} {K : Env → List Ob → Prop} : vops P (⟨some d, o, some (s, b)⟩ :: r) K e H = knowB e s fun e q => match q with
  | some t => if t = b then vop P o e H (fun x H => vops P r K ((d, x) :: e) H) else vops P r K ((d, .val undef) :: e) H
  | none => vops P r K ((d, .val undef) :: e) H := by_refl rfl
theorem know_is {s : Nat} {Q : Env → Option Bool → Prop} : knowB e s Q = (match get e s with
  | .val v => Q e (isB v)
  | .any => (∀ t, Q ((s, .val (.bool t)) :: e) (some t)) ∧ ∀ v, isB v = none → Q ((s, .val v) :: e) none
  | _ => False) := by_refl rfl
theorem isB_bool {b : Bool} : isB (.bool b) = some b := by_refl rfl
theorem isB_undef : isB undef = none := by_refl rfl
theorem vop_p {o : POp} {K : TV → List Ob → Prop} : vop P (.p o) e H K = pop o e H fun x => K x H := by_refl rfl
theorem vop_s {o : SOp} {K : TV → List Ob → Prop} : vop P (.s o) e H K = sop P o e H K := by_refl rfl
theorem vq_nil {K : Env → Prop} : vq P [] K e H = K e := by_refl rfl
theorem vq_p {d : Nat} {o : POp} {r : List VO} {K : Env → Prop} : vq P (⟨some d, .p o, none⟩ :: r) K e H = pop o e H fun x => vq P r K ((d, x) :: e) H := by_refl rfl
theorem vq_c {d : Nat} {f : FuncId} {args : List Opd} {r : List VO} {K : Env → Prop} : vq P (⟨some d, .s (.call f args), none⟩ :: r) K e H = ((∀ x ∈ args, isTup (x.ev e) = false) ∧ ∃ x, VCalls P f (args.map (·.ev e)) H (fun y H' => y = x ∧ H' = H) ∧ vq P r K ((d, x) :: e) H) := by_refl rfl
theorem vq_g {d s : Nat} {o : VOp} {b : Bool} {r : List VO} {K : Env → Prop} : vq P (⟨some d, o, some (s, b)⟩ :: r) K e H = (match get e s with
  | .val (.bool t) => if t = b then quiet P o e H (fun x => vq P r K ((d, x) :: e) H) else vq P r K ((d, .val undef) :: e) H
  | .val _ => vq P r K ((d, .val undef) :: e) H
  | _ => False) := by
  show (match get e s with | .val v => if isB v = some b then quiet P o e H (fun x => vq P r K ((d, x) :: e) H) else vq P r K ((d, .val undef) :: e) H | _ => False) = _
  cases get e s with
  | val v => cases v <;> simp [isB]
  | _ => rfl
theorem quiet_p {o : POp} {k : TV → Prop} : quiet P (.p o) e H k = pop o e H k := by_refl rfl
theorem quiet_c {f : FuncId} {args : List Opd} {k : TV → Prop} : quiet P (.s (.call f args)) e H k = ((∀ x ∈ args, isTup (x.ev e) = false) ∧ ∃ x, VCalls P f (args.map (·.ev e)) H (fun y H' => y = x ∧ H' = H) ∧ k x) := by_refl rfl
/-! Numbers. -/
variable {t : TypeId} {a b : Int} {k : IntKind}
theorem wrap64_id {n : Int} (h1 : -9223372036854775808 ≤ n) (h2 : n ≤ 9223372036854775807) : IntKind.i64.wrap n = n := by rw [IntKind.wrap_i64]; omega
theorem b_add (h1 : -9223372036854775808 ≤ a + b) (h2 : a + b ≤ 9223372036854775807) : binV t .add (.int .i64 a) (.int .i64 b) = some (.int .i64 (a + b)) := by
  rw [show binV t .add (.int .i64 a) (.int .i64 b) = some (.int .i64 (IntKind.i64.wrap (a + b))) from rfl, wrap64_id h1 h2]
theorem b_sub (h1 : -9223372036854775808 ≤ a - b) (h2 : a - b ≤ 9223372036854775807) : binV t .sub (.int .i64 a) (.int .i64 b) = some (.int .i64 (a - b)) := by
  rw [show binV t .sub (.int .i64 a) (.int .i64 b) = some (.int .i64 (IntKind.i64.wrap (a - b))) from rfl, wrap64_id h1 h2]
theorem b_mul (h1 : -9223372036854775808 ≤ a * b) (h2 : a * b ≤ 9223372036854775807) : binV t .mul (.int .i64 a) (.int .i64 b) = some (.int .i64 (a * b)) := by
  rw [show binV t .mul (.int .i64 a) (.int .i64 b) = some (.int .i64 (IntKind.i64.wrap (a * b))) from rfl, wrap64_id h1 h2]
theorem b_eql : binV t .eql (.int k a) (.int k b) = some (.bool (decide (a = b))) := by
  rw [show binV t .eql (.int k a) (.int k b) = some (.bool (a == b)) from by simp [binV, binOp, Op.intCmp]; rfl]; rfl
theorem b_neq : binV t .neq (.int k a) (.int k b) = some (.bool (!decide (a = b))) := by
  rw [show binV t .neq (.int k a) (.int k b) = some (.bool (a != b)) from by simp [binV, binOp, Op.intCmp]; rfl]; rfl
theorem b_lss : binV t .lss (.int k a) (.int k b) = some (.bool (decide (a < b))) := by simp [binV, binOp, Op.intCmp]; rfl
theorem b_leq : binV t .leq (.int k a) (.int k b) = some (.bool (decide (a ≤ b))) := by simp [binV, binOp, Op.intCmp]; rfl
theorem b_gtr : binV t .gtr (.int k a) (.int k b) = some (.bool (decide (b < a))) := by simp [binV, binOp, Op.intCmp]; rfl
theorem b_geq : binV t .geq (.int k a) (.int k b) = some (.bool (decide (b ≤ a))) := by simp [binV, binOp, Op.intCmp]; rfl
theorem ptrNil_p0 : ptrNil 0 (.val (.pointer none)) = some true := by_refl rfl
theorem ptrNil_op {i v : Nat} {p : List (Nat × Nat)} : ptrNil 0 (.op i v p) = some false := by_refl rfl
theorem ptrNil_fp {x : TV} : ptrNil 0 (.fp x) = some false := by_refl rfl
theorem ptrNil_i0 : ptrNil 1 (.val .nilIface) = some true := by_refl rfl
theorem ptrNil_ifc {t : TypeId} {x : TV} : ptrNil 1 (.ifc t x) = some false := by_refl rfl
theorem ptrNil_m0 : ptrNil 2 (.val (.map none)) = some true := by_refl rfl
theorem ptrNil_mp {i v : Nat} : ptrNil 2 (.mp i v) = some false := by_refl rfl
theorem ptrNil_yl {i v : Nat} : ptrNil 3 (.yl i v) = some false := by_refl rfl
theorem ptrNil_f0 : ptrNil 3 (.val .nilFunc) = some true := by_refl rfl
theorem ptrNil_fn {f : Fn} {a b : List TV} : ptrNil 3 (.fn f a b) = some false := by_refl rfl
theorem all_cons {α : Type} {p : α → Prop} {a : α} {l : List α} : (∀ x ∈ a :: l, p x) = (p a ∧ ∀ x ∈ l, p x) := propext List.forall_mem_cons
theorem all_nil {α : Type} {p : α → Prop} : (∀ x ∈ ([] : List α), p x) = True := propext ⟨fun _ => trivial, fun _ x h => by cases h⟩
theorem bvOf {n : Int} (h0 : 0 ≤ n) (h1 : n < 18446744073709551616) : (BitVec.ofInt 64 n).toNat = n.toNat := by
  rw [BitVec.toNat_ofInt]
  have : n % ((2 ^ 64 : Nat) : Int) = n := Int.emod_eq_of_lt h0 (by simpa using h1)
  rw [this]
theorem b_and (h1 : 0 ≤ a) (h2 : a ≤ 9223372036854775807) (h3 : 0 ≤ b) (h4 : b ≤ 9223372036854775807) : binV t .and (.int .i64 a) (.int .i64 b) = some (.int .i64 ((a.toNat &&& b.toNat : Nat) : Int)) := by
  rw [show binV t .and (.int .i64 a) (.int .i64 b) = some (.int .i64 (IntKind.i64.wrap ((BitVec.ofInt 64 a &&& BitVec.ofInt 64 b).toNat : Int))) from rfl, BitVec.toNat_and, bvOf h1 (by omega), bvOf h3 (by omega)]
  have := Nat.and_le_left (n := a.toNat) (m := b.toNat)
  rw [wrap64_id (by omega) (by omega)]
theorem b_or (h1 : 0 ≤ a) (h2 : a ≤ 9223372036854775807) (h3 : 0 ≤ b) (h4 : b ≤ 9223372036854775807) : binV t .or (.int .i64 a) (.int .i64 b) = some (.int .i64 ((a.toNat ||| b.toNat : Nat) : Int)) := by
  rw [show binV t .or (.int .i64 a) (.int .i64 b) = some (.int .i64 (IntKind.i64.wrap ((BitVec.ofInt 64 a ||| BitVec.ofInt 64 b).toNat : Int))) from rfl, BitVec.toNat_or, bvOf h1 (by omega), bvOf h3 (by omega)]
  have := Nat.or_lt_two_pow (n := 63) (x := a.toNat) (y := b.toNat) (by omega) (by omega)
  rw [wrap64_id (by omega) (by omega)]
theorem b_shl {k2 : IntKind} (h1 : 0 ≤ b) (h2 : b ≤ 63) (h3 : 0 ≤ a * 2 ^ b.toNat) (h4 : a * 2 ^ b.toNat ≤ 9223372036854775807) : binV t .shl (.int .i64 a) (.int k2 b) = some (.int .i64 (a * 2 ^ b.toNat)) := by
  have e : binOp .shl t (.int .i64 a) (.int k2 b) = pure (.int .i64 (a * 2 ^ b.toNat)) := by
    show Op.shift .shl .i64 a k2 b = _
    unfold Op.shift
    rw [if_neg (by omega)]
    have hm : min b.toNat IntKind.i64.bits = b.toNat := by
      have : IntKind.i64.bits = 64 := rfl
      omega
    simp only [hm]
    rw [wrap64_id (by omega) h4]
  unfold binV; rw [e]; rfl
theorem b_shr {k2 : IntKind} (h1 : 0 ≤ b) (h2 : b ≤ 63) (h3 : 0 ≤ a) : binV t .shr (.int .i64 a) (.int k2 b) = some (.int .i64 (a / 2 ^ b.toNat)) := by
  have e : binOp .shr t (.int .i64 a) (.int k2 b) = pure (.int .i64 (a / 2 ^ b.toNat)) := by
    show Op.shift .shr .i64 a k2 b = _
    unfold Op.shift
    rw [if_neg (by omega)]
    have hm : min b.toNat IntKind.i64.bits = b.toNat := by
      have : IntKind.i64.bits = 64 := rfl
      omega
    simp only [hm]
    rw [Int.fdiv_eq_ediv_of_nonneg _ (by exact Int.le_of_lt (Int.pow_pos (by omega)))]
  unfold binV; rw [e]; rfl
theorem b_rem (h1 : 0 ≤ a) (h2 : b ≠ 0) : binV t .rem (.int k a) (.int k b) = some (.int k (a % b)) := by
  have e : binOp .rem t (.int k a) (.int k b) = pure (.int k (a % b)) := by
    unfold binOp
    simp only [ne_eq, not_true_eq_false, if_false, Op.intDiv, h2, Int.tmod_eq_emod_of_nonneg h1]
  unfold binV; rw [e]; rfl
theorem b_quo (h1 : 0 ≤ a) (h2 : 0 < b) (h3 : a ≤ 9223372036854775807) : binV t .quo (.int .i64 a) (.int .i64 b) = some (.int .i64 (a / b)) := by
  have e : binOp .quo t (.int .i64 a) (.int .i64 b) = pure (.int .i64 (a / b)) := by
    unfold binOp
    simp only [ne_eq, not_true_eq_false, if_false, Op.intDiv, show ¬ b = 0 from by omega, Int.tdiv_eq_ediv_of_nonneg h1]
    have h4 : a / b ≤ a := Int.ediv_le_self _ h1
    have h5 : 0 ≤ a / b := Int.ediv_nonneg h1 (by omega)
    rw [wrap64_id (by omega) (by omega)]
  unfold binV; rw [e]; rfl
theorem b_xor8 {x y : UInt8} : binV t .xor (.int .u8 (x.toNat : Int)) (.int .u8 (y.toNat : Int)) = some (.int .u8 ((x ^^^ y).toNat : Int)) := by
  rw [show binV t .xor (.int .u8 (x.toNat : Int)) (.int .u8 (y.toNat : Int)) = some (.int .u8 (IntKind.u8.wrap ((BitVec.ofInt 8 (x.toNat : Int) ^^^ BitVec.ofInt 8 (y.toNat : Int)).toNat : Int))) from rfl]
  rw [BitVec.ofInt_natCast, BitVec.ofInt_natCast, UInt8.toNat_xor, BitVec.toNat_xor, BitVec.toNat_ofNat, BitVec.toNat_ofNat, Nat.mod_eq_of_lt x.toNat_lt, Nat.mod_eq_of_lt y.toNat_lt]
  have := Nat.xor_lt_two_pow (n := 8) x.toNat_lt y.toNat_lt
  rw [IntKind.wrap_u8]; congr 2; omega
theorem toList_str (l : List UInt8) : (str l).toList = l := by simp [str, ByteArray.toList_eq]
theorem list_beq {l m : List UInt8} : (l == m) = decide (l = m) := by
  by_cases h : l = m <;> simp [h]
theorem s_eql {l m : List UInt8} : binV t .eql (.string (str l)) (.string (str m)) = some (.bool (decide (l = m))) := by
  rw [show binV t .eql (.string (str l)) (.string (str m)) = some (.bool ((str l).toList == (str m).toList)) from rfl, toList_str, toList_str, list_beq]
theorem s_neq {l m : List UInt8} : binV t .neq (.string (str l)) (.string (str m)) = some (.bool (!decide (l = m))) := by
  rw [show binV t .neq (.string (str l)) (.string (str m)) = some (.bool (!((str l).toList == (str m).toList))) from rfl, toList_str, toList_str, list_beq]
theorem u_not {b : Bool} : unV .not (.bool b) = some (.bool (!b)) := by_refl rfl
theorem calm_int {u : Value} : calm (.int k a) u = true := by cases u <;> rfl
theorem calm_str {s : ByteArray} {u : Value} : calm (.string s) u = true := by cases u <;> rfl

/-! words, constructor by constructor -/
theorem isAg_val {v : Value} : isAg (TV.val v) = false := by_refl rfl
theorem isAg_any  : isAg (TV.any) = false := by_refl rfl
theorem isAg_sl {k : Nat} {cs : List TV} : isAg (TV.sl k cs) = false := by_refl rfl
theorem isAg_fp {x : TV} : isAg (TV.fp x) = false := by_refl rfl
theorem isAg_op {i : Nat} {v : Nat} {p : List (Nat × Nat)} : isAg (TV.op i v p) = false := by_refl rfl
theorem isAg_os {k : Nat} {i : Nat} {v : Nat} {p : List (Nat × Nat)} {o : Nat} {n : Nat} {cp : Nat} : isAg (TV.os k i v p o n cp) = false := by_refl rfl
theorem isAg_agg {cs : List TV} : isAg (TV.agg cs) = true := by_refl rfl
theorem isAg_arr {n : Nat} {k : Nat} {cs : List TV} : isAg (TV.arr n k cs) = true := by_refl rfl
theorem isAg_tup {vs : List TV} : isAg (TV.tup vs) = false := by_refl rfl
theorem isAg_ifc {t : TypeId} {x : TV} : isAg (TV.ifc t x) = false := by_refl rfl
theorem isAg_fn {f : Fn} {a : List TV} {b : List TV} : isAg (TV.fn f a b) = false := by_refl rfl
theorem isAg_mp {i : Nat} {v : Nat} : isAg (TV.mp i v) = false := by_refl rfl
theorem isAg_yl {i : Nat} {v : Nat} : isAg (TV.yl i v) = false := by_refl rfl
theorem isTup_val {v : Value} : isTup (TV.val v) = false := by_refl rfl
theorem isTup_any  : isTup (TV.any) = false := by_refl rfl
theorem isTup_sl {k : Nat} {cs : List TV} : isTup (TV.sl k cs) = false := by_refl rfl
theorem isTup_fp {x : TV} : isTup (TV.fp x) = false := by_refl rfl
theorem isTup_op {i : Nat} {v : Nat} {p : List (Nat × Nat)} : isTup (TV.op i v p) = false := by_refl rfl
theorem isTup_os {k : Nat} {i : Nat} {v : Nat} {p : List (Nat × Nat)} {o : Nat} {n : Nat} {cp : Nat} : isTup (TV.os k i v p o n cp) = false := by_refl rfl
theorem isTup_agg {cs : List TV} : isTup (TV.agg cs) = false := by_refl rfl
theorem isTup_arr {n : Nat} {k : Nat} {cs : List TV} : isTup (TV.arr n k cs) = false := by_refl rfl
theorem isTup_tup {vs : List TV} : isTup (TV.tup vs) = true := by_refl rfl
theorem isTup_ifc {t : TypeId} {x : TV} : isTup (TV.ifc t x) = false := by_refl rfl
theorem isTup_fn {f : Fn} {a : List TV} {b : List TV} : isTup (TV.fn f a b) = false := by_refl rfl
theorem isTup_mp {i : Nat} {v : Nat} : isTup (TV.mp i v) = false := by_refl rfl
theorem isTup_yl {i : Nat} {v : Nat} : isTup (TV.yl i v) = false := by_refl rfl
theorem lays_any  : lays (TV.any) = false := by_refl rfl
theorem lays_sl {k : Nat} {cs : List TV} : lays (TV.sl k cs) = true := by_refl rfl
theorem lays_fp {x : TV} : lays (TV.fp x) = true := by_refl rfl
theorem lays_op {i : Nat} {v : Nat} {p : List (Nat × Nat)} : lays (TV.op i v p) = true := by_refl rfl
theorem lays_os {k : Nat} {i : Nat} {v : Nat} {p : List (Nat × Nat)} {o : Nat} {n : Nat} {cp : Nat} : lays (TV.os k i v p o n cp) = true := by_refl rfl
theorem lays_agg {cs : List TV} : lays (TV.agg cs) = true := by_refl rfl
theorem lays_arr {n : Nat} {k : Nat} {cs : List TV} : lays (TV.arr n k cs) = true := by_refl rfl
theorem lays_tup {vs : List TV} : lays (TV.tup vs) = false := by_refl rfl
theorem lays_ifc {t : TypeId} {x : TV} : lays (TV.ifc t x) = true := by_refl rfl
theorem lays_fn {f : Fn} {a : List TV} {b : List TV} : lays (TV.fn f a b) = true := by_refl rfl
theorem lays_mp {i : Nat} {v : Nat} : lays (TV.mp i v) = true := by_refl rfl
theorem lays_yl {i : Nat} {v : Nat} : lays (TV.yl i v) = true := by_refl rfl
theorem pureT_val {v : Value} : pureT (TV.val v) = true := by_refl rfl
theorem pureT_any  : pureT (TV.any) = true := by_refl rfl
theorem pureT_sl {k : Nat} {cs : List TV} : pureT (TV.sl k cs) = true := by_refl rfl
theorem pureT_fp {x : TV} : pureT (TV.fp x) = true := by_refl rfl
theorem pureT_op {i : Nat} {v : Nat} {p : List (Nat × Nat)} : pureT (TV.op i v p) = false := by_refl rfl
theorem pureT_os {k : Nat} {i : Nat} {v : Nat} {p : List (Nat × Nat)} {o : Nat} {n : Nat} {cp : Nat} : pureT (TV.os k i v p o n cp) = false := by_refl rfl
theorem pureT_arr {n : Nat} {k : Nat} {cs : List TV} : pureT (TV.arr n k cs) = true := by_refl rfl
theorem pureT_mp {i : Nat} {v : Nat} : pureT (TV.mp i v) = false := by_refl rfl
theorem pureT_yl {i : Nat} {v : Nat} : pureT (TV.yl i v) = false := by_refl rfl
theorem width_val {v : Value} : width (TV.val v) = 1 := by_refl rfl
theorem width_any  : width (TV.any) = 1 := by_refl rfl
theorem width_sl {k : Nat} {cs : List TV} : width (TV.sl k cs) = 1 := by_refl rfl
theorem width_fp {x : TV} : width (TV.fp x) = 1 := by_refl rfl
theorem width_op {i : Nat} {v : Nat} {p : List (Nat × Nat)} : width (TV.op i v p) = 1 := by_refl rfl
theorem width_os {k : Nat} {i : Nat} {v : Nat} {p : List (Nat × Nat)} {o : Nat} {n : Nat} {cp : Nat} : width (TV.os k i v p o n cp) = 1 := by_refl rfl
theorem width_tup {vs : List TV} : width (TV.tup vs) = 1 := by_refl rfl
theorem width_ifc {t : TypeId} {x : TV} : width (TV.ifc t x) = 1 := by_refl rfl
theorem width_fn {f : Fn} {a : List TV} {b : List TV} : width (TV.fn f a b) = 1 := by_refl rfl
theorem width_mp {i : Nat} {v : Nat} : width (TV.mp i v) = 1 := by_refl rfl
theorem width_yl {i : Nat} {v : Nat} : width (TV.yl i v) = 1 := by_refl rfl
theorem width_agg {cs : List TV} : width (.agg cs) = widths cs := by rw [width]
theorem width_arr {n k : Nat} {cs : List TV} : width (.arr n k cs) = n * k := by rw [width]
theorem widths_nil : widths [] = 0 := by_refl rfl
theorem widths_cons {x : TV} {xs : List TV} : widths (x :: xs) = width x + widths xs := by rw [widths]
theorem pureT_agg {cs : List TV} : pureT (.agg cs) = pureL cs := by rw [pureT]
theorem pureT_ifc {t : TypeId} {x : TV} : pureT (.ifc t x) = pureT x := by rw [pureT]
theorem pureT_tup {cs : List TV} : pureT (.tup cs) = pureL cs := by rw [pureT]
theorem pureL_nil : pureL [] = true := by_refl rfl
theorem pureL_cons {x : TV} {xs : List TV} : pureL (x :: xs) = (pureT x && pureL xs) := by rw [pureL]
theorem lays_int {k : IntKind} {n : Int} : lays (.val (.int k n)) = true := by_refl rfl
theorem lays_bool {b : Bool} : lays (.val (.bool b)) = true := by_refl rfl
theorem lays_string {s : ByteArray} : lays (.val (.string s)) = true := by_refl rfl
theorem lays_pointer {p : Option Addr} : lays (.val (.pointer p)) = true := by_refl rfl
theorem lays_slice {p : Option Addr} {n c : Nat} : lays (.val (.slice p n c)) = true := by_refl rfl
theorem lays_map {r : Option Nat} : lays (.val (.map r)) = true := by_refl rfl
theorem lays_func {f : Fn} {a b : Array Value} : lays (.val (.func f a b)) = true := by_refl rfl
theorem lays_nilFunc : lays (.val .nilFunc) = true := by_refl rfl
theorem lays_nilIface : lays (.val .nilIface) = true := by_refl rfl
theorem ev_t {e : Env} {n : Nat} : (Opd.t n).ev e = get e n := by_refl rfl
theorem ev_g {e : Env} {n : Nat} : (Opd.g n).ev e = (match globOf n with | some x => .fp x.tv | none => .val (.pointer (some ⟨n, 0, none⟩))) := by_refl rfl
theorem ev_c {e : Env} {v : Value} : (Opd.c v).ev e = .val v := by_refl rfl
theorem getP_nil {x : TV} : getP [] x = some x := by_refl rfl
theorem getP_agg {i d : Nat} {p : List (Nat × Nat)} {cs : List TV} : getP ((i, d) :: p) (.agg cs) = if widths (cs.take i) = d then (cs[i]?).bind (getP p) else none := by rw [getP]
theorem getP_arr {i d n k : Nat} {p : List (Nat × Nat)} {cs : List TV} : getP ((i, d) :: p) (.arr n k cs) = if d = i * k then (cs[i]?).bind (getP p) else none := by rw [getP]
theorem setP_nil {x y : TV} : setP [] x y = if width y = width x then some y else none := by rw [setP]
theorem setP_agg {i d : Nat} {p : List (Nat × Nat)} {cs : List TV} {y : TV} : setP ((i, d) :: p) (.agg cs) y = if widths (cs.take i) = d then (cs[i]?).bind fun c => (setP p c y).map fun c' => .agg (cs.set i c') else none := by rw [setP]
theorem setP_arr {i d n k : Nat} {p : List (Nat × Nat)} {cs : List TV} {y : TV} : setP ((i, d) :: p) (.arr n k cs) y = if d = i * k ∧ pureT y = true then (cs[i]?).bind fun c => (setP p c y).map fun c' => .arr n k (cs.set i c') else none := by rw [setP]
theorem forget_nil {e : Env} : forget [] e = [] := by_refl rfl
theorem forget_cons {e : Env} {s : Nat} {ks : List Nat} : forget (s :: ks) e = (s, get e s) :: forget ks e := by_refl rfl
theorem argsE_nil {i : Nat} : argsE i [] = [] := by_refl rfl
theorem argsE_cons {i : Nat} {x : TV} {xs : List TV} : argsE i (x :: xs) = (i, x) :: argsE (i + 1) xs := by_refl rfl
theorem ldOk_iff {ag : Bool} {sz : Nat} {y : TV} : ldOk ag sz y = (width y = sz ∧ isAg y = ag) := by_refl rfl
theorem elemsOf_sl {H : List Ob} {k k2 : Nat} {cs : List TV} : elemsOf H k (.sl k2 cs) = if k2 = k then some cs else none := by_refl rfl
theorem elemsOf_nil {H : List Ob} {k : Nat} {p : Option Addr} {n c : Nat} : elemsOf H k (.val (.slice p n c)) = if n = 0 ∧ p.isNone ∧ c = 0 then some [] else none := by_refl rfl
theorem elemsOf_os {H : List Ob} {k k2 i v o n cp : Nat} {p : List (Nat × Nat)} : elemsOf H k (.os k2 i v p o n cp) = if k2 = k then (match H[i]? with | some (.obj vr x) => if vr = v then elemsAt p k o n x else none | _ => none) else none := by_refl rfl
theorem elemsAt_nil {k k2 o n N : Nat} {cs : List TV} : elemsAt [] k o n (.arr N k2 cs) = if k2 = k ∧ o + n ≤ cs.length then some ((cs.drop o).take n) else none := by_refl rfl
theorem fills_nil {e : Env} {zs : List TV} : fills e zs [] = zs := by_refl rfl
theorem fills_cons {e : Env} {zs : List TV} {i : Nat} {x : Opd} {ps : List (Nat × Opd)} : fills e zs ((i, x) :: ps) = fills e (zs.set i (x.ev e)) ps := by_refl rfl
theorem fillsOk_nil {e : Env} {ks : List Nat} : fillsOk e ks [] = True := by_refl rfl
theorem fillsOk_cons {e : Env} {ks : List Nat} {i : Nat} {x : Opd} {ps : List (Nat × Opd)} : fillsOk e ks ((i, x) :: ps) = ((lays (x.ev e) = true ∧ ks[i]? = some (width (x.ev e))) ∧ fillsOk e ks ps) := by_refl rfl
theorem fillsPure_nil {e : Env} : fillsPure e [] = True := by_refl rfl
theorem fillsPure_cons {e : Env} {i : Nat} {x : Opd} {ps : List (Nat × Opd)} : fillsPure e ((i, x) :: ps) = (pureT (x.ev e) = true ∧ fillsPure e ps) := by_refl rfl
theorem res_tmp {t : Nat} {e : Env} {H : List Ob} {K : TV → Prop} : res [.tmp t] e H K = K (get e t) := by_refl rfl
theorem res_cell {a sz : Nat} {ag : Bool} {e : Env} {H : List Ob} {K : TV → Prop} : res [.cell a ag sz] e H K = pop (.load ag sz (.t a)) e H K := by_refl rfl
theorem res_nil {e : Env} {H : List Ob} {K : TV → Prop} : res [] e H K = ((∀ x ∈ ([] : List TV), isTup x = false) ∧ K (.tup [])) := by_refl rfl
theorem res_two {r s : VR} {e : Env} {H : List Ob} {K : TV → Prop} : res [r, s] e H K = resL [r, s] e H fun xs => match xs with | [x] => K x | xs => (∀ x ∈ xs, isTup x = false) ∧ K (.tup xs) := by_refl rfl
theorem res_many {r s : VR} {l : List VR} {e : Env} {H : List Ob} {K : TV → Prop} : res (r :: s :: l) e H K = resL (r :: s :: l) e H fun xs => match xs with | [x] => K x | xs => (∀ x ∈ xs, isTup x = false) ∧ K (.tup xs) := by_refl rfl
theorem resL_nil {e : Env} {H : List Ob} {K : List TV → Prop} : resL [] e H K = K [] := by_refl rfl
theorem resL_tmp {t : Nat} {r : List VR} {e : Env} {H : List Ob} {K : List TV → Prop} : resL (.tmp t :: r) e H K = resL r e H fun xs => K (get e t :: xs) := by_refl rfl
theorem resL_cell {a sz : Nat} {ag : Bool} {r : List VR} {e : Env} {H : List Ob} {K : List TV → Prop} : resL (.cell a ag sz :: r) e H K = pop (.load ag sz (.t a)) e H fun x => resL r e H fun xs => K (x :: xs) := by_refl rfl
theorem atEnd_ret {vr : List VR} {R : TV → List Ob → Prop} {e : Env} {H : List Ob} : atEnd vr R .ret e H = res vr e H fun x => R x H := by_refl rfl
theorem atEnd_nor {vr : List VR} {R : TV → List Ob → Prop} {e : Env} {H : List Ob} : atEnd vr R .nor e H = res vr e H fun x => R x H := by_refl rfl
theorem frzG_val {H : List Ob} {g : TV → Option TV} {v : Value} : frzG H g (TV.val v) = some (.val v) := by rw [frzG]
theorem frzG_any {H : List Ob} {g : TV → Option TV}  : frzG H g (TV.any) = some (.any) := by rw [frzG]
theorem frzG_sl {H : List Ob} {g : TV → Option TV} {k : Nat} {cs : List TV} : frzG H g (TV.sl k cs) = some (.sl k cs) := by rw [frzG]
theorem frzG_fp {H : List Ob} {g : TV → Option TV} {x : TV} : frzG H g (TV.fp x) = some (.fp x) := by rw [frzG]
theorem frzG_arr {H : List Ob} {g : TV → Option TV} {n : Nat} {k : Nat} {cs : List TV} : frzG H g (TV.arr n k cs) = some (.arr n k cs) := by rw [frzG]
theorem frzG_os {H : List Ob} {g : TV → Option TV} {k i v o n cp : Nat} {p : List (Nat × Nat)} : frzG H g (.os k i v p o n cp) = (match H[i]? with | some (.obj vr x) => if vr = v then (elemsAt p k o n x).map (.sl k) else none | _ => none) := by rw [frzG]; rfl
theorem frzG_op {H : List Ob} {g : TV → Option TV} {i v : Nat} {p : List (Nat × Nat)} : frzG H g (.op i v p) = (match H[i]? with | some (.obj vr x) => if vr = v then (getP p x).bind fun y => (g y).map .fp else none | _ => none) := by rw [frzG]; rfl
theorem frzG_agg {H : List Ob} {g : TV → Option TV} {cs : List TV} : frzG H g (.agg cs) = (frzGL H g cs).map .agg := by rw [frzG]
theorem frzG_tup {H : List Ob} {g : TV → Option TV} {cs : List TV} : frzG H g (.tup cs) = (frzGL H g cs).map .tup := by rw [frzG]
theorem frzG_ifc {H : List Ob} {g : TV → Option TV} {t : TypeId} {x : TV} : frzG H g (.ifc t x) = (frzG H g x).map (.ifc t) := by rw [frzG]
theorem frzGL_nil {H : List Ob} {g : TV → Option TV} : frzGL H g [] = some [] := by_refl rfl
theorem frzGL_cons {H : List Ob} {g : TV → Option TV} {x : TV} {xs : List TV} : frzGL H g (x :: xs) = (match frzG H g x, frzGL H g xs with | some x, some xs => some (x :: xs) | _, _ => none) := by rw [frzGL]; rfl
theorem frz_D {H : List Ob} {x : TV} : frz H x = frzG H (frzD H 2) x := by_refl rfl
theorem frzL_D {H : List Ob} {x : List TV} : frzL H x = frzGL H (frzD H 2) x := by_refl rfl
theorem frzD_s {H : List Ob} {d : Nat} {x : TV} : frzD H (d + 1) x = frzG H (frzD H d) x := by_refl rfl
theorem frs_val {H : List Ob} {v : Value} : frs H (.val v) = some (.val v) := by rw [frs]
theorem frs_any {H : List Ob} : frs H .any = some .any := by rw [frs]
theorem frs_os {H : List Ob} {k i v o n cp : Nat} {p : List (Nat × Nat)} : frs H (.os k i v p o n cp) = (match H[i]? with | some (.obj vr x) => if vr = v then (match elemsAt p k o n x with | some cs => if scalL cs then some (.sl k cs) else none | none => none) else none | _ => none) := by rw [frs]; rfl
theorem frs_agg {H : List Ob} {cs : List TV} : frs H (.agg cs) = (frsL H cs).map .agg := by rw [frs]
theorem frs_arr {H : List Ob} {n k : Nat} {cs : List TV} : frs H (.arr n k cs) = if scalL cs then some (.arr n k cs) else none := by rw [frs]
theorem frs_tup {H : List Ob} {cs : List TV} : frs H (.tup cs) = (frsL H cs).map .tup := by rw [frs]
theorem frs_ifc {H : List Ob} {t : TypeId} {x : TV} : frs H (.ifc t x) = (frs H x).map (.ifc t) := by rw [frs]
theorem frsL_nil {H : List Ob} : frsL H [] = some [] := by rw [frsL]
theorem frsL_cons {H : List Ob} {x : TV} {xs : List TV} : frsL H (x :: xs) = (match frs H x, frsL H xs with | some x, some xs => some (x :: xs) | _, _ => none) := by rw [frsL]; rfl
theorem scalL_by8 {l : List UInt8} : scalL (l.map by8) = true := by
  induction l with
  | nil => rfl
  | cons x l ih => rw [List.map_cons, scalL, ih]; rfl
theorem scalL_ts {l : List (List UInt8)} : scalL (l.map ts) = true := by
  induction l with
  | nil => rfl
  | cons x l ih => rw [List.map_cons, scalL, ih]; rfl
theorem get_last {H : List Ob} {o : Ob} : (H ++ [o])[H.length]? = some o := by simp
theorem set_last {H : List Ob} {o o' : Ob} : (H ++ [o]).set H.length o' = H ++ [o'] := by simp
theorem map_set8 {l : List UInt8} {i : Nat} {b : UInt8} : (l.map by8).set i (.val (.int .u8 (b.toNat : Int))) = (l.set i b).map by8 := by rw [List.map_set]
theorem map_unby {l : List UInt8} : (l.map by8).map unby = l := by
  rw [List.map_map]
  have : (unby ∘ by8) = id := by funext b; simp
  rw [this, List.map_id]
theorem all_isBy {l : List UInt8} : (∀ y ∈ l.map by8, isBy y) = True := by simp
theorem cast1 {k : Nat} : ((k : Int) + 1) = ((k + 1 : Nat) : Int) := by_refl rfl
theorem cast_add {a b : Nat} : ((a : Int) + (b : Int)) = ((a + b : Nat) : Int) := by omega
theorem cast_lt {a b : Nat} : ((a : Int) < (b : Int)) = (a < b) := by simp
theorem cast_le {a b : Nat} : ((a : Int) ≤ (b : Int)) = (a ≤ b) := by simp
theorem cast_eq {a b : Nat} : ((a : Int) = (b : Int)) = (a = b) := propext ⟨fun h => by omega, fun h => by omega⟩
theorem cast_nn {a : Nat} : (0 ≤ (a : Int)) = True := by simp
theorem u8_eq {x : UInt8} {y : UInt8} : ((x.toNat : Int) = (y.toNat : Int)) = (x = y) := by
  rw [cast_eq]; exact propext ⟨fun h => UInt8.toNat_inj.1 h, fun h => by rw [h]⟩
theorem belowT_op {g id v : Nat} {p : List (Nat × Nat)} : belowT g (.op id v p) = decide (id < g) := by rw [belowT]
theorem belowT_os {g k id v o n cp : Nat} {p : List (Nat × Nat)} : belowT g (.os k id v p o n cp) = decide (id < g) := by rw [belowT]
theorem belowE_nil {g : Nat} : belowE g [] = true := by_refl rfl
theorem belowE_cons {g s : Nat} {x : TV} {e : Env} : belowE g ((s, x) :: e) = (belowT g x && belowE g e) := by_refl rfl
theorem belowT_val {g : Nat} {v : Value} : belowT g (.val v) = true := by_refl rfl
theorem belowT_any {g : Nat} : belowT g .any = true := by_refl rfl
theorem belowT_sl {g k : Nat} {cs : List TV} : belowT g (.sl k cs) = true := by_refl rfl
theorem belowT_fp {g : Nat} {x : TV} : belowT g (.fp x) = true := by_refl rfl
theorem belowT_arr {g n k : Nat} {cs : List TV} : belowT g (.arr n k cs) = true := by_refl rfl
theorem belowT_agg {g : Nat} {cs : List TV} : belowT g (.agg cs) = belowL g cs := by rw [belowT]
theorem belowL_nil {g : Nat} : belowL g [] = true := by_refl rfl
theorem belowL_cons {g : Nat} {x : TV} {xs : List TV} : belowL g (x :: xs) = (belowT g x && belowL g xs) := by rw [belowL]
theorem belowT_yl {g id v : Nat} : belowT g (.yl id v) = decide (id < g) := by rw [belowT]
theorem belowH_nil {g : Nat} : belowH g [] = true := by_refl rfl
theorem belowH_obj {g v : Nat} {x : TV} {H : List Ob} : belowH g (.obj v x :: H) = (belowT g x && belowH g H) := by rw [belowH]; rfl
theorem belowH_gone {g v : Nat} {H : List Ob} : belowH g (.gone v :: H) = belowH g H := by rw [belowH]; simp [belowO]

theorem get_if {d s : Nat} {x : TV} : get ((d, x) :: e) s = if d = s then x else get e s := by_refl rfl
end
end Go.Proofs.Ytknphdcjopaaoaa
