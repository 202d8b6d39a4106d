/- ObjectHeadersCard: the law, proved out of contracts of the functions that it reaches (texts merged; names shortened by a program). No condition is laid on it. -/
import Derived.Test.YtmlompedpahkjaaGreatDoorQF
import Derived.Test.YtmlompedpahkjaaGreatDoorProg
import Derived.Test.YtmlompedpahkjaaGreatDoorQD
import Derived.WalkKit
import Derived.LaidEql
import Derived.Stop.Asserts
import Derived.RowKitTokens
import Derived.Test.YtmlompedpahkjaaGreatDoorQE
import Derived.SevenTiedAt
import Derived.Test.YtmlompedpahkjaaGreatDoorCards
import Derived.Test.YtmlompedpahkjaaGreatDoorTie
import Derived.Test.YtmlompedpahkjaaGreatDoorRows
import Derived.ProofKit
import Derived.OpenShut
import Derived.ShutString
import Derived.ChangeOld
import Derived.Below
import Derived.SizedLaws
import Derived.ChangeVars
import Derived.LaidLaws
import Derived.LaidHandle
import Derived.Stop.Joined
import Derived.Stop.LaidErr
import Derived.ClosedOfChecked
namespace Go.Proofs.YtmlompedpahkjaaGreatDoor
open Go.RowKit Go.Extern.Stop Go.Stop Go.Extern
variable [A4e]
set_option linter.unusedSectionVars false


theorem Blj (t : Addr) (w : World) : (ReflectliteValue.unpack (.iface 52 (.pointer (some t)))).run Tryz.prog w
  = .ok (.agg #[.pointer (some ⟨8, 52, none⟩), .pointer (some ⟨w.heap.size, 0, none⟩), .int .u64 150]) (w.alloc (.cells #[.pointer (some t)] 52)) := by kernel_rfl
theorem BsM (a : Addr) (w : World) : (ReflectliteValue.methodAny (ReflectliteValue.valueError "reflectlite.Value.Type" 0) (fun t _ _ _ => ReflectliteType.toType t) #[.agg #[.pointer (some ⟨8, 52, none⟩), .pointer (some a), .int .u64 150]]).run Tryz.prog w
  = .ok (.iface 91 (.agg #[.pointer (some ⟨8, 52, none⟩)])) w := by kernel_rfl
theorem Bk6 (h : Value) (w : World) : (Go.method 278 91 (.agg #[h]) "Kind").run Tryz.prog w = .ok (98, h) w := by kernel_rfl
theorem Bss (w : World) : ((ReflectliteType.abiMethod fun t => (fun a : Nat => Value.int IntKind.u8 (a : Int)) <$> Rtype.kind t) #[.pointer (some ⟨8, 52, none⟩)]).run Tryz.prog w = .ok (.int .u8 22) w := by kernel_rfl
theorem Bsk (w : World) : ((ReflectliteType.abiMethod fun t => (fun a : Nat => Value.int IntKind.u8 (a : Int)) <$> Rtype.kind t) #[.pointer (some ⟨8, 35, none⟩)]).run Tryz.prog w = .ok (.int .u8 2) w := by kernel_rfl

theorem rlm (z : Sem Value) (f : TypeId → Addr → Nat → Nat → Sem Value) (v : Value) :
  ReflectliteValue.method z f #[v] = (do match ← ReflectliteValue.parts v with | none => z | some (t, a, fl) => f t a fl (fl % 32)) := rfl
theorem BkX (a : Addr) (w : World) : (ReflectliteValue.parts (.agg #[.pointer (some ⟨8, 52, none⟩), .pointer (some a), .int .u64 150])).run Tryz.prog w = .ok (some (52, a, 150)) w := by kernel_rfl
/-- (Value).IsNil at the Value of a **p.E that is not nil. -/
theorem Bpu (a p : Addr) (W : World) (ha : W.cell? a = some (.pointer (some p))) :
  (ReflectliteValue.method (ReflectliteValue.valueError "reflectlite.Value.IsNil" 0) ReflectliteValue.isNil #[.agg #[.pointer (some ⟨8, 52, none⟩), .pointer (some a), .int .u64 150]]).run Tryz.prog W = .ok (.bool false) W := by
 rw [rlm]
 simp only [Sem.run_bind, BkX, Result.andThen]
 simp [ReflectliteValue.isNil, loadVar, isAgg, underlying, Tryz.underlying52, ha, Result.andThen]

theorem Bkz (h : Value) (w : World) : (Go.method 278 91 (.agg #[h]) "Elem").run Tryz.prog w = .ok (108, .agg #[h]) w := by kernel_rfl
theorem Bfg (h : Value) (w : World) : (Go.method 278 91 (.agg #[h]) "Implements").run Tryz.prog w = .ok (109, .agg #[h]) w := by kernel_rfl
theorem Bde (h : Value) (w : World) : (Go.method 278 91 (.agg #[h]) "AssignableTo").run Tryz.prog w = .ok (106, .agg #[h]) w := by kernel_rfl
theorem Bsm (w : World) : (ReflectliteType.method ReflectliteType.elem #[.agg #[.pointer (some ⟨8, 52, none⟩)]]).run Tryz.prog w = .ok (.iface 91 (.agg #[.pointer (some ⟨8, 35, none⟩)])) w := by kernel_rfl
theorem Bh3 (w : World) : (ReflectliteType.relation "Implements" ReflectliteType.implements_ #[.agg #[.pointer (some ⟨8, 35, none⟩)], .iface 91 (.agg #[.pointer (some ⟨8, 28, none⟩)])]).run Tryz.prog w = .ok (.bool true) w := by kernel_rfl
theorem Bnq (v : Value) (w : World) : (ReflectliteType.typeOf #[.iface 35 v]).run Tryz.prog w = .ok (.iface 91 (.agg #[.pointer (some ⟨8, 35, none⟩)])) w := by kernel_rfl
theorem Bii (w : World) : (ReflectliteType.relation "AssignableTo" ReflectliteType.assignableTo #[.agg #[.pointer (some ⟨8, 35, none⟩)], .iface 91 (.agg #[.pointer (some ⟨8, 35, none⟩)])]).run Tryz.prog w = .ok (.bool true) w := by kernel_rfl
theorem Bmi (e : Int) (w : World) : (ReflectliteValue.unpack (.iface 35 (.int .i64 e))).run Tryz.prog w
  = .ok (.agg #[.pointer (some ⟨8, 35, none⟩), .pointer (some ⟨w.heap.size, 0, none⟩), .int .u64 130]) (w.alloc (.cells #[.int .i64 e] 35)) := by kernel_rfl

theorem BnO (w : World) : (Rtype.elem? 52).run Tryz.prog w = .ok (some 35) w := by kernel_rfl
theorem Bzj (p : Addr) (w : World) : (ReflectliteValue.mk 35 p ReflectliteValue.flagAddr).run Tryz.prog w = .ok (.agg #[.pointer (some ⟨8, 35, none⟩), .pointer (some p), .int .u64 386]) w := by kernel_rfl
/-- (Value).Elem at the Value of a **p.E that is not nil: the Value of the *p.E variable that it points to, addressable. -/
theorem BoM (a p : Addr) (W : World) (ha : W.cell? a = some (.pointer (some p))) :
  (ReflectliteValue.method (ReflectliteValue.valueError "reflectlite.Value.Elem" 0) ReflectliteValue.elem #[.agg #[.pointer (some ⟨8, 52, none⟩), .pointer (some a), .int .u64 150]]).run Tryz.prog W
   = .ok (.agg #[.pointer (some ⟨8, 35, none⟩), .pointer (some p), .int .u64 386]) W := by
 rw [rlm]
 simp only [Sem.run_bind, BkX, Result.andThen]
 simp [ReflectliteValue.elem, loadVar, isAgg, underlying, Tryz.underlying52, ha, Result.andThen, BnO, Bzj]
theorem rls (v x : Value) : ReflectliteValue.set #[v, x] = (do
  let (some (dst, a, fl), some (src, b, _)) := (← ReflectliteValue.parts v, ← ReflectliteValue.parts x)
   | unsupported (.noEntry "extern/(internal/reflectlite.Value).Set.zeroValue")
  if fl / ReflectliteValue.flagAddr % 2 == 0 then unsupported (.noEntry "extern/(internal/reflectlite.Value).Set.unaddressable")
  let val ← loadVar src b
  if ← Rtype.directlyAssignable dst src then storeVar dst a val
  else if ← Rtype.implements dst src then
   if (← Rtype.kind src) == 20 then
    match val with
    | .nilIface => unsupported (.noEntry "extern/reflectlite: a nil value of one interface type handed on as a value of another")
    | _ => storeVar dst a val
   else storeVar dst a (.iface src val)
  else panicString ("reflectlite.Set: value of type " ++ (← Rtype.spelt src) ++ " is not assignable to type " ++ (← Rtype.spelt dst))
  pure (.tuple #[])) := rfl
theorem Bm6 (a : Addr) (w : World) : (ReflectliteValue.parts (.agg #[.pointer (some ⟨8, 35, none⟩), .pointer (some a), .int .u64 386])).run Tryz.prog w = .ok (some (35, a, 386)) w := by kernel_rfl
theorem Bp8 (a : Addr) (w : World) : (ReflectliteValue.parts (.agg #[.pointer (some ⟨8, 35, none⟩), .pointer (some a), .int .u64 130])).run Tryz.prog w = .ok (some (35, a, 130)) w := by kernel_rfl
theorem Bnh (w : World) : (Rtype.directlyAssignable 35 35).run Tryz.prog w = .ok true w := by kernel_rfl
/-- (Value).Set: the *p.E variable at 'ta' gets what the Value's own variable 'b' holds. -/
theorem BuP (ta b : Addr) (e : Int) (old : Value) (W : World) (hb : W.cell? b = some (.int .i64 e)) (ht : W.cell? ta = some old) (hf : W.frozen? ta = false) :
  (ReflectliteValue.set #[.agg #[.pointer (some ⟨8, 35, none⟩), .pointer (some ta), .int .u64 386], .agg #[.pointer (some ⟨8, 35, none⟩), .pointer (some b), .int .u64 130]]).run Tryz.prog W
   = .ok (.tuple #[]) (W.setCell ta (.int .i64 e)) := by
 rw [rls]
 simp only [Sem.run_bind, Bm6, Bp8, Result.andThen]
 simp [ReflectliteValue.flagAddr, loadVar, isAgg, underlying, Tryz.underlying35, hb, Result.andThen, Bnh, storeVar, Value.cells, storeCells, Addr.add]
 rw [run_store Tryz.prog W ta _ _ (by rfl)]
 simp [ht, hf]

set_option maxHeartbeats 4000000 in
theorem Bxw (e : Int) (t : Addr) (old : Value) (w : World) (hg : w.cell? ⟨1, 0, none⟩ = some (.iface 91 (.agg #[.pointer (some ⟨8, 28, none⟩)]))) (ht0 : w.cell? t = some old) (hf0 : w.frozen? t = false) :
  Calls Tryz.prog 17 #[.iface 35 (.int .i64 e), .iface 52 (.pointer (some t))] w fun ev w' => ev = .returned (.bool true) ∧ w' = ((((w.alloc (.cells #[.pointer (some t)] 52)).alloc (.cells #[.pointer (some ⟨8, 52, none⟩), .pointer (some ⟨w.heap.size, 0, none⟩), .int .u64 150] 67)).alloc (.cells #[.pointer (some ⟨8, 52, none⟩), .pointer (some ⟨w.heap.size, 0, none⟩), .int .u64 150] 67)).alloc (.cells #[.int .i64 e] 35)).setCell t (.int .i64 e) := by
 have h6 := @run_callFunc_extern Tryz.prog 27 _ (fun args => ReflectliteValue.unpack (args.getD 0 (.tuple #[]))) Tryz.func27 (by kernel_rfl) (by kernel_rfl) (by kernel_rfl) (by kernel_rfl)
 have h7 := @run_callFunc_extern Tryz.prog 28 _ (ReflectliteValue.methodAny (ReflectliteValue.valueError "reflectlite.Value.Type" 0) (fun t _ _ _ => ReflectliteType.toType t)) Tryz.func28 (by kernel_rfl) (by kernel_rfl) (by kernel_rfl) (by kernel_rfl)
 have h8 := @run_callFunc_extern Tryz.prog 29 _ (ReflectliteValue.method (ReflectliteValue.valueError "reflectlite.Value.IsNil" 0) ReflectliteValue.isNil) Tryz.func29 (by kernel_rfl) (by kernel_rfl) (by kernel_rfl) (by kernel_rfl)
 have h27 := @run_callFunc_extern Tryz.prog 98 _ (ReflectliteType.abiMethod fun t => do pure (.int .u8 (← Rtype.kind t))) Tryz.func98 (by kernel_rfl) (by kernel_rfl) (by kernel_rfl) (by kernel_rfl)
 have h37 := @run_callFunc_extern Tryz.prog 108 _ (ReflectliteType.method ReflectliteType.elem) Tryz.func108 (by kernel_rfl) (by kernel_rfl) (by kernel_rfl) (by kernel_rfl)
 have h38 := @run_callFunc_extern Tryz.prog 109 _ (ReflectliteType.relation "Implements" ReflectliteType.implements_) Tryz.func109 (by kernel_rfl) (by kernel_rfl) (by kernel_rfl) (by kernel_rfl)
 have h10 := @run_callFunc_extern Tryz.prog 38 _ ReflectliteType.typeOf Tryz.func38 (by kernel_rfl) (by kernel_rfl) (by kernel_rfl) (by kernel_rfl)
 have h35 := @run_callFunc_extern Tryz.prog 106 _ (ReflectliteType.relation "AssignableTo" ReflectliteType.assignableTo) Tryz.func106 (by kernel_rfl) (by kernel_rfl) (by kernel_rfl) (by kernel_rfl)
 have h11 := @run_callFunc_extern Tryz.prog 39 _ (ReflectliteValue.method (ReflectliteValue.valueError "reflectlite.Value.Elem" 0) ReflectliteValue.elem) Tryz.func39 (by kernel_rfl) (by kernel_rfl) (by kernel_rfl) (by kernel_rfl)
 have h12 := @run_callFunc_extern Tryz.prog 40 _ ReflectliteValue.set Tryz.func40 (by kernel_rfl) (by kernel_rfl) (by kernel_rfl) (by kernel_rfl)
 have tO := Bnq
 have mA := Bde
 have a25 := Bii
 have v25 := Bmi
 have f6 := Blj
 have f7 := BsM
 have mK := Bk6
 have mE := Bkz
 have mI := Bfg
 have k27 := Bss
 have k25 := Bsk
 have e27 := Bsm
 have i25 := Bh3
 have n8 := Bpu ⟨w.heap.size, 0, none⟩ t ((w.alloc (.cells #[.pointer (some t)] 52)).alloc (.cells #[.pointer (some ⟨8, 52, none⟩), .pointer (some ⟨w.heap.size, 0, none⟩), .int .u64 150] 67)) (by simp)
 have hlt : 1 < w.heap.size := by
  rcases Nat.lt_or_ge 1 w.heap.size with h | h
  ·exact h
  ·simp [World.cell?, Array.getElem?_eq_none h] at hg
 have hg2 : ((w.alloc (.cells #[.pointer (some t)] 52)).alloc (.cells #[.pointer (some ⟨8, 52, none⟩), .pointer (some ⟨w.heap.size, 0, none⟩), .int .u64 150] 67)).cell? ⟨1, 0, none⟩ = some (.iface 91 (.agg #[.pointer (some ⟨8, 28, none⟩)])) := by
  rw [World.cell?_alloc_lt _ _ ⟨1, 0, none⟩ (Nat.lt_of_lt_of_le hlt (by simp)), World.cell?_alloc_lt _ _ ⟨1, 0, none⟩ hlt]; exact hg
 have htl : t.block < w.heap.size := by
  rcases Nat.lt_or_ge t.block w.heap.size with h | h
  ·exact h
  ·simp [World.cell?, Array.getElem?_eq_none h] at ht0
 have el := BoM ⟨w.heap.size, 0, none⟩ t (((w.alloc (.cells #[.pointer (some t)] 52)).alloc (.cells #[.pointer (some ⟨8, 52, none⟩), .pointer (some ⟨w.heap.size, 0, none⟩), .int .u64 150] 67)).alloc (.cells #[.pointer (some ⟨8, 52, none⟩), .pointer (some ⟨w.heap.size, 0, none⟩), .int .u64 150] 67)) (by rw [World.cell?_alloc_lt _ _ ⟨w.heap.size, 0, none⟩ (by simp; omega)]; simp)
 have st := BuP t ⟨w.heap.size + 1 + 1 + 1, 0, none⟩ e old ((((w.alloc (.cells #[.pointer (some t)] 52)).alloc (.cells #[.pointer (some ⟨8, 52, none⟩), .pointer (some ⟨w.heap.size, 0, none⟩), .int .u64 150] 67)).alloc (.cells #[.pointer (some ⟨8, 52, none⟩), .pointer (some ⟨w.heap.size, 0, none⟩), .int .u64 150] 67)).alloc (.cells #[.int .i64 e] 35))
  (by rw [World.cell?_alloc_at _ _ _ _ (by simp)]; rfl)
  (by rw [World.cell?_alloc_lt _ _ t (by simp; omega), World.cell?_alloc_lt _ _ t (by simp; omega), World.cell?_alloc_lt _ _ t (by simp; omega), World.cell?_alloc_lt _ _ t htl]; exact ht0)
  (by rw [World.frozen?_alloc_old _ _ t (by simp; omega), World.frozen?_alloc_old _ _ t (by simp; omega), World.frozen?_alloc_old _ _ t (by simp; omega), World.frozen?_alloc_old _ _ t (Nat.ne_of_lt htl)]; exact hf0)
 go_enter Tryz.func17, Tryz.ntmps17
 go_wp2
 refine wp_loop_rounds 1 ?_
 rw [rounds_succ]
 go_wp2
 go_ret
 exact ⟨rfl, rfl⟩
end Go.Proofs.YtmlompedpahkjaaGreatDoor


namespace Go.Proofs.YtmlompedpahkjaaGreatDoor
open Go.RowKit
variable [A4e] [A4d]
set_option linter.unusedSectionVars false
set_option linter.unusedVariables false
set_option linter.unusedSimpArgs false

theorem Baf.refl {F : Nat → Prop} {w : World} (h : ∀ b, F b → b < w.heap.size) : Baf F w F w := ⟨rfl, rfl, rfl, Nat.le_refl _, fun _ _ => rfl, fun _ h => h, fun _ _ h => h, h⟩
theorem Baf.alloc {F F' : Nat → Prop} {w w' : World} (h : Baf F w F' w') (o : Obj) : Baf F w F' (w'.alloc o) :=
 ⟨h.os, h.tape, h.output, by have := h.size; simp; omega, fun b hb => (A43 w' o (Nat.lt_of_lt_of_le hb h.size)).trans (h.same b hb), h.keepF, h.oldF, fun b hb => by have := h.ltF b hb; simp; omega⟩

/-- An error of the program's. -/
abbrev eno (n : Int) : TV := .ifc 35 (i64 n)

theorem BrX {n : Int} {id ver : Nat} {p : List (Nat × Nat)} {x x' : TV} {H : List Ob} {K : TV → List Ob → Prop} (ho : H[id]? = some (.obj ver x)) (hs2 : Bex p x (i64 n) = some x') (hk : K (tb true) (H.set id (.obj ver x'))) :
  A3p Tryz.prog 17 [eno n, .ifc 52 (.op id ver p)] H K := by
 intro β F w vs hs hv
 obtain ⟨u, us, rfl, h1, h2⟩ := A3V.cons.1 hv
 obtain ⟨u2, us2, rfl, h3, h4⟩ := A3V.cons.1 h2
 rw [A3V.nil] at h4; subst h4
 -- the two arguments
 have e1 : u = .iface 35 (.int .i64 n) := by
  rcases h1 with h | h | ⟨xs0, h, rfl⟩
  ·cases h
  ·cases h
  ·rw [A3i] at h
   obtain ⟨v, rfl, vs, h, rfl⟩ := h
   rw [A3i] at h
   obtain ⟨rfl, _⟩ := h
   rfl
 obtain ⟨b, o, hbo, rfl⟩ : ∃ b o, β id ver = some (b, o) ∧ u2 = .iface 52 (.pointer (some ⟨b, o + A6c p, none⟩)) := by
  rcases h3 with h | h | ⟨xs0, h, rfl⟩
  ·cases h
  ·cases h
  ·rw [A3i] at h
   obtain ⟨v, rfl, vs, h, rfl⟩ := h
   rw [A3i] at h
   obtain ⟨_, b, o, hb, rfl⟩ := h
   exact ⟨b, o, hb, rfl⟩
 subst e1
 have hgl := hs.glob.at A4d.k
 have hg : w.cell? ⟨1, 0, none⟩ = some (.iface 91 (.agg #[.pointer (some ⟨8, 28, none⟩)])) := hgl 0 _ rfl
 have hrow : ∀ c w, A3i c w (i64 n) [.int .i64 n] := fun c w => by rw [A3i]; exact ⟨rfl, rfl⟩
 obtain ⟨_, _, ht⟩ := hs.store ho hbo hs2 (hrow _ _)
 obtain ⟨t1, t2⟩ := ht 0 (by simp)
 obtain ⟨old, hold⟩ := Option.isSome_iff_exists.1 t1
 refine (Bxw n ⟨b, o + A6c p, none⟩ old w hg hold t2).mono ?_
 rintro e w' ⟨rfl, rfl⟩
 have hst := ((((Baf.refl (F := F) hs.lt).alloc (.cells #[.pointer (some ⟨b, o + A6c p, none⟩)] 52)).alloc (.cells #[.pointer (some ⟨8, 52, none⟩), .pointer (some ⟨w.heap.size, 0, none⟩), .int .u64 150] 67)).alloc (.cells #[.pointer (some ⟨8, 52, none⟩), .pointer (some ⟨w.heap.size, 0, none⟩), .int .u64 150] 67)).alloc (.cells #[.int .i64 n] 35)
 obtain ⟨k1, k2, _⟩ := (hst.sim hs).store ho hbo hs2 (hrow _ _)
 exact ⟨_, tb true, β, _, F, rfl, hk, k1, hst.later.trans k2, Rep.of_val⟩

/-- api.Tell of an error of the program's, and of none. -/
theorem BCc {n : Int} : A4p Tryz.prog 7 [eno n] (fun x => x = i64 n) := by
 refine A3p.toPureV (BhN (by simp) ?_)
 simp -dsimp (disch := first | assumption | omega) only [↓A3g, A3c, A3e, A3f, eq_self, forall_const, Nat.reduceLT, Nat.reduceEqDiff, Nat.reduceSub, Nat.reduceMul, Nat.reduceMod, Nat.reduceDiv, Nat.reducePow, UInt8.reduceToNat, Int.reduceEq, Int.reduceLT, Int.reduceLE, ↓reduceIte, Nat.reduceAdd, Int.reduceToNat, reduceCtorEq, Nat.reduceLeDiff, ↓Bf4]
 refine BrX (x := i64 ((0 : Nat) : Int)) (x' := i64 n) rfl (by rw [BmG]; rfl) ?_
 simp -dsimp (disch := first | assumption | omega) only [↓A3g, A3c, A3e, A3f, eq_self, forall_const, Nat.reduceLT, Nat.reduceEqDiff, Nat.reduceSub, Nat.reduceMul, Nat.reduceMod, Nat.reduceDiv, Nat.reducePow, UInt8.reduceToNat, Int.reduceEq, Int.reduceLT, Int.reduceLE, ↓reduceIte, Nat.reduceAdd, Int.reduceToNat, reduceCtorEq, Nat.reduceLeDiff, ↓Bf4]
theorem Bv7 : A4p Tryz.prog 7 [.val .nilIface] (fun x => x = i64 ((0 : Nat) : Int)) := by
 refine A3p.toPureV (BhN (by simp) ?_)
 simp -dsimp (disch := first | assumption | omega) only [↓A3g, A3c, A3e, A3f, eq_self, forall_const, Nat.reduceLT, Nat.reduceEqDiff, Nat.reduceSub, Nat.reduceMul, Nat.reduceMod, Nat.reduceDiv, Nat.reducePow, UInt8.reduceToNat, Int.reduceEq, Int.reduceLT, Int.reduceLE, ↓reduceIte, Nat.reduceAdd, Int.reduceToNat, reduceCtorEq, Nat.reduceLeDiff, ↓Bf4]
end Go.Proofs.YtmlompedpahkjaaGreatDoor


namespace Go.Proofs.YtmlompedpahkjaaGreatDoor
open Go.RowKit
variable [A4e]
set_option linter.unusedSectionVars false
set_option linter.unusedVariables false

variable {P : Program}
/-- A CALL THAT LEAVES NOTHING BEHIND, AND YIELDS NEW MEMORY ALONE, or ends in a panic. -/
def BlA (P : Program) (f : FuncId) (args : List TV) (R : TV → Prop) (RP : Value → Prop) : Prop :=
 ∀ (β : Nat → Nat → Option (Nat × Nat)) (F : Nat → Prop) (w : World) (vs : List Value), ((∀ b, F b → b < w.heap.size) ∧ A8z F w) → A3V ⟨β, [], F⟩ w args vs →
  Calls P f vs.toArray w fun e w' => ∃ F', Baf F w F' w' ∧ ((∃ v x, e = .returned v ∧ R x ∧ Rep ⟨β, [], fun b => F' b ∧ w.heap.size ≤ b⟩ w' x v) ∨ ∃ u, e = .panicked [{ v := u, recovered := false }] ∧ RP u)
theorem BlA.mono {f : FuncId} {args : List TV} {R R' : TV → Prop} {RP RP' : Value → Prop} (h : BlA P f args R RP) (hr : ∀ x, R x → R' x) (hp : ∀ u, RP u → RP' u) : BlA P f args R' RP' :=
 fun β F w vs hF hv => (h β F w vs hF hv).mono fun _ _ ⟨F', h1, h2⟩ => ⟨F', h1, h2.imp (fun ⟨v, x, k1, k2, k3⟩ => ⟨v, x, k1, hr _ k2, k3⟩) fun ⟨u, k1, k2⟩ => ⟨u, k1, hp _ k2⟩⟩

def Bnu (x x' : TV) : Prop := ∀ (c : Ctx) (w : World) (v : Value), Bn3 c w x v → Bn3 c w x' v
inductive BhB : List TV → List TV → Prop
 | nil : BhB [] []
 | cons {x x' : TV} {xs xs' : List TV} : Bnu x x' → BhB xs xs' → BhB (x :: xs) (x' :: xs')
theorem Bnu.refl {x : TV} : Bnu x x := fun _ _ _ h => h
theorem BhB.refl : ∀ {xs : List TV}, BhB xs xs
 | [] => .nil
 | _ :: _ => .cons Bnu.refl BhB.refl
theorem BhB.rep {c : Ctx} {w : World} {xs xs' : List TV} (h : BhB xs xs') : ∀ {vs : List Value}, A3V c w xs vs → A3V c w xs' vs := by
 induction h with
 | nil => exact fun h => h
 | cons h1 h2 ih =>
  intro vs hv
  rw [A3V.cons] at hv ⊢
  obtain ⟨u, us, rfl, k1, k2⟩ := hv
  exact ⟨u, us, rfl, h1 _ _ _ k1, ih k2⟩
/-- No slice is an empty one. -/
theorem Bje {k : Nat} : Bnu (.val (.slice none 0 0)) (.sl k []) := fun c w v h => by
 have hv : v = .slice none 0 0 := by
  have h' : Rep c w (.val (.slice none 0 0)) v := .inl h
  rw [Rep.val] at h'; exact h'
 subst hv
 refine .inr (.inr ⟨[.slice none 0 0], ?_, rfl⟩)
 rw [A3i]
 exact ⟨by simp, .inl ⟨rfl, none, 0, rfl, by omega⟩⟩
theorem A4p.argL {f : FuncId} {args args' : List TV} {R : TV → Prop} (h : A4p P f args' R) (hc : BhB args args') : A4p P f args R :=
 fun β F w vs hF hv => h β F w vs hF (hc.rep hv)
theorem BhB.tup {xs xs' : List TV} (h : BhB xs xs') : ∀ (c : Ctx) (w : World) (v : Value), Rep c w (.tup xs) v → Rep c w (.tup xs') v := by
 rintro c w v ((h1 | h1 | ⟨us, h1, _⟩) | ⟨ys, vs, h1, h2, h3⟩)
 ·cases h1
 ·cases h1
 ·rw [A3i] at h1; exact h1.elim
 ·cases h1
  exact .inr ⟨xs', vs, rfl, h2, h.rep h3⟩
end Go.Proofs.YtmlompedpahkjaaGreatDoor


namespace Go.Proofs.YtmlompedpahkjaaGreatDoor
open Go.RowKit Kit
variable [A4e] [A4d] [A3k] [A3G] [A3S] [A3n]
set_option linter.unusedSectionVars false
set_option linter.unusedVariables false
set_option linter.unusedSimpArgs false

omit [A4d] [A3k] [A3G] [A3S] [A3n] in
theorem BoF (k : Int) (d : List UInt8) : A4p Tryz.prog 9 [.agg [i64 k, slB d]] (fun r => r = .agg [i64 k, slB d]) := by
 refine A3p.toPureV (Bim (by simp) ?_)
 simp -dsimp (disch := first | assumption | omega | (simp only [A3b]; done) | (simp only [A3b]; omega)) only [↓A3g, A3c, A3e, A3f, eq_self, forall_const, Nat.reduceLT, Nat.reduceEqDiff, Nat.reduceSub, Nat.reduceMul, Nat.reduceMod, Nat.reduceDiv, Nat.reducePow, UInt8.reduceToNat, Int.reduceEq, Int.reduceLT, Int.reduceLE, ↓reduceIte, Nat.reduceAdd, Int.reduceToNat, reduceCtorEq, Nat.reduceLeDiff, ↓Bjm]
theorem Bmv (b : List UInt8) (hb : b.length ≤ 500000) : A4p Tryz.prog 13 [slB b] (fun r => r = tb true) := by
 refine A3p.toPureV (BhQ (by simp) ?_)
 have htk2 : ((b ++ [71, 72]).map by8).take b.length = b.map by8 := by rw [List.map_append, List.take_append_of_le_length (by simp), List.take_of_length_le (by simp)]
 simp -dsimp (disch := first | assumption | omega | (simp only [A3b]; done) | (simp only [A3b]; omega)) only [↓A3g, A3c, A3e, A3f, eq_self, forall_const, Nat.reduceLT, Nat.reduceEqDiff, Nat.reduceSub, Nat.reduceMul, Nat.reduceMod, Nat.reduceDiv, Nat.reducePow, UInt8.reduceToNat, Int.reduceEq, Int.reduceLT, Int.reduceLE, ↓reduceIte, Nat.reduceAdd, Int.reduceToNat, reduceCtorEq, Nat.reduceLeDiff, ↓Bg3, ↓Bc6]
 refine BgW (BuS b (by omega) ?_)
 simp -dsimp (disch := first | assumption | omega | (simp only [A3b]; done) | (simp only [A3b]; omega)) only [↓A3g, A3c, A3e, A3f, eq_self, forall_const, Nat.reduceLT, Nat.reduceEqDiff, Nat.reduceSub, Nat.reduceMul, Nat.reduceMod, Nat.reduceDiv, Nat.reducePow, UInt8.reduceToNat, Int.reduceEq, Int.reduceLT, Int.reduceLE, ↓reduceIte, Nat.reduceAdd, Int.reduceToNat, reduceCtorEq, Nat.reduceLeDiff, ↓BdR]
 refine (BuT b (by omega)).lends (args' := [slB b]) (by simp -dsimp (disch := first | assumption | omega | (simp only [A3b]; done) | (simp only [A3b]; omega)) only [↓A3g, A3c, A3e, A3f, eq_self, forall_const, Nat.reduceLT, Nat.reduceEqDiff, Nat.reduceSub, Nat.reduceMul, Nat.reduceMod, Nat.reduceDiv, Nat.reducePow, UInt8.reduceToNat, Int.reduceEq, Int.reduceLT, Int.reduceLE, ↓reduceIte, Nat.reduceAdd, Int.reduceToNat, reduceCtorEq, Nat.reduceLeDiff, htk2]) fun r hr => ?_
 have hrd := BtR b (by omega)
 by_cases h : ∃ k d, A9O k d = .ok b
 ·obtain ⟨k, d, hkd⟩ := h
  obtain ⟨y, hy, rfl⟩ := hr.1 k d hkd
  have hdl : d.length ≤ 500000 := by
   obtain ⟨n, _, _, rfl⟩ := Bi0.1 hkd
   simp at hb; omega
  have hsame : A4p Tryz.prog 12 [y, slB d] (fun x => x = tb true) := by
   rcases hy with rfl | ⟨rfl, rfl⟩
   ·exact (same d d (by omega) (by omega)).mono fun x hx => by simpa using hx
   ·exact ((same [] [] (by simp) (by simp)).mono fun x hx => by simpa using hx).argL (.cons Bje (.cons Bnu.refl .nil))
  have hw : A3r y = 1 ∧ lays y = true ∧ A53 y = true ∧ Bf8 y = false ∧ A4t y = false := by
   rcases hy with rfl | ⟨rfl, rfl⟩ <;> exact ⟨rfl, rfl, rfl, rfl, rfl⟩
  obtain ⟨w1, w2, w3, w4, w5⟩ := hw
  clear hy hr
  simp -dsimp (disch := first | assumption | omega | (simp only [A3b]; done) | (simp only [A3b]; omega)) only [↓A3g, A3c, A3e, A3f, eq_self, forall_const, Nat.reduceLT, Nat.reduceEqDiff, Nat.reduceSub, Nat.reduceMul, Nat.reduceMod, Nat.reduceDiv, Nat.reducePow, UInt8.reduceToNat, Int.reduceEq, Int.reduceLT, Int.reduceLE, ↓reduceIte, Nat.reduceAdd, Int.reduceToNat, reduceCtorEq, Nat.reduceLeDiff, w1, w2, w3, w4, w5, ↓A84]
  refine Bv7.calls rfl fun r hr => ?_
  subst hr
  simp -dsimp (disch := first | assumption | omega | (simp only [A3b]; done) | (simp only [A3b]; omega)) only [↓A3g, A3c, A3e, A3f, eq_self, forall_const, Nat.reduceLT, Nat.reduceEqDiff, Nat.reduceSub, Nat.reduceMul, Nat.reduceMod, Nat.reduceDiv, Nat.reducePow, UInt8.reduceToNat, Int.reduceEq, Int.reduceLT, Int.reduceLE, ↓reduceIte, Nat.reduceAdd, Int.reduceToNat, reduceCtorEq, Nat.reduceLeDiff, ↓A86]
  refine BgW (Bij b (by omega) rfl ?_)
  simp -dsimp (disch := first | assumption | omega | (simp only [A3b]; done) | (simp only [A3b]; omega)) only [↓A3g, A3c, A3e, A3f, eq_self, forall_const, Nat.reduceLT, Nat.reduceEqDiff, Nat.reduceSub, Nat.reduceMul, Nat.reduceMod, Nat.reduceDiv, Nat.reducePow, UInt8.reduceToNat, Int.reduceEq, Int.reduceLT, Int.reduceLE, ↓reduceIte, Nat.reduceAdd, Int.reduceToNat, reduceCtorEq, Nat.reduceLeDiff, ↓A9j]
  refine hrd.calls rfl fun r hr => ?_
  rw [hr.1 k d hkd]
  simp -dsimp (disch := first | assumption | omega | (simp only [A3b]; done) | (simp only [A3b]; omega)) only [↓A3g, A3c, A3e, A3f, eq_self, forall_const, Nat.reduceLT, Nat.reduceEqDiff, Nat.reduceSub, Nat.reduceMul, Nat.reduceMod, Nat.reduceDiv, Nat.reducePow, UInt8.reduceToNat, Int.reduceEq, Int.reduceLT, Int.reduceLE, ↓reduceIte, Nat.reduceAdd, Int.reduceToNat, reduceCtorEq, Nat.reduceLeDiff, ↓A89, ↓A9g, ↓Beo, w1, w2, w3, w4, w5]
  refine hsame.calls (by simp [A4N, w3]; rfl) fun r hr => ?_
  subst hr
  simp -dsimp (disch := first | assumption | omega | (simp only [A3b]; done) | (simp only [A3b]; omega)) only [↓A3g, A3c, A3e, A3f, eq_self, forall_const, Nat.reduceLT, Nat.reduceEqDiff, Nat.reduceSub, Nat.reduceMul, Nat.reduceMod, Nat.reduceDiv, Nat.reducePow, UInt8.reduceToNat, Int.reduceEq, Int.reduceLT, Int.reduceLE, ↓reduceIte, Nat.reduceAdd, Int.reduceToNat, reduceCtorEq, Nat.reduceLeDiff, ↓BeQ, ↓BbY, w1, w2, w3, w4, w5]
 ·have hno : ∀ k d, A9O k d ≠ .ok b := fun k d hk => h ⟨k, d, hk⟩
  rw [hr.2 hno]
  simp -dsimp (disch := first | assumption | omega | (simp only [A3b]; done) | (simp only [A3b]; omega)) only [↓A3g, A3c, A3e, A3f, eq_self, forall_const, Nat.reduceLT, Nat.reduceEqDiff, Nat.reduceSub, Nat.reduceMul, Nat.reduceMod, Nat.reduceDiv, Nat.reducePow, UInt8.reduceToNat, Int.reduceEq, Int.reduceLT, Int.reduceLE, ↓reduceIte, Nat.reduceAdd, Int.reduceToNat, reduceCtorEq, Nat.reduceLeDiff, ↓A84]
  refine BCc.calls rfl fun r hr => ?_
  subst hr
  simp -dsimp (disch := first | assumption | omega | (simp only [A3b]; done) | (simp only [A3b]; omega)) only [↓A3g, A3c, A3e, A3f, eq_self, forall_const, Nat.reduceLT, Nat.reduceEqDiff, Nat.reduceSub, Nat.reduceMul, Nat.reduceMod, Nat.reduceDiv, Nat.reducePow, UInt8.reduceToNat, Int.reduceEq, Int.reduceLT, Int.reduceLE, ↓reduceIte, Nat.reduceAdd, Int.reduceToNat, reduceCtorEq, Nat.reduceLeDiff, ↓A86]
  refine BgW (Bij b (by omega) rfl ?_)
  simp -dsimp (disch := first | assumption | omega | (simp only [A3b]; done) | (simp only [A3b]; omega)) only [↓A3g, A3c, A3e, A3f, eq_self, forall_const, Nat.reduceLT, Nat.reduceEqDiff, Nat.reduceSub, Nat.reduceMul, Nat.reduceMod, Nat.reduceDiv, Nat.reducePow, UInt8.reduceToNat, Int.reduceEq, Int.reduceLT, Int.reduceLE, ↓reduceIte, Nat.reduceAdd, Int.reduceToNat, reduceCtorEq, Nat.reduceLeDiff, ↓A9j]
  refine hrd.calls rfl fun r hr => ?_
  rw [hr.2 hno]
  simp -dsimp (disch := first | assumption | omega | (simp only [A3b]; done) | (simp only [A3b]; omega)) only [↓A3g, A3c, A3e, A3f, eq_self, forall_const, Nat.reduceLT, Nat.reduceEqDiff, Nat.reduceSub, Nat.reduceMul, Nat.reduceMod, Nat.reduceDiv, Nat.reducePow, UInt8.reduceToNat, Int.reduceEq, Int.reduceLT, Int.reduceLE, ↓reduceIte, Nat.reduceAdd, Int.reduceToNat, reduceCtorEq, Nat.reduceLeDiff, ↓A89, ↓A9g, ↓BeC, ↓BbY]
theorem Bnx (k : Int) (d b : List UInt8) (h1 : -9223372036854775808 ≤ k) (h2 : k ≤ 9223372036854775807) (hd : d.length ≤ 140737488351232) (hb : b.length ≤ 140737488351232) : A4p Tryz.prog 3 [.agg [i64 k, slB d], slB b] (fun r => r = tb true) := by
 refine A3p.toPureV (Bcj (by simp) ?_)
 simp -dsimp (disch := first | assumption | omega | (simp only [A3b]; done) | (simp only [A3b]; omega)) only [↓A3g, A3c, A3e, A3f, eq_self, forall_const, Nat.reduceLT, Nat.reduceEqDiff, Nat.reduceSub, Nat.reduceMul, Nat.reduceMod, Nat.reduceDiv, Nat.reducePow, UInt8.reduceToNat, Int.reduceEq, Int.reduceLT, Int.reduceLE, ↓reduceIte, Nat.reduceAdd, Int.reduceToNat, reduceCtorEq, Nat.reduceLeDiff, ↓Bcb, ↓A9t]
 by_cases hl : d.length + b.length ≤ 300000
 case neg => simp -dsimp (disch := first | assumption | omega | (simp only [A3b]; done) | (simp only [A3b]; omega)) only [↓A3g, A3c, A3e, A3f, eq_self, forall_const, Nat.reduceLT, Nat.reduceEqDiff, Nat.reduceSub, Nat.reduceMul, Nat.reduceMod, Nat.reduceDiv, Nat.reducePow, UInt8.reduceToNat, Int.reduceEq, Int.reduceLT, Int.reduceLE, ↓reduceIte, Nat.reduceAdd, Int.reduceToNat, reduceCtorEq, Nat.reduceLeDiff, ↓A4L]
 have htk2 : ((d ++ [71, 72]).map by8).take d.length = d.map by8 := by rw [List.map_append, List.take_append_of_le_length (by simp), List.take_of_length_le (by simp)]
 simp -dsimp (disch := first | assumption | omega | (simp only [A3b]; done) | (simp only [A3b]; omega)) only [↓A3g, A3c, A3e, A3f, eq_self, forall_const, Nat.reduceLT, Nat.reduceEqDiff, Nat.reduceSub, Nat.reduceMul, Nat.reduceMod, Nat.reduceDiv, Nat.reducePow, UInt8.reduceToNat, Int.reduceEq, Int.reduceLT, Int.reduceLE, ↓reduceIte, Nat.reduceAdd, Int.reduceToNat, reduceCtorEq, Nat.reduceLeDiff, ↓A9x]
 refine BgW (BuS d (by omega) ?_)
 simp -dsimp (disch := first | assumption | omega | (simp only [A3b]; done) | (simp only [A3b]; omega)) only [↓A3g, A3c, A3e, A3f, eq_self, forall_const, Nat.reduceLT, Nat.reduceEqDiff, Nat.reduceSub, Nat.reduceMul, Nat.reduceMod, Nat.reduceDiv, Nat.reducePow, UInt8.reduceToNat, Int.reduceEq, Int.reduceLT, Int.reduceLE, ↓reduceIte, Nat.reduceAdd, Int.reduceToNat, reduceCtorEq, Nat.reduceLeDiff, ↓A9r]
 refine (Bqr k h1 h2 d (by omega)).lends (args' := [.agg [i64 k, slB d]]) (by simp -dsimp (disch := first | assumption | omega | (simp only [A3b]; done) | (simp only [A3b]; omega)) only [↓A3g, A3c, A3e, A3f, eq_self, forall_const, Nat.reduceLT, Nat.reduceEqDiff, Nat.reduceSub, Nat.reduceMul, Nat.reduceMod, Nat.reduceDiv, Nat.reducePow, UInt8.reduceToNat, Int.reduceEq, Int.reduceLT, Int.reduceLE, ↓reduceIte, Nat.reduceAdd, Int.reduceToNat, reduceCtorEq, Nat.reduceLeDiff, htk2]) fun r hr => ?_
 have hid := idF k h1 h2 d (by omega)
 have hre := BiW k d (by omega)
 have hri := BDt k d (by omega)
 have hdb := Bmv b (by omega)
 cases he : A9O k d with
 | error c =>
  have hc : ¬ c = 0 := by
   unfold A9O at he
   split at he
   ·cases he; decide
   ·split at he <;> cases he; decide
  rw [hr.2 c he]
  simp -dsimp (disch := first | assumption | omega | (simp only [A3b]; done) | (simp only [A3b]; omega)) only [↓A3g, A3c, A3e, A3f, eq_self, forall_const, Nat.reduceLT, Nat.reduceEqDiff, Nat.reduceSub, Nat.reduceMul, Nat.reduceMod, Nat.reduceDiv, Nat.reducePow, UInt8.reduceToNat, Int.reduceEq, Int.reduceLT, Int.reduceLE, ↓reduceIte, Nat.reduceAdd, Int.reduceToNat, reduceCtorEq, Nat.reduceLeDiff, ↓A6h]
  refine hid.lends (args' := [.agg [i64 k, slB d]]) (by simp -dsimp (disch := first | assumption | omega | (simp only [A3b]; done) | (simp only [A3b]; omega)) only [↓A3g, A3c, A3e, A3f, eq_self, forall_const, Nat.reduceLT, Nat.reduceEqDiff, Nat.reduceSub, Nat.reduceMul, Nat.reduceMod, Nat.reduceDiv, Nat.reducePow, UInt8.reduceToNat, Int.reduceEq, Int.reduceLT, Int.reduceLE, ↓reduceIte, Nat.reduceAdd, Int.reduceToNat, reduceCtorEq, Nat.reduceLeDiff, htk2]) fun r hr => ?_
  rw [hr.2 c he]
  generalize List.replicate 20 (0 : UInt8) = zz at *
  simp -dsimp (disch := first | assumption | omega | (simp only [A3b]; done) | (simp only [A3b]; omega)) only [↓A3g, A3c, A3e, A3f, eq_self, forall_const, Nat.reduceLT, Nat.reduceEqDiff, Nat.reduceSub, Nat.reduceMul, Nat.reduceMod, Nat.reduceDiv, Nat.reducePow, UInt8.reduceToNat, Int.reduceEq, Int.reduceLT, Int.reduceLE, ↓reduceIte, Nat.reduceAdd, Int.reduceToNat, reduceCtorEq, Nat.reduceLeDiff, ↓A6i]
  refine BCc.calls rfl fun r hr => ?_
  subst hr
  simp -dsimp (disch := first | assumption | omega | (simp only [A3b]; done) | (simp only [A3b]; omega)) only [↓A3g, A3c, A3e, A3f, eq_self, forall_const, Nat.reduceLT, Nat.reduceEqDiff, Nat.reduceSub, Nat.reduceMul, Nat.reduceMod, Nat.reduceDiv, Nat.reducePow, UInt8.reduceToNat, Int.reduceEq, Int.reduceLT, Int.reduceLE, ↓reduceIte, Nat.reduceAdd, Int.reduceToNat, reduceCtorEq, Nat.reduceLeDiff, ↓A6J]
  refine BgW (Bij d (by omega) rfl ?_)
  simp -dsimp (disch := first | assumption | omega | (simp only [A3b]; done) | (simp only [A3b]; omega)) only [↓A3g, A3c, A3e, A3f, eq_self, forall_const, Nat.reduceLT, Nat.reduceEqDiff, Nat.reduceSub, Nat.reduceMul, Nat.reduceMod, Nat.reduceDiv, Nat.reducePow, UInt8.reduceToNat, Int.reduceEq, Int.reduceLT, Int.reduceLE, ↓reduceIte, Nat.reduceAdd, Int.reduceToNat, reduceCtorEq, Nat.reduceLeDiff, ↓A6G]
  refine (BoF k d).calls rfl fun r hr => ?_
  subst hr
  simp -dsimp (disch := first | assumption | omega | (simp only [A3b]; done) | (simp only [A3b]; omega)) only [↓A3g, A3c, A3e, A3f, eq_self, forall_const, Nat.reduceLT, Nat.reduceEqDiff, Nat.reduceSub, Nat.reduceMul, Nat.reduceMod, Nat.reduceDiv, Nat.reducePow, UInt8.reduceToNat, Int.reduceEq, Int.reduceLT, Int.reduceLE, ↓reduceIte, Nat.reduceAdd, Int.reduceToNat, reduceCtorEq, Nat.reduceLeDiff, ↓A6H]
  refine hre.pure.calls rfl fun r hr => ?_
  rw [hr.2 c he]
  simp -dsimp (disch := first | assumption | omega | (simp only [A3b]; done) | (simp only [A3b]; omega)) only [↓A3g, A3c, A3e, A3f, eq_self, forall_const, Nat.reduceLT, Nat.reduceEqDiff, Nat.reduceSub, Nat.reduceMul, Nat.reduceMod, Nat.reduceDiv, Nat.reducePow, UInt8.reduceToNat, Int.reduceEq, Int.reduceLT, Int.reduceLE, ↓reduceIte, Nat.reduceAdd, Int.reduceToNat, reduceCtorEq, Nat.reduceLeDiff, ↓A6z]
  refine hri.pure.calls rfl fun r hr => ?_
  rw [hr.2 c he]
  simp -dsimp (disch := first | assumption | omega | (simp only [A3b]; done) | (simp only [A3b]; omega)) only [↓A3g, A3c, A3e, A3f, eq_self, forall_const, Nat.reduceLT, Nat.reduceEqDiff, Nat.reduceSub, Nat.reduceMul, Nat.reduceMod, Nat.reduceDiv, Nat.reducePow, UInt8.reduceToNat, Int.reduceEq, Int.reduceLT, Int.reduceLE, ↓reduceIte, Nat.reduceAdd, Int.reduceToNat, reduceCtorEq, Nat.reduceLeDiff, ↓A6E]
  refine ((same [] [] (by simp) (by simp)).argL (.cons Bje (.cons Bje .nil))).calls rfl fun r hr => ?_
  subst hr
  simp -dsimp (disch := first | assumption | omega | (simp only [A3b]; done) | (simp only [A3b]; omega)) only [↓A3g, A3c, A3e, A3f, eq_self, forall_const, Nat.reduceLT, Nat.reduceEqDiff, Nat.reduceSub, Nat.reduceMul, Nat.reduceMod, Nat.reduceDiv, Nat.reducePow, UInt8.reduceToNat, Int.reduceEq, Int.reduceLT, Int.reduceLE, ↓reduceIte, Nat.reduceAdd, Int.reduceToNat, reduceCtorEq, Nat.reduceLeDiff, ↓A6D, beq_self_eq_true]
  refine BCc.calls rfl fun r hr => ?_
  subst hr
  simp -dsimp (disch := first | assumption | omega | (simp only [A3b]; done) | (simp only [A3b]; omega)) only [↓A3g, A3c, A3e, A3f, eq_self, forall_const, Nat.reduceLT, Nat.reduceEqDiff, Nat.reduceSub, Nat.reduceMul, Nat.reduceMod, Nat.reduceDiv, Nat.reducePow, UInt8.reduceToNat, Int.reduceEq, Int.reduceLT, Int.reduceLE, ↓reduceIte, Nat.reduceAdd, Int.reduceToNat, reduceCtorEq, Nat.reduceLeDiff, ↓A6t]
  refine hdb.calls rfl fun r hr => ?_
  subst hr
  simp -dsimp (disch := first | assumption | omega | (simp only [A3b]; done) | (simp only [A3b]; omega)) only [↓A3g, A3c, A3e, A3f, eq_self, forall_const, Nat.reduceLT, Nat.reduceEqDiff, Nat.reduceSub, Nat.reduceMul, Nat.reduceMod, Nat.reduceDiv, Nat.reducePow, UInt8.reduceToNat, Int.reduceEq, Int.reduceLT, Int.reduceLE, ↓reduceIte, Nat.reduceAdd, Int.reduceToNat, reduceCtorEq, Nat.reduceLeDiff, ↓A6C, ↓A96, ↓A4L, hc]
 | ok x =>
  have hxl := BjD he
  rw [hr.1 x he]
  have hdx := Bmv x (by omega)
  simp -dsimp (disch := first | assumption | omega | (simp only [A3b]; done) | (simp only [A3b]; omega)) only [↓A3g, A3c, A3e, A3f, eq_self, forall_const, Nat.reduceLT, Nat.reduceEqDiff, Nat.reduceSub, Nat.reduceMul, Nat.reduceMod, Nat.reduceDiv, Nat.reducePow, UInt8.reduceToNat, Int.reduceEq, Int.reduceLT, Int.reduceLE, ↓reduceIte, Nat.reduceAdd, Int.reduceToNat, reduceCtorEq, Nat.reduceLeDiff, ↓A6h]
  refine hid.lends (args' := [.agg [i64 k, slB d]]) (by simp -dsimp (disch := first | assumption | omega | (simp only [A3b]; done) | (simp only [A3b]; omega)) only [↓A3g, A3c, A3e, A3f, eq_self, forall_const, Nat.reduceLT, Nat.reduceEqDiff, Nat.reduceSub, Nat.reduceMul, Nat.reduceMod, Nat.reduceDiv, Nat.reducePow, UInt8.reduceToNat, Int.reduceEq, Int.reduceLT, Int.reduceLE, ↓reduceIte, Nat.reduceAdd, Int.reduceToNat, reduceCtorEq, Nat.reduceLeDiff, htk2]) fun r hr => ?_
  rw [hr.1 x he]
  generalize sha x = sx at *
  simp -dsimp (disch := first | assumption | omega | (simp only [A3b]; done) | (simp only [A3b]; omega)) only [↓A3g, A3c, A3e, A3f, eq_self, forall_const, Nat.reduceLT, Nat.reduceEqDiff, Nat.reduceSub, Nat.reduceMul, Nat.reduceMod, Nat.reduceDiv, Nat.reducePow, UInt8.reduceToNat, Int.reduceEq, Int.reduceLT, Int.reduceLE, ↓reduceIte, Nat.reduceAdd, Int.reduceToNat, reduceCtorEq, Nat.reduceLeDiff, ↓A6i]
  refine Bv7.calls rfl fun r hr => ?_
  subst hr
  simp -dsimp (disch := first | assumption | omega | (simp only [A3b]; done) | (simp only [A3b]; omega)) only [↓A3g, A3c, A3e, A3f, eq_self, forall_const, Nat.reduceLT, Nat.reduceEqDiff, Nat.reduceSub, Nat.reduceMul, Nat.reduceMod, Nat.reduceDiv, Nat.reducePow, UInt8.reduceToNat, Int.reduceEq, Int.reduceLT, Int.reduceLE, ↓reduceIte, Nat.reduceAdd, Int.reduceToNat, reduceCtorEq, Nat.reduceLeDiff, ↓A6J]
  refine BgW (Bij d (by omega) rfl ?_)
  simp -dsimp (disch := first | assumption | omega | (simp only [A3b]; done) | (simp only [A3b]; omega)) only [↓A3g, A3c, A3e, A3f, eq_self, forall_const, Nat.reduceLT, Nat.reduceEqDiff, Nat.reduceSub, Nat.reduceMul, Nat.reduceMod, Nat.reduceDiv, Nat.reducePow, UInt8.reduceToNat, Int.reduceEq, Int.reduceLT, Int.reduceLE, ↓reduceIte, Nat.reduceAdd, Int.reduceToNat, reduceCtorEq, Nat.reduceLeDiff, ↓A6G]
  refine (BoF k d).calls rfl fun r hr => ?_
  subst hr
  simp -dsimp (disch := first | assumption | omega | (simp only [A3b]; done) | (simp only [A3b]; omega)) only [↓A3g, A3c, A3e, A3f, eq_self, forall_const, Nat.reduceLT, Nat.reduceEqDiff, Nat.reduceSub, Nat.reduceMul, Nat.reduceMod, Nat.reduceDiv, Nat.reducePow, UInt8.reduceToNat, Int.reduceEq, Int.reduceLT, Int.reduceLE, ↓reduceIte, Nat.reduceAdd, Int.reduceToNat, reduceCtorEq, Nat.reduceLeDiff, ↓A6H]
  refine hre.pure.calls rfl fun r hr => ?_
  rw [hr.1 x he]
  simp -dsimp (disch := first | assumption | omega | (simp only [A3b]; done) | (simp only [A3b]; omega)) only [↓A3g, A3c, A3e, A3f, eq_self, forall_const, Nat.reduceLT, Nat.reduceEqDiff, Nat.reduceSub, Nat.reduceMul, Nat.reduceMod, Nat.reduceDiv, Nat.reducePow, UInt8.reduceToNat, Int.reduceEq, Int.reduceLT, Int.reduceLE, ↓reduceIte, Nat.reduceAdd, Int.reduceToNat, reduceCtorEq, Nat.reduceLeDiff, ↓A6z]
  refine hri.pure.calls rfl fun r hr => ?_
  rw [hr.1 x he]
  simp -dsimp (disch := first | assumption | omega | (simp only [A3b]; done) | (simp only [A3b]; omega)) only [↓A3g, A3c, A3e, A3f, eq_self, forall_const, Nat.reduceLT, Nat.reduceEqDiff, Nat.reduceSub, Nat.reduceMul, Nat.reduceMod, Nat.reduceDiv, Nat.reducePow, UInt8.reduceToNat, Int.reduceEq, Int.reduceLT, Int.reduceLE, ↓reduceIte, Nat.reduceAdd, Int.reduceToNat, reduceCtorEq, Nat.reduceLeDiff, ↓A6E]
  refine (same x x (by omega) (by omega)).calls rfl fun r hr => ?_
  subst hr
  simp -dsimp (disch := first | assumption | omega | (simp only [A3b]; done) | (simp only [A3b]; omega)) only [↓A3g, A3c, A3e, A3f, eq_self, forall_const, Nat.reduceLT, Nat.reduceEqDiff, Nat.reduceSub, Nat.reduceMul, Nat.reduceMod, Nat.reduceDiv, Nat.reducePow, UInt8.reduceToNat, Int.reduceEq, Int.reduceLT, Int.reduceLE, ↓reduceIte, Nat.reduceAdd, Int.reduceToNat, reduceCtorEq, Nat.reduceLeDiff, ↓A6D, beq_self_eq_true]
  refine Bv7.calls rfl fun r hr => ?_
  subst hr
  simp -dsimp (disch := first | assumption | omega | (simp only [A3b]; done) | (simp only [A3b]; omega)) only [↓A3g, A3c, A3e, A3f, eq_self, forall_const, Nat.reduceLT, Nat.reduceEqDiff, Nat.reduceSub, Nat.reduceMul, Nat.reduceMod, Nat.reduceDiv, Nat.reducePow, UInt8.reduceToNat, Int.reduceEq, Int.reduceLT, Int.reduceLE, ↓reduceIte, Nat.reduceAdd, Int.reduceToNat, reduceCtorEq, Nat.reduceLeDiff, ↓A6t]
  refine hdb.calls rfl fun r hr => ?_
  subst hr
  simp -dsimp (disch := first | assumption | omega | (simp only [A3b]; done) | (simp only [A3b]; omega)) only [↓A3g, A3c, A3e, A3f, eq_self, forall_const, Nat.reduceLT, Nat.reduceEqDiff, Nat.reduceSub, Nat.reduceMul, Nat.reduceMod, Nat.reduceDiv, Nat.reducePow, UInt8.reduceToNat, Int.reduceEq, Int.reduceLT, Int.reduceLE, ↓reduceIte, Nat.reduceAdd, Int.reduceToNat, reduceCtorEq, Nat.reduceLeDiff, ↓A6C, ↓A4L]
  refine hdx.calls rfl fun r hr => ?_
  subst hr
  simp -dsimp (disch := first | assumption | omega | (simp only [A3b]; done) | (simp only [A3b]; omega)) only [↓A3g, A3c, A3e, A3f, eq_self, forall_const, Nat.reduceLT, Nat.reduceEqDiff, Nat.reduceSub, Nat.reduceMul, Nat.reduceMod, Nat.reduceDiv, Nat.reducePow, UInt8.reduceToNat, Int.reduceEq, Int.reduceLT, Int.reduceLE, ↓reduceIte, Nat.reduceAdd, Int.reduceToNat, reduceCtorEq, Nat.reduceLeDiff, ↓A4L]
end Go.Proofs.YtmlompedpahkjaaGreatDoor


namespace Go.Proofs.YtmlompedpahkjaaGreatDoor.objectHeaders
open Go.ChangeShapes Go.WideShapes Go.ChangeAt Go.RowKit
set_option linter.unusedVariables false

theorem own : ownKnob Tryz.prog.godebug = none := by kernel_rfl
abbrev giM (t0 : TypeId) (a0 : Addr) (t1 : TypeId) (a1 : Addr) : A4e := ⟨[(1, A4E), (6, A3F), (7, A3E), (3, A3q), (0, A3H), (5, GV.one (.iface t0 (.pointer (some a0)))), (4, GV.one (.iface t1 (.pointer (some a1))))], by kernel_rfl⟩
theorem BfI (t0 : TypeId) (a0 : Addr) (t1 : TypeId) (a1 : Addr) : @A4d (giM t0 a0 t1 a1) := @A4d.mk (giM t0 a0 t1 a1) (by kernel_rfl)
theorem A93 (t0 : TypeId) (a0 : Addr) (t1 : TypeId) (a1 : Addr) : @A47 (giM t0 a0 t1 a1) := @A47.mk (giM t0 a0 t1 a1) (by kernel_rfl)
theorem A97 (t0 : TypeId) (a0 : Addr) (t1 : TypeId) (a1 : Addr) : @A46 (giM t0 a0 t1 a1) := @A46.mk (giM t0 a0 t1 a1) (by kernel_rfl)
theorem A8A (t0 : TypeId) (a0 : Addr) (t1 : TypeId) (a1 : Addr) : @A3k (giM t0 a0 t1 a1) := @A3k.mk (giM t0 a0 t1 a1) (by kernel_rfl)
theorem Bb8 (t0 : TypeId) (a0 : Addr) (t1 : TypeId) (a1 : Addr) : @A3n (giM t0 a0 t1 a1) := @A3n.mk (giM t0 a0 t1 a1) (by kernel_rfl)
theorem Bfn (t0 : TypeId) (a0 : Addr) (t1 : TypeId) (a1 : Addr) : @A3S (giM t0 a0 t1 a1) := @A3S.mk (giM t0 a0 t1 a1) ⟨t0, a0, by kernel_rfl⟩
theorem BdP (t0 : TypeId) (a0 : Addr) (t1 : TypeId) (a1 : Addr) : @A3G (giM t0 a0 t1 a1) := @A3G.mk (giM t0 a0 t1 a1) ⟨t1, a1, by kernel_rfl⟩
theorem et : Tryz.prog.globalNamed "errors.errorType" = some 1 := by kernel_rfl
theorem rt : (Tryz.prog.cutTypes.find? (·.1 == "internal/reflectlite.rtype")).map (·.2) = some 91 := by kernel_rfl
theorem By2 : ((List.range Tryz.prog.types.size).filter fun t => Tryz.prog.rowNamed t [101, 114, 114, 111, 114]) = [28] := by kernel_rfl
theorem Bip {W : World} (h : handlesMet Tryz.prog [("errors.errorType", Rows.laid_errors_errorType)] W) : ∃ t fr, W.heap[1]? = some (.cells A4E.cells.toArray t fr) := by
 obtain ⟨name, u, ty, e1, e2, e3, e4, e5⟩ := h _ (List.mem_singleton.2 rfl)
 have en : name = [101, 114, 114, 111, 114] := (Option.some.inj e1).symm
 subst en
 obtain rfl := Option.some.inj (rt.symm.trans e2)
 have hm : ty ∈ (List.range Tryz.prog.types.size).filter fun t => Tryz.prog.rowNamed t [101, 114, 114, 111, 114] := List.mem_filter.2 ⟨List.mem_range.2 e3, e4⟩
 rw [By2] at hm
 obtain rfl := List.mem_singleton.1 hm
 have hh : typeHandle Tryz.prog 28 = .pointer (some ⟨8, 28, none⟩) := by kernel_rfl
 rw [hh] at e5
 exact Bjh et e5
def A9w : List (DataW Unit) := [.lit (.int .u8 0), .lit (.int .u8 1), .lit (.int .u8 28), .lit (.int .u8 2), .lit (.int .u8 29), .lit (.int .u8 14), .lit (.int .u8 24), .lit (.int .u8 3), .lit (.int .u8 30), .lit (.int .u8 22), .lit (.int .u8 20), .lit (.int .u8 15), .lit (.int .u8 25), .lit (.int .u8 17), .lit (.int .u8 4), .lit (.int .u8 8), .lit (.int .u8 31), .lit (.int .u8 27), .lit (.int .u8 13), .lit (.int .u8 23), .lit (.int .u8 21), .lit (.int .u8 19), .lit (.int .u8 16), .lit (.int .u8 7), .lit (.int .u8 26), .lit (.int .u8 12), .lit (.int .u8 18), .lit (.int .u8 6), .lit (.int .u8 11), .lit (.int .u8 5), .lit (.int .u8 10), .lit (.int .u8 9)]
theorem A9u {W : World} (h : laidMet Tryz.prog [("math/bits.deBruijn32tab", Rows.laid_math_bits_deBruijn32tab), ("math/bits.deBruijn64tab", Rows.laid_math_bits_deBruijn64tab), ("internal/strconv.uint64pow10", Rows.laid_internal_strconv_uint64pow10), ("strconv.ErrRange", Rows.laid_strconv_ErrRange), ("strconv.ErrSyntax", Rows.laid_strconv_ErrSyntax), ("gitlike/object.kinds", Rows.laid_gitlike_object_kinds)] W) : ∃ t fr, W.heap[6]? = some (.cells A3F.cells.toArray t fr) :=
 Bha (t := (Tryz.prog.globals[6]?).elim 0 (·.type)) (e := match Tryz.prog.underlying ((Tryz.prog.globals[6]?).elim 0 (·.type)) with | some (.array _ e) => e | _ => 0) (n := A3F.cells.length) h (List.mem_of_getElem? (i := 0) (show [("math/bits.deBruijn32tab", Rows.laid_math_bits_deBruijn32tab), ("math/bits.deBruijn64tab", Rows.laid_math_bits_deBruijn64tab), ("internal/strconv.uint64pow10", Rows.laid_internal_strconv_uint64pow10), ("strconv.ErrRange", Rows.laid_strconv_ErrRange), ("strconv.ErrSyntax", Rows.laid_strconv_ErrSyntax), ("gitlike/object.kinds", Rows.laid_gitlike_object_kinds)][0]? = some ("math/bits.deBruijn32tab", DataW.agg A9w) by kernel_rfl)) (by kernel_rfl) (by kernel_rfl) (by kernel_rfl) (by kernel_rfl) (by kernel_rfl) (by kernel_rfl) (by kernel_rfl)
def A9p : List (DataW Unit) := [.lit (.int .u8 0), .lit (.int .u8 1), .lit (.int .u8 56), .lit (.int .u8 2), .lit (.int .u8 57), .lit (.int .u8 49), .lit (.int .u8 28), .lit (.int .u8 3), .lit (.int .u8 61), .lit (.int .u8 58), .lit (.int .u8 42), .lit (.int .u8 50), .lit (.int .u8 38), .lit (.int .u8 29), .lit (.int .u8 17), .lit (.int .u8 4), .lit (.int .u8 62), .lit (.int .u8 47), .lit (.int .u8 59), .lit (.int .u8 36), .lit (.int .u8 45), .lit (.int .u8 43), .lit (.int .u8 51), .lit (.int .u8 22), .lit (.int .u8 53), .lit (.int .u8 39), .lit (.int .u8 33), .lit (.int .u8 30), .lit (.int .u8 24), .lit (.int .u8 18), .lit (.int .u8 12), .lit (.int .u8 5), .lit (.int .u8 63), .lit (.int .u8 55), .lit (.int .u8 48), .lit (.int .u8 27), .lit (.int .u8 60), .lit (.int .u8 41), .lit (.int .u8 37), .lit (.int .u8 16), .lit (.int .u8 46), .lit (.int .u8 35), .lit (.int .u8 44), .lit (.int .u8 21), .lit (.int .u8 52), .lit (.int .u8 32), .lit (.int .u8 23), .lit (.int .u8 11), .lit (.int .u8 54), .lit (.int .u8 26), .lit (.int .u8 40), .lit (.int .u8 15), .lit (.int .u8 34), .lit (.int .u8 20), .lit (.int .u8 31), .lit (.int .u8 10), .lit (.int .u8 25), .lit (.int .u8 14), .lit (.int .u8 19), .lit (.int .u8 9), .lit (.int .u8 13), .lit (.int .u8 8), .lit (.int .u8 7), .lit (.int .u8 6)]
theorem A9y {W : World} (h : laidMet Tryz.prog [("math/bits.deBruijn32tab", Rows.laid_math_bits_deBruijn32tab), ("math/bits.deBruijn64tab", Rows.laid_math_bits_deBruijn64tab), ("internal/strconv.uint64pow10", Rows.laid_internal_strconv_uint64pow10), ("strconv.ErrRange", Rows.laid_strconv_ErrRange), ("strconv.ErrSyntax", Rows.laid_strconv_ErrSyntax), ("gitlike/object.kinds", Rows.laid_gitlike_object_kinds)] W) : ∃ t fr, W.heap[7]? = some (.cells A3E.cells.toArray t fr) :=
 Bha (t := (Tryz.prog.globals[7]?).elim 0 (·.type)) (e := match Tryz.prog.underlying ((Tryz.prog.globals[7]?).elim 0 (·.type)) with | some (.array _ e) => e | _ => 0) (n := A3E.cells.length) h (List.mem_of_getElem? (i := 1) (show [("math/bits.deBruijn32tab", Rows.laid_math_bits_deBruijn32tab), ("math/bits.deBruijn64tab", Rows.laid_math_bits_deBruijn64tab), ("internal/strconv.uint64pow10", Rows.laid_internal_strconv_uint64pow10), ("strconv.ErrRange", Rows.laid_strconv_ErrRange), ("strconv.ErrSyntax", Rows.laid_strconv_ErrSyntax), ("gitlike/object.kinds", Rows.laid_gitlike_object_kinds)][1]? = some ("math/bits.deBruijn64tab", DataW.agg A9p) by kernel_rfl)) (by kernel_rfl) (by kernel_rfl) (by kernel_rfl) (by kernel_rfl) (by kernel_rfl) (by kernel_rfl) (by kernel_rfl)
def A71 : List (DataW Unit) := [.lit (.int .u64 1), .lit (.int .u64 10), .lit (.int .u64 100), .lit (.int .u64 1000), .lit (.int .u64 10000), .lit (.int .u64 100000), .lit (.int .u64 1000000), .lit (.int .u64 10000000), .lit (.int .u64 100000000), .lit (.int .u64 1000000000), .lit (.int .u64 10000000000), .lit (.int .u64 100000000000), .lit (.int .u64 1000000000000), .lit (.int .u64 10000000000000), .lit (.int .u64 100000000000000), .lit (.int .u64 1000000000000000), .lit (.int .u64 10000000000000000), .lit (.int .u64 100000000000000000), .lit (.int .u64 1000000000000000000), .lit (.int .u64 10000000000000000000)]
theorem A8a {W : World} (h : laidMet Tryz.prog [("math/bits.deBruijn32tab", Rows.laid_math_bits_deBruijn32tab), ("math/bits.deBruijn64tab", Rows.laid_math_bits_deBruijn64tab), ("internal/strconv.uint64pow10", Rows.laid_internal_strconv_uint64pow10), ("strconv.ErrRange", Rows.laid_strconv_ErrRange), ("strconv.ErrSyntax", Rows.laid_strconv_ErrSyntax), ("gitlike/object.kinds", Rows.laid_gitlike_object_kinds)] W) : ∃ t fr, W.heap[3]? = some (.cells A3q.cells.toArray t fr) :=
 Bha (t := (Tryz.prog.globals[3]?).elim 0 (·.type)) (e := match Tryz.prog.underlying ((Tryz.prog.globals[3]?).elim 0 (·.type)) with | some (.array _ e) => e | _ => 0) (n := A3q.cells.length) h (List.mem_of_getElem? (i := 2) (show [("math/bits.deBruijn32tab", Rows.laid_math_bits_deBruijn32tab), ("math/bits.deBruijn64tab", Rows.laid_math_bits_deBruijn64tab), ("internal/strconv.uint64pow10", Rows.laid_internal_strconv_uint64pow10), ("strconv.ErrRange", Rows.laid_strconv_ErrRange), ("strconv.ErrSyntax", Rows.laid_strconv_ErrSyntax), ("gitlike/object.kinds", Rows.laid_gitlike_object_kinds)][2]? = some ("internal/strconv.uint64pow10", DataW.agg A71) by kernel_rfl)) (by kernel_rfl) (by kernel_rfl) (by kernel_rfl) (by kernel_rfl) (by kernel_rfl) (by kernel_rfl) (by kernel_rfl)
def Bbu : List (DataW Unit) := [.lit (.string []), .lit (.string [99, 111, 109, 109, 105, 116]), .lit (.string [116, 114, 101, 101]), .lit (.string [98, 108, 111, 98]), .lit (.string [116, 97, 103])]
theorem Bbz {W : World} (h : laidMet Tryz.prog [("math/bits.deBruijn32tab", Rows.laid_math_bits_deBruijn32tab), ("math/bits.deBruijn64tab", Rows.laid_math_bits_deBruijn64tab), ("internal/strconv.uint64pow10", Rows.laid_internal_strconv_uint64pow10), ("strconv.ErrRange", Rows.laid_strconv_ErrRange), ("strconv.ErrSyntax", Rows.laid_strconv_ErrSyntax), ("gitlike/object.kinds", Rows.laid_gitlike_object_kinds)] W) : ∃ t fr, W.heap[0]? = some (.cells A3H.cells.toArray t fr) :=
 Bha (t := (Tryz.prog.globals[0]?).elim 0 (·.type)) (e := match Tryz.prog.underlying ((Tryz.prog.globals[0]?).elim 0 (·.type)) with | some (.array _ e) => e | _ => 0) (n := A3H.cells.length) h (List.mem_of_getElem? (i := 5) (show [("math/bits.deBruijn32tab", Rows.laid_math_bits_deBruijn32tab), ("math/bits.deBruijn64tab", Rows.laid_math_bits_deBruijn64tab), ("internal/strconv.uint64pow10", Rows.laid_internal_strconv_uint64pow10), ("strconv.ErrRange", Rows.laid_strconv_ErrRange), ("strconv.ErrSyntax", Rows.laid_strconv_ErrSyntax), ("gitlike/object.kinds", Rows.laid_gitlike_object_kinds)][5]? = some ("gitlike/object.kinds", DataW.agg Bbu) by kernel_rfl)) (by kernel_rfl) (by kernel_rfl) (by kernel_rfl) (by kernel_rfl) (by kernel_rfl) (by kernel_rfl) (by kernel_rfl)
theorem BCZ : "*" ++ "errors.errorString" = "*errors.errorString" := by decide
theorem Bt7 (u : TypeId) (h : Tryz.prog.typeName? 3 u = some "*errors.errorString") : u = 146 :=
 typeName_ptr_named (nm := "errors.errorString") (by rw [BCZ]; kernel_rfl) (by kernel_rfl) (by decide) u (by rw [BCZ]; exact h)
theorem Bdc {W : World} (h : laidMet Tryz.prog [("math/bits.deBruijn32tab", Rows.laid_math_bits_deBruijn32tab), ("math/bits.deBruijn64tab", Rows.laid_math_bits_deBruijn64tab), ("internal/strconv.uint64pow10", Rows.laid_internal_strconv_uint64pow10), ("strconv.ErrRange", Rows.laid_strconv_ErrRange), ("strconv.ErrSyntax", Rows.laid_strconv_ErrSyntax), ("gitlike/object.kinds", Rows.laid_gitlike_object_kinds)] W) : ∃ (a : Addr) (t : TypeId) (fr : Nat × Nat), W.heap[5]? = some (.cells #[.iface 146 (.pointer (some a))] t fr) := by
 have h2 : laidMet Tryz.prog (("strconv.ErrRange", DataW.iface "*errors.errorString" (.ptr (.agg [.lit (.string [118, 97, 108, 117, 101, 32, 111, 117, 116, 32, 111, 102, 32, 114, 97, 110, 103, 101])]))) :: [("strconv.ErrSyntax", Rows.laid_strconv_ErrSyntax), ("gitlike/object.kinds", Rows.laid_gitlike_object_kinds)]) W := h.tail.tail.tail
 have hg : Tryz.prog.globalNamed "strconv.ErrRange" = some 5 := by kernel_rfl
 obtain ⟨a, s, hv, _⟩ := laid_sentinel h2 hg (show (Tryz.prog.globals[5]?).map (·.type) = some 28 by kernel_rfl) Tryz.underlying28 Bt7 Tryz.underlying146 Tryz.underlying148 rfl rfl Tryz.underlying9 (by kernel_rfl) (by kernel_rfl)
 exact ⟨a, Bjh hg hv⟩
theorem Bcm {W : World} (h : laidMet Tryz.prog [("math/bits.deBruijn32tab", Rows.laid_math_bits_deBruijn32tab), ("math/bits.deBruijn64tab", Rows.laid_math_bits_deBruijn64tab), ("internal/strconv.uint64pow10", Rows.laid_internal_strconv_uint64pow10), ("strconv.ErrRange", Rows.laid_strconv_ErrRange), ("strconv.ErrSyntax", Rows.laid_strconv_ErrSyntax), ("gitlike/object.kinds", Rows.laid_gitlike_object_kinds)] W) : ∃ (a : Addr) (t : TypeId) (fr : Nat × Nat), W.heap[4]? = some (.cells #[.iface 146 (.pointer (some a))] t fr) := by
 have h2 : laidMet Tryz.prog (("strconv.ErrSyntax", DataW.iface "*errors.errorString" (.ptr (.agg [.lit (.string [105, 110, 118, 97, 108, 105, 100, 32, 115, 121, 110, 116, 97, 120])]))) :: [("gitlike/object.kinds", Rows.laid_gitlike_object_kinds)]) W := h.tail.tail.tail.tail
 have hg : Tryz.prog.globalNamed "strconv.ErrSyntax" = some 4 := by kernel_rfl
 obtain ⟨a, s, hv, _⟩ := laid_sentinel h2 hg (show (Tryz.prog.globals[4]?).map (·.type) = some 28 by kernel_rfl) Tryz.underlying28 Bt7 Tryz.underlying146 Tryz.underlying148 rfl rfl Tryz.underlying9 (by kernel_rfl) (by kernel_rfl)
 exact ⟨a, Bjh hg hv⟩
theorem Bkt {W : World} (h : laidMetH Tryz.prog Rows.objectHeadersRow.laid W) : ∃ t0 a0 t1 a1, @A8z (giM t0 a0 t1 a1) (fun b => b < W.heap.size) W := by
 have h' : laidMet Tryz.prog [("math/bits.deBruijn32tab", Rows.laid_math_bits_deBruijn32tab), ("math/bits.deBruijn64tab", Rows.laid_math_bits_deBruijn64tab), ("internal/strconv.uint64pow10", Rows.laid_internal_strconv_uint64pow10), ("strconv.ErrRange", Rows.laid_strconv_ErrRange), ("strconv.ErrSyntax", Rows.laid_strconv_ErrSyntax), ("gitlike/object.kinds", Rows.laid_gitlike_object_kinds)] W ∧ handlesMet Tryz.prog [("errors.errorType", Rows.laid_errors_errorType)] W := h
 obtain ⟨a0, e0⟩ := Bdc h'.1
 obtain ⟨a1, e1⟩ := Bcm h'.1
 refine ⟨146, a0, 146, a1, ?_⟩
 letI := giM 146 a0 146 a1
 intro g x hx
 have hm := BnR hx
 have hm' : (g, x) ∈ ([(1, A4E), (6, A3F), (7, A3E), (3, A3q), (0, A3H), (5, GV.one (.iface 146 (.pointer (some a0)))), (4, GV.one (.iface 146 (.pointer (some a1))))] : List (Nat × GV)) := hm
 simp only [List.mem_cons, List.mem_nil_iff, or_false, Prod.mk.injEq] at hm'
 have key : ∃ t fr, W.heap[g]? = some (.cells x.cells.toArray t fr) := by
  rcases hm' with ⟨rfl, rfl⟩ | ⟨rfl, rfl⟩ | ⟨rfl, rfl⟩ | ⟨rfl, rfl⟩ | ⟨rfl, rfl⟩ | ⟨rfl, rfl⟩ | ⟨rfl, rfl⟩
  ·exact Bip h'.2
  ·exact A9u h'.1
  ·exact A9y h'.1
  ·exact A8a h'.1
  ·exact Bbz h'.1
  ·exact e0
  ·exact e1
 obtain ⟨t, fr, hk⟩ := key
 exact ⟨(Array.getElem?_eq_some_iff.1 hk).1, t, fr, hk⟩
noncomputable def BkK (os : Os) : World :=
 let w0 := World.holding Tryz.prog os ⟨#[], #[.agg #[.int .i64 0, .slice none 0 0], .slice none 0 0], []⟩
 let w1 := { w0 with heap := w0.heap.modify 1 fun
   | .cells _ t frozen => .cells A4E.cells.toArray t frozen
   | o => o }
 let w2 := { w1 with heap := w1.heap.modify 6 fun
   | .cells _ t frozen => .cells A3F.cells.toArray t frozen
   | o => o }
 let w3 := { w2 with heap := w2.heap.modify 7 fun
   | .cells _ t frozen => .cells A3E.cells.toArray t frozen
   | o => o }
 let w4 := { w3 with heap := w3.heap.modify 3 fun
   | .cells _ t frozen => .cells A3q.cells.toArray t frozen
   | o => o }
 let w5 := { w4 with heap := w4.heap.modify 0 fun
   | .cells _ t frozen => .cells A3H.cells.toArray t frozen
   | o => o }
 let w6 := { w5 with heap := (w5.heap.push (.cells #[.string ⟨([118, 97, 108, 117, 101, 32, 111, 117, 116, 32, 111, 102, 32, 114, 97, 110, 103, 101] : List UInt8).toArray⟩] 148 (0, 0))).modify 5 fun
   | .cells _ t frozen => .cells #[.iface 146 (.pointer (some ⟨w5.heap.size, 0, none⟩))] t frozen
   | o => o }
 let w7 := { w6 with heap := (w6.heap.push (.cells #[.string ⟨([105, 110, 118, 97, 108, 105, 100, 32, 115, 121, 110, 116, 97, 120] : List UInt8).toArray⟩] 148 (0, 0))).modify 4 fun
   | .cells _ t frozen => .cells #[.iface 146 (.pointer (some ⟨w6.heap.size, 0, none⟩))] t frozen
   | o => o }
 w7
theorem Bjs (os : Os) (args : Array Value) : laidMetH Tryz.prog Rows.objectHeadersRow.laid ((BkK os).forCall (fun _ _ => 0) ⟨#[], args, []⟩).memory :=
 laidMetH_of_parts (laidMet_of_run' 8 (by kernel_rfl) (by kernel_rfl)) (by kernel_rfl)

theorem BwH : laidOutB Tryz.prog = true ∧ mapsRowed Tryz.prog = true :=
 have H := ClosedOfChecked.allSpec_of Tryz.checked.wellFormed (by kernel_rfl : Tryz.checked.prog.types = Tryz.checked.src.types)
 ⟨ClosedOfChecked.laidOutB_of H (by kernel_rfl), ClosedOfChecked.mapsRowed_of H⟩
theorem A6Q {a b : Bool} (h : a = true) (k : b = true) : (a && b) = true := by rw [h, k]; rfl
theorem BBO : (Rows.objectHeadersRow.wf (OpenSpec.ofChange Rows.objectHeadersSpec)) = true := by kernel_rfl
theorem BA2 : (laidOutB Tryz.prog) = true := BwH.1
theorem BAK : (mapsRowed Tryz.prog) = true := BwH.2
theorem BBK : (Tryz.f3.params.all (Tryz.prog.readableRec ·)) = true := by kernel_rfl
theorem BCb : (namedTie Tryz.prog Rows.objectHeadersRow.named Rows.objectHeadersSpec.vars) = true := by kernel_rfl
theorem BAs : ((Rows.objectHeadersRow.stops == [])) = true := by kernel_rfl
theorem BBv : ((Tryz.prog.stops == [])) = true := by kernel_rfl
theorem BAM : ((Rows.objectHeadersRow.knobs == [])) = true := by kernel_rfl
theorem BAo : ((Tryz.prog.stopKnobs == [])) = true := by kernel_rfl
theorem BB3 : ((Rows.objectHeadersRow.inPlace == Tryz.prog.inPlace 3)) = true := by kernel_rfl
theorem Bya : ((Rows.objectHeadersRow.unfollowed == Tryz.prog.unfollowed 3)) = true := by kernel_rfl
theorem Bxi : ((Rows.objectHeadersRow.recurses == Tryz.prog.recurses 3)) = true := by kernel_rfl
theorem BxF : ((Rows.objectHeadersRow.named == Tryz.prog.varsNamed 3)) = true := by kernel_rfl
theorem ByQ : ((Rows.objectHeadersRow.maps == (Tryz.f3.params.toList ++ Rows.objectHeadersSpec.plain.varTypes Tryz.prog).any (Tryz.prog.mapsRec ·))) = true := by kernel_rfl
theorem BxD : ((Rows.objectHeadersRow.ifaces == (Tryz.f3.params.toList ++ Rows.objectHeadersSpec.plain.varTypes Tryz.prog).any (Tryz.prog.ifacesRec ·))) = true := by kernel_rfl
theorem BxA : ((Rows.objectHeadersRow.mapsOut == Tryz.prog.mapsAmong Tryz.f3.resultTypes.toList)) = true := by kernel_rfl
theorem BxS : ((Rows.objectHeadersRow.loops == (Tryz.f3.params.toList ++ Rows.objectHeadersSpec.plain.varTypes Tryz.prog).any (Tryz.prog.loopsFrom ·))) = true := by kernel_rfl
theorem Bxg : ((Rows.objectHeadersRow.wideKeys == (Tryz.f3.params.toList ++ Rows.objectHeadersSpec.plain.varTypes Tryz.prog ++ Tryz.f3.resultTypes.toList).any (Tryz.prog.wideKeysFrom ·))) = true := by kernel_rfl
theorem Bzu : (Rows.objectHeadersSpec.vars.all (Tryz.prog.varReadable ·)) = true := by kernel_rfl
theorem Bxf : (Tryz.f3.resultTypes.all (fun t => Tryz.prog.readableRec t && decide (t < Tryz.prog.types.size))) = true := by kernel_rfl
theorem Bxo : ((Rows.objectHeadersRow.ifacesOut == Tryz.f3.resultTypes.toList.any (Tryz.prog.ifacesRec ·))) = true := by kernel_rfl
theorem Bze : ((Rows.objectHeadersRow.loopsOut == Tryz.f3.resultTypes.toList.any (Tryz.prog.loopsFrom ·))) = true := by kernel_rfl
theorem Byg : ((Rows.objectHeadersRow.plainKeys == Tryz.prog.plainKeys)) = true := by kernel_rfl
theorem Bye : (Rows.objectHeadersRow.shortTexts.isNone) = true := by kernel_rfl
theorem Bzc : (Tryz.prog.stopsHeard) = true := by kernel_rfl
theorem ByL : (Tryz.prog.mayEnter) = true := by kernel_rfl
theorem Bzl : ((Rows.objectHeadersRow.lifted == Tryz.prog.liftsFinal)) = true := by kernel_rfl
theorem ByO : ((Tryz.prog.make == some Rows.objectHeadersRow.make)) = true := by kernel_rfl
theorem Bxx : ((Rows.objectHeadersRow.kinds == (if Rows.objectHeadersRow.domain.isEmpty then [] else Tryz.f3.params.toList.map fun t => match Tryz.prog.underlying t with | some (.int k) => some k | _ => none))) = true := by kernel_rfl
theorem BzG : ((Rows.objectHeadersRow.pinned == Rows.objectHeadersRow.pinnedBy)) = true := by kernel_rfl
theorem Byo : ((Rows.objectHeadersRow.veiled == (Tryz.f3.params.toList ++ Rows.objectHeadersSpec.plain.varTypes Tryz.prog ++ Tryz.f3.resultTypes.toList).any (Tryz.prog.veiledRec ·))) = true := by kernel_rfl
theorem BzI : (Rows.objectHeadersRow.veiledFits Tryz.prog Tryz.f3.params.toList (Tryz.f3.params.toList ++ Rows.objectHeadersSpec.plain.varTypes Tryz.prog ++ Tryz.f3.resultTypes.toList)) = true := by kernel_rfl
set_option maxRecDepth 100000 in
theorem Bq1 : ((Rows.objectHeadersRow.wf (OpenSpec.ofChange Rows.objectHeadersSpec)) && (laidOutB Tryz.prog) && (mapsRowed Tryz.prog) && (Tryz.f3.params.all (Tryz.prog.readableRec ·)) && (namedTie Tryz.prog Rows.objectHeadersRow.named Rows.objectHeadersSpec.vars) && ((Rows.objectHeadersRow.stops == [])) && ((Tryz.prog.stops == [])) && ((Rows.objectHeadersRow.knobs == [])) && ((Tryz.prog.stopKnobs == [])) && ((Rows.objectHeadersRow.inPlace == Tryz.prog.inPlace 3)) && ((Rows.objectHeadersRow.unfollowed == Tryz.prog.unfollowed 3)) && ((Rows.objectHeadersRow.recurses == Tryz.prog.recurses 3)) && ((Rows.objectHeadersRow.named == Tryz.prog.varsNamed 3)) && ((Rows.objectHeadersRow.maps == (Tryz.f3.params.toList ++ Rows.objectHeadersSpec.plain.varTypes Tryz.prog).any (Tryz.prog.mapsRec ·))) && ((Rows.objectHeadersRow.ifaces == (Tryz.f3.params.toList ++ Rows.objectHeadersSpec.plain.varTypes Tryz.prog).any (Tryz.prog.ifacesRec ·))) && ((Rows.objectHeadersRow.mapsOut == Tryz.prog.mapsAmong Tryz.f3.resultTypes.toList)) && ((Rows.objectHeadersRow.loops == (Tryz.f3.params.toList ++ Rows.objectHeadersSpec.plain.varTypes Tryz.prog).any (Tryz.prog.loopsFrom ·))) && ((Rows.objectHeadersRow.wideKeys == (Tryz.f3.params.toList ++ Rows.objectHeadersSpec.plain.varTypes Tryz.prog ++ Tryz.f3.resultTypes.toList).any (Tryz.prog.wideKeysFrom ·))) && (Rows.objectHeadersSpec.vars.all (Tryz.prog.varReadable ·)) && (Tryz.f3.resultTypes.all (fun t => Tryz.prog.readableRec t && decide (t < Tryz.prog.types.size))) && ((Rows.objectHeadersRow.ifacesOut == Tryz.f3.resultTypes.toList.any (Tryz.prog.ifacesRec ·))) && ((Rows.objectHeadersRow.loopsOut == Tryz.f3.resultTypes.toList.any (Tryz.prog.loopsFrom ·))) && ((Rows.objectHeadersRow.plainKeys == Tryz.prog.plainKeys)) && (Rows.objectHeadersRow.shortTexts.isNone) && (Tryz.prog.stopsHeard) && (Tryz.prog.mayEnter) && ((Rows.objectHeadersRow.lifted == Tryz.prog.liftsFinal)) && ((Tryz.prog.make == some Rows.objectHeadersRow.make)) && ((Rows.objectHeadersRow.kinds == (if Rows.objectHeadersRow.domain.isEmpty then [] else Tryz.f3.params.toList.map fun t => match Tryz.prog.underlying t with | some (.int k) => some k | _ => none))) && ((Rows.objectHeadersRow.pinned == Rows.objectHeadersRow.pinnedBy)) && ((Rows.objectHeadersRow.veiled == (Tryz.f3.params.toList ++ Rows.objectHeadersSpec.plain.varTypes Tryz.prog ++ Tryz.f3.resultTypes.toList).any (Tryz.prog.veiledRec ·))) && (Rows.objectHeadersRow.veiledFits Tryz.prog Tryz.f3.params.toList (Tryz.f3.params.toList ++ Rows.objectHeadersSpec.plain.varTypes Tryz.prog ++ Tryz.f3.resultTypes.toList))) = true := (A6Q (A6Q (A6Q (A6Q (A6Q (A6Q (A6Q (A6Q (A6Q (A6Q (A6Q (A6Q (A6Q (A6Q (A6Q (A6Q (A6Q (A6Q (A6Q (A6Q (A6Q (A6Q (A6Q (A6Q (A6Q (A6Q (A6Q (A6Q (A6Q (A6Q (A6Q BBO BA2) BAK) BBK) BCb) BAs) BBv) BAM) BAo) BB3) Bya) Bxi) BxF) ByQ) BxD) BxA) BxS) Bxg) Bzu) Bxf) Bxo) Bze) Byg) Bye) Bzc) ByL) Bzl) ByO) Bxx) BzG) Byo) BzI)
set_option maxRecDepth 100000 in
theorem Bl4 : joinedFacts Tryz.prog 3 Tryz.f3 Rows.objectHeadersSpec Rows.objectHeadersRow = true := Bq1
set_option maxRecDepth 100000 in
theorem lifted (os : Os) (started : os.Started) (H : Type) (enc : TypeId × Value → H) :
  ReturnsInHanded {} Tryz.checked os 3 .any (fun w args => (Rows.objectHeadersSpec.pre enc Tryz.prog Tryz.f3 [] false w args ∧ laidMetH Tryz.prog Rows.objectHeadersRow.laid w) ∧ sizedMet enc Tryz.prog Tryz.f3 (OpenSpec.ofChange Rows.objectHeadersSpec) false w args) (Rows.objectHeadersSpec.post enc Tryz.prog Tryz.f3 false true false false) := by
 refine returnsInHanded_of_change_and (C := Tryz.checked) (X := fun w _ => laidMetH Tryz.prog Rows.objectHeadersRow.laid w) (fun _ _ _ hh h => h.of_heap hh) own started (by kernel_rfl) Tryz.func3
  (ChangeSpec.witness_at (enc := enc) (C := Tryz.checked) (os := os) (X := fun w _ => laidMetH Tryz.prog Rows.objectHeadersRow.laid w) false (BkK os) #[.agg #[.int .i64 0, .slice none 0 0], .slice none 0 0] 8 rfl (by kernel_rfl) (by kernel_rfl) (by kernel_rfl) (by kernel_rfl) (by kernel_rfl) (Bjs os _)) ?_
 intro W base args ds gs before hval0 hW hcnd hsz0 hL _
 obtain ⟨t0, a0, t1, a1, hG⟩ := Bkt hL
 letI : A4e := giM t0 a0 t1 a1
 haveI : A4d := BfI t0 a0 t1 a1
 haveI : A47 := A93 t0 a0 t1 a1
 haveI : A46 := A97 t0 a0 t1 a1
 haveI : A3k := A8A t0 a0 t1 a1
 haveI : A3n := Bb8 t0 a0 t1 a1
 haveI : A3S := Bfn t0 a0 t1 a1
 haveI : A3G := BdP t0 a0 t1 a1
 have hsz : (DataW.weightsEach Tryz.prog (Tryz.f3.params.toList ++ Rows.objectHeadersSpec.plain.varTypes Tryz.prog) (ds ++ gs)).all (· ≤ reachBytes) = true := hsz0
 have hval : ∀ (j : Nat) t v, Tryz.f3.params[j]? = some t → args[j]? = some v → Value.okWide Tryz.prog W .any base t v := hval0
 have hW' := hW
 obtain ⟨p, q, hA0, hV, rfl, hfz, hnd⟩ := hW
 have hA : DataW.TrodAll enc Tryz.prog W 0 (fun _ => true) true Tryz.f3.params.toList args.toList ds p := hA0
 obtain ⟨rfl, rfl⟩ := trodVars_none hV
 have hsz2 : (DataW.weightsEach Tryz.prog Tryz.f3.params.toList ds).all (· ≤ reachBytes) = true := by
  have e : Tryz.f3.params.toList ++ Rows.objectHeadersSpec.plain.varTypes Tryz.prog = Tryz.f3.params.toList := by simp [ChangeSpec.plain, Rows.objectHeadersSpec]; rfl
  rw [e, List.append_nil] at hsz; exact hsz
 have hA' := hA
 have hps : (Tryz.f3.params.toList.all fun t => Tryz.prog.readableRec t && decide (t < Tryz.prog.types.size)) = true := by kernel_rfl
 have hv2 : ∀ (j : Nat) t v, Tryz.f3.params.toList[j]? = some t → args.toList[j]? = some v → ∃ base, Value.okWide Tryz.prog W .any base t v := fun j t v h1 h2 => ⟨base, hval j t v (by rw [← Array.getElem?_toList]; exact h1) (by rw [← Array.getElem?_toList]; exact h2)⟩
 rw [Tryz.params3] at hA hsz2 hv2
 obtain ⟨dsE, hdsE⟩ : ∃ x, x = ds := ⟨_, rfl⟩
 refine (Bw5 (f := 3) (Bdv BnX (BjK Tryz.underlying25) (fun _ => rfl) (Bdv (Bgu Tryz.underlying23 Tryz.underlying5 (by kernel_rfl) (by kernel_rfl)) (Bkv Tryz.underlying23) (fun _ => rfl) Bj1)) (fun a h => Bnx a.1.1 a.1.2 a.2.1 h.1.1.1 h.1.1.2 h.1.2 h.2.1) hA hv2 hsz2 (hG)).mono fun e W' ⟨he, bel⟩ => ?_
 subst he
 have hB := Bfk BwH.1 bel hps hA'
 have hAo := hA
 obtain ⟨v0, vs0, d0, ds0, p0, q0, ha0, hd0, hp0, h0, r0⟩ := trodAll_cons hAo
 obtain ⟨v1, vs1, d1, ds1, p1, q1, ha1, hd1, hp1, h1, r1⟩ := trodAll_cons r0
 obtain ⟨hz1, hz2, hz3⟩ := trodAll_nil r1
 have hd : ds = [d0, d1] := by rw [hd0, hd1, hz2]
 subst hd
 exact ⟨_, rfl, _, _, _, [], _, [], hW', trodAll_mk1 (shut_bool Tryz.underlying4 _), hB, rfl, bel.frame _, fun h => by cases h⟩

theorem over : Rows.objectHeadersRow.holds Tryz.pinned (OpenSpec.ofChange Rows.objectHeadersSpec) :=
 OpenClaim.holds_of_wide 3 Tryz.f3 rfl rfl rfl rfl rfl rfl rfl ⟨rfl, rfl, rfl, rfl, rfl⟩ rfl rfl rfl rfl rfl (by kernel_rfl) Tryz.func3 Bl4
  (of_decide_eq_true (by kernel_rfl)) (by unfold Func.isWrapper; first | (rw [if_pos (by decide +kernel)]; kernel_rfl) | (rw [if_neg (by decide +kernel)]; exact ⟨rfl, rfl⟩))
  (fun os started H enc _ => lifted os started H enc)
theorem stands : (Tryz.f3.params.toList.all fun t => !Tryz.prog.wantsStandIn t) = true := by kernel_rfl
theorem proved : Rows.ObjectHeadersCardSaid :=
 Claim7.holds_tied_plain_at .later [] [.data, .data, .data, .handle, .sentinel, .sentinel, .data] true (true, "5fac5d57d25cddb8727c9ca4140933469e94e2b9e30e8bbb4db76498e2def510") true
  over (fun _ h => by cases h) (by kernel_rfl) (fun _ h => by cases h) objectHeaders_row_tie rfl ⟨rfl, rfl⟩ (by kernel_rfl) rfl
  (fun f fn hf hfn => by
   obtain rfl : f = 3 := (Option.some.inj ((show Tryz.prog.funcNamed "gitlike/gitlikelaw3.ObjectHeaders" = some 3 by kernel_rfl).symm.trans hf)).symm
   obtain rfl : fn = Tryz.f3 := (Option.some.inj (Tryz.func3.symm.trans hfn)).symm
   exact ⟨by kernel_rfl, fun j t ht => by
    rw [← Array.getElem?_toList] at ht
    have := List.all_eq_true.1 stands t (List.mem_of_getElem? ht)
    exact (show Tryz.prog.wantsStandIn t = false by simpa using this)⟩)
  (by kernel_rfl)
#print axioms proved
end Go.Proofs.YtmlompedpahkjaaGreatDoor.objectHeaders

