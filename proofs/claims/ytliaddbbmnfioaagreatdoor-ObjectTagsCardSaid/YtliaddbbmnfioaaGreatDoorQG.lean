/- ObjectTagsCard: the law, proved out of contracts of the functions that it reaches (texts merged; names shortened by a program). No condition is laid on it. -/
import Derived.Test.YtliaddbbmnfioaaGreatDoorQF
import Derived.Test.YtliaddbbmnfioaaGreatDoorQD
import Derived.Test.YtliaddbbmnfioaaGreatDoorProg
import Derived.KernelRfl
import Derived.Test.YtliaddbbmnfioaaGreatDoorQE
import Derived.SevenTiedAt
import Derived.Test.YtliaddbbmnfioaaGreatDoorCards
import Derived.Test.YtliaddbbmnfioaaGreatDoorTie
import Derived.Test.YtliaddbbmnfioaaGreatDoorRows
import Derived.WalkKit
import Derived.ProofKit
import Derived.OpenShut
import Derived.ShutString
import Derived.ChangeOld
import Derived.Below
import Derived.SizedLaws
import Derived.ChangeVars
import Derived.LaidLaws
import Derived.LaidHandle
import Derived.Stop.Joined
import Derived.Stop.LaidErr
import Derived.ClosedOfChecked
namespace Go.Proofs.YtliaddbbmnfioaaGreatDoor
variable [AFG]
set_option linter.unusedSectionVars false
set_option linter.unusedVariables false
set_option linter.defProp false
set_option maxRecDepth 100000

def A31 : AFb := .seq (.ops [po_ 2 (.mov (ci_ 0))] [0])
 (.seq (.ops [so_ 3 (.alloc (.val (.int .i64 ((0 : Nat) : Int))))] [0, 3])
 (.seq (.block 0 (.seq (.ops [mv_ 5 0,
  po_ 6 (.eqN 1 (.t 5) (.c .nilIface) false),
  mv_ 4 6] [0, 3, 4])
 (.cond (.t 4)
 (.seq (.ops [po_ 2 (.mov (ci_ 0))] [2])
  (.ret))
 (.seq (.ops [mv_ 8 0,
   po_ 9 (.iface 83 (.t 3)),
   so_ 10 (.call 31 [.t 8, .t 9]),
   mv_ 7 10] [3, 7])
  (.cond (.t 7)
  (.seq (.ops [po_ 11 (.load false 1 (.t 3)),
    mv_ 2 11] [2])
   (.ret))
  (.skip))))))
 (.seq (.ops [po_ 2 (.mov (.c (.int .i64 (-1))))] [2])
 (.ret))))
def A3X : List VR := [.tmp 2]
theorem A88 : Tryz.f8.body.bind (trC Tryz.prog Tryz.f8.ntmps) = some (er A31) := by kernel_rfl
theorem A94 : trR Tryz.prog Tryz.f8.results.toList = some A3X := by kernel_rfl
def A6H := AE7 A31.eq_1
theorem A5J {K : TV → Prop} {e : Env} {H : List Ob} : res A3X e H K = res [.tmp 2] e H K := AE9 rfl
def A0J := (And.intro @A6H @A5J)
def A2e := AGG 12 Tryz.func8 A88 A94 rfl

def AVo : AFb := .seq (.ops [mv_ 13 4,
  mv_ 14 3,
  po_ 15 (.idxA 1 (.t 13) (.t 14)),
  ⟨none, .s (.store 1 (.t 15) (.c (.int .u8 ((71 : Nat) : Int)))), none⟩] [3, 4])
 (.seq (.ops [mv_ 16 4,
  mv_ 17 3,
  po_ 18 (.bin 3 .add (.t 17) (ci_ 1)),
  po_ 19 (.idxA 1 (.t 16) (.t 18)),
  ⟨none, .s (.store 1 (.t 19) (.c (.int .u8 ((72 : Nat) : Int)))), none⟩] [3, 4])
 (.seq (.ops [mv_ 20 4,
  mv_ 21 3,
  po_ 22 (.slV 1 (.t 20) none (some (.t 21))),
  mv_ 2 22] [2])
 (.ret)))
def AUN : AFb := .seq (.ops [mv_ 10 4,
  mv_ 11 0,
  so_ 12 (.copy 1 (.t 10) (.t 11))] [3, 4])
 AVo
def AUR : AFb := .seq (.ops [mv_ 7 3,
  po_ 8 (.bin 3 .add (.t 7) (ci_ 2)),
  so_ 9 (.mks 1 1 (.val (.int .u8 ((0 : Nat) : Int))) (.t 8) (.t 8)),
  mv_ 4 9] [0, 3, 4])
 AUN
def AUT : AFb := .seq (.ops [mv_ 5 0,
  po_ 6 (.lenV (.t 5)),
  mv_ 3 6] [0, 3])
 AUR
def A1d : AFb := .seq (.ops [po_ 2 (.mov (.c (.slice none 0 0)))] [0])
 AUT
def A0T : List VR := [.tmp 2]
theorem A5H : Tryz.f37.body.bind (trC Tryz.prog Tryz.f37.ntmps) = some (er A1d) := by kernel_rfl
theorem A6B : trR Tryz.prog Tryz.f37.results.toList = some A0T := by kernel_rfl
def AZN := AE7 AVo.eq_1
def AZV := AE7 AUN.eq_1
def A0i := AE7 AUR.eq_1
def A0L := AE7 AUT.eq_1
def A3E := AE7 A1d.eq_1
theorem A3e {K : TV → Prop} {e : Env} {H : List Ob} : res A0T e H K = res [.tmp 2] e H K := AE9 rfl
def A5Y := (And.intro (And.intro (And.intro @AZN @AZV) (And.intro @A0i @A0L)) (And.intro @A3E @A3e))
def A48 := AGG 23 Tryz.func37 A5H A6B rfl

def AUF : AFb := .seq (.seq (.ops [mv_ 36 8,
  mv_ 37 6,
  po_ 38 (.lenV (.t 37)),
  po_ 39 (.bin 3 .lss (.t 36) (.t 38))] [6, 7, 8, 39])
 (.cond (.t 39)
 (.skip)
 (.exit 0)))
 (.seq (.block 1 (.ops [mv_ 42 6,
  mv_ 43 8,
  mv_ 44 6,
  mv_ 45 8,
  po_ 46 (.idxA 1 (.t 44) (.t 45)),
  po_ 47 (.load false 1 (.t 46)),
  po_ 48 (.bin 5 .xor (.t 47) (.c (.int .u8 ((85 : Nat) : Int)))),
  po_ 49 (.idxA 1 (.t 42) (.t 43)),
  ⟨none, .s (.store 1 (.t 49) (.t 48)), none⟩] [6, 7, 8]))
 (.ops [mv_ 40 8,
  po_ 41 (.bin 3 .add (.t 40) (ci_ 1)),
  mv_ 8 41] [6, 7, 8]))
def AUZ : AFb := .block 0 (.loop [6, 7, 8] AUF)
def AUS : AFb := .seq (.ops [mv_ 50 7,
  mv_ 4 50] [4])
 (.ret)
def AUD : AFb := .seq (.seq (.ops [po_ 8 (.mov (ci_ 0))] [6, 7, 8])
 AUZ)
 AUS
def AUL : AFb := .seq (.ops [mv_ 20 7,
  mv_ 21 20,
  ⟨some 22, .p (.mov (.t 6)), some ⟨21, true⟩⟩,
  ⟨some 23, .p (.mov (.t 5)), some ⟨21, true⟩⟩,
  ⟨some 24, .p (.idxA 1 (.t 22) (.t 23)), some ⟨21, true⟩⟩,
  ⟨some 25, .p (.load false 1 (.t 24)), some ⟨21, true⟩⟩,
  ⟨some 26, .p (.bin 5 .eql (.t 25) (.c (.int .u8 ((71 : Nat) : Int)))), some ⟨21, true⟩⟩,
  po_ 27 (.pick (.t 21) (.t 26) (.c (.bool false))),
  mv_ 28 27,
  ⟨some 29, .p (.mov (.t 6)), some ⟨28, true⟩⟩,
  ⟨some 30, .p (.mov (.t 5)), some ⟨28, true⟩⟩,
  ⟨some 31, .p (.bin 3 .add (.t 30) (ci_ 1)), some ⟨28, true⟩⟩,
  ⟨some 32, .p (.idxA 1 (.t 29) (.t 31)), some ⟨28, true⟩⟩,
  ⟨some 33, .p (.load false 1 (.t 32)), some ⟨28, true⟩⟩,
  ⟨some 34, .p (.bin 5 .eql (.t 33) (.c (.int .u8 ((72 : Nat) : Int)))), some ⟨28, true⟩⟩,
  po_ 35 (.pick (.t 28) (.t 34) (.c (.bool false))),
  mv_ 7 35] [6, 7])
 AUD
def AVr : AFb := .seq (.ops [mv_ 15 6,
  mv_ 16 5,
  po_ 17 (.slV 1 (.t 15) none (some (.t 16))),
  mv_ 18 1,
  so_ 19 (.call 11 [.t 17, .t 18]),
  mv_ 7 19] [5, 6, 7])
 AUL
def AUC : AFb := .seq (.ops [mv_ 11 0,
  mv_ 12 5,
  po_ 13 (.bin 3 .add (.t 12) (ci_ 2)),
  po_ 14 (.slV 1 (.t 11) none (some (.t 13))),
  mv_ 6 14] [1, 5, 6])
 AVr
def AU0 : AFb := .seq (.ops [mv_ 9 1,
  po_ 10 (.lenV (.t 9)),
  mv_ 5 10] [0, 1, 5])
 AUC
def A03 : AFb := .seq (.ops [po_ 4 (.mov (.c (.bool false)))] [0, 1])
 AU0
def A07 : List VR := [.tmp 4]
theorem A6v : Tryz.f39.body.bind (trC Tryz.prog Tryz.f39.ntmps) = some (er A03) := by kernel_rfl
theorem A6M : trR Tryz.prog Tryz.f39.results.toList = some A07 := by kernel_rfl
def A0g := AE7 AUF.eq_1
def AZM := AE7 AUZ.eq_1
def A0t := AE7 AUS.eq_1
def A0N := AE7 AUD.eq_1
def A0P := AE7 AUL.eq_1
def A0p := AE7 AVr.eq_1
def AZ9 := AE7 AUC.eq_1
def A0d := AE7 AU0.eq_1
def A28 := AE7 A03.eq_1
theorem A3u {K : TV → Prop} {e : Env} {H : List Ob} : res A07 e H K = res [.tmp 4] e H K := AE9 rfl
def APA := (And.intro (And.intro (And.intro (And.intro @A0g @AZM) (And.intro @A0t @A0N)) (And.intro (And.intro @A0P @A0p) (And.intro @AZ9 @A0d))) (And.intro @A28 @A3u))
def A41 := AGG 51 Tryz.func39 A6v A6M rfl

def AWv : AFb := .seq (.block 1 (.seq (.draw 4 [mv_ 17 0,
  mv_ 18 5,
  po_ 19 (.idxA 1 (.t 17) (.t 18)),
  po_ 20 (.load false 1 (.t 19)),
  mv_ 21 1,
  mv_ 22 5,
  po_ 23 (.idxA 1 (.t 21) (.t 22)),
  po_ 24 (.load false 1 (.t 23)),
  po_ 25 (.bin 5 .neq (.t 20) (.t 24))] [0, 1, 5, 25])
 (.cond (.t 25)
 (.seq (.ops [po_ 4 (.mov (.c (.bool false)))] [4])
  (.ret))
 (.skip))))
 (.ops [mv_ 15 5,
  po_ 16 (.bin 3 .add (.t 15) (ci_ 1)),
  mv_ 5 16] [0, 1, 5])
def AWO : AFb := .seq (.seq (.ops [mv_ 11 5,
  mv_ 12 0,
  po_ 13 (.lenV (.t 12)),
  po_ 14 (.bin 3 .lss (.t 11) (.t 13))] [0, 1, 5, 14])
 (.cond (.t 14)
 (.skip)
 (.exit 0)))
 AWv
def AWw : AFb := .block 0 (.loop [0, 1, 5] AWO)
def AWY : AFb := .seq (.ops [po_ 4 (.mov (.c (.bool true)))] [4])
 (.ret)
def AWA : AFb := .seq (.seq (.ops [po_ 5 (.mov (ci_ 0))] [0, 1, 5])
 AWw)
 AWY
def AWB : AFb := .seq (.seq (.ops [mv_ 6 0,
  po_ 7 (.lenV (.t 6)),
  mv_ 8 1,
  po_ 9 (.lenV (.t 8)),
  po_ 10 (.bin 3 .neq (.t 7) (.t 9))] [0, 1, 10])
 (.cond (.t 10)
 (.seq (.ops [po_ 4 (.mov (.c (.bool false)))] [4])
  (.ret))
 (.skip)))
 AWA
def A2x : AFb := .seq (.ops [po_ 4 (.mov (.c (.bool false)))] [0, 1])
 AWB
def A2G : List VR := [.tmp 4]
theorem A7P : Tryz.f11.body.bind (trC Tryz.prog Tryz.f11.ntmps) = some (er A2x) := by kernel_rfl
theorem A7T : trR Tryz.prog Tryz.f11.results.toList = some A2G := by kernel_rfl
def A1U := AE7 AWv.eq_1
def A1n := AE7 AWO.eq_1
def A1D := AE7 AWw.eq_1
def A1E := AE7 AWY.eq_1
def A1t := AE7 AWA.eq_1
def A1V := AE7 AWB.eq_1
def A5b := AE7 A2x.eq_1
theorem A4K {K : TV → Prop} {e : Env} {H : List Ob} : res A2G e H K = res [.tmp 4] e H K := AE9 rfl
def AOr := (And.intro (And.intro (And.intro @A1U @A1n) (And.intro @A1D @A1E)) (And.intro (And.intro @A1t @A1V) (And.intro @A5b @A4K)))
def A6D := AGG 26 Tryz.func11 A7P A7T rfl

end Go.Proofs.YtliaddbbmnfioaaGreatDoor


namespace Go.Proofs.YtliaddbbmnfioaaGreatDoor
open Go.RowKit
variable [AFG] [AGi]
set_option linter.unusedSectionVars false
set_option linter.unusedVariables false
set_option linter.unusedSimpArgs false

theorem ATn.refl {F : Nat → Prop} {w : World} (h : ∀ b, F b → b < w.heap.size) : ATn F w F w := ⟨rfl, rfl, rfl, Nat.le_refl _, fun _ _ => rfl, fun _ h => h, fun _ _ h => h, h⟩
theorem ATn.alloc {F F' : Nat → Prop} {w w' : World} (h : ATn F w F' w') (o : Obj) : ATn F w F' (w'.alloc o) :=
 ⟨h.os, h.tape, h.output, by have := h.size; simp; omega, fun b hb => (AGC w' o (Nat.lt_of_lt_of_le hb h.size)).trans (h.same b hb), h.keepF, h.oldF, fun b hb => by have := h.ltF b hb; simp; omega⟩

/-- An error of the program's. -/
abbrev eno (n : Int) : TV := .ifc 34 (i64 n)

theorem Bdh {n : Int} {id ver : Nat} {p : List (Nat × Nat)} {x x' : TV} {H : List Ob} {K : TV → List Ob → Prop} (ho : H[id]? = some (.obj ver x)) (hs2 : ANf p x (i64 n) = some x') (hk : K (tb true) (H.set id (.obj ver x'))) :
  AFk Tryz.prog 31 [eno n, .ifc 83 (.op id ver p)] H K := by
 intro β F w vs hs hv
 obtain ⟨u, us, rfl, h1, h2⟩ := AF9.cons.1 hv
 obtain ⟨u2, us2, rfl, h3, h4⟩ := AF9.cons.1 h2
 rw [AF9.nil] at h4; subst h4
 -- the two arguments
 have e1 : u = .iface 34 (.int .i64 n) := by
  rcases h1 with h | h | ⟨xs0, h, rfl⟩
  ·cases h
  ·cases h
  ·rw [AFh] at h
   obtain ⟨v, rfl, vs, h, rfl⟩ := h
   rw [AFh] at h
   obtain ⟨rfl, _⟩ := h
   rfl
 obtain ⟨b, o, hbo, rfl⟩ : ∃ b o, β id ver = some (b, o) ∧ u2 = .iface 83 (.pointer (some ⟨b, o + AGT p, none⟩)) := by
  rcases h3 with h | h | ⟨xs0, h, rfl⟩
  ·cases h
  ·cases h
  ·rw [AFh] at h
   obtain ⟨v, rfl, vs, h, rfl⟩ := h
   rw [AFh] at h
   obtain ⟨_, b, o, hb, rfl⟩ := h
   exact ⟨b, o, hb, rfl⟩
 subst e1
 have hgl := hs.glob.at AGi.k
 have hg : w.cell? ⟨1, 0, none⟩ = some (.iface 175 (.agg #[.pointer (some ⟨10, 31, none⟩)])) := hgl 0 _ rfl
 have hrow : ∀ c w, AFh c w (i64 n) [.int .i64 n] := fun c w => by rw [AFh]; exact ⟨rfl, rfl⟩
 obtain ⟨_, _, ht⟩ := hs.store ho hbo hs2 (hrow _ _)
 obtain ⟨t1, t2⟩ := ht 0 (by simp)
 obtain ⟨old, hold⟩ := Option.isSome_iff_exists.1 t1
 refine (BjU n ⟨b, o + AGT p, none⟩ old w hg hold t2).mono ?_
 rintro e w' ⟨rfl, rfl⟩
 have hst := ((((ATn.refl (F := F) hs.lt).alloc (.cells #[.pointer (some ⟨b, o + AGT p, none⟩)] 83)).alloc (.cells #[.pointer (some ⟨10, 83, none⟩), .pointer (some ⟨w.heap.size, 0, none⟩), .int .u64 150] 127)).alloc (.cells #[.pointer (some ⟨10, 83, none⟩), .pointer (some ⟨w.heap.size, 0, none⟩), .int .u64 150] 127)).alloc (.cells #[.int .i64 n] 34)
 obtain ⟨k1, k2, _⟩ := (hst.sim hs).store ho hbo hs2 (hrow _ _)
 exact ⟨_, tb true, β, _, F, rfl, hk, k1, hst.later.trans k2, Rep.of_val⟩

/-- api.Tell of an error of the program's, and of none. -/
theorem Bpx {n : Int} : AFE Tryz.prog 8 [eno n] (fun x => x = i64 n) := by
 refine AFk.toPureV (A2e (by simp) ?_)
 simp -dsimp (disch := first | assumption | omega) only [↓AFe, AFa, AFc, AFd, eq_self, Nat.reduceEqDiff, ↓reduceIte, reduceCtorEq, ↓A0J]
 refine Bdh (x := i64 ((0 : Nat) : Int)) (x' := i64 n) rfl (by rw [AJi]; rfl) ?_
 simp -dsimp (disch := first | assumption | omega) only [↓AFe, AFa, AFc, AFd, eq_self, Nat.reduceEqDiff, ↓reduceIte, reduceCtorEq, ↓A0J]
theorem Bll : AFE Tryz.prog 8 [.val .nilIface] (fun x => x = i64 ((0 : Nat) : Int)) := by
 refine AFk.toPureV (A2e (by simp) ?_)
 simp -dsimp (disch := first | assumption | omega) only [↓AFe, AFa, AFc, AFd, eq_self, Nat.reduceEqDiff, ↓reduceIte, reduceCtorEq, ↓A0J]
end Go.Proofs.YtliaddbbmnfioaaGreatDoor


namespace Go.Proofs.YtliaddbbmnfioaaGreatDoor
open Go.RowKit
variable [AFG]
set_option linter.unusedSectionVars false
set_option linter.unusedVariables false
set_option linter.unusedSimpArgs false

theorem Bgs {K : TV → Prop} [Tg K] (x : TV) (h : K x) : vex K := ⟨x, h⟩
theorem Bgt (n : Nat) (h : n < 16) : AFE Tryz.prog 70 [.val (.int .u8 (n : Int))] (fun r => r = by8 (dig n)) := by
 refine AFk.toPureV (A5m (by simp) ?_)
 by_cases h1 : n < 10
 ·simp -dsimp (disch := first | assumption | omega) only [↓AFe, AFa, AFc, AFd, eq_self, ↓reduceIte, reduceCtorEq, ↓AU5, A1h]
  have e : (48 + n) % 256 = 48 + n := by omega
  rw [e, A8e (by omega)]
  unfold dig; rw [if_pos h1]
 ·simp -dsimp (disch := first | assumption | omega) only [↓AFe, AFa, AFc, AFd, eq_self, ↓reduceIte, reduceCtorEq, ↓AU5, A1h]
  have e : (97 + n) % 256 = 97 + n := by omega
  rw [e]
  simp -dsimp (disch := first | assumption | omega) only [↓AFe, AFa, AFc, AFd, eq_self, ↓reduceIte, ↓AU5, ATG]
  have e2 : 97 + n - 10 = 87 + n := by omega
  rw [e2, A8e (by omega)]
  unfold dig; rw [if_neg h1]
theorem Bne {x : UInt8} : AHA 5 .quo (.int .u8 (x.toNat : Int)) (.int .u8 ((16 : Nat) : Int)) = some (.int .u8 ((x.toNat / 16 : Nat) : Int)) := Bl1 (by omega) (by have := x.toNat_lt; omega)
theorem BpT {a b : TV} : ((List.replicate 2 (TV.val (Value.int IntKind.u8 ((0 : Nat) : Int)))).set 0 a).set 1 b = [a, b] := by simp [List.replicate]
theorem BhC (l : List UInt8) (hl : l.length = 20) : AFE Tryz.prog 36 [.arr 20 1 (l.map by8)] (fun r => r = .val (.string (str (AHl l)))) := by
 refine AFk.toPureV (A60 (by simp) ?_)
 simp -dsimp (disch := first | assumption | omega) only [↓AFe, AFa, AFc, AFd, eq_self, Nat.reduceEqDiff, ↓reduceIte, ↓A0M]
 refine AI0 (fun q e H => ∃ (i v : Nat), q = 20 - i ∧ i ≤ 20 ∧ e = [(1, .op 0 0 []), (3, .os 1 1 v [] 0 (2 * i) (2 * i)), (4, i64 (i : Int))] ∧
  H = [.obj 0 (.arr 20 1 (l.map by8)), .obj v (.arr (2 * i) 1 ((AHl (l.take i)).map by8))]) 20 ?_ ?_
 ·exact ⟨0, 0, by simp, by simp, rfl, by simp [AHl]⟩
 ·rintro q e H ⟨i, v, rfl, hi, rfl, rfl⟩
  by_cases h : i < 20
  ·have hg : l[i]? = some l[i] := List.getElem?_eq_getElem (by omega)
   have hsucc := List.take_succ_eq_append_getElem (l := l) (i := i) (by omega)
   have hsn := A3M (l.take i) l[i]
   rw [← hsucc] at hsn
   have hlen : (AHl (l.take i)).length = 2 * i := by rw [AM0, List.length_take]; omega
   generalize hr2 : AHl (l.take (i + 1)) = r2 at *
   generalize AHl (l.take i) = r at *
   generalize l[i] = c at *
   have hc := c.toNat_lt
   have htk : (r.map by8).take (2 * i) = r.map by8 := List.take_of_length_le (by simp [hlen])
   have htk2 : r.take (2 * i) = r := List.take_of_length_le (by omega)
   simp -dsimp (disch := first | assumption | omega) only [↓AFe, AFa, AFc, AFd, eq_self, Nat.reduceEqDiff, ↓reduceIte, ↓A0M, hg, Bne]
   refine Bgs (by8 (dig (c.toNat / 16))) ⟨(Bgt _ (by omega)).calls rfl (fun x hx => ⟨hx, rfl⟩), ?_⟩
   simp -dsimp (disch := first | assumption | omega) only [↓AFe, AFa, AFc, AFd, eq_self, Nat.reduceEqDiff, ↓reduceIte, hg]
   refine (Bgt _ (by omega)).calls rfl ?_
   rintro x rfl
   have t2 : [by8 (dig (c.toNat / 16)), by8 (dig (c.toNat % 16))].take 2 = [by8 (dig (c.toNat / 16)), by8 (dig (c.toNat % 16))] := rfl
   simp -dsimp (disch := first | assumption | omega) only [↓AFe, AFa, AFc, AFd, eq_self, Nat.reduceEqDiff, ↓reduceIte, Nat.reduceAdd, Nat.reduceLeDiff, BpT, htk, t2]
   refine A7g (20 - (i + 1)) 2 (by omega) (by simp) rfl (by simp [AZr, A5I, AMJ]) ⟨i + 1, v + 1, rfl, by omega, ?_, ?_⟩
   ·have : 2 * (i + 1) = 2 * i + 2 := by omega
    rw [this]; rfl
   ·have : 2 * (i + 1) = 2 * i + 2 := by omega
    rw [this, hr2, hsn]; simp
  ·have hi2 : i = 20 := by omega
   subst hi2
   have htl : l.take 20 = l := List.take_of_length_le (by omega)
   have hlen : (AHl l).length = 40 := by rw [AM0]; omega
   rw [htl]
   have htk : ((AHl l).map by8).take (2 * 20) = (AHl l).map by8 := List.take_of_length_le (by simp [hlen])
   have htk2 : (AHl l).take (2 * 20) = AHl l := List.take_of_length_le (by omega)
   simp -dsimp (disch := first | assumption | omega) only [↓AFe, AFa, AFc, AFd, eq_self, Nat.reduceLT, Nat.reduceEqDiff, Nat.reduceMul, ↓reduceIte, ↓A0M, htk]
end Go.Proofs.YtliaddbbmnfioaaGreatDoor


namespace Go.Proofs.YtliaddbbmnfioaaGreatDoor
open Go.RowKit
variable [AFG]
set_option linter.unusedSectionVars false
set_option linter.unusedVariables false
set_option linter.unusedSimpArgs false

/-- What a digit stands for; 16: it is none. -/
def hv (c : UInt8) : Nat := if 48 ≤ c.toNat ∧ c.toNat ≤ 57 then c.toNat - 48 else if 97 ≤ c.toNat ∧ c.toNat ≤ 102 then c.toNat - 87 else 16
theorem Bdc : ∀ n, n < 256 → Lib.indexByte A2v (UInt8.ofNat n) = if hv (UInt8.ofNat n) < 16 then (hv (UInt8.ofNat n) : Int) else -1 := by decide +kernel
theorem Bj9 (c : UInt8) : Lib.indexByte A2v c = if hv c < 16 then (hv c : Int) else -1 := by
 have h := Bdc c.toNat c.toNat_lt
 rwa [UInt8.ofNat_toNat] at h
theorem A8A : ∀ n, n < 16 → hv (dig n) = n := by decide
/-- The bytes that digits stand for, two by two. -/
def AMF : List UInt8 → List UInt8
 | a :: b :: l => UInt8.ofNat (hv a * 16 + hv b) :: AMF l
 | _ => []
def AJd (s : List UInt8) : Bool := decide (s.length = 40) && s.all fun c => decide (hv c < 16)
theorem AM2 : ∀ {n : Nat} {s : List UInt8}, s.length = 2 * n → (AMF s).length = n
 | 0, s, h => by rw [List.length_eq_zero_iff.1 (by omega : s.length = 0)]; rfl
 | n + 1, [], h => by simp at h
 | n + 1, [a], h => by simp at h; omega
 | n + 1, a :: b :: s, h => by
  rw [AMF, List.length_cons, AM2 (n := n) (by simp at h; omega)]
theorem AZ1 : ∀ {n : Nat} {s : List UInt8} {a b : UInt8}, s.length = 2 * n → AMF (s ++ [a, b]) = AMF s ++ [UInt8.ofNat (hv a * 16 + hv b)]
 | 0, s, a, b, h => by rw [List.length_eq_zero_iff.1 (by omega : s.length = 0)]; rfl
 | n + 1, [], a, b, h => by simp at h
 | n + 1, [x], a, b, h => by simp at h; omega
 | n + 1, x :: y :: s, a, b, h => by
  rw [List.cons_append, List.cons_append, AMF, AMF, AZ1 (n := n) (by simp at h; omega), List.cons_append]
theorem A8v {s : List UInt8} {i : Nat} (h : 2 * i + 1 < s.length) : s.take (2 * (i + 1)) = s.take (2 * i) ++ [s[2 * i], s[2 * i + 1]] := by
 have e : 2 * (i + 1) = 2 * i + 1 + 1 := by omega
 rw [e, List.take_succ_eq_append_getElem h, List.take_succ_eq_append_getElem (by omega), List.append_assoc]; rfl
/-- Zeros. -/
def zer (n : Nat) : List UInt8 := List.replicate n 0
theorem A6b : (zer 20).map by8 = List.replicate 20 (TV.val (.int .u8 ((0 : Nat) : Int))) := by simp [zer, by8]
def AHg (s : List UInt8) : List UInt8 := if AJd s then AMF s else zer 20
theorem A8I {l : List UInt8} {n : Nat} {b : UInt8} (h : 0 < n) : ((l ++ zer n).map by8).set l.length (by8 b) = ((l ++ [b]) ++ zer (n - 1)).map by8 := by
 obtain ⟨m, rfl⟩ : ∃ m, n = m + 1 := ⟨n - 1, by omega⟩
 rw [← List.map_set, List.set_append_right _ _ (Nat.le_refl _), Nat.sub_self, Nat.add_sub_cancel]
 simp [zer, List.replicate_succ]

theorem Bgn (l : List UInt8) (c : UInt8) : AFE Tryz.prog 136 [.val (.string (str l)), by8 c] (fun x => x = .val (.int .i64 (Lib.indexByte l c))) := by
 refine AFk.toPureV (AWt (by simp) ?_)
 simp -dsimp (disch := first | assumption | omega) only [↓AFe, AFa, AFc, AFd, eq_self, Nat.reduceEqDiff, ↓reduceIte, Nat.reduceAdd, reduceCtorEq, ↓AOH]
 refine (A7d l c).calls rfl ?_
 rintro x rfl
 simp -dsimp (disch := first | assumption | omega) only [↓AFe, AFa, AFc, AFd, eq_self, ↓reduceIte, ↓AOH]

theorem Bp9 {a b : Nat} (ha : a < 16) (hb : b < 16) : a * 2 ^ 4 ||| b = a * 16 + b := by
 have h := Nat.two_pow_add_eq_or_of_lt (i := 4) (b := b) (by omega) a
 rw [Nat.mul_comm] at h
 rw [← h]
theorem ARA {s : List UInt8} (h : s.length = 40) : AJd s = true ↔ ∀ c ∈ s, hv c < 16 := by
 unfold AJd
 rw [Bool.and_eq_true, List.all_eq_true]
 simp [h]
theorem BkB (s : List UInt8) (hs : s.length ≤ 1000000) : AFE Tryz.prog 105 [.val (.string (str s))] (fun r => r = .tup [.arr 20 1 ((AHg s).map by8), if AJd s then .val .nilIface else eno 12]) := by
 refine AFk.toPureV (A2p (by simp) ?_)
 by_cases h40 : s.length = 40
 case neg =>
  have hok : AJd s = false := by unfold AJd; rw [Bool.and_eq_false_iff]; left; simpa using h40
  unfold AHg
  rw [hok, if_neg (by simp), if_neg (by simp), A6b]
  simp -dsimp (disch := first | assumption | omega) only [↓AFe, AFa, AFc, AFd, eq_self, Nat.reduceEqDiff, ↓reduceIte, reduceCtorEq, ↓AIS, AL1]
  rfl
 simp -dsimp (disch := first | assumption | omega) only [↓AFe, AFa, AFc, AFd, eq_self, Nat.reduceEqDiff, ↓reduceIte, reduceCtorEq, ↓AIS, AL1]
 refine AI0 (fun q e H => ∃ i : Nat, q = 20 - i ∧ i ≤ 20 ∧ (∀ c ∈ s.take (2 * i), hv c < 16) ∧ e = [(0, .val (.string (str s))), (2, .op 0 0 []), (4, .op 1 0 []), (13, i64 (i : Int))] ∧
  H = [.obj 0 (.arr 20 1 ((zer 20).map by8)), .obj 0 (.arr 20 1 ((AMF (s.take (2 * i)) ++ zer (20 - i)).map by8))]) 20 ?_ ?_
 ·exact ⟨0, by simp, by simp, by simp, rfl, rfl⟩
 ·rintro q e H ⟨i, rfl, hi, hall, rfl, rfl⟩
  by_cases h : i < 20
  ·have h1 : 2 * i < s.length := by omega
   have h2 : 2 * i + 1 < s.length := by omega
   have hg1 : s[2 * i]? = some s[2 * i] := List.getElem?_eq_getElem h1
   have hg2 : s[2 * i + 1]? = some s[2 * i + 1] := List.getElem?_eq_getElem h2
   have htw := A8v h2
   have hpl : (AMF (s.take (2 * i))).length = i := AM2 (by rw [List.length_take]; omega)
   have hps := AZ1 (n := i) (s := s.take (2 * i)) (a := s[2 * i]) (b := s[2 * i + 1]) (by rw [List.length_take]; omega)
   rw [← htw] at hps
   have hm1 := List.getElem_mem h1
   have hm2 := List.getElem_mem h2
   have hmem : ∀ c ∈ s.take (2 * (i + 1)), c ∈ s.take (2 * i) ∨ c = s[2 * i] ∨ c = s[2 * i + 1] := by
    intro c hc
    rw [htw, List.mem_append] at hc
    rcases hc with hc | hc
    ·exact .inl hc
    ·simp only [List.mem_cons, List.not_mem_nil, or_false] at hc; exact .inr hc
   generalize s[2 * i] = a at *
   generalize s[2 * i + 1] = b at *
   generalize hP : AMF (s.take (2 * i)) = P at *
   have hsf := A8I (l := P) (n := 20 - i) (b := UInt8.ofNat (hv a * 16 + hv b)) (by omega)
   rw [hpl] at hsf
   have hget : (P ++ zer (20 - i))[i]? = some 0 := by
    rw [List.getElem?_append_right (by omega), hpl, Nat.sub_self]
    unfold zer; rw [List.getElem?_replicate, if_pos (by omega)]
   have hlp : (P ++ zer (20 - i)).length = 20 := by rw [List.length_append, hpl, zer, List.length_replicate]; omega
   simp -dsimp (disch := first | assumption | omega) only [↓AFe, AFa, AFc, AFd, eq_self, Nat.reduceEqDiff, ↓reduceIte, reduceCtorEq, ↓AIS, AL1, hg1]
   refine Bgs (.val (.int .i64 (Lib.indexByte A2v a))) ⟨(Bgn A2v a).calls rfl (fun x hx => ⟨hx, rfl⟩), ?_⟩
   rw [Bj9 a]
   simp -dsimp (disch := first | assumption | omega) only [↓AFe, AFa, AFc, AFd, eq_self, Nat.reduceEqDiff, ↓reduceIte, reduceCtorEq, AL1, hg2]
   refine (Bgn A2v b).calls rfl ?_
   rintro x rfl
   rw [Bj9 b]
   by_cases ha : hv a < 16
   ·rw [if_pos ha]
    by_cases hb : hv b < 16
    ·rw [if_pos hb]
     have ho := Bp9 ha hb
     simp -dsimp (disch := first | assumption | omega) only [↓AFe, AFa, AFc, AFd, eq_self, Nat.reduceEqDiff, Nat.reducePow, ↓reduceIte, Nat.reduceAdd, reduceCtorEq, ho, hget, hsf]
     refine AFO (20 - (i + 1)) (by omega) (by simp) ⟨i + 1, rfl, by omega, fun c hc => ?_, rfl, ?_⟩
     ·rcases hmem c hc with hc | rfl | rfl
      ·exact hall c hc
      ·exact ha
      ·exact hb
     ·rw [hps, show 20 - (i + 1) = 20 - i - 1 from by omega]
    ·rw [if_neg hb]
     have hok : AJd s = false := by
      cases hq : AJd s with
      | false => rfl
      | true => exact absurd ((ARA h40).1 hq b hm2) hb
     unfold AHg
     rw [hok, if_neg (by simp), if_neg (by simp), A6b]
     simp -dsimp (disch := first | assumption | omega) only [↓AFe, AFa, AFc, AFd, eq_self, Nat.reduceEqDiff, ↓reduceIte, reduceCtorEq, ↓AIS]
     rfl
   ·rw [if_neg ha]
    have hok : AJd s = false := by
     cases hq : AJd s with
     | false => rfl
     | true => exact absurd ((ARA h40).1 hq a hm1) ha
    unfold AHg
    rw [hok, if_neg (by simp), if_neg (by simp), A6b]
    simp -dsimp (disch := first | assumption | omega) only [↓AFe, AFa, AFc, AFd, eq_self, Nat.reduceEqDiff, ↓reduceIte, reduceCtorEq, ↓AIS]
    rfl
  ·have hi2 : i = 20 := by omega
   subst hi2
   have htl : s.take (2 * 20) = s := List.take_of_length_le (by omega)
   rw [htl] at hall
   have hok : AJd s = true := (ARA h40).2 hall
   have hpl : (AMF s).length = 20 := AM2 (by omega)
   unfold AHg
   rw [hok, if_pos rfl, if_pos rfl, htl]
   simp -dsimp (disch := first | assumption | omega) only [↓AFe, AFa, AFc, AFd, eq_self, Nat.reduceLT, Nat.reduceEqDiff, Nat.reduceSub, ↓reduceIte, reduceCtorEq, ↓AIS]
   simp [zer]

/-- .. with half a byte at the end. -/
def AYY : List UInt8 → List UInt8
 | a :: b :: l => UInt8.ofNat (hv a * 16 + hv b) :: AYY l
 | [a] => [UInt8.ofNat (hv a)]
 | [] => []
theorem ASO : ∀ {n : Nat} {s : List UInt8}, s.length = 2 * n → AYY s = AMF s
 | 0, s, h => by rw [List.length_eq_zero_iff.1 (by omega : s.length = 0)]; rfl
 | n + 1, [], h => by simp at h
 | n + 1, [a], h => by simp at h; omega
 | n + 1, a :: b :: s, h => by rw [AYY, AMF, ASO (n := n) (by simp at h; omega)]
theorem A0R : ∀ {n : Nat} {s : List UInt8} {a : UInt8}, s.length = 2 * n → AYY (s ++ [a]) = AMF s ++ [UInt8.ofNat (hv a)]
 | 0, s, a, h => by rw [List.length_eq_zero_iff.1 (by omega : s.length = 0)]; rfl
 | n + 1, [], a, h => by simp at h
 | n + 1, [x], a, h => by simp at h; omega
 | n + 1, x :: y :: s, a, h => by rw [List.cons_append, List.cons_append, AYY, AMF, A0R (n := n) (by simp at h; omega), List.cons_append]
theorem BcM {s : List UInt8} {c : UInt8} (h40 : s.length = 40) (hm : c ∈ s) (hc : ¬ hv c < 16) : AJd s = false := by
 cases hq : AJd s with
 | false => rfl
 | true => exact absurd ((ARA h40).1 hq c hm) hc
theorem BlM {c : UInt8} (h1 : 48 ≤ c.toNat) (h2 : c.toNat ≤ 57) : hv c = c.toNat - 48 := by unfold hv; rw [if_pos ⟨h1, h2⟩]
theorem BlH {c : UInt8} (h1 : 97 ≤ c.toNat) (h2 : c.toNat ≤ 102) : hv c = c.toNat - 87 := by unfold hv; rw [if_neg (by omega), if_pos ⟨h1, h2⟩]
theorem Bj1 {c : UInt8} (h1 : ¬ (48 ≤ c.toNat ∧ c.toNat ≤ 57)) (h2 : ¬ (97 ≤ c.toNat ∧ c.toNat ≤ 102)) : hv c = 16 := by unfold hv; rw [if_neg h1, if_neg h2]
/-- The next digit is laid in. -/
theorem Bbj {s : List UInt8} {i : Nat} (h40 : s.length = 40) (h : i < 40) (hall : ∀ c ∈ s.take i, hv c < 16) {n : Nat} (hn : hv s[i] = n) (hn16 : n < 16) :
  ∃ old : UInt8, (AYY (s.take i) ++ zer (20 - (i + 1) / 2))[i / 2]? = some old ∧ ((AYY (s.take i) ++ zer (20 - (i + 1) / 2)).map by8).set (i / 2) (.val (.int .u8 (((old.toNat * 16 % 256 + n) % 256 : Nat) : Int))) = (AYY (s.take (i + 1)) ++ zer (20 - (i + 1 + 1) / 2)).map by8 := by
 have hsucc := List.take_succ_eq_append_getElem (l := s) (i := i) (by omega)
 rcases Nat.mod_two_eq_zero_or_one i with hp | hp
 ·obtain ⟨k, rfl⟩ : ∃ k, i = 2 * k := ⟨i / 2, by omega⟩
  have hl : (s.take (2 * k)).length = 2 * k := by rw [List.length_take]; omega
  have hpl : (AMF (s.take (2 * k))).length = k := AM2 hl
  have e1 : 20 - (2 * k + 1) / 2 = 20 - k := by omega
  have e2 : 2 * k / 2 = k := by omega
  have e3 : 20 - (2 * k + 1 + 1) / 2 = 20 - k - 1 := by omega
  rw [ASO hl, hsucc, A0R hl, e1, e2, e3, hn]
  refine ⟨0, ?_, ?_⟩
  ·rw [List.getElem?_append_right (by omega), hpl, Nat.sub_self]
   unfold zer; rw [List.getElem?_replicate, if_pos (by omega)]
  ·have hsf := A8I (l := AMF (s.take (2 * k))) (n := 20 - k) (b := UInt8.ofNat n) (by omega)
   rw [hpl] at hsf
   have e4 : ((0 : UInt8).toNat * 16 % 256 + n) % 256 = n := by
    have : (0 : UInt8).toNat = 0 := rfl
    rw [this]; omega
   rw [e4, A8e (by omega), hsf]
 ·obtain ⟨k, rfl⟩ : ∃ k, i = 2 * k + 1 := ⟨i / 2, by omega⟩
  have hl0 : (s.take (2 * k)).length = 2 * k := by rw [List.length_take]; omega
  have hpl0 : (AMF (s.take (2 * k))).length = k := AM2 hl0
  have ht0 := List.take_succ_eq_append_getElem (l := s) (i := 2 * k) (by omega)
  have hl : (s.take (2 * (k + 1))).length = 2 * (k + 1) := by rw [List.length_take]; omega
  have htw := A8v (s := s) (i := k) (by omega)
  have hm : s[2 * k] ∈ s.take (2 * k + 1) := by rw [ht0]; exact List.mem_append_right _ (List.mem_singleton.2 rfl)
  have hx := hall _ hm
  have e1 : 20 - (2 * k + 1 + 1) / 2 = 19 - k := by omega
  have e2 : (2 * k + 1) / 2 = k := by omega
  have e3 : 20 - (2 * k + 1 + 1 + 1) / 2 = 19 - k := by omega
  have e5 : s.take (2 * k + 1 + 1) = s.take (2 * (k + 1)) := rfl
  rw [e5, ASO hl, htw, AZ1 hl0, ht0, A0R hl0, e1, e2, e3, hn]
  refine ⟨UInt8.ofNat (hv s[2 * k]), ?_, ?_⟩
  ·rw [List.getElem?_append_left (by simp; omega), List.getElem?_append_right (by omega), hpl0, Nat.sub_self]; rfl
  ·have e4 : ((UInt8.ofNat (hv s[2 * k])).toNat * 16 % 256 + n) % 256 = hv s[2 * k] * 16 + n := by
    rw [UInt8.toNat_ofNat', Nat.mod_eq_of_lt (show hv s[2 * k] < 2 ^ 8 by omega)]; omega
   rw [e4, A8e (by omega), ← List.map_set]
   congr 1
   rw [List.append_assoc, List.set_append_right _ _ (by omega), hpl0, Nat.sub_self, List.append_assoc]
   rfl
theorem Bp5 {i : Nat} (h : i ≤ 40) : AHA 3 .quo (.int .i64 (i : Int)) (.int .i64 ((2 : Nat) : Int)) = some (.int .i64 ((i / 2 : Nat) : Int)) := Ba4 (by omega) (by omega)
theorem Bbv (s : List UInt8) (hs : s.length ≤ 1000000) : AFE Tryz.prog 77 [.val (.string (str s))] (fun r => r = .tup [.arr 20 1 ((AHg s).map by8), tb (AJd s)]) := by
 refine AFk.toPureV (A5n (by simp) ?_)
 by_cases h40 : s.length = 40
 case neg =>
  have hok : AJd s = false := by unfold AJd; rw [Bool.and_eq_false_iff]; left; simpa using h40
  unfold AHg
  rw [hok, if_neg (by simp), A6b]
  simp -dsimp (disch := first | assumption | omega) only [↓AFe, AFa, AFc, AFd, eq_self, Nat.reduceEqDiff, ↓reduceIte, reduceCtorEq, ↓AID, AL1]
  rfl
 simp -dsimp (disch := first | assumption | omega) only [↓AFe, AFa, AFc, AFd, eq_self, Nat.reduceEqDiff, ↓reduceIte, reduceCtorEq, ↓AID, AL1]
 refine AI0 (fun q e H => ∃ i : Nat, q = 40 - i ∧ i ≤ 40 ∧ (∀ c ∈ s.take i, hv c < 16) ∧ e = [(0, .val (.string (str s))), (2, .op 0 0 []), (4, .op 1 0 []), (5, i64 (i : Int))] ∧
  H = [.obj 0 (.arr 20 1 ((zer 20).map by8)), .obj 0 (.arr 20 1 ((AYY (s.take i) ++ zer (20 - (i + 1) / 2)).map by8))]) 40 ?_ ?_
 ·exact ⟨0, by simp, by simp, by simp, rfl, rfl⟩
 ·rintro q e H ⟨i, rfl, hi, hall, rfl, rfl⟩
  by_cases h : i < 40
  ·have hg1 : s[i]? = some s[i] := List.getElem?_eq_getElem (by omega)
   have hsucc := List.take_succ_eq_append_getElem (l := s) (i := i) (by omega)
   have hm := List.getElem_mem (l := s) (n := i) (by omega)
   have hall2 : hv s[i] < 16 → ∀ c ∈ s.take (i + 1), hv c < 16 := by
    intro hx c hc
    rw [hsucc, List.mem_append, List.mem_singleton] at hc
    rcases hc with hc | rfl
    ·exact hall c hc
    ·exact hx
   have hst := fun n => Bbj h40 h hall (n := n)
   have hbad := fun hc => BcM h40 hm hc
   have hd2 := Bp5 (i := i) (by omega)
   have hlt := s[i].toNat_lt
   have hl2 : i / 2 < 20 := by omega
   generalize s[i] = c at *
   by_cases h1 : 48 ≤ c.toNat ∧ c.toNat ≤ 57
   ·obtain ⟨h1, h2⟩ := h1
    have hc := BlM h1 h2
    obtain ⟨old, g1, g2⟩ := hst _ hc (by omega)
    have hol := old.toNat_lt
    simp -dsimp (disch := first | assumption | omega) only [↓AFe, AFa, AFc, AFd, eq_self, Nat.reduceEqDiff, ↓reduceIte, Nat.reduceAdd, reduceCtorEq, ↓AID, AL1, hg1, ATG, hd2, BgD, A1h, g1, g2]
    exact AFO (40 - (i + 1)) (by omega) (by simp) ⟨i + 1, rfl, by omega, hall2 (by omega), rfl, rfl⟩
   ·by_cases h3 : 97 ≤ c.toNat ∧ c.toNat ≤ 102
    ·obtain ⟨h3, h4⟩ := h3
     have hc := BlH h3 h4
     obtain ⟨old, g1, g2⟩ := hst _ hc (by omega)
     have e9 : (c.toNat - 97 + 10) % 256 = c.toNat - 87 := by omega
     simp -dsimp (disch := first | assumption | omega) only [↓AFe, AFa, AFc, AFd, eq_self, Nat.reduceEqDiff, ↓reduceIte, Nat.reduceAdd, reduceCtorEq, ↓AID, AL1, hg1, ATG, hd2, BgD, A1h, e9, g1, g2]
     exact AFO (40 - (i + 1)) (by omega) (by simp) ⟨i + 1, rfl, by omega, hall2 (by omega), rfl, rfl⟩
    ·have hc := Bj1 h1 h3
     have hok := hbad (by omega)
     unfold AHg
     rw [hok, if_neg (by simp), A6b]
     rcases (by omega : c.toNat < 48 ∨ (57 < c.toNat ∧ c.toNat < 97) ∨ 102 < c.toNat) with h5 | ⟨h5, h6⟩ | h5
     ·simp -dsimp (disch := first | assumption | omega) only [↓AFe, AFa, AFc, AFd, eq_self, Nat.reduceEqDiff, ↓reduceIte, reduceCtorEq, ↓AID, AL1, hg1]
      rfl
     ·simp -dsimp (disch := first | assumption | omega) only [↓AFe, AFa, AFc, AFd, eq_self, Nat.reduceEqDiff, ↓reduceIte, reduceCtorEq, ↓AID, AL1, hg1]
      rfl
     ·simp -dsimp (disch := first | assumption | omega) only [↓AFe, AFa, AFc, AFd, eq_self, Nat.reduceEqDiff, ↓reduceIte, reduceCtorEq, ↓AID, AL1, hg1]
      rfl
  ·have hi2 : i = 40 := by omega
   subst hi2
   have htl : s.take 40 = s := List.take_of_length_le (by omega)
   rw [htl] at hall
   have hok : AJd s = true := (ARA h40).2 hall
   have hpl : (AMF s).length = 20 := AM2 (by omega)
   unfold AHg
   rw [hok, if_pos rfl, htl, ASO (n := 20) (by omega)]
   simp -dsimp (disch := first | assumption | omega) only [↓AFe, AFa, AFc, AFd, eq_self, Nat.reduceLT, Nat.reduceEqDiff, Nat.reduceSub, Nat.reduceDiv, ↓reduceIte, Nat.reduceAdd, reduceCtorEq, ↓AID]
   simp [zer, tb]
end Go.Proofs.YtliaddbbmnfioaaGreatDoor


namespace Go.Proofs.YtliaddbbmnfioaaGreatDoor
open Go.RowKit
variable [AFG] [AFg] [AFp] [AFr] [AIJ]
set_option linter.unusedSectionVars false
set_option linter.unusedVariables false
set_option linter.unusedSimpArgs false

theorem A38 (c : UInt8) : ∀ l : List UInt8, Lib.index l [c] = Lib.indexByte l c
 | [] => rfl
 | b :: l => by
  rw [Lib.index, Lib.indexByte, A38 c l]
  by_cases e : b = c
  ·subst e; simp
  ·have h1 : ([c].isPrefixOf (b :: l)) = false := by simp [List.isPrefixOf, Ne.symm e]
   have h2 : (b == c) = false := by simpa using e
   rw [h1, h2]
theorem Bim (s : List UInt8) : Lib.cut s [10] = (match AQb 10 s with | some i => (s.take i, s.drop (i + 1), true) | none => (s, [], false)) := by
 unfold Lib.cut
 rw [A38, A4k]
 cases AQb 10 s with
 | none => simp
 | some i => simp
theorem BeI {H : List Ob} {id : Nat} {x : Ob} (h : H[id]? = some x) : H.set id x = H := by
 apply List.ext_getElem?
 intro i
 rw [List.getElem?_set]
 by_cases e : id = i
 ·subst e
  obtain ⟨h1, h2⟩ := List.getElem?_eq_some_iff.1 h
  rw [if_pos rfl, if_pos h1, h]
 ·rw [if_neg e]
theorem Bm9 {s w : List UInt8} (hs : s.length ≤ 1000000) (hw : w.length ≤ 100) {β : Bool} {id v : Nat} {H : List Ob} (ho : H[id]? = some (.obj v (.agg [ts s, tb β]))) {K : TV → List Ob → Prop}
  (hK : K (.tup [ts (mv w s), tb (!mb w s)]) (H.set id (.obj v (.agg [ts (mr w s), tb β])))) : AFk Tryz.prog 79 [.op id v [], ts w] H K := by
 refine AVe (by simp) ?_
 have hid : id < H.length := (List.getElem?_eq_some_iff.1 ho).1
 simp -dsimp (disch := first | assumption | omega | (simp only [AE8]; done) | (simp only [AE8]; omega)) only [↓AFe, AFa, AFc, AFd, eq_self, Nat.reduceEqDiff, ↓reduceIte, Nat.reduceAdd, reduceCtorEq, ↓AT0, ↓AP0, ho]
 refine (BeB s [10] hs).calls rfl fun x hx => ?_
 subst hx
 rw [Bim]
 have hsame := BeI ho
 unfold mv mr mb AY4 at hK
 have hcp := fun l => A3K l (w ++ [32])
 cases hc : AQb 10 s with
 | none =>
  rw [hc] at hK
  simp only [Option.isNone_none, Bool.not_true] at hK
  rw [hsame] at hK
  simp only
  simp -dsimp (disch := first | assumption | omega | (simp only [AE8]; done) | (simp only [AE8]; omega)) only [↓AFe, AFa, AFc, AFd, eq_self, Nat.reduceEqDiff, ↓reduceIte, reduceCtorEq, ↓AJK, AS4]
  refine (hcp s).calls rfl fun x hx => ?_
  subst hx
  simp -dsimp (disch := first | assumption | omega | (simp only [AE8]; done) | (simp only [AE8]; omega)) only [↓AFe, AFa, AFc, AFd, eq_self, Nat.reduceEqDiff, ↓reduceIte, reduceCtorEq, ↓AHV, ↓AIW]
  exact hK
 | some i =>
  rw [hc] at hK
  simp only at hK ⊢
  simp -dsimp (disch := first | assumption | omega | (simp only [AE8]; done) | (simp only [AE8]; omega)) only [↓AFe, AFa, AFc, AFd, eq_self, Nat.reduceEqDiff, ↓reduceIte, reduceCtorEq, ↓AJK, AS4]
  refine (hcp (s.take i)).calls rfl fun x hx => ?_
  subst hx
  unfold Lib.trimPrefix Lib.hasPrefix
  by_cases hp : (w ++ [32]).isPrefixOf (s.take i) = true
  ·rw [if_pos hp] at hK ⊢
   rw [hp]
   simp only [Option.isNone_some, Bool.not_false] at hK
   simp -dsimp (disch := first | assumption | omega | (simp only [AE8]; done) | (simp only [AE8]; omega)) only [↓AFe, AFa, AFc, AFd, eq_self, Nat.reduceEqDiff, ↓reduceIte, reduceCtorEq, ↓AHV, ↓AIW, ho]
   exact hK
  ·rw [if_neg hp] at hK ⊢
   have hp2 : (w ++ [32]).isPrefixOf (s.take i) = false := Bool.eq_false_iff.2 hp
   rw [hp2]
   simp only [Option.isNone_none, Bool.not_true] at hK
   rw [hsame] at hK
   simp -dsimp (disch := first | assumption | omega | (simp only [AE8]; done) | (simp only [AE8]; omega)) only [↓AFe, AFa, AFc, AFd, eq_self, Nat.reduceEqDiff, ↓reduceIte, reduceCtorEq, ↓AHV, ↓AIW]
   exact hK
theorem Be5 {s w : List UInt8} (hs : s.length ≤ 1000000) (hw : w.length ≤ 100) {β : Bool} {id v : Nat} {H : List Ob} (ho : H[id]? = some (.obj v (.agg [ts s, tb β]))) {K : TV → List Ob → Prop}
  (hK : K (ts (mv w s)) (H.set id (.obj v (.agg [ts (mr w s), tb (β || mb w s)])))) : AFk Tryz.prog 72 [.op id v [], ts w] H K := by
 refine AVq (by simp) ?_
 have hid : id < H.length := (List.getElem?_eq_some_iff.1 ho).1
 simp -dsimp (disch := first | assumption | omega | (simp only [AE8]; done) | (simp only [AE8]; omega)) only [↓AFe, AFa, AFc, AFd, eq_self, Nat.reduceEqDiff, ↓reduceIte, Nat.reduceAdd, reduceCtorEq, ↓AT5, ↓AQA]
 refine AZW (Bm9 hs hw ho ?_)
 have ho2 : (H.set id (.obj v (.agg [ts (mr w s), tb β])))[id]? = some (.obj v (.agg [ts (mr w s), tb β])) := by rw [List.getElem?_set, if_pos rfl, if_pos hid]
 have hset : ∀ x : Ob, (H.set id (.obj v (.agg [ts (mr w s), tb β]))).set id x = H.set id x := fun x => List.set_set ..
 generalize H.set id (.obj v (.agg [ts (mr w s), tb β])) = H1 at *
 cases hb : mb w s with
 | false =>
  rw [hb] at hK
  cases β with
  | false =>
   simp -dsimp (disch := first | assumption | omega | (simp only [AE8]; done) | (simp only [AE8]; omega)) only [↓AFe, AFa, AFc, AFd, eq_self, Nat.reduceEqDiff, ↓reduceIte, Nat.reduceAdd, reduceCtorEq, ↓AGF, ↓AHi, ho2, hset]
   exact hK
  | true =>
   simp -dsimp (disch := first | assumption | omega | (simp only [AE8]; done) | (simp only [AE8]; omega)) only [↓AFe, AFa, AFc, AFd, eq_self, Nat.reduceEqDiff, ↓reduceIte, Nat.reduceAdd, reduceCtorEq, ↓AGF, ↓AHi, ho2, hset]
   exact hK
 | true =>
  rw [hb] at hK
  cases β with
  | false =>
   simp -dsimp (disch := first | assumption | omega | (simp only [AE8]; done) | (simp only [AE8]; omega)) only [↓AFe, AFa, AFc, AFd, eq_self, Nat.reduceEqDiff, ↓reduceIte, Nat.reduceAdd, reduceCtorEq, ↓AGF, ↓AHi, ho2, hset]
   exact hK
  | true =>
   simp -dsimp (disch := first | assumption | omega | (simp only [AE8]; done) | (simp only [AE8]; omega)) only [↓AFe, AFa, AFc, AFd, eq_self, Nat.reduceEqDiff, ↓reduceIte, Nat.reduceAdd, reduceCtorEq, ↓AGF, ↓AHi, ho2, hset]
   exact hK
theorem idV {s x : List UInt8} (hx : x.length ≤ 1000000) {β : Bool} {id v : Nat} {H : List Ob} (ho : H[id]? = some (.obj v (.agg [ts s, tb β]))) {K : TV → List Ob → Prop}
  (hK : K (.arr 20 1 ((AHg x).map by8)) (H.set id (.obj v (.agg [ts s, tb (β || !AJd x)])) ++ [.obj 0 (.arr 20 1 ((AHg x).map by8))] ++ [.obj 0 (.arr 20 1 ((AHg x).map by8))])) : AFk Tryz.prog 71 [.op id v [], ts x] H K := by
 refine AXB (by simp) ?_
 have hid : id < H.length := (List.getElem?_eq_some_iff.1 ho).1
 have hpl : ((AHg x).map by8).length = 20 := by
  unfold AHg
  split
  ·rename_i h
   unfold AJd at h
   simp at h
   rw [List.length_map, AM2 (n := 20) (by omega)]
  ·simp [zer]
 simp -dsimp (disch := first | assumption | omega | (simp only [AE8]; done) | (simp only [AE8]; omega)) only [↓AFe, AFa, AFc, AFd, eq_self, Nat.reduceEqDiff, ↓reduceIte, Nat.reduceAdd, reduceCtorEq, ↓AVM, ↓ATh]
 refine (BkB x hx).calls rfl fun r hr => ?_
 subst hr
 cases hb : AJd x <;> rw [hb] at hK <;> cases β
 all_goals
  simp only [if_true, Bool.false_eq_true, if_false]
  simp -dsimp (disch := first | assumption | omega | (simp only [AE8]; done) | (simp only [AE8]; omega)) only [↓AFe, AFa, AFc, AFd, eq_self, Nat.reduceEqDiff, ↓reduceIte, Nat.reduceAdd, reduceCtorEq, ↓AS1, ↓AVZ, ho]
  exact hK
theorem BhV {s w : List UInt8} (hs : s.length ≤ 1000000) (hw : w.length ≤ 100) {β : Bool} {id v : Nat} {H : List Ob} (ho : H[id]? = some (.obj v (.agg [ts s, tb β]))) {K : TV → List Ob → Prop}
  (hK : ∀ (q : Per) (ok : Bool), (ok = true → AGR q ∧ AJl q = mv w s) → (ok = false → ∀ p, AGR p → AJl p ≠ mv w s) →
   K (AVC q) (H.set id (.obj v (.agg [ts (mr w s), tb (β || mb w s || !ok)])) ++ [.obj 0 (AVC q)] ++ [.obj 0 (AVC q)])) : AFk Tryz.prog 74 [.op id v [], ts w] H K := by
 refine ATl (by simp) ?_
 have hid : id < H.length := (List.getElem?_eq_some_iff.1 ho).1
 have hml := AY3 w s
 simp -dsimp (disch := first | assumption | omega | (simp only [AE8]; done) | (simp only [AE8]; omega)) only [↓AFe, AFa, AFc, AFd, eq_self, Nat.reduceEqDiff, ↓reduceIte, Nat.reduceAdd, reduceCtorEq, ↓AR7, ↓AOP]
 refine AZW (Be5 hs hw (by rw [List.getElem?_append_left hid]; exact ho) ?_)
 rw [List.set_append_left _ _ hid]
 have ho2 : (H.set id (.obj v (.agg [ts (mr w s), tb (β || mb w s)])))[id]? = some (.obj v (.agg [ts (mr w s), tb (β || mb w s)])) := by rw [List.getElem?_set, if_pos rfl, if_pos hid]
 have hset : ∀ x : Ob, (H.set id (.obj v (.agg [ts (mr w s), tb (β || mb w s)]))).set id x = H.set id x := fun x => List.set_set ..
 have hln : (H.set id (.obj v (.agg [ts (mr w s), tb (β || mb w s)]))).length = H.length := List.length_set ..
 have hrp := A7X (mv w s) (by omega)
 generalize mv w s = x at *
 generalize (β || mb w s) = β1 at *
 generalize mr w s = rest at *
 generalize H.set id (.obj v (.agg [ts rest, tb β1])) = H1 at *
 rw [← hln] at hid ⊢
 simp -dsimp (disch := first | assumption | omega | (simp only [AE8]; done) | (simp only [AE8]; omega)) only [↓AFe, AFa, AFc, AFd, eq_self, ↓reduceIte]
 refine hrp.calls rfl fun r hr => ?_
 obtain ⟨q, ok, rfl, h1, h2⟩ : ∃ (q : Per) (ok : Bool), r = .tup [AVC q, tb ok] ∧ (ok = true → AGR q ∧ AJl q = x) ∧ (ok = false → ∀ p, AGR p → AJl p ≠ x) := by
  by_cases h : ∃ p, AGR p ∧ AJl p = x
  ·obtain ⟨p, hp, e⟩ := h
   exact ⟨p, true, hr.1 p hp e, fun _ => ⟨hp, e⟩, fun h => (by cases h)⟩
  ·have h' : ∀ p, AGR p → AJl p ≠ x := fun p hp e => h ⟨p, hp, e⟩
   obtain ⟨q, _, hq⟩ := hr.2 h'
   exact ⟨q, false, hq, fun h => (by cases h), fun _ => h'⟩
 have hK2 := hK q ok h1 h2
 clear hr hrp h1 h2 hK
 cases ok <;> cases β1
 all_goals
  simp -dsimp (disch := first | assumption | omega | (simp only [AE8]; done) | (simp only [AE8]; omega)) only [↓AFe, AFa, AFc, AFd, eq_self, Nat.reduceEqDiff, ↓reduceIte, Nat.reduceAdd, reduceCtorEq, ↓AOu, ↓AR3, ho2, hset]
  exact hK2
theorem BcI {s : List UInt8} {β : Bool} {id v : Nat} {H : List Ob} (ho : H[id]? = some (.obj v (.agg [ts s, tb β]))) {K : TV → List Ob → Prop}
  (hK : K (ts (Lib.trimPrefix s [10])) (H.set id (.obj v (.agg [ts s, tb (β || !Lib.hasPrefix s [10] || !AOv (Lib.trimPrefix s [10]))])))) : AFk Tryz.prog 75 [.op id v []] H K := by
 refine AQQ (by simp) ?_
 have hid : id < H.length := (List.getElem?_eq_some_iff.1 ho).1
 simp -dsimp (disch := first | assumption | omega | (simp only [AE8]; done) | (simp only [AE8]; omega)) only [↓AFe, AFa, AFc, AFd, eq_self, ↓reduceIte, reduceCtorEq, ↓AQe, ↓AOh, ho]
 refine (A3K s [10]).calls rfl fun x hx => ?_
 subst hx
 generalize Lib.trimPrefix s [10] = m at *
 generalize Lib.hasPrefix s [10] = b at *
 have hm := A8N m
 generalize AOv m = g at *
 cases β <;> cases b
 case false.true =>
  simp -dsimp (disch := first | assumption | omega | (simp only [AE8]; done) | (simp only [AE8]; omega)) only [↓AFe, AFa, AFc, AFd, eq_self, Nat.reduceEqDiff, ↓reduceIte, Nat.reduceAdd, reduceCtorEq, ↓AI2, ho]
  refine hm.calls rfl fun x hx => ?_
  subst hx
  cases g
  all_goals
   simp -dsimp (disch := first | assumption | omega | (simp only [AE8]; done) | (simp only [AE8]; omega)) only [↓AFe, AFa, AFc, AFd, eq_self, Nat.reduceEqDiff, ↓reduceIte, Nat.reduceAdd, reduceCtorEq, ↓AJC, ho]
   exact hK
 all_goals
  simp -dsimp (disch := first | assumption | omega | (simp only [AE8]; done) | (simp only [AE8]; omega)) only [↓AFe, AFa, AFc, AFd, eq_self, Nat.reduceEqDiff, ↓reduceIte, Nat.reduceAdd, reduceCtorEq, ↓AI2, ↓AJC, ho]
  simpa using hK
end Go.Proofs.YtliaddbbmnfioaaGreatDoor


namespace Go.Proofs.YtliaddbbmnfioaaGreatDoor
open Go.RowKit
variable [AFG]
set_option linter.unusedSectionVars false
set_option linter.unusedVariables false
set_option linter.unusedSimpArgs false

/-- A builder's row. -/
def Buf (H : List Ob) (r : TV) (l : List UInt8) : Option Nat → Prop
 | none => r = .val (.slice none 0 0) ∧ l = []
 | some j => ∃ v, r = .os 1 j v [] 0 l.length l.length ∧ H[j]? = some (.bld v 5 l)
theorem Buf.wd {H : List Ob} {r : TV} {l : List UInt8} {J : Option Nat} (h : Buf H r l J) : AFo r = 1 := by
 cases J with
 | none => rw [h.1]; rfl
 | some j => obtain ⟨v, e, _⟩ := h; rw [e]; rfl
/-- A way through structs alone. -/
def BcP : List (Nat × Nat) → TV → Bool
 | [], _ => true
 | (i, d) :: p, .agg cs => decide (AFU (cs.take i) = d) && (match cs[i]? with | some c => BcP p c | none => false)
 | _ :: _, _ => false
theorem A2Q {i d : Nat} {p : List (Nat × Nat)} {x : TV} (h : BcP ((i, d) :: p) x = true) : ∃ cs c, x = .agg cs ∧ AFU (cs.take i) = d ∧ cs[i]? = some c ∧ BcP p c = true := by
 cases x with
 | agg cs =>
  simp only [BcP, Bool.and_eq_true, decide_eq_true_eq] at h
  obtain ⟨h1, h2⟩ := h
  cases hc : cs[i]? with
  | none => rw [hc] at h2; cases h2
  | some c => rw [hc] at h2; exact ⟨cs, c, rfl, h1, hc, h2⟩
 | _ => simp [BcP] at h
theorem A53 : ∀ {p : List (Nat × Nat)} {x r : TV}, BcP p x = true → AJ9 p x = some r → ANf p x r = some x
 | [], x, r, _, hg => by rw [ASM] at hg; cases hg; rw [AJi, if_pos rfl]
 | (i, d) :: p, x, r, h, hg => by
  obtain ⟨cs, c, rfl, hd, hc, h'⟩ := A2Q h
  rw [AKo, if_pos hd, hc] at hg
  rw [AJR, if_pos hd, hc, Option.bind_some, A53 h' hg, Option.map_some]
  obtain ⟨hi, rfl⟩ := List.getElem?_eq_some_iff.1 hc
  rw [List.set_getElem_self]
theorem A1W : ∀ {p : List (Nat × Nat)} {x r b : TV}, BcP p x = true → AJ9 p x = some r → AFo b = AFo r → ∃ x', ANf p x b = some x' ∧ BcP p x' = true ∧ AJ9 p x' = some b ∧ ∀ c, AFo c = AFo b → ANf p x' c = ANf p x c
 | [], x, r, b, _, hg, hw => by
  rw [ASM] at hg; cases hg
  refine ⟨b, by rw [AJi, if_pos hw], rfl, rfl, fun c hc => by rw [AJi, AJi, if_pos hc, if_pos (hc.trans hw)]⟩
 | (i, d) :: p, x, r, b, h, hg, hw => by
  obtain ⟨cs, c, rfl, hd, hc, h'⟩ := A2Q h
  rw [AKo, if_pos hd, hc] at hg
  obtain ⟨c', h1, h2, h3, h4⟩ := A1W h' hg hw
  have hi : i < cs.length := (List.getElem?_eq_some_iff.1 hc).1
  have hti : (cs.set i c').take i = cs.take i := by rw [List.take_set_of_le (Nat.le_refl _)]
  refine ⟨.agg (cs.set i c'), by rw [AJR, if_pos hd, hc, Option.bind_some, h1]; rfl, ?_, ?_, fun y hy => ?_⟩
  ·simp [BcP, hti, hd, List.getElem?_set_self hi, h2]
  ·rw [AKo, hti, if_pos hd, List.getElem?_set_self hi]; exact h3
  ·rw [AJR, AJR, hti, if_pos hd, if_pos hd, List.getElem?_set_self hi, hc, Option.bind_some, Option.bind_some, h4 y hy]
   cases ANf p c y with
   | none => rfl
   | some z => simp [List.set_set]
theorem A10 : ∀ {p : List (Nat × Nat)} {x a r b : TV}, BcP p x = true → AJ9 p x = some (.agg [a, r]) → AFo a = 1 → AFo r = 1 → AFo b = 1 → ANf (p ++ [(1, 1)]) x b = ANf p x (.agg [a, b])
 | [], x, a, r, b, _, hg, ha, hr, hb => by
  rw [ASM] at hg; cases hg
  have w1 : AFo (.agg [a, b]) = AFo (.agg [a, r]) := by simp [AFo, AFU, hb, hr]
  have h1 : AFU ([a, r].take 1) = 1 := by simp [AFU, ha]
  rw [AJi, if_pos w1, List.nil_append, AJR, if_pos h1]
  simp [AJi, hb, hr]
 | (i, d) :: p, x, a, r, b, h, hg, ha, hr, hb => by
  obtain ⟨cs, c, rfl, hd, hc, h'⟩ := A2Q h
  rw [AKo, if_pos hd, hc] at hg
  rw [List.cons_append, AJR, AJR, if_pos hd, if_pos hd, hc, Option.bind_some, Option.bind_some, A10 h' hg ha hr hb]
/-- A row is taken into hand: one of its own is there then. -/
theorem BeH {P : Program} {s id ver : Nat} {p0 p : List (Nat × Nat)} {x r : TV} {l : List UInt8} {J : Option Nat} {H : List Ob} {e : Env} {c : AFb} {Q : VEx → Env → List Ob → Prop} (hs : get e s = .op id ver p0) (ho : H[id]? = some (.obj ver x))
  (hg : AJ9 (p0 ++ p) x = some r) (hb : Buf H r l J) (hset : ∀ b, AFo b = 1 → ∃ x', ANf (p0 ++ p) x b = some x') (hself : ANf (p0 ++ p) x r = some x)
  (h : ∀ H' x' j v, ANf (p0 ++ p) x (.os 1 j v [] 0 l.length l.length) = some x' → H'[id]? = some (.obj ver x') → H'[j]? = some (.bld v 5 l) → (∀ i, i < H.length → i ≠ id → H'[i]? = H[i]?) → H.length ≤ H'.length → (J = some j ∨ J = none ∧ j = H.length) → vwp P c Q e H') :
  vwp P (.ownT s p 5 c) Q e H := by
 rw [Bgl, hs]
 simp only [ho, true_and]
 rw [hg]
 have hid : id < H.length := (List.getElem?_eq_some_iff.1 ho).1
 cases J with
 | none =>
  obtain ⟨rfl, rfl⟩ := hb
  obtain ⟨x', hx⟩ := hset (.os 1 H.length 0 [] 0 0 0) rfl
  simp only [hx]
  refine h _ x' H.length 0 hx ?_ ?_ ?_ ?_ (.inr ⟨rfl, rfl⟩)
  ·rw [List.getElem?_append_left (by simpa using hid), List.getElem?_set_self hid]
  ·rw [List.getElem?_append_right (by simp)]; simp
  ·intro i hi hne
   rw [List.getElem?_append_left (by simpa using hi), List.getElem?_set_ne (Ne.symm hne)]
  ·simp
 | some j =>
  obtain ⟨v, rfl, hj⟩ := hb
  exact h H x j v hself ho hj (fun _ _ _ => rfl) (Nat.le_refl _) (.inl rfl)

theorem Bfx {id ver q m : Nat} {T : TypeId} {J : Option Nat} {p : List (Nat × Nat)} {x a r : TV} {l s : List UInt8} {H : List Ob} {K : TV → List Ob → Prop} (ho : H[id]? = some (.obj ver x)) (hp : BcP p x = true) (hg : AJ9 p x = some (.agg [a, r])) (ha : AXH id ver p a) (hb : Buf H r l J)
  (hq : H[q]? = some (.fact id ver T m)) (hT : A4q T m (AGT p)) (hlen : l.length + s.length ≤ 140737488355328)
  (hk : ∀ H' x' r' j, ANf p x (.agg [.op id ver p, r']) = some x' → H'[id]? = some (.obj ver x') → Buf H' r' (l ++ s) (some j) → (∀ i, i < H.length → i ≠ id → J ≠ some i → H'[i]? = H[i]?) → H.length ≤ H'.length → (J = some j ∨ J = none ∧ j = H.length) → K (.tup [i64 (s.length : Int), .val .nilIface]) H') :
  AFk Tryz.prog 61 [.op id ver p, .val (.string (str s))] H K := by
 refine AMY (by simp) ?_
 have wa := AL4 ha
 have wr := hb.wd
 have hgr : AJ9 (p ++ [(1, 1)]) x = some r := by
  rw [A5p, hg, Option.bind_some, AKo, if_pos (by simp [AFU, wa])]; rfl
 rw [AIw]
 refine BeH (p0 := p) (p := [(1, 1)]) rfl ho hgr hb ?_ ?_ ?_
 ·intro b wb
  rw [A10 hp hg wa wr wb]
  obtain ⟨x', h1, _⟩ := A1W (b := .agg [a, b]) hp hg (by simp [AFo, AFU, wb, wr])
  exact ⟨x', h1⟩
 ·rw [A10 hp hg wa wr wr]; exact A53 hp hg
 intro H1 x1 j v hs1 ho1 hj1 hfr hl1 hJ
 rw [A10 hp hg wa wr rfl] at hs1
 obtain ⟨x1', e1, hp1, hg1, hov⟩ := A1W (b := .agg [a, .os 1 j v [] 0 l.length l.length]) hp hg (by simp [AFo, AFU, wr])
 rw [hs1] at e1; cases e1
 obtain ⟨x2, hs2, _⟩ := A1W (b := .agg [.op id ver p, .os 1 j v [] 0 l.length l.length]) hp1 hg1 (by simp [AFo, AFU, wa])
 have hne : id ≠ j := fun e => by rw [e] at ho1; rw [hj1] at ho1; cases ho1
 have hqid : q ≠ id := fun e => by rw [e] at hq; rw [ho] at hq; cases hq
 have hq1 : H1[q]? = some (.fact id ver T m) := by rw [hfr q ((List.getElem?_eq_some_iff.1 hq).1) hqid]; exact hq
 simp -dsimp (disch := first | assumption | omega) only [↓AFe, AFa, AFc, AFd, eq_self, Nat.reduceEqDiff, ↓reduceIte, Nat.reduceAdd, reduceCtorEq, ↓AIQ]
 refine A3I ho1 hg1 rfl ha hq1 hT hs2 rfl ?_
 have hid : id < H1.length := (List.getElem?_eq_some_iff.1 ho1).1
 have hjl : j < H1.length := (List.getElem?_eq_some_iff.1 hj1).1
 obtain ⟨g1, x'', g2, g3⟩ := A4w (b' := .os 1 j (v + 1) [] 0 (l ++ s).length (l ++ s).length) wa (by rfl) (by rfl) (by rfl) (by rfl) hg1 hs2
 have f1 : (H1.set id (.obj ver x2))[id]? = some (.obj ver x2) := by simp [hid]
 have f2 : (H1.set id (.obj ver x2))[j]? = some (.bld v 5 l) := by rw [List.getElem?_set_ne hne]; exact hj1
 have f3 : ((H1.set id (.obj ver x2)).set j (.bld (v + 1) 5 (l ++ s)))[id]? = some (.obj ver x2) := by rw [List.getElem?_set_ne (Ne.symm hne)]; exact f1
 have f4 : ((H1.set id (.obj ver x2)).set j (.bld (v + 1) 5 (l ++ s))).set id (.obj ver x'') = (H1.set id (.obj ver x'')).set j (.bld (v + 1) 5 (l ++ s)) := by
  rw [List.set_comm _ _ hne, List.set_set, List.set_comm _ _ hne.symm]
 have e1 : (l ++ s).length = l.length + s.length := by simp
 rw [e1] at g2
 rw [hov _ (by simp [AFo, AFU, wa])] at g3
 have hk' := hk ((H1.set id (.obj ver x'')).set j (.bld (v + 1) 5 (l ++ s))) x'' _ j g3 (by rw [List.getElem?_set_ne (Ne.symm hne)]; simp [hid]) ⟨v + 1, rfl, by simp [hjl]⟩ (fun i hi h1 h2 => by
  have hij : j ≠ i := by
   rcases hJ with e | ⟨_, e⟩
   ·exact fun h => h2 (h ▸ e)
   ·omega
  rw [List.getElem?_set_ne hij, List.getElem?_set_ne (Ne.symm h1), hfr i hi h1]) (by simpa using hl1) hJ
 have bls : bl (str s) = s := by simp [bl, str]
 simp -dsimp (disch := first | assumption | omega) only [↓AFe, AFa, AFc, AFd, eq_self, Nat.reduceEqDiff, ↓reduceIte, reduceCtorEq, ↓AIQ, f1, f2, f3, f4, g1, g2, bls, hlen]
 exact hk'
end Go.Proofs.YtliaddbbmnfioaaGreatDoor


namespace Go.Proofs.YtliaddbbmnfioaaGreatDoor
open Go.RowKit
variable [AFG]
set_option linter.unusedSectionVars false
set_option linter.unusedVariables false
set_option linter.unusedSimpArgs false

/-- A builder at the beginning. -/
structure LO (H : List Ob) (l : List UInt8) : Prop where
 ex : ∃ a r, H[0]? = some (.obj 0 (.agg [a, r])) ∧ AXH 0 0 [] a ∧ Buf H r l (some 2)
 fact : H[1]? = some (.fact 0 0 118 2)
theorem LO.len {H : List Ob} {l : List UInt8} (O : LO H l) : 3 ≤ H.length := by
 obtain ⟨⟨a, r, h1, h2, v, rfl, h3⟩, h4⟩ := O
 have := (List.getElem?_eq_some_iff.1 h3).1; omega
theorem loV {H : List Ob} {l s : List UInt8} {K : TV → List Ob → Prop} (O : LO H l) (hlen : l.length + s.length ≤ 140737488355328)
  (hk : ∀ H', LO H' (l ++ s) → H.length ≤ H'.length → K (.tup [i64 (s.length : Int), .val .nilIface]) H') :
  AFk Tryz.prog 61 [.op 0 0 [], ts s] H K := by
 obtain ⟨⟨a, r, h2, ha, hb⟩, hf⟩ := O
 have wa := AL4 ha
 refine Bfx (q := 1) h2 rfl rfl ha hb hf Bmj hlen ?_
 intro H' x' r' j hs ho hb' hfr hl hJ
 have hx : x' = .agg [.op 0 0 [], r'] := by
  rw [AJi, if_pos (by simp [AFo, AFU, hb'.wd, wa, hb.wd])] at hs
  exact (Option.some.inj hs).symm
 subst hx
 have hj : j = 2 := by
  rcases hJ with h | ⟨h, _⟩
  ·exact (Option.some.inj h).symm
  ·cases h
 subst hj
 have hf' := hfr 1 (List.getElem?_eq_some_iff.1 hf).1 (by omega) (by simp)
 exact hk H' ⟨⟨_, _, ho, .inr rfl, hb'⟩, hf'.trans hf⟩ hl
def AHO : List (List UInt8) → List UInt8
 | a :: b :: r => (a ++ [32] ++ b ++ [10]) ++ AHO r
 | _ => []
theorem A3P {a b : List UInt8} : ∀ {k : Nat} {p : List (List UInt8)}, p.length = 2 * k → AHO (p ++ [a, b]) = AHO p ++ (a ++ [32] ++ b ++ [10])
 | 0, p, h => by
  have : p = [] := List.eq_nil_of_length_eq_zero h
  subst this
  simp [AHO]
 | k + 1, x :: y :: p, h => by
  have := A3P (a := a) (b := b) (k := k) (p := p) (by simp at h; omega)
  simp only [List.cons_append, AHO, this]
  simp
 | k + 1, [x], h => by simp at h; omega
 | k + 1, [], h => by simp at h
theorem A2b : ∀ {l : List (List UInt8)} {M : Nat}, (∀ x ∈ l, x.length ≤ M) → (AHO l).length ≤ l.length * (M + 2)
 | [], M, h => by simp [AHO]
 | [a], M, h => by simp [AHO]
 | a :: b :: r, M, h => by
  have h1 := h a (by simp)
  have h2 := h b (by simp)
  have := A2b (l := r) (M := M) (fun x hx => h x (by simp [hx]))
  simp only [AHO, List.length_append, List.length_cons, List.length_nil]
  have e : (r.length + 1 + 1) * (M + 2) = r.length * (M + 2) + (M + 2) + (M + 2) := by rw [Nat.add_mul, Nat.add_mul]; omega
  rw [e]
  omega
theorem Bj7 (l : List (List UInt8)) {k : Nat} (hk : l.length = 2 * k) (hk2 : k ≤ 1000) (hl : ∀ x ∈ l, x.length ≤ 1000000) : AFE Tryz.prog 29 [.sl 1 (l.map ts)] (fun r => r = ts (AHO l)) := by
 refine AFk.toPureV (A16 (by simp) ?_)
 simp -dsimp (disch := first | assumption | omega | (simp only [AE8]; done) | (simp only [AE8]; omega)) only [↓AFe, AFa, AFc, AFd, eq_self, Nat.reduceEqDiff, ↓reduceIte, Nat.reduceAdd, reduceCtorEq, ↓APX]
 refine AI0 (fun q e H => ∃ i : Nat, q = k - i ∧ i ≤ k ∧ LO H (AHO (l.take (2 * i))) ∧ e = [(0, .sl 1 (l.map ts)), (3, .op 0 0 []), (4, i64 ((2 * i : Nat) : Int))]) k ?_ ?_
 ·exact ⟨0, rfl, by omega, ⟨⟨_, _, rfl, .inl rfl, _, rfl, rfl⟩, rfl⟩, rfl⟩
 ·rintro q e H ⟨i, rfl, hi, O, rfl⟩
  by_cases h : i < k
  ·have h1 : 2 * i < l.length := by omega
   have h2 : 2 * i + 1 < l.length := by omega
   have g1 : l[2 * i]? = some l[2 * i] := List.getElem?_eq_getElem h1
   have g2 : l[2 * i + 1]? = some l[2 * i + 1] := List.getElem?_eq_getElem h2
   have b1 := hl _ (List.mem_of_getElem? g1)
   have b2 := hl _ (List.mem_of_getElem? g2)
   have e2 : l.take (2 * (i + 1)) = l.take (2 * i) ++ [l[2 * i], l[2 * i + 1]] := by
    rw [show 2 * (i + 1) = 2 * i + 1 + 1 by omega, List.take_succ_eq_append_getElem h2, List.take_succ_eq_append_getElem h1, List.append_assoc]
    rfl
   have hsn := A3P (a := l[2 * i]) (b := l[2 * i + 1]) (k := i) (p := l.take (2 * i)) (by simp; omega)
   rw [← e2] at hsn
   have hll := A2b (l := l.take (2 * i)) (M := 1000000) (fun x hx => hl x (List.mem_of_mem_take hx))
   have hll2 : (l.take (2 * i)).length ≤ 2000 := by simp; omega
   generalize l[2 * i] = a at *
   generalize l[2 * i + 1] = b at *
   have hab : (a ++ [32] ++ b ++ [10]).length ≤ 2000002 := by simp; omega
   simp -dsimp (disch := first | assumption | omega | (simp only [AE8]; done) | (simp only [AE8]; omega)) only [↓AFe, AFa, AFc, AFd, eq_self, Nat.reduceEqDiff, ↓reduceIte, reduceCtorEq, ↓APX, g1, g2, AS4]
   refine AZW (loV O (by omega) fun H' O' hle => ?_)
   rw [← hsn] at O'
   simp -dsimp (disch := first | assumption | omega | (simp only [AE8]; done) | (simp only [AE8]; omega)) only [↓AFe, AFa, AFc, AFd, eq_self, Nat.reduceEqDiff, ↓reduceIte, Nat.reduceAdd, reduceCtorEq]
   exact AFO (k - (i + 1)) (by omega) O'.len ⟨i + 1, rfl, by omega, O', rfl⟩
  ·have hik : i = k := by omega
   subst hik
   have ht : l.take (2 * i) = l := List.take_of_length_le (by omega)
   rw [ht] at O
   obtain ⟨⟨a, r, h2, ha, hb⟩, hf⟩ := O
   have wa := AL4 ha
   obtain ⟨v, rfl, hj⟩ := hb
   have hbs := Bcs
   have hll := A2b (l := l) (M := 1000000) hl
   have hll2 : (AHO l).length ≤ 9223372036854775807 := by omega
   simp -dsimp (disch := first | assumption | omega | (simp only [AE8]; done) | (simp only [AE8]; omega)) only [↓AFe, AFa, AFc, AFd, eq_self, Nat.reduceEqDiff, ↓reduceIte, reduceCtorEq, ↓APX, hbs, h2, hj]
end Go.Proofs.YtliaddbbmnfioaaGreatDoor


namespace Go.Proofs.YtliaddbbmnfioaaGreatDoor
open Go.RowKit
variable [AFG] [AFg] [AFp] [AFr] [AIJ] [AFq]
set_option linter.unusedSectionVars false
set_option linter.unusedVariables false
set_option linter.unusedSimpArgs false

/-- A tag. -/
structure A7o where
 id : List UInt8
 kind : Int
 name : List UInt8
 who : Per
 msg : List UInt8
abbrev tgT (t : A7o) : TV := .agg [.arr 20 1 (t.id.map by8), i64 t.kind, ts t.name, AVC t.who, ts t.msg]
def A5r (t : A7o) : Prop := t.id.length = 20 ∧ AGS t.kind ≠ none ∧ AGR t.who ∧ AMP t.name = true ∧ AOv t.msg = true
def tgB (t : A7o) : List UInt8 := A3W (AHl t.id) ((AGS t.kind).getD []) t.name (AJl t.who) t.msg
def A8Q (t : A7o) : Prop := t.id.length = 20 ∧ (-9223372036854775808 ≤ t.kind ∧ t.kind ≤ 9223372036854775807) ∧ ANp t.who ∧ t.name.length ≤ 1000000
/-- What WriteTag says. -/
def BlG (t : A7o) (r : TV) : Prop := (A5r t → r = .tup [slB (tgB t), .val .nilIface]) ∧ (¬ A5r t → r = .tup [.val (.slice none 0 0), eno 23])
theorem Bed {x k n p m : List UInt8} : AHO [AGY, x, AMk, k, A1Q, n, AGK, p] ++ [10] ++ m = A3W x k n p m := by
 simp [AHO, A3W]
theorem A4y {p : Per} (h : AGR p) : (AJl p).length ≤ 200 := by
 obtain ⟨n, m, t, z⟩ := p
 obtain ⟨h1, h2, h3, h4, _⟩ := h
 simp only at h3 h4
 have e1 := Bfb t.toNat
 have e2 := Lib.nDigits_le20 t.toNat (by omega)
 have a := h1.1
 have b := h2.1
 simp only at *
 rw [AYG]
 simp only [List.length_append, List.length_cons, List.length_nil, AU2]
 omega
theorem Bp0 {a b c d e f g h z : TV} : (((((((((List.replicate 8 z).set 0 a).set 1 b).set 2 c).set 3 d).set 4 e).set 5 f).set 6 g).set 7 h) = [a, b, c, d, e, f, g, h] := rfl
theorem BaI (t : A7o) (hf : A8Q t) : AUt Tryz.prog 7 [tgT t] (BlG t) := by
 refine AFk.toFreshV (AZs (by simp) ?_)
 obtain ⟨id, k, n, p, m⟩ := t
 obtain ⟨h20, ⟨hk1, hk2⟩, hp, hnl⟩ := hf
 have hkn := Bam k hk1 hk2
 have hwp := AUI p hp
 have htn := Bgu n hnl
 have hmm := A8N m
 have hhx := BpY id h20
 unfold BlG A5r tgB
 simp only at *
 cases hkk : AGS k with
 | none =>
  simp -dsimp (disch := first | assumption | omega | (simp only [AE8]; done) | (simp only [AE8]; omega)) only [↓AFe, AFa, AFc, AFd, eq_self, Nat.reduceEqDiff, ↓reduceIte, Nat.reduceAdd, ↓AOF, ↓ALR]
  refine hkn.calls rfl fun r hr => ?_
  rw [hr.2 hkk]
  simp -dsimp (disch := first | assumption | omega | (simp only [AE8]; done) | (simp only [AE8]; omega)) only [↓AFe, AFa, AFc, AFd, eq_self, Nat.reduceEqDiff, ↓reduceIte, Nat.reduceAdd, ↓ALF]
  refine hwp.calls rfl fun r hr => ?_
  obtain ⟨tx, ok, rfl⟩ : ∃ tx ok, r = .tup [ts tx, tb ok] := by
   by_cases h : AGR p
   ·exact ⟨_, _, hr.1 h⟩
   ·exact ⟨_, _, hr.2 h⟩
  simp -dsimp (disch := first | assumption | omega | (simp only [AE8]; done) | (simp only [AE8]; omega)) only [↓AFe, AFa, AFc, AFd, eq_self, Nat.reduceEqDiff, ↓reduceIte, ↓AIV, ↓AHc]
  exact ⟨fun h => absurd rfl h.2.1, fun _ => by trivial⟩
 | some kn =>
  simp -dsimp (disch := first | assumption | omega | (simp only [AE8]; done) | (simp only [AE8]; omega)) only [↓AFe, AFa, AFc, AFd, eq_self, Nat.reduceEqDiff, ↓reduceIte, Nat.reduceAdd, ↓AOF, ↓ALR]
  refine hkn.calls rfl fun r hr => ?_
  rw [hr.1 kn hkk]
  simp -dsimp (disch := first | assumption | omega | (simp only [AE8]; done) | (simp only [AE8]; omega)) only [↓AFe, AFa, AFc, AFd, eq_self, Nat.reduceEqDiff, ↓reduceIte, Nat.reduceAdd, ↓ALF]
  refine hwp.calls rfl fun r hr => ?_
  by_cases hok : AGR p
  case neg =>
   rw [hr.2 hok]
   simp -dsimp (disch := first | assumption | omega | (simp only [AE8]; done) | (simp only [AE8]; omega)) only [↓AFe, AFa, AFc, AFd, eq_self, Nat.reduceEqDiff, ↓reduceIte, ↓AIV, ↓AHc]
   exact ⟨fun h => absurd h.2.2.1 hok, fun _ => by trivial⟩
  rw [hr.1 hok]
  have hpl := A4y hok
  simp -dsimp (disch := first | assumption | omega | (simp only [AE8]; done) | (simp only [AE8]; omega)) only [↓AFe, AFa, AFc, AFd, eq_self, Nat.reduceEqDiff, ↓reduceIte, Nat.reduceAdd, ↓AIV]
  refine htn.calls rfl fun r hr => ?_
  subst hr
  cases hg : AMP n with
  | false =>
   simp -dsimp (disch := first | assumption | omega | (simp only [AE8]; done) | (simp only [AE8]; omega)) only [↓AFe, AFa, AFc, AFd, eq_self, Nat.reduceEqDiff, ↓reduceIte, ↓AHc]
   exact ⟨fun h => (by cases h.2.2.2.1), fun _ => by trivial⟩
  | true =>
   simp -dsimp (disch := first | assumption | omega | (simp only [AE8]; done) | (simp only [AE8]; omega)) only [↓AFe, AFa, AFc, AFd, eq_self, Nat.reduceEqDiff, ↓reduceIte, Nat.reduceAdd]
   refine hmm.calls rfl fun r hr => ?_
   subst hr
   cases hm : AOv m with
   | false =>
    simp -dsimp (disch := first | assumption | omega | (simp only [AE8]; done) | (simp only [AE8]; omega)) only [↓AFe, AFa, AFc, AFd, eq_self, Nat.reduceEqDiff, ↓reduceIte, ↓AHc]
    exact ⟨fun h => h.2.2.2.elim, fun _ => by trivial⟩
   | true =>
    simp -dsimp (disch := first | assumption | omega | (simp only [AE8]; done) | (simp only [AE8]; omega)) only [↓AFe, AFa, AFc, AFd, eq_self, Nat.reduceEqDiff, ↓reduceIte, ↓AT6]
    refine ⟨_, hhx.calls rfl fun r hr => ⟨hr, rfl⟩, ?_⟩
    simp -dsimp (disch := first | assumption | omega | (simp only [AE8]; done) | (simp only [AE8]; omega)) only [↓AFe, AFa, AFc, AFd, eq_self, Nat.reduceEqDiff, ↓reduceIte, Nat.reduceAdd, Nat.reduceLeDiff]
    have hkl := (AOo hkk).2.2
    have hn60 := (AVE.1 hg).2.1
    have hm2 : m.length ≤ 2000 := by unfold AOv at hm; simp at hm; exact hm.1
    have hhl : (AHl id).length = 40 := by rw [AM0]; omega
    rw [Bp0]
    have hlv := Bj7 [AGY, AHl id, AMk, kn, A1Q, n, AGK, AJl p] (k := 4) rfl (by omega) (by
     intro x hx
     simp only [List.mem_cons, List.not_mem_nil, or_false] at hx
     rcases hx with rfl | rfl | rfl | rfl | rfl | rfl | rfl | rfl
     ·decide
     ·omega
     ·decide
     ·omega
     ·decide
     ·omega
     ·decide
     ·omega)
    refine ⟨_, hlv.calls rfl fun r hr => ⟨hr, rfl⟩, ?_⟩
    have htl := Bed (x := AHl id) (k := kn) (n := n) (p := AJl p) (m := m)
    have hll : (AHO [AGY, AHl id, AMk, kn, A1Q, n, AGK, AJl p]).length ≤ 100000 := by
     simp only [AHO, List.length_append, List.length_cons, List.length_nil, AGY, AMk, A1Q, AGK]
     omega
    generalize AHO [AGY, AHl id, AMk, kn, A1Q, n, AGK, AJl p] = LT at *
    simp -dsimp (disch := first | assumption | omega | (simp only [AE8]; done) | (simp only [AE8]; omega)) only [↓AFe, AFa, AFc, AFd, eq_self, Nat.reduceEqDiff, ↓reduceIte, Nat.reduceAdd, AS4]
    have hrs : (LT ++ [10] ++ m).length ≤ 1000000 := by simp; omega
    rw [htl] at hrs ⊢
    have htk : ∀ x : List UInt8, (x.map by8).take x.length = x.map by8 := fun x => List.take_of_length_le (by simp)
    simp only [Option.getD_some]
    simp -dsimp (disch := first | assumption | omega | (simp only [AE8]; done) | (simp only [AE8]; omega)) only [↓AFe, AFa, AFc, AFd, eq_self, Nat.reduceEqDiff, ↓reduceIte, AFi, htk, ↓AHc]
    refine ⟨fun _ => by trivial, fun h => ?_⟩
    exact absurd ⟨h20, by simp, hok⟩ h
end Go.Proofs.YtliaddbbmnfioaaGreatDoor


namespace Go.Proofs.YtliaddbbmnfioaaGreatDoor
open Go.RowKit
variable [AFG]
set_option linter.unusedSectionVars false
set_option linter.unusedVariables false
set_option linter.unusedSimpArgs false

theorem A6T : ∀ (l : List UInt8), AMF (AHl l) = l
 | [] => rfl
 | x :: l => by
  have e : AHl (x :: l) = dig (x.toNat / 16) :: dig (x.toNat % 16) :: AHl l := rfl
  have hx := x.toNat_lt
  rw [e, AMF, A6T l, A8A _ (by omega), A8A _ (by omega)]
  have : x.toNat / 16 * 16 + x.toNat % 16 = x.toNat := by omega
  rw [this, UInt8.ofNat_toNat]
theorem Bby {l : List UInt8} (h : l.length = 20) : AJd (AHl l) = true := by
 rw [ARA (by rw [AM0]; omega)]
 intro c hc
 obtain ⟨x, _, hc⟩ := List.mem_flatMap.1 hc
 have hx := x.toNat_lt
 simp only [List.mem_cons, List.not_mem_nil, or_false] at hc
 rcases hc with rfl | rfl
 ·rw [A8A _ (by omega)]; omega
 ·rw [A8A _ (by omega)]; omega
theorem A4a {l : List UInt8} (h : l.length = 20) : AHg (AHl l) = l := by
 unfold AHg; rw [Bby h, if_pos rfl, A6T]
theorem A0v {s : List UInt8} : (AHg s).length = 20 := by
 unfold AHg
 split
 ·rename_i h
  unfold AJd at h
  rw [Bool.and_eq_true, decide_eq_true_eq] at h
  exact AM2 (by omega)
 ·simp [zer]
theorem A9E : ∀ n, n < 256 → hv (UInt8.ofNat n) < 16 → dig (hv (UInt8.ofNat n)) = UInt8.ofNat n := by decide +kernel
theorem Bgy {c : UInt8} (h : hv c < 16) : dig (hv c) = c := by
 have := A9E c.toNat c.toNat_lt
 rw [UInt8.ofNat_toNat] at this
 exact this h
theorem A6U : ∀ {n : Nat} {s : List UInt8}, s.length = 2 * n → (∀ c ∈ s, hv c < 16) → AHl (AMF s) = s
 | 0, s, h, _ => by rw [List.length_eq_zero_iff.1 (by omega : s.length = 0)]; rfl
 | n + 1, [], h, _ => by simp at h
 | n + 1, [a], h, _ => by simp at h; omega
 | n + 1, a :: b :: s, h, ha => by
  have h1 := ha a (by simp)
  have h2 := ha b (by simp)
  have ih := A6U (n := n) (s := s) (by simp at h; omega) (fun c hc => ha c (by simp [hc]))
  have e : AHl (UInt8.ofNat (hv a * 16 + hv b) :: AMF s) = dig ((UInt8.ofNat (hv a * 16 + hv b)).toNat / 16) :: dig ((UInt8.ofNat (hv a * 16 + hv b)).toNat % 16) :: AHl (AMF s) := rfl
  rw [AMF, e, ih, UInt8.toNat_ofNat']
  have e1 : (hv a * 16 + hv b) % 2 ^ 8 / 16 = hv a := by omega
  have e2 : (hv a * 16 + hv b) % 2 ^ 8 % 16 = hv b := by omega
  rw [e1, e2, Bgy h1, Bgy h2]
theorem A93 {s : List UInt8} (h : AJd s = true) : AHl (AHg s) = s := by
 unfold AHg
 rw [if_pos h]
 unfold AJd at h
 simp only [Bool.and_eq_true, decide_eq_true_eq, List.all_eq_true] at h
 exact A6U (n := 20) (by omega) h.2
theorem A4u (l : List UInt8) : 10 ∉ AHl l := by
 intro h
 obtain ⟨x, _, hc⟩ := List.mem_flatMap.1 h
 have hx := x.toNat_lt
 have key : ∀ n, n < 16 → (10 : UInt8) ≠ dig n := by decide
 simp only [List.mem_cons, List.not_mem_nil, or_false] at hc
 rcases hc with hc | hc
 ·exact key _ (by omega) hc
 ·exact key _ (by omega) hc
theorem A0Q {k : Int} {n : List UInt8} (h : AGS k = some n) : 10 ∉ n := by
 rw [AGw] at h
 rcases h with ⟨_, rfl⟩ | ⟨_, rfl⟩ | ⟨_, rfl⟩ | ⟨_, rfl⟩ <;> decide
theorem A5R {k j : Int} {n : List UInt8} (h : AGS k = some n) (h' : AGS j = some n) : k = j := by
 rw [AGw] at h h'
 rcases h with ⟨rfl, rfl⟩ | ⟨rfl, rfl⟩ | ⟨rfl, rfl⟩ | ⟨rfl, rfl⟩ <;> rcases h' with ⟨rfl, h⟩ | ⟨rfl, h⟩ | ⟨rfl, h⟩ | ⟨rfl, h⟩ <;> first | rfl | cases h
theorem A0f {s : List UInt8} (h : AMP s = true) : 10 ∉ s := by
 unfold AMP at h
 rw [Bool.and_eq_true, List.all_eq_true] at h
 exact fun hm => absurd (h.2 _ hm) (by decide)
theorem A8Z {p q : Per} (hp : AGR p) (hq : AGR q) (h : AJl p = AJl q) : p = q := by
 obtain ⟨a1, a2, a3, a4⟩ := A4p hp
 obtain ⟨b1, b2, b3, b4⟩ := A4p hq
 rw [h, b1] at a1
 simp only [Prod.mk.injEq, and_true] at a1
 obtain ⟨e1, e2⟩ := a1
 rw [← e2, b2] at a2
 simp only [Prod.mk.injEq, and_true] at a2
 obtain ⟨e3, e4⟩ := a2
 rw [← e4, b3] at a3
 simp only [Prod.mk.injEq, and_true] at a3
 obtain ⟨e5, e6⟩ := a3
 rw [← e5, b4] at a4
 have e7 := Option.some.inj a4
 unfold AIH at e6
 obtain ⟨e8, e9⟩ := List.cons.inj e6
 obtain ⟨_, _, p1, p2, p3, p4⟩ := hp
 obtain ⟨_, _, q1, q2, q3, q4⟩ := hq
 have z1 := A4H (show p.zone.natAbs ≤ 840 by omega)
 have z2 := A4H (show q.zone.natAbs ≤ 840 by omega)
 rw [← e9, z2] at z1
 have z3 := Option.some.inj z1
 have z4 : q.zone.natAbs = p.zone.natAbs := by
  have y1 := A2R (z := p.zone.natAbs)
  have y2 := A2R (z := q.zone.natAbs)
  rw [← z3] at y1
  omega
 obtain ⟨pn, pm, pt, pz⟩ := p
 obtain ⟨qn, qm, qt, qz⟩ := q
 simp only at *
 have hz : pz = qz := by
  unfold AY8 at e8
  split at e8 <;> split at e8 <;> first | omega | cases e8
 have ht : pt = qt := by omega
 rw [e1, e3, hz, ht]
theorem A9R {r : List UInt8} : Lib.hasPrefix r [10] = true → r = 10 :: Lib.trimPrefix r [10] := by
 intro h
 unfold Lib.trimPrefix
 rw [if_pos h]
 unfold Lib.hasPrefix at h
 rw [List.isPrefixOf_iff_prefix] at h
 obtain ⟨t, rfl⟩ := h
 rfl
theorem Bem {m : List UInt8} : Lib.hasPrefix (10 :: m) [10] = true ∧ Lib.trimPrefix (10 :: m) [10] = m := by
 have h : Lib.hasPrefix (10 :: m) [10] = true := by simp [Lib.hasPrefix, List.isPrefixOf]
 exact ⟨h, by unfold Lib.trimPrefix; rw [if_pos h]; rfl⟩
def A5k : A7o := ⟨zer 20, 0, [], ⟨[], [], 0, 0⟩, []⟩
/-- What ReadTag says. -/
def BhH (b : List UInt8) (r : TV) : Prop := (∀ t, A5r t → tgB t = b → r = .tup [tgT t, .val .nilIface]) ∧ ((∀ t, A5r t → tgB t ≠ b) → r = .tup [tgT A5k, eno 23])
theorem Biq {s : List UInt8} {k0 : Int} {kb ok : Bool} {q : Per} (hkb1 : kb = true → AGS k0 = some (tv2 s)) (hkb2 : kb = false → ∀ k, AGS k ≠ some (tv2 s)) (hq1 : ok = true → AGR q ∧ AJl q = tv4 s) (hq2 : ok = false → ∀ p, AGR p → AJl p ≠ tv4 s) :
  ((A79 s || !AJd (tv1 s) || !ok || !Lib.hasPrefix (tr4 s) [10] || !AOv (Lib.trimPrefix (tr4 s) [10])) = true ∨ kb = false ∨ AMP (tv3 s) = false → BhH s (.tup [tgT A5k, eno 23])) ∧
  ((A79 s || !AJd (tv1 s) || !ok || !Lib.hasPrefix (tr4 s) [10] || !AOv (Lib.trimPrefix (tr4 s) [10])) = false ∧ kb = true ∧ AMP (tv3 s) = true → BhH s (.tup [tgT ⟨AHg (tv1 s), k0, tv3 s, q, Lib.trimPrefix (tr4 s) [10]⟩, .val .nilIface])) := by
 have fwd : ∀ t, A5r t → tgB t = s → A79 s = false ∧ AJd (tv1 s) = true ∧ ok = true ∧ Lib.hasPrefix (tr4 s) [10] = true ∧ AOv (Lib.trimPrefix (tr4 s) [10]) = true ∧ kb = true ∧ AMP (tv3 s) = true
   ∧ t = ⟨AHg (tv1 s), k0, tv3 s, q, Lib.trimPrefix (tr4 s) [10]⟩ := by
  rintro ⟨id, k, n, p, m⟩ ⟨h20, hk, hp, hn, hm⟩ rfl
  unfold tgB at *
  simp only at *
  cases hkk : AGS k with
  | none => exact absurd hkk hk
  | some kn =>
   have hgd : (AGS k).getD [] = kn := by rw [hkk]; rfl
   rw [hgd] at hkb1 hkb2 hq1 hq2
   simp only [Option.getD_some]
   obtain ⟨c1, c2, c3, c4, c5, c6⟩ := BbR (m := m) (A4u id) (A0Q hkk) (A0f hn) (A4L hp)
   rw [c1, c2, c4, c6]
   rw [c3] at hkb1 hkb2
   rw [c5] at hq1 hq2
   obtain ⟨g1, g2⟩ := Bem (m := m)
   have hkt : kb = true := by
    cases kb with
    | true => rfl
    | false => exact absurd hkk (hkb2 rfl k)
   have hot : ok = true := by
    cases ok with
    | true => rfl
    | false => exact absurd rfl (hq2 rfl p hp)
   refine ⟨rfl, Bby h20, hot, g1, by rw [g2]; exact hm, hkt, hn, ?_⟩
   rw [A4a h20, g2, A5R hkk (hkb1 hkt), A8Z hp (hq1 hot).1 (hq1 hot).2.symm]
 constructor
 ·intro h
  refine ⟨fun t ht e => ?_, fun _ => rfl⟩
  exfalso
  obtain ⟨f1, f2, f3, f4, f5, f6, f7, _⟩ := fwd t ht e
  rw [f1, f2, f3, f4, f5, f6, f7] at h
  simp at h
 ·rintro ⟨h1, h2, h3⟩
  refine ⟨fun t ht e => ?_, fun h => ?_⟩
  ·obtain ⟨_, _, _, _, _, _, _, f8⟩ := fwd t ht e
   rw [f8]
  ·exfalso
   simp only [Bool.or_eq_false_iff, Bool.not_eq_false'] at h1
   obtain ⟨⟨⟨⟨g1, g2⟩, g3⟩, g4⟩, g5⟩ := h1
   have hkn := hkb1 h2
   refine h ⟨AHg (tv1 s), k0, tv3 s, q, Lib.trimPrefix (tr4 s) [10]⟩ ⟨A0v, by rw [hkn]; simp, (hq1 g3).1, h3, g5⟩ ?_
   unfold tgB
   simp only
   rw [hkn, A93 g2, (hq1 g3).2]
   exact (BgH g1 (A9R g4)).symm
end Go.Proofs.YtliaddbbmnfioaaGreatDoor


namespace Go.Proofs.YtliaddbbmnfioaaGreatDoor
open Go.RowKit
variable [AFG]
set_option linter.unusedSectionVars false
set_option linter.unusedVariables false
set_option linter.unusedSimpArgs false

def Bjh (c : UInt8) : Bool := c.toNat == 60 || c.toNat == 62 || c.toNat == 10 || c.toNat == 0
theorem A8a {c : UInt8} : Bjh c = false ↔ c ≠ 60 ∧ c ≠ 62 ∧ c ≠ 10 ∧ c ≠ 0 := by
 unfold Bjh
 have e : ∀ k : UInt8, c = k ↔ c.toNat = k.toNat := fun k => ⟨fun h => by rw [h], fun h => UInt8.toNat_inj.1 h⟩
 simp only [Ne, e]
 simp
 omega
theorem Bb7 (s : List UInt8) : AFE Tryz.prog 68 [ts s] (fun x => x = tb (decide (AJe s))) := by
 refine AFk.toPureV (A4i (by simp) ?_)
 by_cases h60 : s.length ≤ 60
 case neg =>
  have e : decide (AJe s) = false := by
   rw [decide_eq_false_iff_not]
   exact fun h => h60 h.1
  rw [e]
  simp -dsimp (disch := first | assumption | omega | (simp only [AE8]; done) | (simp only [AE8]; omega)) only [↓AFe, AFa, AFc, AFd, eq_self, ↓reduceIte, reduceCtorEq, ↓AWy, ↓ASk, ↓AGH, AFi]
 simp -dsimp (disch := first | assumption | omega | (simp only [AE8]; done) | (simp only [AE8]; omega)) only [↓AFe, AFa, AFc, AFd, eq_self, ↓reduceIte, reduceCtorEq, ↓AWy, ↓ASk, ↓AZL, ↓AZ7, AFi]
 refine AI0 (fun q e H => ∃ i : Nat, q = s.length - i ∧ i ≤ s.length ∧ (∀ c ∈ s.take i, Bjh c = false) ∧ e = [(0, ts s), (3, i64 (i : Int))] ∧ H = []) s.length ?_ ?_
 ·exact ⟨0, rfl, by omega, by simp, rfl, rfl⟩
 ·rintro q e H ⟨i, rfl, hi, hno, rfl, rfl⟩
  by_cases h : i < s.length
  ·have hg : s[i]? = some s[i] := List.getElem?_eq_getElem h
   have hsucc := List.take_succ_eq_append_getElem h
   generalize s[i] = c at *
   cases hb : Bjh c with
   | true =>
    have e : decide (AJe s) = false := by
     rw [decide_eq_false_iff_not]
     intro hp
     have := A8a.2 (hp.2.1 c (List.mem_of_getElem? hg))
     rw [hb] at this; cases this
    rw [e]
    by_cases c1 : c.toNat = 60
    ·simp -dsimp (disch := first | assumption | omega | (simp only [AE8]; done) | (simp only [AE8]; omega)) only [↓AFe, AFa, AFc, AFd, eq_self, Nat.reduceEqDiff, ↓reduceIte, reduceCtorEq, ↓AGf, ↓AIz, ↓AGH, AFi, hg]
    by_cases c2 : c.toNat = 62
    ·simp -dsimp (disch := first | assumption | omega | (simp only [AE8]; done) | (simp only [AE8]; omega)) only [↓AFe, AFa, AFc, AFd, eq_self, Nat.reduceEqDiff, ↓reduceIte, reduceCtorEq, ↓AGf, ↓AIz, ↓AGH, AFi, hg]
    by_cases c3 : c.toNat = 10
    ·simp -dsimp (disch := first | assumption | omega | (simp only [AE8]; done) | (simp only [AE8]; omega)) only [↓AFe, AFa, AFc, AFd, eq_self, Nat.reduceEqDiff, ↓reduceIte, reduceCtorEq, ↓AGf, ↓AIz, ↓AGH, AFi, hg]
    have c4 : c.toNat = 0 := by unfold Bjh at hb; simp [c1, c2, c3] at hb; exact hb
    simp -dsimp (disch := first | assumption | omega | (simp only [AE8]; done) | (simp only [AE8]; omega)) only [↓AFe, AFa, AFc, AFd, eq_self, Nat.reduceEqDiff, ↓reduceIte, reduceCtorEq, ↓AGf, ↓AIz, ↓AGH, AFi, hg]
   | false =>
    have hb' := hb
    unfold Bjh at hb'
    simp only [Bool.or_eq_false_iff, beq_eq_false_iff_ne] at hb'
    obtain ⟨⟨⟨c1, c2⟩, c3⟩, c4⟩ := hb'
    simp -dsimp (disch := first | assumption | omega | (simp only [AE8]; done) | (simp only [AE8]; omega)) only [↓AFe, AFa, AFc, AFd, eq_self, Nat.reduceEqDiff, ↓reduceIte, reduceCtorEq, ↓AGf, ↓AIz, AFi, hg]
    exact AFO (s.length - (i + 1)) (by omega) (by simp) ⟨i + 1, rfl, by omega, (fun c' hc' => by rw [hsucc] at hc'; rcases List.mem_append.1 hc' with h1 | h1; exact hno c' h1; simp at h1; rw [h1]; exact hb), rfl, rfl⟩
  ·have hi2 : i = s.length := by omega
   subst hi2
   rw [List.take_length] at hno
   have e : AJe s ↔ s[0]? ≠ some 32 ∧ s[s.length - 1]? ≠ some 32 := by
    unfold AJe
    exact ⟨fun h => h.2.2, fun h => ⟨h60, fun c hc => A8a.1 (hno c hc), h⟩⟩
   by_cases hz : s.length = 0
   ·have hs : s = [] := List.eq_nil_of_length_eq_zero hz
    subst hs
    have eD : decide (AJe []) = true := by rw [decide_eq_true_eq, e]; simp
    rw [eD]
    simp -dsimp (disch := first | assumption | omega | (simp only [AE8]; done) | (simp only [AE8]; omega)) only [↓AFe, AFa, AFc, AFd, eq_self, Nat.reduceLT, Nat.reduceEqDiff, ↓reduceIte, reduceCtorEq, ↓AGf, ↓AJk, ↓AGH, AFi]
   ·have h0 : s[0]? = some s[0] := List.getElem?_eq_getElem (by omega)
    have h1 : s[s.length - 1]? = some s[s.length - 1] := List.getElem?_eq_getElem (by omega)
    generalize s[0] = a at *
    generalize s[s.length - 1] = b at *
    have ea : a = 32 ↔ a.toNat = 32 := ⟨fun h => by rw [h]; rfl, fun h => UInt8.toNat_inj.1 h⟩
    have eb : b = 32 ↔ b.toNat = 32 := ⟨fun h => by rw [h]; rfl, fun h => UInt8.toNat_inj.1 h⟩
    have eD : AJe s ↔ ¬ a.toNat = 32 ∧ ¬ b.toNat = 32 := by
     rw [e, h0, h1]
     simp only [Ne, Option.some.injEq, ea, eb]
    clear e ea eb
    by_cases c1 : a.toNat = 32
    ·have eF : decide (AJe s) = false := by rw [decide_eq_false_iff_not, eD]; exact fun h => h.1 c1
     rw [eF]
     simp -dsimp (disch := first | assumption | omega | (simp only [AE8]; done) | (simp only [AE8]; omega)) only [↓AFe, AFa, AFc, AFd, eq_self, Nat.reduceEqDiff, ↓reduceIte, reduceCtorEq, ↓AGf, ↓AJk, ↓AGH, AFi, h0]
    ·by_cases c2 : b.toNat = 32
     ·have eF : decide (AJe s) = false := by rw [decide_eq_false_iff_not, eD]; exact fun h => h.2 c2
      rw [eF]
      simp -dsimp (disch := first | assumption | omega | (simp only [AE8]; done) | (simp only [AE8]; omega)) only [↓AFe, AFa, AFc, AFd, eq_self, Nat.reduceEqDiff, ↓reduceIte, reduceCtorEq, ↓AGf, ↓AJk, ↓AGH, AFi, h0, h1]
      simp [c2]
     ·have eF : decide (AJe s) = true := by rw [decide_eq_true_eq, eD]; exact ⟨c1, c2⟩
      rw [eF]
      simp -dsimp (disch := first | assumption | omega | (simp only [AE8]; done) | (simp only [AE8]; omega)) only [↓AFe, AFa, AFc, AFd, eq_self, Nat.reduceEqDiff, ↓reduceIte, reduceCtorEq, ↓AGf, ↓AJk, ↓AGH, AFi, h0, h1]
      simp [c2]
theorem Bcg (s : List UInt8) : AFE Tryz.prog 34 [ts s] (fun x => x = tb (AOv s)) := by
 refine AFk.toPureV (A2j (by simp) ?_)
 by_cases hl : s.length ≤ 2000
 case neg =>
  have e : AOv s = false := by unfold AOv; simp [hl]
  rw [e]
  simp -dsimp (disch := first | assumption | omega | (simp only [AE8]; done) | (simp only [AE8]; omega)) only [↓AFe, AFa, AFc, AFd, eq_self, ↓reduceIte, reduceCtorEq, ↓AJM, AFi]
 simp -dsimp (disch := first | assumption | omega | (simp only [AE8]; done) | (simp only [AE8]; omega)) only [↓AFe, AFa, AFc, AFd, eq_self, ↓reduceIte, reduceCtorEq, ↓AJM, AFi]
 refine AI0 (fun q e H => ∃ i : Nat, q = s.length - i ∧ i ≤ s.length ∧ 0 ∉ s.take i ∧ e = [(0, ts s), (3, i64 (i : Int))] ∧ H = []) s.length ?_ ?_
 ·exact ⟨0, rfl, by omega, by simp, rfl, rfl⟩
 ·rintro q e H ⟨i, rfl, hi, hno, rfl, rfl⟩
  by_cases h : i < s.length
  ·have hg : s[i]? = some s[i] := List.getElem?_eq_getElem h
   have hsucc := List.take_succ_eq_append_getElem h
   generalize s[i] = c at *
   by_cases hc : c.toNat = 0
   ·have hc0 : c = 0 := UInt8.toNat_inj.1 hc
    have e : AOv s = false := by unfold AOv; simp; intro _; rw [← hc0]; exact List.mem_of_getElem? hg
    rw [e]
    simp -dsimp (disch := first | assumption | omega | (simp only [AE8]; done) | (simp only [AE8]; omega)) only [↓AFe, AFa, AFc, AFd, eq_self, Nat.reduceEqDiff, ↓reduceIte, reduceCtorEq, ↓AJM, AFi, hg]
   ·simp -dsimp (disch := first | assumption | omega | (simp only [AE8]; done) | (simp only [AE8]; omega)) only [↓AFe, AFa, AFc, AFd, eq_self, Nat.reduceEqDiff, ↓reduceIte, reduceCtorEq, ↓AJM, AFi, hg]
    exact AFO (s.length - (i + 1)) (by omega) (by simp) ⟨i + 1, rfl, by omega, (by rw [hsucc]; intro hm; rcases List.mem_append.1 hm with h1 | h1; exact hno h1; simp at h1; exact hc (by rw [← h1]; rfl)), rfl, rfl⟩
  ·have hi2 : i = s.length := by omega
   subst hi2
   rw [List.take_length] at hno
   have e : AOv s = true := by unfold AOv; simp [hl, hno]
   rw [e]
   simp -dsimp (disch := first | assumption | omega | (simp only [AE8]; done) | (simp only [AE8]; omega)) only [↓AFe, AFa, AFc, AFd, eq_self, Nat.reduceEqDiff, ↓reduceIte, reduceCtorEq, ↓AJM, AFi]
theorem BhN (s : List UInt8) : AFE Tryz.prog 32 [ts s] (fun x => x = tb (AMP s)) := by
 refine AFk.toPureV (A40 (by simp) ?_)
 by_cases h0 : 1 ≤ s.length
 case neg =>
  have e : AMP s = false := by unfold AMP; simp; omega
  rw [e]
  simp -dsimp (disch := first | assumption | omega | (simp only [AE8]; done) | (simp only [AE8]; omega)) only [↓AFe, AFa, AFc, AFd, eq_self, Nat.reduceEqDiff, ↓reduceIte, reduceCtorEq, ↓APT, ↓AMe, ↓AHT, AFi]
 by_cases hl : s.length ≤ 60
 case neg =>
  have e : AMP s = false := by unfold AMP; simp [hl]
  rw [e]
  simp -dsimp (disch := first | assumption | omega | (simp only [AE8]; done) | (simp only [AE8]; omega)) only [↓AFe, AFa, AFc, AFd, eq_self, Nat.reduceEqDiff, ↓reduceIte, reduceCtorEq, ↓APT, ↓AMe, ↓AHT, AFi]
 simp -dsimp (disch := first | assumption | omega | (simp only [AE8]; done) | (simp only [AE8]; omega)) only [↓AFe, AFa, AFc, AFd, eq_self, Nat.reduceEqDiff, ↓reduceIte, reduceCtorEq, ↓APT, ↓AMe, ↓AZP, ↓AZY, AFi]
 refine AI0 (fun q e H => ∃ i : Nat, q = s.length - i ∧ i ≤ s.length ∧ (s.take i).all ATi = true ∧ e = [(0, ts s), (3, i64 (i : Int))] ∧ H = []) s.length ?_ ?_
 ·exact ⟨0, rfl, by omega, by simp, rfl, rfl⟩
 ·rintro q e H ⟨i, rfl, hi, hno, rfl, rfl⟩
  by_cases h : i < s.length
  ·have hg : s[i]? = some s[i] := List.getElem?_eq_getElem h
   have hsucc := List.take_succ_eq_append_getElem h
   generalize s[i] = c at *
   have hb := c.toNat_lt
   have hlet : ATi c = decide ((97 ≤ c.toNat ∧ c.toNat ≤ 122) ∨ (65 ≤ c.toNat ∧ c.toNat ≤ 90) ∨ (48 ≤ c.toNat ∧ c.toNat ≤ 57) ∨ c.toNat = 46 ∨ c.toNat = 95 ∨ c.toNat = 45 ∨ c.toNat = 47) := by
    have e : ∀ k : UInt8, (c == k) = decide (c.toNat = k.toNat) := fun k => by
     rw [Bool.eq_iff_iff, beq_iff_eq, decide_eq_true_eq]
     exact ⟨fun h => by rw [h], fun h => UInt8.toNat_inj.1 h⟩
    unfold ATi
    simp only [e]
    rw [Bool.eq_iff_iff]
    simp [or_assoc]
   have bad : ATi c = false → AMP s = false := fun hc => by
    unfold AMP
    rw [Bool.and_eq_false_iff]
    refine .inr ?_
    rw [Bool.eq_false_iff]
    intro ha
    have := List.all_eq_true.1 ha c (List.mem_of_getElem? hg)
    rw [hc] at this; cases this
   have good : ATi c = true → (s.take (i + 1)).all ATi = true := fun hc => by rw [hsucc, List.all_append, hno]; simp [hc]
   by_cases r1 : 97 ≤ c.toNat
   ·have x1 : 65 ≤ c.toNat := by omega
    have x2 : 48 ≤ c.toNat := by omega
    have x3 : ¬ c.toNat ≤ 90 := by omega
    have x4 : ¬ c.toNat ≤ 57 := by omega
    have y1 : ¬ c.toNat = 46 := by omega
    have y2 : ¬ c.toNat = 95 := by omega
    have y3 : ¬ c.toNat = 45 := by omega
    have y4 : ¬ c.toNat = 47 := by omega
    by_cases r2 : c.toNat ≤ 122
    ·have hgd := good (by rw [hlet, decide_eq_true_eq]; omega)
     simp -dsimp (disch := first | assumption | omega | (simp only [AE8]; done) | (simp only [AE8]; omega)) only [↓AFe, AFa, AFc, AFd, eq_self, Nat.reduceEqDiff, ↓reduceIte, reduceCtorEq, ↓AFJ, ↓AFX, ↓AFW, ↓AFY, AFi, hg]
     exact AFO (s.length - (i + 1)) (by omega) (by simp) ⟨i + 1, rfl, by omega, hgd, rfl, rfl⟩
    ·rw [bad (by rw [hlet, decide_eq_false_iff_not]; omega)]
     simp -dsimp (disch := first | assumption | omega | (simp only [AE8]; done) | (simp only [AE8]; omega)) only [↓AFe, AFa, AFc, AFd, eq_self, Nat.reduceEqDiff, ↓reduceIte, reduceCtorEq, ↓AFJ, ↓AFX, ↓AFW, ↓AFY, ↓AHT, AFi, hg]
   by_cases r2 : 65 ≤ c.toNat
   ·have x2 : 48 ≤ c.toNat := by omega
    have x4 : ¬ c.toNat ≤ 57 := by omega
    have y1 : ¬ c.toNat = 46 := by omega
    have y3 : ¬ c.toNat = 45 := by omega
    have y4 : ¬ c.toNat = 47 := by omega
    by_cases r3 : c.toNat ≤ 90
    ·have hgd := good (by rw [hlet, decide_eq_true_eq]; omega)
     simp -dsimp (disch := first | assumption | omega | (simp only [AE8]; done) | (simp only [AE8]; omega)) only [↓AFe, AFa, AFc, AFd, eq_self, Nat.reduceEqDiff, ↓reduceIte, reduceCtorEq, ↓AFJ, ↓AFX, ↓AFW, ↓AFY, AFi, hg]
     exact AFO (s.length - (i + 1)) (by omega) (by simp) ⟨i + 1, rfl, by omega, hgd, rfl, rfl⟩
    by_cases y2 : c.toNat = 95
    ·have hgd := good (by rw [hlet, decide_eq_true_eq]; omega)
     simp -dsimp (disch := first | assumption | omega | (simp only [AE8]; done) | (simp only [AE8]; omega)) only [↓AFe, AFa, AFc, AFd, eq_self, Nat.reduceEqDiff, ↓reduceIte, reduceCtorEq, ↓AFJ, ↓AFX, ↓AFW, ↓AFY, AFi, hg]
     exact AFO (s.length - (i + 1)) (by omega) (by simp) ⟨i + 1, rfl, by omega, hgd, rfl, rfl⟩
    ·rw [bad (by rw [hlet, decide_eq_false_iff_not]; omega)]
     simp -dsimp (disch := first | assumption | omega | (simp only [AE8]; done) | (simp only [AE8]; omega)) only [↓AFe, AFa, AFc, AFd, eq_self, Nat.reduceEqDiff, ↓reduceIte, reduceCtorEq, ↓AFJ, ↓AFX, ↓AFW, ↓AFY, ↓AHT, AFi, hg]
   by_cases r3 : 48 ≤ c.toNat
   ·have y1 : ¬ c.toNat = 46 := by omega
    have y2 : ¬ c.toNat = 95 := by omega
    have y3 : ¬ c.toNat = 45 := by omega
    have y4 : ¬ c.toNat = 47 := by omega
    by_cases r4 : c.toNat ≤ 57
    ·have hgd := good (by rw [hlet, decide_eq_true_eq]; omega)
     simp -dsimp (disch := first | assumption | omega | (simp only [AE8]; done) | (simp only [AE8]; omega)) only [↓AFe, AFa, AFc, AFd, eq_self, Nat.reduceEqDiff, ↓reduceIte, reduceCtorEq, ↓AFJ, ↓AFX, ↓AFW, ↓AFY, AFi, hg]
     exact AFO (s.length - (i + 1)) (by omega) (by simp) ⟨i + 1, rfl, by omega, hgd, rfl, rfl⟩
    ·rw [bad (by rw [hlet, decide_eq_false_iff_not]; omega)]
     simp -dsimp (disch := first | assumption | omega | (simp only [AE8]; done) | (simp only [AE8]; omega)) only [↓AFe, AFa, AFc, AFd, eq_self, Nat.reduceEqDiff, ↓reduceIte, reduceCtorEq, ↓AFJ, ↓AFX, ↓AFW, ↓AFY, ↓AHT, AFi, hg]
   have y2 : ¬ c.toNat = 95 := by omega
   by_cases y1 : c.toNat = 46
   ·have hgd := good (by rw [hlet, decide_eq_true_eq]; omega)
    simp -dsimp (disch := first | assumption | omega | (simp only [AE8]; done) | (simp only [AE8]; omega)) only [↓AFe, AFa, AFc, AFd, eq_self, Nat.reduceEqDiff, ↓reduceIte, reduceCtorEq, ↓AFJ, ↓AFX, ↓AFW, ↓AFY, AFi, hg]
    exact AFO (s.length - (i + 1)) (by omega) (by simp) ⟨i + 1, rfl, by omega, hgd, rfl, rfl⟩
   by_cases y3 : c.toNat = 45
   ·have hgd := good (by rw [hlet, decide_eq_true_eq]; omega)
    simp -dsimp (disch := first | assumption | omega | (simp only [AE8]; done) | (simp only [AE8]; omega)) only [↓AFe, AFa, AFc, AFd, eq_self, Nat.reduceEqDiff, ↓reduceIte, reduceCtorEq, ↓AFJ, ↓AFX, ↓AFW, ↓AFY, AFi, hg]
    exact AFO (s.length - (i + 1)) (by omega) (by simp) ⟨i + 1, rfl, by omega, hgd, rfl, rfl⟩
   by_cases y4 : c.toNat = 47
   ·have hgd := good (by rw [hlet, decide_eq_true_eq]; omega)
    simp -dsimp (disch := first | assumption | omega | (simp only [AE8]; done) | (simp only [AE8]; omega)) only [↓AFe, AFa, AFc, AFd, eq_self, Nat.reduceEqDiff, ↓reduceIte, reduceCtorEq, ↓AFJ, ↓AFX, ↓AFW, ↓AFY, AFi, hg]
    exact AFO (s.length - (i + 1)) (by omega) (by simp) ⟨i + 1, rfl, by omega, hgd, rfl, rfl⟩
   ·rw [bad (by rw [hlet, decide_eq_false_iff_not]; omega)]
    simp -dsimp (disch := first | assumption | omega | (simp only [AE8]; done) | (simp only [AE8]; omega)) only [↓AFe, AFa, AFc, AFd, eq_self, Nat.reduceEqDiff, ↓reduceIte, reduceCtorEq, ↓AFJ, ↓AFX, ↓AFW, ↓AFY, ↓AHT, AFi, hg]
  ·have hi2 : i = s.length := by omega
   subst hi2
   rw [List.take_length] at hno
   have e : AMP s = true := by unfold AMP; simp [hl]; exact ⟨by omega, by simpa using hno⟩
   rw [e]
   simp -dsimp (disch := first | assumption | omega | (simp only [AE8]; done) | (simp only [AE8]; omega)) only [↓AFe, AFa, AFc, AFd, eq_self, Nat.reduceEqDiff, ↓reduceIte, reduceCtorEq, ↓AFJ, ↓A0u, ↓AHT, AFi]
end Go.Proofs.YtliaddbbmnfioaaGreatDoor


namespace Go.Proofs.YtliaddbbmnfioaaGreatDoor
open Go.RowKit
variable [AFG]
set_option linter.unusedSectionVars false
set_option linter.unusedVariables false
set_option linter.unusedSimpArgs false

theorem Be1 {b : UInt8} : (∀ y : TV, y ∈ [TV.val (Value.int IntKind.u8 (b.toNat : Int))] → A7a y) = True := by
 refine eq_true ?_
 intro y hy
 obtain rfl := List.mem_singleton.1 hy
 exact AYN b
theorem Bjc {a b : TV} : (List.replicate 1 a).set 0 b = [b] := by simp
theorem Bfr (n : Nat) : (Lib.decDigits n).length ≤ n + 1 := by
 induction n using Nat.strongRecOn with
 | _ n ih =>
  by_cases h : n < 10
  ·rw [Lib.decDigits_one h]; simp
  ·rw [Lib.decDigits.eq_1 n, dif_neg h, List.length_append]
   have := ih (n / 10) (by omega)
   simp only [List.length_cons, List.length_nil]; omega
/-- The document's Decimal. -/
theorem BaB (n : Nat) (hn : n ≤ 1099511627776) : AFE Tryz.prog 69 [i64 (n : Int)] (fun r => r = ts (Lib.decDigits n)) := by
 refine AFk.toPureV (A2z (by simp) ?_)
 by_cases h0 : n = 0
 ·subst h0
  simp -dsimp (disch := first | assumption | omega) only [↓AFe, AFa, AFc, AFd, eq_self, ↓reduceIte, reduceCtorEq, ↓AMs]
  rw [Lib.decDigits_one (by omega)]
  rfl
 simp -dsimp (disch := first | assumption | omega) only [↓AFe, AFa, AFc, AFd, eq_self, ↓reduceIte, reduceCtorEq, ↓AMs]
 have dl := Bfr n
 refine AI0 (fun q e H => ∃ (m : Nat) (s : List UInt8), q = m ∧ m ≤ n ∧ ((m = 0 ∧ s = Lib.decDigits n) ∨ (0 < m ∧ Lib.decDigits n = Lib.decDigits m ++ s)) ∧ e = [(0, i64 (m : Int)), (3, ts s)] ∧ H = []) n ?_ ?_
 ·exact ⟨n, [], rfl, Nat.le_refl _, .inr ⟨by omega, by simp⟩, rfl, rfl⟩
 ·rintro q e H ⟨m, s, rfl, hmn, hm, rfl, rfl⟩
  have hsl : s.length ≤ n + 1 := by
   rcases hm with ⟨_, rfl⟩ | ⟨_, h⟩
   ·exact dl
   ·rw [h, List.length_append] at dl; omega
  by_cases hpos : 0 < q
  ·have h48 : (48 + q % 10) < 256 := by omega
   have hsl2 : ([UInt8.ofNat (48 + q % 10)] : List UInt8).length + s.length ≤ 9223372036854775807 := by simp only [List.length_cons, List.length_nil]; omega
   simp -dsimp (disch := first | assumption | omega) only [↓AFe, AFa, AFc, AFd, eq_self, Nat.reduceEqDiff, ↓reduceIte, reduceCtorEq, Nat.reduceLeDiff, ↓AMs, Bjc, AS4, Be1, A8S]
   refine A7g (q / 10) 0 (by omega) (by omega) rfl rfl ⟨q / 10, [UInt8.ofNat (48 + q % 10)] ++ s, rfl, by omega, ?_, rfl, rfl⟩
   have hd : Lib.decDigits n = Lib.decDigits q ++ s := by
    rcases hm with ⟨h, _⟩ | ⟨_, h⟩
    ·omega
    ·exact h
   by_cases h10 : q < 10
   ·refine .inl ⟨by omega, ?_⟩
    rw [hd, Lib.decDigits_one h10, Nat.mod_eq_of_lt h10]
   ·refine .inr ⟨by omega, ?_⟩
    rw [hd, Lib.decDigits, dif_neg h10, List.append_assoc]
  ·simp -dsimp (disch := first | assumption | omega) only [↓AFe, AFa, AFc, AFd, eq_self, Nat.reduceEqDiff, ↓reduceIte, reduceCtorEq, ↓AMs]
   rcases hm with ⟨_, rfl⟩ | ⟨h, _⟩
   ·rfl
   ·omega
theorem Bpy {a b c d z : TV} : List.take 4 (((((List.replicate 4 z).set 0 a).set 1 b).set 2 c).set 3 d) = [a, b, c, d] := rfl
theorem Bcn (zn : Nat) : [TV.val (Value.int IntKind.u8 ((UInt8.ofNat (48 + zn / 60 / 10)).toNat : Int)), TV.val (Value.int IntKind.u8 ((UInt8.ofNat (48 + zn / 60 % 10)).toNat : Int)), TV.val (Value.int IntKind.u8 ((UInt8.ofNat (48 + zn % 60 / 10)).toNat : Int)), TV.val (Value.int IntKind.u8 ((UInt8.ofNat (48 + zn % 60 % 10)).toNat : Int))] = (AVX zn).map by8 := rfl
theorem A8V {l : List UInt8} : (∀ y : TV, y ∈ l.map by8 → A7a y) = True := by
 refine eq_true ?_
 intro y hy
 obtain ⟨b, _, rfl⟩ := List.mem_map.1 hy
 exact AYN b
theorem A8z {l : List UInt8} : (l.map by8).map AZi = l := by
 rw [List.map_map]
 conv => rhs; rw [← List.map_id l]
 exact List.map_congr_left fun b _ => A8S b
variable [AFg]
theorem Bg3 (p : Per) (hp : ANp p) : AFE Tryz.prog 33 [AVC p] (BdQ p) := by
 refine AFk.toPureV (AYb (by simp) ?_)
 obtain ⟨n, m, t, z⟩ := p
 obtain ⟨⟨ht1, ht2⟩, hz1, hz2⟩ := hp
 unfold BdQ AGR
 simp only at *
 have hpn := Bb7 n
 have hpm := Bb7 m
 by_cases h1 : AJe n
 case neg =>
  simp -dsimp (disch := first | assumption | omega | (simp only [AE8]; done) | (simp only [AE8]; omega)) only [↓AFe, AFa, AFc, AFd, eq_self, Nat.reduceEqDiff, ↓reduceIte, ↓AGh, ↓AFV]
  refine hpn.calls rfl fun x hx => ?_
  subst hx
  simp -dsimp (disch := first | assumption | omega | (simp only [AE8]; done) | (simp only [AE8]; omega)) only [↓AFe, AFa, AFc, AFd, eq_self, Nat.reduceEqDiff, ↓reduceIte, Nat.reduceAdd, ↓AF2]
  refine hpm.calls rfl fun x hx => ?_
  subst hx
  simp -dsimp (disch := first | assumption | omega | (simp only [AE8]; done) | (simp only [AE8]; omega)) only [↓AFe, AFa, AFc, AFd, eq_self, Nat.reduceEqDiff, ↓reduceIte, decide_eq_false h1, ↓AFK, ↓AF8]
  exact ⟨fun h => absurd h.1 h1, fun _ => by trivial⟩
 by_cases h2 : AJe m
 case neg =>
  simp -dsimp (disch := first | assumption | omega | (simp only [AE8]; done) | (simp only [AE8]; omega)) only [↓AFe, AFa, AFc, AFd, eq_self, Nat.reduceEqDiff, ↓reduceIte, ↓AGh, ↓AFV]
  refine hpn.calls rfl fun x hx => ?_
  subst hx
  simp -dsimp (disch := first | assumption | omega | (simp only [AE8]; done) | (simp only [AE8]; omega)) only [↓AFe, AFa, AFc, AFd, eq_self, Nat.reduceEqDiff, ↓reduceIte, Nat.reduceAdd, ↓AF2]
  refine hpm.calls rfl fun x hx => ?_
  subst hx
  simp -dsimp (disch := first | assumption | omega | (simp only [AE8]; done) | (simp only [AE8]; omega)) only [↓AFe, AFa, AFc, AFd, eq_self, Nat.reduceEqDiff, ↓reduceIte, decide_eq_true h1, decide_eq_false h2, ↓AFK, ↓AF8]
  exact ⟨fun h => absurd h.2.1 h2, fun _ => by trivial⟩
 by_cases h3 : t < 0
 case pos =>
  simp -dsimp (disch := first | assumption | omega | (simp only [AE8]; done) | (simp only [AE8]; omega)) only [↓AFe, AFa, AFc, AFd, eq_self, Nat.reduceEqDiff, ↓reduceIte, ↓AGh, ↓AFV]
  refine hpn.calls rfl fun x hx => ?_
  subst hx
  simp -dsimp (disch := first | assumption | omega | (simp only [AE8]; done) | (simp only [AE8]; omega)) only [↓AFe, AFa, AFc, AFd, eq_self, Nat.reduceEqDiff, ↓reduceIte, Nat.reduceAdd, ↓AF2]
  refine hpm.calls rfl fun x hx => ?_
  subst hx
  simp -dsimp (disch := first | assumption | omega | (simp only [AE8]; done) | (simp only [AE8]; omega)) only [↓AFe, AFa, AFc, AFd, eq_self, Nat.reduceEqDiff, ↓reduceIte, Nat.reduceAdd, decide_eq_true h1, decide_eq_true h2, ↓AFK, ↓AF8]
  exact ⟨fun h => by omega, fun _ => by trivial⟩
 by_cases h4 : t > 1099511627776
 case pos =>
  simp -dsimp (disch := first | assumption | omega | (simp only [AE8]; done) | (simp only [AE8]; omega)) only [↓AFe, AFa, AFc, AFd, eq_self, Nat.reduceEqDiff, ↓reduceIte, ↓AGh, ↓AFV]
  refine hpn.calls rfl fun x hx => ?_
  subst hx
  simp -dsimp (disch := first | assumption | omega | (simp only [AE8]; done) | (simp only [AE8]; omega)) only [↓AFe, AFa, AFc, AFd, eq_self, Nat.reduceEqDiff, ↓reduceIte, Nat.reduceAdd, ↓AF2]
  refine hpm.calls rfl fun x hx => ?_
  subst hx
  simp -dsimp (disch := first | assumption | omega | (simp only [AE8]; done) | (simp only [AE8]; omega)) only [↓AFe, AFa, AFc, AFd, eq_self, Nat.reduceEqDiff, ↓reduceIte, Nat.reduceAdd, decide_eq_true h1, decide_eq_true h2, ↓AFK, ↓AF8]
  exact ⟨fun h => by omega, fun _ => by trivial⟩
 by_cases h5 : z < -840
 case pos =>
  simp -dsimp (disch := first | assumption | omega | (simp only [AE8]; done) | (simp only [AE8]; omega)) only [↓AFe, AFa, AFc, AFd, eq_self, Nat.reduceEqDiff, ↓reduceIte, ↓AGh, ↓AFV]
  refine hpn.calls rfl fun x hx => ?_
  subst hx
  simp -dsimp (disch := first | assumption | omega | (simp only [AE8]; done) | (simp only [AE8]; omega)) only [↓AFe, AFa, AFc, AFd, eq_self, Nat.reduceEqDiff, ↓reduceIte, Nat.reduceAdd, ↓AF2]
  refine hpm.calls rfl fun x hx => ?_
  subst hx
  simp -dsimp (disch := first | assumption | omega | (simp only [AE8]; done) | (simp only [AE8]; omega)) only [↓AFe, AFa, AFc, AFd, eq_self, Nat.reduceEqDiff, ↓reduceIte, Nat.reduceAdd, decide_eq_true h1, decide_eq_true h2, ↓AFK, ↓AF8]
  exact ⟨fun h => by omega, fun _ => by trivial⟩
 by_cases h6 : z > 840
 case pos =>
  simp -dsimp (disch := first | assumption | omega | (simp only [AE8]; done) | (simp only [AE8]; omega)) only [↓AFe, AFa, AFc, AFd, eq_self, Nat.reduceEqDiff, ↓reduceIte, ↓AGh, ↓AFV]
  refine hpn.calls rfl fun x hx => ?_
  subst hx
  simp -dsimp (disch := first | assumption | omega | (simp only [AE8]; done) | (simp only [AE8]; omega)) only [↓AFe, AFa, AFc, AFd, eq_self, Nat.reduceEqDiff, ↓reduceIte, Nat.reduceAdd, ↓AF2]
  refine hpm.calls rfl fun x hx => ?_
  subst hx
  simp -dsimp (disch := first | assumption | omega | (simp only [AE8]; done) | (simp only [AE8]; omega)) only [↓AFe, AFa, AFc, AFd, eq_self, Nat.reduceEqDiff, ↓reduceIte, Nat.reduceAdd, decide_eq_true h1, decide_eq_true h2, ↓AFK, ↓AF8]
  exact ⟨fun h => by omega, fun _ => by trivial⟩
 have hneg : ∀ k : Nat, k ≤ 840 → unV .neg (.int .i64 (-(k : Int))) = some (.int .i64 (k : Int)) := fun k hk => by
  have e : Op.unary .neg (.int .i64 (-(k : Int))) = .pure (.int .i64 (IntKind.i64.wrap (0 - -(k : Int)))) := rfl
  unfold unV
  rw [e, Int.sub_neg, Int.zero_add, AGD (by omega) (by omega)]
 have ln : n.length ≤ 60 := h1.1
 have lm : m.length ≤ 60 := h2.1
 obtain ⟨tn, rfl⟩ : ∃ tn : Nat, t = (tn : Int) := ⟨t.toNat, by omega⟩
 have ltn := A8f tn
 have hfi := BaB tn (by omega)
 simp -dsimp (disch := first | assumption | omega | (simp only [AE8]; done) | (simp only [AE8]; omega)) only [↓AFe, AFa, AFc, AFd, eq_self, Nat.reduceEqDiff, ↓reduceIte, ↓AGh, ↓AFV]
 refine hpn.calls rfl fun x hx => ?_
 subst hx
 simp -dsimp (disch := first | assumption | omega | (simp only [AE8]; done) | (simp only [AE8]; omega)) only [↓AFe, AFa, AFc, AFd, eq_self, Nat.reduceEqDiff, ↓reduceIte, Nat.reduceAdd, ↓AF2]
 refine hpm.calls rfl fun x hx => ?_
 subst hx
 by_cases c : z < 0
 ·obtain ⟨zn, rfl⟩ : ∃ zn : Nat, z = -(zn : Int) := ⟨(-z).toNat, by omega⟩
  simp -dsimp (disch := first | assumption | omega | (simp only [AE8]; done) | (simp only [AE8]; omega)) only [↓AFe, AFa, AFc, AFd, eq_self, Nat.reduceEqDiff, ↓reduceIte, Nat.reduceAdd, Nat.reduceLeDiff, decide_eq_true h1, decide_eq_true h2, ↓AFK, ↓AKj, ↓AKk, ↓AKz, hneg zn (by omega), ↓AK2, ↓AKu, ↓AKE]
  have lz := AU2 zn
  simp only [Bpy, Bcn]
  refine ⟨A8V.mpr trivial, ?_⟩
  simp -dsimp (disch := first | assumption | omega | (simp only [AE8]; done) | (simp only [AE8]; omega)) only [↓AFe, AFa, AFc, AFd, eq_self, Nat.reduceEqDiff, ↓reduceIte, Nat.reduceAdd, ↓AKg, AS4]
  refine ⟨_, hfi.calls rfl fun r hr => ⟨hr, rfl⟩, ?_⟩
  simp -dsimp (disch := first | assumption | omega | (simp only [AE8]; done) | (simp only [AE8]; omega)) only [↓AFe, AFa, AFc, AFd, eq_self, Nat.reduceEqDiff, ↓reduceIte, AS4, ↓AF8]
  refine ⟨fun _ => ?_, ?_⟩
  rotate_left
  ·exact fun h => absurd ⟨h1, h2, by omega, by omega, by omega⟩ h
  rw [AYG, if_pos (by omega), Int.natAbs_neg, Int.natAbs_natCast, Int.toNat_natCast]
 ·obtain ⟨zn, rfl⟩ : ∃ zn : Nat, z = (zn : Int) := ⟨z.toNat, by omega⟩
  simp -dsimp (disch := first | assumption | omega | (simp only [AE8]; done) | (simp only [AE8]; omega)) only [↓AFe, AFa, AFc, AFd, eq_self, Nat.reduceEqDiff, ↓reduceIte, Nat.reduceAdd, Nat.reduceLeDiff, decide_eq_true h1, decide_eq_true h2, ↓AFK, ↓AKj, ↓AKk, ↓AKz, ↓AK2, ↓AKu, ↓AKE]
  have lz := AU2 zn
  simp only [Bpy, Bcn]
  refine ⟨A8V.mpr trivial, ?_⟩
  simp -dsimp (disch := first | assumption | omega | (simp only [AE8]; done) | (simp only [AE8]; omega)) only [↓AFe, AFa, AFc, AFd, eq_self, Nat.reduceEqDiff, ↓reduceIte, Nat.reduceAdd, ↓AKg, AS4]
  refine ⟨_, hfi.calls rfl fun r hr => ⟨hr, rfl⟩, ?_⟩
  simp -dsimp (disch := first | assumption | omega | (simp only [AE8]; done) | (simp only [AE8]; omega)) only [↓AFe, AFa, AFc, AFd, eq_self, Nat.reduceEqDiff, ↓reduceIte, AS4, ↓AF8]
  refine ⟨fun _ => ?_, ?_⟩
  rotate_left
  ·exact fun h => absurd ⟨h1, h2, by omega, by omega, by omega⟩ h
  rw [AYG, if_neg (by omega), Int.natAbs_natCast, Int.toNat_natCast]
end Go.Proofs.YtliaddbbmnfioaaGreatDoor


namespace Go.Proofs.YtliaddbbmnfioaaGreatDoor
open Go.RowKit
variable [AFG]
set_option linter.unusedSectionVars false
set_option linter.unusedVariables false
set_option linter.unusedSimpArgs false

theorem BaN {w s : List UInt8} (h : ¬ (w ++ [32]) <+: s) : AY4 w s = none := by
 cases hn : AY4 w s with
 | none => rfl
 | some x =>
  exfalso
  obtain ⟨e, _⟩ := A68 (v := x.1) (r := x.2) hn
  exact h ⟨x.1 ++ 10 :: x.2, by rw [e]; simp⟩
theorem Bew {w t : List UInt8} (hw : 10 ∉ w) : AY4 w (w ++ 32 :: t) = (match AQb 10 t with | some j => some (t.take j, t.drop (j + 1)) | none => none) := by
 cases hc : AQb 10 t with
 | some j =>
  obtain ⟨h1, h2, h3⟩ := AVA hc
  have e : t = t.take j ++ 10 :: t.drop (j + 1) := by
   conv => lhs; rw [← List.take_append_drop j t, List.drop_eq_getElem_cons h1]
   rw [List.getElem?_eq_getElem h1] at h2
   rw [Option.some.inj h2]
  conv => lhs; rw [e]
  rw [Bcc hw h3]
 | none =>
  have h10 := A34 hc
  cases hn : AY4 w (w ++ 32 :: t) with
  | none => rfl
  | some x =>
   exfalso
   obtain ⟨e, _⟩ := A68 (v := x.1) (r := x.2) hn
   have e2 : (32 :: t) = 32 :: (x.1 ++ 10 :: x.2) := List.append_cancel_left e
   have e3 := List.tail_eq_of_cons_eq e2
   exact h10 (by rw [e3]; simp)
theorem A8t (s w : List UInt8) (hs : s.length ≤ 1000000) (hwl : w.length ≤ 100) (hw : 10 ∉ w) : AFE Tryz.prog 76 [ts s, ts w] (fun x => x = .tup [ts (mv w s), ts (mr w s), tb (!mb w s)]) := by
 refine AFk.toPureV (A6K (by simp) ?_)
 unfold mv mr mb
 by_cases hl : s.length < w.length + 1
 ·rw [BaN (fun h => by have := h.length_le; simp at this; omega)]
  simp -dsimp (disch := first | assumption | omega | (simp only [AE8]; done) | (simp only [AE8]; omega)) only [↓AFe, AFa, AFc, AFd, eq_self, Nat.reduceEqDiff, ↓reduceIte, Nat.reduceAdd, reduceCtorEq, ↓AS3, ↓ANn, ↓ANm, ↓AOe, AFi]
  rfl
 by_cases hp : (w ++ [32]) <+: s
 case neg =>
  rw [BaN hp]
  have hne : ¬ s.take (w.length + 1) = w ++ [32] := fun e => hp ⟨s.drop (w.length + 1), by rw [← e, List.take_append_drop]⟩
  simp -dsimp (disch := first | assumption | omega | (simp only [AE8]; done) | (simp only [AE8]; omega)) only [↓AFe, AFa, AFc, AFd, eq_self, Nat.reduceEqDiff, ↓reduceIte, Nat.reduceAdd, reduceCtorEq, ↓AS3, ↓ANn, ↓ANm, ↓AOe, AFi, AS4, hne]
  rfl
 obtain ⟨t, rfl⟩ := hp
 have hnp := Bew (w := w) (t := t) hw
 have e0 : w ++ 32 :: t = w ++ [32] ++ t := by simp
 rw [e0] at hnp
 rw [hnp]
 have hLl : (w ++ [32]).length = w.length + 1 := by simp
 have htk : (w ++ [32] ++ t).take (w.length + 1) = w ++ [32] := List.take_left' hLl
 have hgt : ∀ i, (w ++ [32] ++ t)[w.length + 1 + i]? = t[i]? := fun i => by rw [List.getElem?_append_right (by omega), hLl, Nat.add_sub_cancel_left]
 have hdr : ∀ i, (w ++ [32] ++ t).drop (w.length + 1 + i) = t.drop i := fun i => by rw [← List.drop_drop, List.drop_left' hLl]
 have hlen : (w ++ [32] ++ t).length = w.length + 1 + t.length := by rw [List.length_append, hLl]
 have hsub : ∀ i, ((w ++ [32] ++ t).take (w.length + 1 + i)).drop (w.length + 1) = t.take i := fun i => by rw [List.take_append, hLl, List.take_of_length_le (by omega), List.drop_left' hLl, Nat.add_sub_cancel_left]
 have hsub2 : ∀ i, ((w ++ [32] ++ t).drop (w.length + 1)).take i = t.take i := fun i => by rw [List.drop_left' hLl]
 clear hnp e0
 generalize w ++ [32] ++ t = s at *
 simp -dsimp (disch := first | assumption | omega | (simp only [AE8]; done) | (simp only [AE8]; omega)) only [↓AFe, AFa, AFc, AFd, eq_self, Nat.reduceEqDiff, ↓reduceIte, Nat.reduceAdd, reduceCtorEq, ↓AS3, ↓ANn, ↓ANm, ↓A1j, ↓A1x, AFi, AS4, htk]
 refine AI0 (fun q e H => ∃ i : Nat, q = t.length - i ∧ i ≤ t.length ∧ 10 ∉ t.take i ∧ e = [(0, ts s), (7, i64 ((w.length + 1 : Nat) : Int)), (8, i64 ((w.length + 1 + i : Nat) : Int))] ∧ H = []) t.length ?_ ?_
 ·exact ⟨0, rfl, by omega, by simp, rfl, rfl⟩
 ·rintro q e H ⟨i, rfl, hi, hno, rfl, rfl⟩
  by_cases h : i < t.length
  ·have hg : t[i]? = some t[i] := List.getElem?_eq_getElem h
   have hsucc := List.take_succ_eq_append_getElem h
   have hg2 : s[w.length + 1 + i]? = some t[i] := by rw [hgt, hg]
   generalize t[i] = c at *
   by_cases hc : c.toNat = 10
   ·have hc10 : c = 10 := UInt8.toNat_inj.1 hc
    have hcut : AQb 10 t = some i := by
     have e : t = t.take i ++ 10 :: t.drop (i + 1) := by
      conv => lhs; rw [← List.take_append_drop i t, List.drop_eq_getElem_cons h]
      rw [List.getElem?_eq_getElem h] at hg
      rw [Option.some.inj hg, hc10]
     have := A2o (c := 10) (l := t.take i) (m := t.drop (i + 1)) hno
     rw [← e, List.length_take, Nat.min_eq_left hi] at this
     exact this
    rw [hcut]
    have hd1 := hdr (i + 1)
    have hs1 := hsub2 i
    have hsb : w.length + 1 + i - (w.length + 1) = i := by omega
    have had : w.length + 1 + i + 1 = w.length + 1 + (i + 1) := by omega
    simp only
    simp -dsimp (disch := first | assumption | omega | (simp only [AE8]; done) | (simp only [AE8]; omega)) only [↓AFe, AFa, AFc, AFd, eq_self, Nat.reduceEqDiff, ↓reduceIte, reduceCtorEq, ↓ANo, ↓ATH, ↓AOe, AFi, hg2, hlen]
    rw [hs1, had, hd1, show List.take (w.length + 1 + t.length - (w.length + 1 + (i + 1))) (t.drop (i + 1)) = t.drop (i + 1) from List.take_of_length_le (by rw [List.length_drop]; omega)]
    rfl
   ·simp -dsimp (disch := first | assumption | omega | (simp only [AE8]; done) | (simp only [AE8]; omega)) only [↓AFe, AFa, AFc, AFd, eq_self, Nat.reduceEqDiff, ↓reduceIte, reduceCtorEq, ↓ANo, AFi, hg2, hlen]
    exact AFO (t.length - (i + 1)) (by omega) (by simp) ⟨i + 1, rfl, by omega, (by rw [hsucc]; intro hm; rcases List.mem_append.1 hm with h1 | h1; exact hno h1; simp at h1; exact hc (by rw [← h1]; rfl)), rfl, rfl⟩
  ·have hi2 : i = t.length := by omega
   subst hi2
   rw [List.take_length] at hno
   have hcut : AQb 10 t = none := by
    cases hc : AQb 10 t with
    | none => rfl
    | some j => exact absurd (List.mem_of_getElem? (AVA hc).2.1) hno
   rw [hcut]
   simp -dsimp (disch := first | assumption | omega | (simp only [AE8]; done) | (simp only [AE8]; omega)) only [↓AFe, AFa, AFc, AFd, eq_self, Nat.reduceEqDiff, ↓reduceIte, reduceCtorEq, ↓ANo, ↓ATH, ↓AOe, AFi, hlen]
   rfl
end Go.Proofs.YtliaddbbmnfioaaGreatDoor


namespace Go.Proofs.YtliaddbbmnfioaaGreatDoor
open Go.RowKit
variable [AFG] [AFg] [AFp] [AFr] [AIJ] [AFq]
set_option linter.unusedSectionVars false
set_option linter.unusedVariables false
set_option linter.unusedSimpArgs false

theorem Bd9 (s : List UInt8) (hs : s.length ≤ 1000000) : AFE Tryz.prog 38 [slB s] (BhH s) := by
 refine AFk.toPureV (A0O (by simp) ?_)
 have m1 := AY3 AGY s
 have m2 := AY3 AMk (tr1 s)
 have m3 := AY3 A1Q (tr2 s)
 have m4 := AY3 AGK (tr3 s)
 simp -dsimp (disch := first | assumption | omega | (simp only [AE8]; done) | (simp only [AE8]; omega)) only [↓AFe, AFa, AFc, AFd, eq_self, Nat.reduceEqDiff, ↓reduceIte, reduceCtorEq, ↓AYR, ↓AUi, ↓AUE]
 refine AZW (Be5 (w := AGY) hs (by decide) rfl ?_)
 simp -dsimp (disch := first | assumption | omega | (simp only [AE8]; done) | (simp only [AE8]; omega)) only [↓AFe, AFa, AFc, AFd, eq_self, Nat.reduceEqDiff, ↓reduceIte]
 refine AZW (idV (x := mv AGY s) (by omega) rfl ?_)
 simp -dsimp (disch := first | assumption | omega | (simp only [AE8]; done) | (simp only [AE8]; omega)) only [↓AFe, AFa, AFc, AFd, eq_self, Nat.reduceEqDiff, ↓reduceIte, Nat.reduceAdd, ↓AUv]
 refine AZW (Be5 (w := AMk) (s := tr1 s) (by unfold tr1; omega) (by decide) rfl ?_)
 simp -dsimp (disch := first | assumption | omega | (simp only [AE8]; done) | (simp only [AE8]; omega)) only [↓AFe, AFa, AFc, AFd, eq_self, ↓reduceIte]
 refine (Bic (mv AMk (tr1 s))).calls rfl fun r hr => ?_
 obtain ⟨k0, kb, rfl, hkb1, hkb2⟩ : ∃ (k0 : Int) (kb : Bool), r = .tup [i64 k0, tb kb] ∧ (kb = true → AGS k0 = some (mv AMk (tr1 s))) ∧ (kb = false → ∀ k, AGS k ≠ some (mv AMk (tr1 s))) := by
  by_cases h : ∃ k, AGS k = some (mv AMk (tr1 s))
  ·obtain ⟨k, hk⟩ := h
   exact ⟨k, true, hr.1 k hk, fun _ => hk, fun h => (by cases h)⟩
  ·have h' : ∀ k, AGS k ≠ some (mv AMk (tr1 s)) := fun k hk => h ⟨k, hk⟩
   exact ⟨_, false, hr.2 h', fun h => (by cases h), fun _ => h'⟩
 simp -dsimp (disch := first | assumption | omega | (simp only [AE8]; done) | (simp only [AE8]; omega)) only [↓AFe, AFa, AFc, AFd, eq_self, Nat.reduceEqDiff, ↓reduceIte, ↓AUa]
 refine AZW (Be5 (w := A1Q) (s := tr2 s) (by unfold tr2 tr1 at *; omega) (by decide) rfl ?_)
 simp -dsimp (disch := first | assumption | omega | (simp only [AE8]; done) | (simp only [AE8]; omega)) only [↓AFe, AFa, AFc, AFd, eq_self, Nat.reduceEqDiff, ↓reduceIte, Nat.reduceAdd, ↓AU1]
 refine AZW (BhV (w := AGK) (s := tr3 s) (by unfold tr3 tr2 tr1 at *; omega) (by decide) rfl fun q ok hq1 hq2 => ?_)
 simp -dsimp (disch := first | assumption | omega | (simp only [AE8]; done) | (simp only [AE8]; omega)) only [↓AFe, AFa, AFc, AFd, eq_self, Nat.reduceEqDiff, ↓reduceIte, Nat.reduceAdd, ↓AVu]
 refine AZW (BcI (s := tr4 s) rfl ?_)
 have hB0 : (false || mb AGY s || !AJd (mv AGY s) || mb AMk (tr1 s) || mb A1Q (tr2 s) || mb AGK (tr3 s) || !ok || !Lib.hasPrefix (tr4 s) [10] || !AOv (Lib.trimPrefix (tr4 s) [10])) = (A79 s || !AJd (tv1 s) || !ok || !Lib.hasPrefix (tr4 s) [10] || !AOv (Lib.trimPrefix (tr4 s) [10])) := by
  unfold A79 tv1
  generalize mb AGY s = a1
  generalize mb AMk (tr1 s) = a2
  generalize mb A1Q (tr2 s) = a3
  generalize mb AGK (tr3 s) = a4
  generalize AJd (mv AGY s) = a5
  cases a1 <;> cases a2 <;> cases a3 <;> cases a4 <;> cases a5 <;> rfl
 rw [hB0]
 have hit := Bgu (mv A1Q (tr2 s)) (by unfold tr2 tr1 at *; omega)
 have fin := Biq (s := s) (k0 := k0) (kb := kb) (q := q) (ok := ok) hkb1 hkb2 hq1 hq2
 generalize (A79 s || !AJd (tv1 s) || !ok || !Lib.hasPrefix (tr4 s) [10] || !AOv (Lib.trimPrefix (tr4 s) [10])) = B at *
 clear hkb1 hkb2 hq1 hq2 hB0 hr
 cases B with
 | true =>
  simp -dsimp (disch := first | assumption | omega | (simp only [AE8]; done) | (simp only [AE8]; omega)) only [↓AFe, AFa, AFc, AFd, eq_self, Nat.reduceEqDiff, ↓reduceIte, Nat.reduceAdd, ↓AJc, ↓AI1]
  exact fin.1 (.inl rfl)
 | false =>
  cases kb with
  | false =>
   simp -dsimp (disch := first | assumption | omega | (simp only [AE8]; done) | (simp only [AE8]; omega)) only [↓AFe, AFa, AFc, AFd, eq_self, Nat.reduceEqDiff, ↓reduceIte, Nat.reduceAdd, ↓AJc, ↓AI1]
   exact fin.1 (.inr (.inl rfl))
  | true =>
   simp -dsimp (disch := first | assumption | omega | (simp only [AE8]; done) | (simp only [AE8]; omega)) only [↓AFe, AFa, AFc, AFd, eq_self, Nat.reduceEqDiff, ↓reduceIte, Nat.reduceAdd, ↓AJc]
   refine hit.calls rfl fun r hr => ?_
   subst hr
   cases hg : AMP (mv A1Q (tr2 s)) with
   | false =>
    simp -dsimp (disch := first | assumption | omega | (simp only [AE8]; done) | (simp only [AE8]; omega)) only [↓AFe, AFa, AFc, AFd, eq_self, Nat.reduceEqDiff, ↓reduceIte, Nat.reduceAdd, ↓AI1]
    exact fin.1 (.inr (.inr hg))
   | true =>
    simp -dsimp (disch := first | assumption | omega | (simp only [AE8]; done) | (simp only [AE8]; omega)) only [↓AFe, AFa, AFc, AFd, eq_self, Nat.reduceEqDiff, ↓reduceIte, Nat.reduceAdd, ↓AI1]
    exact fin.2 ⟨rfl, rfl, hg⟩
end Go.Proofs.YtliaddbbmnfioaaGreatDoor


namespace Go.Proofs.YtliaddbbmnfioaaGreatDoor
open Go.RowKit
variable [AFG] [AFg] [AFp] [AFr] [AIJ] [AFq]
set_option linter.unusedSectionVars false
set_option linter.unusedVariables false
set_option linter.unusedSimpArgs false

theorem Blb (k : Int) : AFE Tryz.prog 35 [i64 k] (fun r => r = ts ((AGS k).getD [])) := by
 refine AFk.toPureV (A5U (by simp) ?_)
 by_cases c1 : k = 1
 ·subst c1
  simp -dsimp (disch := first | assumption | omega | (simp only [AE8]; done) | (simp only [AE8]; omega)) only [↓AFe, AFa, AFc, AFd, eq_self, Nat.reduceEqDiff, ↓reduceIte, reduceCtorEq, ↓AOK]
  rfl
 by_cases c2 : k = 2
 ·subst c2
  simp -dsimp (disch := first | assumption | omega | (simp only [AE8]; done) | (simp only [AE8]; omega)) only [↓AFe, AFa, AFc, AFd, eq_self, Nat.reduceEqDiff, ↓reduceIte, reduceCtorEq, ↓AOK]
  rfl
 by_cases c3 : k = 3
 ·subst c3
  simp -dsimp (disch := first | assumption | omega | (simp only [AE8]; done) | (simp only [AE8]; omega)) only [↓AFe, AFa, AFc, AFd, eq_self, Nat.reduceEqDiff, ↓reduceIte, reduceCtorEq, ↓AOK]
  rfl
 by_cases c4 : k = 4
 ·subst c4
  simp -dsimp (disch := first | assumption | omega | (simp only [AE8]; done) | (simp only [AE8]; omega)) only [↓AFe, AFa, AFc, AFd, eq_self, Nat.reduceEqDiff, ↓reduceIte, reduceCtorEq, ↓AOK]
  rfl
 have hn : AGS k = none := by unfold AGS; rw [if_neg c1, if_neg c2, if_neg c3, if_neg c4]
 simp -dsimp (disch := first | assumption | omega | (simp only [AE8]; done) | (simp only [AE8]; omega)) only [↓AFe, AFa, AFc, AFd, eq_self, Nat.reduceEqDiff, ↓reduceIte, reduceCtorEq, ↓AOK]
 rw [hn]; rfl
/-- What the document's WriteTag says. -/
def BkW (t : A7o) (r : TV) : Prop := (A5r t → r = .tup [slB (tgB t), i64 ((0 : Nat) : Int)]) ∧ (¬ A5r t → r = .tup [.val (.slice none 0 0), i64 ((23 : Nat) : Int)])
theorem Bdn {x k n p m : List UInt8} : ([111, 98, 106, 101, 99, 116, 32] : List UInt8) ++ x ++ [10, 116, 121, 112, 101, 32] ++ k ++ [10, 116, 97, 103, 32] ++ n ++ [10, 116, 97, 103, 103, 101, 114, 32] ++ p ++ [10, 10] ++ m = A3W x k n p m := by
 simp [A3W, AGY, AMk, A1Q, AGK]
theorem BbT {x k n p m : List UInt8} : (111 :: 98 :: 106 :: 101 :: 99 :: 116 :: 32 :: (x ++ [10, 116, 121, 112, 101, 32] ++ k ++ [10, 116, 97, 103, 32] ++ n ++ [10, 116, 97, 103, 103, 101, 114, 32] ++ p ++ [10, 10] ++ m)) = A3W x k n p m := by
 simp [A3W, AGY, AMk, A1Q, AGK]
theorem A3O (t : A7o) (hf : A8Q t) : AUt Tryz.prog 10 [tgT t] (BkW t) := by
 refine AFk.toFreshV (A1s (by simp) ?_)
 obtain ⟨id, k, n, p, m⟩ := t
 obtain ⟨h20, ⟨hk1, hk2⟩, hp, hnl⟩ := hf
 have hkn := Blb k
 have hwp := Bg3 p hp
 have htn := BhN n
 have hmm := Bcg m
 have hhx := BhC id h20
 unfold BkW A5r tgB
 simp only at *
 have hnil : (AGS k = none) ↔ (AGS k).getD [] = [] := by
  cases hkk : AGS k with
  | none => simp
  | some kn =>
   rw [AGw] at hkk
   rcases hkk with ⟨_, rfl⟩ | ⟨_, rfl⟩ | ⟨_, rfl⟩ | ⟨_, rfl⟩ <;> simp
 simp -dsimp (disch := first | assumption | omega | (simp only [AE8]; done) | (simp only [AE8]; omega)) only [↓AFe, AFa, AFc, AFd, eq_self, Nat.reduceEqDiff, ↓reduceIte, Nat.reduceAdd, ↓A0z, ↓AWr]
 refine htn.calls rfl fun r hr => ?_
 subst hr
 simp -dsimp (disch := first | assumption | omega | (simp only [AE8]; done) | (simp only [AE8]; omega)) only [↓AFe, AFa, AFc, AFd, eq_self, Nat.reduceEqDiff, ↓reduceIte, Nat.reduceAdd, ↓AWq]
 refine hwp.calls rfl fun r hr => ?_
 obtain ⟨tx, ok, rfl, hx⟩ : ∃ tx ok, r = .tup [ts tx, tb ok] ∧ ((ok = true ∧ AGR p ∧ tx = AJl p) ∨ (ok = false ∧ ¬ AGR p)) := by
  by_cases h : AGR p
  ·exact ⟨_, _, hr.1 h, .inl ⟨rfl, h, rfl⟩⟩
  ·exact ⟨_, _, hr.2 h, .inr ⟨rfl, h⟩⟩
 simp -dsimp (disch := first | assumption | omega | (simp only [AE8]; done) | (simp only [AE8]; omega)) only [↓AFe, AFa, AFc, AFd, eq_self, Nat.reduceEqDiff, ↓reduceIte, Nat.reduceAdd, ↓AVR]
 refine hmm.calls rfl fun r hr => ?_
 subst hr
 simp -dsimp (disch := first | assumption | omega | (simp only [AE8]; done) | (simp only [AE8]; omega)) only [↓AFe, AFa, AFc, AFd, eq_self, Nat.reduceEqDiff, ↓reduceIte, Nat.reduceAdd, ↓AWn]
 refine hkn.calls rfl fun r hr => ?_
 subst hr
 by_cases hkk : (AGS k).getD [] = []
 ·simp -dsimp (disch := first | assumption | omega | (simp only [AE8]; done) | (simp only [AE8]; omega)) only [↓AFe, AFa, AFc, AFd, eq_self, Nat.reduceEqDiff, ↓reduceIte, hkk, ↓AIA]
  exact ⟨fun h => absurd (hnil.2 hkk) h.2.1, fun _ => by trivial⟩
 cases hg : AMP n with
 | false =>
  simp -dsimp (disch := first | assumption | omega | (simp only [AE8]; done) | (simp only [AE8]; omega)) only [↓AFe, AFa, AFc, AFd, eq_self, Nat.reduceEqDiff, ↓reduceIte, hkk, ↓AIA]
  exact ⟨fun h => (by cases h.2.2.2.1), fun _ => by trivial⟩
 | true =>
  rcases hx with ⟨rfl, hok, rfl⟩ | ⟨rfl, hok⟩
  case inr =>
   simp -dsimp (disch := first | assumption | omega | (simp only [AE8]; done) | (simp only [AE8]; omega)) only [↓AFe, AFa, AFc, AFd, eq_self, Nat.reduceEqDiff, ↓reduceIte, hkk, ↓AIA]
   exact ⟨fun h => absurd h.2.2.1 hok, fun _ => by trivial⟩
  cases hm : AOv m with
  | false =>
   simp -dsimp (disch := first | assumption | omega | (simp only [AE8]; done) | (simp only [AE8]; omega)) only [↓AFe, AFa, AFc, AFd, eq_self, Nat.reduceEqDiff, ↓reduceIte, hkk, ↓AIA]
   exact ⟨fun h => h.2.2.2.elim, fun _ => by trivial⟩
  | true =>
   have hpl := A4y hok
   have hn60 := (AVE.1 hg).2.1
   have hm2 : m.length ≤ 2000 := by unfold AOv at hm; simp at hm; exact hm.1
   have hhl : (AHl id).length = 40 := by rw [AM0]; omega
   have hkl : ((AGS k).getD []).length ≤ 6 := by
    cases h : AGS k with
    | none => simp
    | some kn => exact (AOo h).2.2
   have htl := Bdn (x := AHl id) (k := (AGS k).getD []) (n := n) (p := AJl p) (m := m)
   simp -dsimp (disch := first | assumption | omega | (simp only [AE8]; done) | (simp only [AE8]; omega)) only [↓AFe, AFa, AFc, AFd, eq_self, Nat.reduceEqDiff, ↓reduceIte, hkk, ↓AVL]
   refine ⟨_, hhx.calls rfl fun r hr => ⟨hr, rfl⟩, ?_⟩
   simp -dsimp (disch := first | assumption | omega | (simp only [AE8]; done) | (simp only [AE8]; omega)) only [↓AFe, AFa, AFc, AFd, eq_self, Nat.reduceEqDiff, ↓reduceIte, Nat.reduceAdd, AS4]
   refine ⟨_, hkn.calls rfl fun r hr => ⟨hr, rfl⟩, ?_⟩
   have hrs : (A3W (AHl id) ((AGS k).getD []) n (AJl p) m).length ≤ 1000000 := by
    rw [← htl]
    simp only [List.length_append, List.length_cons, List.length_nil]
    omega
   have htk : ∀ x : List UInt8, (x.map by8).take x.length = x.map by8 := fun x => List.take_of_length_le (by simp)
   simp -dsimp (disch := first | assumption | omega | (simp only [AE8]; done) | (simp only [AE8]; omega)) only [↓AFe, AFa, AFc, AFd, eq_self, Nat.reduceEqDiff, ↓reduceIte, Nat.reduceAdd, AS4, BbT, AFi, htk, ↓AIA]
   exact ⟨fun _ => trivial, fun h => absurd ⟨h20, fun e => hkk (hnil.1 e), hok⟩ h⟩
end Go.Proofs.YtliaddbbmnfioaaGreatDoor


namespace Go.Proofs.YtliaddbbmnfioaaGreatDoor
open Go.RowKit
variable [AFG]
set_option linter.unusedSectionVars false
set_option linter.unusedVariables false
set_option linter.unusedSimpArgs false

theorem BaL : ∀ (l : List UInt8) (n k : Nat), n < 10 ^ k → l.all AIR = true → AQ2 n l < 10 ^ (k + l.length)
 | [], n, k, h, _ => h
 | b :: l, n, k, h, ha => by
  rw [List.all_cons, Bool.and_eq_true] at ha
  have hb : b.toNat - 48 ≤ 9 := by
   have := ha.1
   unfold AIR at this
   simp at this
   omega
  have h10 : n * 10 + (b.toNat - 48) < 10 ^ (k + 1) := by
   rw [Nat.pow_succ]
   have : n + 1 ≤ 10 ^ k := h
   have h2 : (n + 1) * 10 ≤ 10 ^ k * 10 := Nat.mul_le_mul_right 10 this
   generalize 10 ^ k * 10 = z at *
   omega
  have := BaL l (n * 10 + (b.toNat - 48)) (k + 1) h10 ha.2
  rw [List.length_cons, show k + (l.length + 1) = k + 1 + l.length by omega]
  exact this
theorem A7F {l : List UInt8} (h : l.length ≤ 15) (ha : l.all AIR = true) : AQ2 0 l < 1000000000000000 := by
 have h1 := BaL l 0 0 (by decide) ha
 have h2 : 10 ^ (0 + l.length) ≤ 10 ^ 15 := Nat.pow_le_pow_right (by decide) (by omega)
 exact Nat.lt_of_lt_of_le h1 (Nat.le_trans h2 (by decide))
/-- A number of at most 15 digits; -1: it is none. -/
def AZI (s : List UInt8) : Int := if 1 ≤ s.length ∧ s.length ≤ 15 ∧ (1 < s.length → s[0]? ≠ some 48) ∧ s.all AIR = true then (AQ2 0 s : Int) else -1
theorem A5h (s : List UInt8) : AFE Tryz.prog 108 [ts s] (fun x => x = i64 (AZI s)) := by
 refine AFk.toPureV (A3y (by simp) ?_)
 by_cases h1 : 1 ≤ s.length
 case neg =>
  have e : AZI s = -1 := by unfold AZI; rw [if_neg (fun h => h1 h.1)]
  rw [e]
  simp -dsimp (disch := first | assumption | omega | (simp only [AE8]; done) | (simp only [AE8]; omega)) only [↓AFe, AFa, AFc, AFd, eq_self, Nat.reduceEqDiff, ↓reduceIte, reduceCtorEq, ↓AI5, ↓AHQ, ↓AGx, AFi]
 by_cases h15 : s.length ≤ 15
 case neg =>
  have e : AZI s = -1 := by unfold AZI; rw [if_neg (fun h => h15 h.2.1)]
  rw [e]
  simp -dsimp (disch := first | assumption | omega | (simp only [AE8]; done) | (simp only [AE8]; omega)) only [↓AFe, AFa, AFc, AFd, eq_self, Nat.reduceEqDiff, ↓reduceIte, reduceCtorEq, ↓AI5, ↓AHQ, ↓AGx, AFi]
 have hg0 : s[0]? = some s[0] := List.getElem?_eq_getElem (by omega)
 generalize s[0] = z at *
 by_cases hl : 1 < s.length
 ·by_cases hz : z.toNat = 48
  ·have e : AZI s = -1 := by
    unfold AZI
    rw [if_neg]
    rintro ⟨_, _, h3, _⟩
    exact h3 hl (by rw [hg0, show z = 48 from UInt8.toNat_inj.1 hz])
   rw [e]
   simp -dsimp (disch := first | assumption | omega | (simp only [AE8]; done) | (simp only [AE8]; omega)) only [↓AFe, AFa, AFc, AFd, eq_self, Nat.reduceEqDiff, ↓reduceIte, reduceCtorEq, ↓AI5, ↓AHQ, ↓AGx, AFi, hg0]
  have hnz : 1 < s.length → s[0]? ≠ some 48 := fun _ h => by
   rw [hg0] at h
   exact hz (by rw [Option.some.inj h]; rfl)
  simp -dsimp (disch := first | assumption | omega | (simp only [AE8]; done) | (simp only [AE8]; omega)) only [↓AFe, AFa, AFc, AFd, eq_self, Nat.reduceEqDiff, ↓reduceIte, reduceCtorEq, ↓AI5, ↓AHQ, ↓APD, ↓AO8, ↓APM, AFi, hg0]
  refine AI0 (fun q e H => ∃ (i : Nat), q = s.length - i ∧ i ≤ s.length ∧ (s.take i).all AIR = true ∧ e = [(0, ts s), (3, i64 ((AQ2 0 (s.take i) : Nat) : Int)), (4, i64 (i : Int))] ∧ H = []) s.length ?_ ?_
  ·exact ⟨0, rfl, by omega, rfl, rfl, rfl⟩
  ·rintro q e H ⟨i, rfl, hi, hall, rfl, rfl⟩
   by_cases h : i < s.length
   ·have hg : s[i]? = some s[i] := List.getElem?_eq_getElem h
    have hsucc := List.take_succ_eq_append_getElem h
    generalize s[i] = b at *
    have hb := b.toNat_lt
    have hnum : AQ2 0 (s.take (i + 1)) = AQ2 0 (s.take i) * 10 + (b.toNat - 48) := by rw [hsucc, APd]; rfl
    have hlt := A7F (l := s.take i) (by simp; omega) hall
    have hall2 : AIR b = true → (s.take (i + 1)).all AIR = true := fun hd => by rw [hsucc, List.all_append, hall]; simp [hd]
    have hbad : AIR b = false → AZI s = -1 := fun hd => by
     unfold AZI
     rw [if_neg]
     rintro ⟨_, _, _, ha⟩
     have := List.all_eq_true.1 ha b (List.mem_of_getElem? hg)
     rw [hd] at this; cases this
    generalize AQ2 0 (s.take i) = n at *
    by_cases d1 : b.toNat < 48
    ·rw [hbad (by unfold AIR; simp; omega)]
     simp -dsimp (disch := first | assumption | omega | (simp only [AE8]; done) | (simp only [AE8]; omega)) only [↓AFe, AFa, AFc, AFd, eq_self, Nat.reduceEqDiff, ↓reduceIte, reduceCtorEq, ↓AGl, ↓AGJ, ↓AGx, AFi, hg]
    by_cases d2 : b.toNat > 57
    ·rw [hbad (by unfold AIR; simp; omega)]
     simp -dsimp (disch := first | assumption | omega | (simp only [AE8]; done) | (simp only [AE8]; omega)) only [↓AFe, AFa, AFc, AFd, eq_self, Nat.reduceEqDiff, ↓reduceIte, reduceCtorEq, ↓AGl, ↓AGJ, ↓AGx, AFi, hg]
    have hwr : IntKind.i64.wrap ((b.toNat - 48 : Nat) : Int) = ((b.toNat - 48 : Nat) : Int) := AGD (by omega) (by omega)
    simp -dsimp (disch := first | assumption | omega | (simp only [AE8]; done) | (simp only [AE8]; omega)) only [↓AFe, AFa, AFc, AFd, eq_self, Nat.reduceEqDiff, ↓reduceIte, reduceCtorEq, ↓AGl, ↓AGJ, AFi, hg, ATG, hwr]
    exact AFO (s.length - (i + 1)) (by omega) (by simp) ⟨i + 1, rfl, by omega, hall2 (by unfold AIR; simp; omega), by rw [hnum]; rfl, rfl⟩
   ·have hi2 : i = s.length := by omega
    subst hi2
    rw [List.take_length] at hall ⊢
    have e : AZI s = (AQ2 0 s : Int) := by unfold AZI; rw [if_pos ⟨h1, h15, hnz, hall⟩]
    rw [e]
    simp -dsimp (disch := first | assumption | omega | (simp only [AE8]; done) | (simp only [AE8]; omega)) only [↓AFe, AFa, AFc, AFd, eq_self, Nat.reduceEqDiff, ↓reduceIte, reduceCtorEq, ↓AGl, ↓APN, ↓AGx, AFi]
 ·have hnz : 1 < s.length → s[0]? ≠ some 48 := fun h => absurd h hl
  simp -dsimp (disch := first | assumption | omega | (simp only [AE8]; done) | (simp only [AE8]; omega)) only [↓AFe, AFa, AFc, AFd, eq_self, Nat.reduceEqDiff, ↓reduceIte, reduceCtorEq, ↓AI5, ↓AHQ, ↓APD, ↓AO8, ↓APM, AFi]
  refine AI0 (fun q e H => ∃ (i : Nat), q = s.length - i ∧ i ≤ s.length ∧ (s.take i).all AIR = true ∧ e = [(0, ts s), (3, i64 ((AQ2 0 (s.take i) : Nat) : Int)), (4, i64 (i : Int))] ∧ H = []) s.length ?_ ?_
  ·exact ⟨0, rfl, by omega, rfl, rfl, rfl⟩
  ·rintro q e H ⟨i, rfl, hi, hall, rfl, rfl⟩
   by_cases h : i < s.length
   ·have hg : s[i]? = some s[i] := List.getElem?_eq_getElem h
    have hsucc := List.take_succ_eq_append_getElem h
    generalize s[i] = b at *
    have hb := b.toNat_lt
    have hnum : AQ2 0 (s.take (i + 1)) = AQ2 0 (s.take i) * 10 + (b.toNat - 48) := by rw [hsucc, APd]; rfl
    have hlt := A7F (l := s.take i) (by simp; omega) hall
    have hall2 : AIR b = true → (s.take (i + 1)).all AIR = true := fun hd => by rw [hsucc, List.all_append, hall]; simp [hd]
    have hbad : AIR b = false → AZI s = -1 := fun hd => by
     unfold AZI
     rw [if_neg]
     rintro ⟨_, _, _, ha⟩
     have := List.all_eq_true.1 ha b (List.mem_of_getElem? hg)
     rw [hd] at this; cases this
    generalize AQ2 0 (s.take i) = n at *
    by_cases d1 : b.toNat < 48
    ·rw [hbad (by unfold AIR; simp; omega)]
     simp -dsimp (disch := first | assumption | omega | (simp only [AE8]; done) | (simp only [AE8]; omega)) only [↓AFe, AFa, AFc, AFd, eq_self, Nat.reduceEqDiff, ↓reduceIte, reduceCtorEq, ↓AGl, ↓AGJ, ↓AGx, AFi, hg]
    by_cases d2 : b.toNat > 57
    ·rw [hbad (by unfold AIR; simp; omega)]
     simp -dsimp (disch := first | assumption | omega | (simp only [AE8]; done) | (simp only [AE8]; omega)) only [↓AFe, AFa, AFc, AFd, eq_self, Nat.reduceEqDiff, ↓reduceIte, reduceCtorEq, ↓AGl, ↓AGJ, ↓AGx, AFi, hg]
    have hwr : IntKind.i64.wrap ((b.toNat - 48 : Nat) : Int) = ((b.toNat - 48 : Nat) : Int) := AGD (by omega) (by omega)
    simp -dsimp (disch := first | assumption | omega | (simp only [AE8]; done) | (simp only [AE8]; omega)) only [↓AFe, AFa, AFc, AFd, eq_self, Nat.reduceEqDiff, ↓reduceIte, reduceCtorEq, ↓AGl, ↓AGJ, AFi, hg, ATG, hwr]
    exact AFO (s.length - (i + 1)) (by omega) (by simp) ⟨i + 1, rfl, by omega, hall2 (by unfold AIR; simp; omega), by rw [hnum]; rfl, rfl⟩
   ·have hi2 : i = s.length := by omega
    subst hi2
    rw [List.take_length] at hall ⊢
    have e : AZI s = (AQ2 0 s : Int) := by unfold AZI; rw [if_pos ⟨h1, h15, hnz, hall⟩]
    rw [e]
    simp -dsimp (disch := first | assumption | omega | (simp only [AE8]; done) | (simp only [AE8]; omega)) only [↓AFe, AFa, AFc, AFd, eq_self, Nat.reduceEqDiff, ↓reduceIte, reduceCtorEq, ↓AGl, ↓APN, ↓AGx, AFi]
end Go.Proofs.YtliaddbbmnfioaaGreatDoor


namespace Go.Proofs.YtliaddbbmnfioaaGreatDoor
open Go.RowKit
variable [AFG]
set_option linter.unusedSectionVars false
set_option linter.unusedVariables false
set_option linter.unusedSimpArgs false

theorem A1f {c : UInt8} {s : List UInt8} {i j : Nat} (hi : s[i]? = some c) (hi2 : c ∉ s.take i) (hj : s[j]? = some c) (hj2 : c ∉ s.take j) : i = j := by
 rcases Nat.lt_trichotomy i j with h | h | h
 ·refine absurd (List.mem_of_getElem? (i := i) ?_) hj2
  rw [List.getElem?_take, if_pos h]; exact hi
 ·exact h
 ·refine absurd (List.mem_of_getElem? (i := j) ?_) hi2
  rw [List.getElem?_take, if_pos h]; exact hj
theorem BfP : ∀ n : Nat, 1 ≤ n → (Lib.decDigits n)[0]? ≠ some 48 := by
 intro n
 induction n using Nat.strongRecOn with
 | _ n ih =>
  intro hn
  by_cases h : n < 10
  ·rw [Lib.decDigits_one h]
   intro e
   simp only [List.getElem?_cons_zero, Option.some.injEq] at e
   have := congrArg UInt8.toNat e
   rw [UInt8.toNat_ofNat'] at this
   simp at this
   omega
  ·have hne := A80 (n / 10)
   have h1 : 1 ≤ (Lib.decDigits (n / 10)).length := by
    cases hd : Lib.decDigits (n / 10) with
    | nil => exact absurd hd hne
    | cons a l => simp
   rw [Lib.decDigits.eq_1 n, dif_neg h, List.getElem?_append_left (by omega)]
   exact ih _ (by omega) (by omega)
theorem A3J : ∀ (k n : Nat), n < 10 ^ (k + 1) → (Lib.decDigits n).length ≤ k + 1
 | 0, n, h => by rw [Lib.decDigits_one (by simpa using h)]; simp
 | k + 1, n, h => by
  by_cases c : n < 10
  ·rw [Lib.decDigits_one c]; simp
  ·rw [Lib.decDigits.eq_1 n, dif_neg c, List.length_append]
   have := A3J k (n / 10) (Nat.div_lt_of_lt_mul (by rw [Nat.mul_comm, ← Nat.pow_succ]; exact h))
   simp
   exact this
theorem Bbn {n : Nat} (h : n ≤ 1099511627776) : (Lib.decDigits n).length ≤ 13 := A3J 12 n (Nat.lt_of_le_of_lt h (by decide))
theorem Bel {n : Nat} (h : n ≤ 1099511627776) : AZI (Lib.decDigits n) = (n : Int) := by
 obtain ⟨h1, h2⟩ := A4z n
 have hl := Bbn h
 have hne := A80 n
 have h0 : 1 ≤ (Lib.decDigits n).length := by
  cases hd : Lib.decDigits n with
  | nil => exact absurd hd hne
  | cons a l => simp
 have hz : 1 < (Lib.decDigits n).length → (Lib.decDigits n)[0]? ≠ some 48 := fun hlt => BfP n (by
  by_cases hn : n = 0
  ·subst hn
   rw [Lib.decDigits_one (by omega)] at hlt
   simp at hlt
  ·omega)
 unfold AZI
 rw [if_pos ⟨h0, by omega, hz, h1⟩, h2]
/-- A text of a '1' and two digits. -/
theorem A8w {a b : Nat} (ha : a < 10) (hb : b < 10) : AZI [49, UInt8.ofNat (48 + a), UInt8.ofNat (48 + b)] = ((100 + a * 10 + b : Nat) : Int) := by
 obtain ⟨a1, a2⟩ := AVs ha
 obtain ⟨b1, b2⟩ := AVs hb
 generalize UInt8.ofNat (48 + a) = x at *
 generalize UInt8.ofNat (48 + b) = y at *
 have e : AQ2 0 [49, x, y] = ((0 * 10 + ((49 : UInt8).toNat - 48)) * 10 + (x.toNat - 48)) * 10 + (y.toNat - 48) := rfl
 have e49 : (49 : UInt8).toNat = 49 := rfl
 have hd : AIR 49 = true := by decide
 unfold AZI
 rw [if_pos ⟨by simp, by simp, fun _ => by simp, by simp [hd, a1, b1]⟩, e, a2, b2, e49]
 omega
/-- Where a person's parts lie. -/
structure Bnb (p : Per) (s : List UInt8) (o sh : Nat) : Prop where
 at1 : s[o]? = some 60
 no1 : 60 ∉ s.take o
 at2 : s[sh]? = some 62
 no2 : 62 ∉ (s.drop o).take (sh - o)
 le : o < sh
 one : 1 ≤ o
 len : s.length = sh + 2 + (Lib.decDigits p.time.toNat).length + 6
 name : s.take (o - 1) = p.name
 mail : (s.drop (o + 1)).take (sh - (o + 1)) = p.mail
 time : (s.drop (sh + 2)).take (s.length - 6 - (sh + 2)) = Lib.decDigits p.time.toNat
 sign : s[s.length - 5]? = some (AY8 p.zone)
 hrs : (s.drop (s.length - 4)).take 2 = [UInt8.ofNat (48 + p.zone.natAbs / 60 / 10), UInt8.ofNat (48 + p.zone.natAbs / 60 % 10)]
 mins : s.drop (s.length - 2) = [UInt8.ofNat (48 + p.zone.natAbs % 60 / 10), UInt8.ofNat (48 + p.zone.natAbs % 60 % 10)]
theorem Bct {a r : List UInt8} {c : UInt8} {k : Nat} (h : a.length = k) : (a ++ c :: r)[k]? = some c := by
 subst h
 rw [List.getElem?_append_right (Nat.le_refl _), Nat.sub_self]; rfl
theorem BeC {p : Per} (hp : AGR p) : Bnb p (AJl p) (p.name.length + 1) (p.name.length + 2 + p.mail.length) := by
 obtain ⟨h1, h2, _⟩ := hp
 generalize hd : Lib.decDigits p.time.toNat = d
 have e1 : AJl p = (p.name ++ [32]) ++ (60 :: (p.mail ++ 62 :: 32 :: (d ++ 32 :: AIH p))) := by rw [← hd]; simp [AJl]
 have e2 : AJl p = (p.name ++ [32, 60] ++ p.mail) ++ (62 :: 32 :: (d ++ 32 :: AIH p)) := by rw [← hd]; simp [AJl]
 have e3 : AJl p = (p.name ++ [32, 60] ++ p.mail ++ [62, 32]) ++ (d ++ 32 :: AIH p) := by rw [← hd]; simp [AJl]
 have e4 : AJl p = (p.name ++ [32, 60] ++ p.mail ++ [62, 32] ++ d ++ [32]) ++ (AY8 p.zone :: AVX p.zone.natAbs) := by rw [← hd]; simp [AJl, AIH]
 have e5 : AJl p = (p.name ++ [32, 60] ++ p.mail ++ [62, 32] ++ d ++ [32, AY8 p.zone]) ++ ([UInt8.ofNat (48 + p.zone.natAbs / 60 / 10), UInt8.ofNat (48 + p.zone.natAbs / 60 % 10)] ++ [UInt8.ofNat (48 + p.zone.natAbs % 60 / 10), UInt8.ofNat (48 + p.zone.natAbs % 60 % 10)]) := by rw [← hd]; simp [AJl, AIH, AVX]
 have e6 : AJl p = (p.name ++ [32, 60] ++ p.mail ++ [62, 32] ++ d ++ [32, AY8 p.zone] ++ [UInt8.ofNat (48 + p.zone.natAbs / 60 / 10), UInt8.ofNat (48 + p.zone.natAbs / 60 % 10)]) ++ [UInt8.ofNat (48 + p.zone.natAbs % 60 / 10), UInt8.ofNat (48 + p.zone.natAbs % 60 % 10)] := by rw [← hd]; simp [AJl, AIH, AVX]
 have e7 : AJl p = p.name ++ ([32, 60] ++ (p.mail ++ (62 :: 32 :: (d ++ 32 :: AIH p)))) := by rw [← hd]; simp [AJl]
 have e8 : AJl p = (p.name ++ [32, 60]) ++ (p.mail ++ (62 :: 32 :: (d ++ 32 :: AIH p))) := by rw [← hd]; simp [AJl]
 have hlen : (AJl p).length = p.name.length + 2 + p.mail.length + 2 + d.length + 6 := by
  rw [e5]
  simp only [List.length_append, List.length_cons, List.length_nil]
 refine ⟨?_, ?_, ?_, ?_, by omega, by omega, by rw [hd]; exact hlen, ?_, ?_, ?_, ?_, ?_, ?_⟩
 ·rw [e1]; exact Bct (by simp)
 ·rw [e1, List.take_left' (by simp)]
  intro hm
  rcases List.mem_append.1 hm with hm | hm
  ·exact (h1.2.1 _ hm).1 rfl
  ·simp at hm
 ·rw [e2]; exact Bct (by simp; omega)
 ·rw [e1, List.drop_left' (by simp), show p.name.length + 2 + p.mail.length - (p.name.length + 1) = p.mail.length + 1 by omega, List.take_succ_cons, List.take_left' rfl]
  intro hm
  rcases List.mem_cons.1 hm with hm | hm
  ·cases hm
  ·exact (h2.2.1 _ hm).2.1 rfl
 ·rw [Nat.add_sub_cancel, e7, List.take_left' rfl]
 ·rw [e8, List.drop_left' (by simp), show p.name.length + 2 + p.mail.length - (p.name.length + 1 + 1) = p.mail.length by omega, List.take_left' rfl]
 ·rw [hlen, e3, List.drop_left' (by simp; omega), List.take_left' (by omega), hd]
 ·rw [hlen, e4]; exact Bct (by simp; omega)
 ·rw [hlen, e5, List.drop_left' (by simp; omega)]; rfl
 ·rw [hlen, e6, List.drop_left' (by simp; omega)]
end Go.Proofs.YtliaddbbmnfioaaGreatDoor


namespace Go.Proofs.YtliaddbbmnfioaaGreatDoor
open Go.RowKit
variable [AFG] [AFg] [AFp] [AFr] [AIJ] [AFq]
set_option linter.unusedSectionVars false
set_option linter.unusedVariables false
set_option linter.unusedSimpArgs false

theorem Bha {p : Per} {s : List UInt8} {i j : Nat} (hp : AGR p) (e : AJl p = s) (h1 : 60 ∉ s.take i) (h2 : i = s.length ∨ s[i]? = some 60) (hij : i ≤ j) (h3 : 62 ∉ (s.drop i).take (j - i)) (h4 : j = s.length ∨ s[j]? = some 62) : Bnb p s i j := by
 subst e
 have L := BeC hp
 have hi : i = p.name.length + 1 := by
  rcases h2 with h2 | h2
  ·exfalso
   rw [h2, List.take_length] at h1
   exact h1 (List.mem_of_getElem? L.at1)
  ·exact A1f h2 h1 L.at1 L.no1
 have hj : j = p.name.length + 2 + p.mail.length := by
  have hle := L.le
  have a2 : ((AJl p).drop i)[p.name.length + 2 + p.mail.length - i]? = some 62 := by
   rw [List.getElem?_drop, show i + (p.name.length + 2 + p.mail.length - i) = p.name.length + 2 + p.mail.length by omega]
   exact L.at2
  have n2 := L.no2
  rw [← hi] at n2
  rcases h4 with h4 | h4
  ·exfalso
   rw [h4, List.take_of_length_le (by simp)] at h3
   exact h3 (List.mem_of_getElem? a2)
  ·have b2 : ((AJl p).drop i)[j - i]? = some 62 := by
    rw [List.getElem?_drop, show i + (j - i) = j by omega]
    exact h4
   have := A1f b2 h3 a2 n2
   omega
 rw [hi, hj]
 exact L
theorem A7k (l : List UInt8) : -1 ≤ AZI l ∧ AZI l ≤ 1000000000000000 := by
 unfold AZI
 split
 ·rename_i h
  have := A7F h.2.1 h.2.2.2
  omega
 ·omega
theorem A6G (s : List UInt8) (hs : s.length ≤ 1000000) : AFE Tryz.prog 78 [ts s] (A3t s) := by
 refine AFk.toPureV (AZe (by simp) ?_)
 simp -dsimp (disch := first | assumption | omega | (simp only [AE8]; done) | (simp only [AE8]; omega)) only [↓AFe, AFa, AFc, AFd, eq_self, Nat.reduceEqDiff, ↓reduceIte, reduceCtorEq, ↓AXq, ↓ASR, ↓AS6, ↓ATm]
 refine AI0 (fun q e H => ∃ i : Nat, q = s.length - i ∧ i ≤ s.length ∧ 60 ∉ s.take i ∧ e = [(0, ts s), (2, .op 0 0 []), (4, .op 1 0 []), (5, i64 (i : Int))] ∧ H = [.obj 0 (AVC ⟨[], [], 0, 0⟩), .obj 0 (AVC ⟨[], [], 0, 0⟩)]) s.length ?_ ?_
 ·exact ⟨0, rfl, by omega, by simp, rfl, rfl⟩
 ·rintro q e H ⟨i, rfl, hi, hno, rfl, rfl⟩
  by_cases hgo : i < s.length ∧ s[i]? ≠ some 60
  ·obtain ⟨h, hne⟩ := hgo
   have hg : s[i]? = some s[i] := List.getElem?_eq_getElem h
   have hsucc := List.take_succ_eq_append_getElem h
   generalize s[i] = c at *
   have hc : ¬ c.toNat = 60 := fun e => hne (by rw [hg, show c = 60 from UInt8.toNat_inj.1 e])
   simp -dsimp (disch := first | assumption | omega | (simp only [AE8]; done) | (simp only [AE8]; omega)) only [↓AFe, AFa, AFc, AFd, eq_self, Nat.reduceEqDiff, ↓reduceIte, Nat.reduceAdd, reduceCtorEq, ↓AIY, AFi, hg]
   exact AFO (s.length - (i + 1)) (by omega) (by simp) ⟨i + 1, rfl, by omega, (by rw [hsucc]; intro hm; rcases List.mem_append.1 hm with h1 | h1; exact hno h1; simp at h1; exact hc (by rw [← h1]; rfl)), rfl, rfl⟩
  ·have hend : i = s.length ∨ s[i]? = some 60 := by
    by_cases h : i < s.length
    ·exact .inr (Classical.byContradiction fun hn => hgo ⟨h, hn⟩)
    ·exact .inl (by omega)
   clear hgo
   have go2 : vwp Tryz.prog AI7 (A50 AJj fun x H' => AGg (AJW H' (A8h H' 2) x) (A3t s)) [(0, ts s), (2, .op 0 0 []), (4, .op 1 0 []), (5, i64 (i : Int)), (21, .val (.bool false))] [.obj 0 (AVC ⟨[], [], 0, 0⟩), .obj 0 (AVC ⟨[], [], 0, 0⟩)] := by
    simp -dsimp (disch := first | assumption | omega | (simp only [AE8]; done) | (simp only [AE8]; omega)) only [↓AFe, AFa, AFc, AFd, eq_self, Nat.reduceEqDiff, ↓reduceIte, reduceCtorEq, ↓ATf, ↓ASG]
    refine AI0 (fun q e H => ∃ j : Nat, q = s.length - j ∧ i ≤ j ∧ j ≤ s.length ∧ 62 ∉ (s.drop i).take (j - i) ∧ e = [(0, ts s), (2, .op 0 0 []), (4, .op 1 0 []), (5, i64 (i : Int)), (6, i64 (j : Int))] ∧ H = [.obj 0 (AVC ⟨[], [], 0, 0⟩), .obj 0 (AVC ⟨[], [], 0, 0⟩)]) (s.length - i) ?_ ?_
    ·exact ⟨i, rfl, by omega, hi, by simp, rfl, rfl⟩
    ·rintro q e H ⟨j, rfl, hij, hj, hno2, rfl, rfl⟩
     by_cases hgo : j < s.length ∧ s[j]? ≠ some 62
     ·obtain ⟨h, hne⟩ := hgo
      have hg : s[j]? = some s[j] := List.getElem?_eq_getElem h
      have hsucc : (s.drop i).take (j + 1 - i) = (s.drop i).take (j - i) ++ [s[j]] := by
       rw [show j + 1 - i = (j - i) + 1 by omega, List.take_add_one, List.getElem?_drop, show i + (j - i) = j by omega, hg]
       rfl
      generalize s[j] = c at *
      have hc : ¬ c.toNat = 62 := fun e => hne (by rw [hg, show c = 62 from UInt8.toNat_inj.1 e])
      simp -dsimp (disch := first | assumption | omega | (simp only [AE8]; done) | (simp only [AE8]; omega)) only [↓AFe, AFa, AFc, AFd, eq_self, Nat.reduceEqDiff, ↓reduceIte, Nat.reduceAdd, reduceCtorEq, ↓AIX, AFi, hg]
      exact AFO (s.length - (j + 1)) (by omega) (by simp) ⟨j + 1, rfl, by omega, by omega, (by rw [hsucc]; intro hm; rcases List.mem_append.1 hm with h1 | h1; exact hno2 h1; simp at h1; exact hc (by rw [← h1]; rfl)), rfl, rfl⟩
     ·have hend2 : j = s.length ∨ s[j]? = some 62 := by
       by_cases h : j < s.length
       ·exact .inr (Classical.byContradiction fun hn => hgo ⟨h, hn⟩)
       ·exact .inl (by omega)
      clear hgo
      have A4q : ∀ p, AGR p → AJl p = s → Bnb p s i j := fun p hp e => Bha hp e hno hend hij hno2 hend2
      have go3 : vwp Tryz.prog AI9 (A50 AJj fun x H' => AGg (AJW H' (A8h H' 2) x) (A3t s)) [(0, ts s), (2, .op 0 0 []), (4, .op 1 0 []), (5, i64 (i : Int)), (6, i64 (j : Int)), (34, .val (.bool false))] [.obj 0 (AVC ⟨[], [], 0, 0⟩), .obj 0 (AVC ⟨[], [], 0, 0⟩)] := by
       by_cases b1 : i < 1
       ·simp -dsimp (disch := first | assumption | omega | (simp only [AE8]; done) | (simp only [AE8]; omega)) only [↓AFe, AFa, AFc, AFd, eq_self, Nat.reduceEqDiff, ↓reduceIte, Nat.reduceAdd, reduceCtorEq, ↓AGX, ↓AGW, ↓AFF, AFi]
        refine ⟨fun p hp e => absurd (A4q p hp e).one (by omega), fun _ => ⟨⟨[], [], 0, 0⟩, ⟨⟨by decide, by decide⟩, by decide, by decide⟩, rfl⟩⟩
       by_cases b2 : j ≥ s.length
       ·simp -dsimp (disch := first | assumption | omega | (simp only [AE8]; done) | (simp only [AE8]; omega)) only [↓AFe, AFa, AFc, AFd, eq_self, Nat.reduceEqDiff, ↓reduceIte, Nat.reduceAdd, reduceCtorEq, ↓AGX, ↓AGW, ↓AFF, AFi]
        refine ⟨fun p hp e => absurd (A4q p hp e).len (by omega), fun _ => ⟨⟨[], [], 0, 0⟩, ⟨⟨by decide, by decide⟩, by decide, by decide⟩, rfl⟩⟩
       by_cases b3 : s.length < j + 9
       ·simp -dsimp (disch := first | assumption | omega | (simp only [AE8]; done) | (simp only [AE8]; omega)) only [↓AFe, AFa, AFc, AFd, eq_self, Nat.reduceEqDiff, ↓reduceIte, Nat.reduceAdd, reduceCtorEq, ↓AGX, ↓AGW, ↓AFF, AFi]
        refine ⟨fun p hp e => ?_, fun _ => ⟨⟨[], [], 0, 0⟩, ⟨⟨by decide, by decide⟩, by decide, by decide⟩, rfl⟩⟩
        have L := A4q p hp e
        have hl := L.len
        have h0 : 1 ≤ (Lib.decDigits p.time.toNat).length := by
         cases hd : Lib.decDigits p.time.toNat with
         | nil => exact absurd hd (A80 _)
         | cons a l => simp
        omega
       have hij1 : i + 1 ≤ j := by
        rcases hend with h | h
        ·omega
        ·rcases hend2 with h' | h'
         ·omega
         ·have : i ≠ j := fun e => by rw [e, h'] at h; cases h
          omega
       generalize hN : s.length = N at *
       simp -dsimp (disch := first | assumption | omega | (simp only [AE8]; done) | (simp only [AE8]; omega)) only [↓AFe, AFa, AFc, AFd, eq_self, Nat.reduceEqDiff, ↓reduceIte, Nat.reduceAdd, reduceCtorEq, ↓AGX, ↓AGW, ↓ATd, ↓ASJ, ↓AT4, AFi, hN]
       refine (A5h ((s.drop (j + 2)).take (N - 6 - (j + 2)))).calls rfl fun r hr => ?_
       subst hr
       have h22 : N - 2 - (N - 4) = 2 := by omega
       have hNN : N - (N - 2) = 2 := by omega
       have htk2 : (s.drop (N - 2)).take 2 = s.drop (N - 2) := List.take_of_length_le (by rw [List.length_drop]; omega)
       have hc1 : ∀ t, AHA t .add (.string (str [49])) (.string (str ((s.drop (N - 4)).take 2))) = some (.string (str (49 :: (s.drop (N - 4)).take 2))) := fun t => AS4 (by simp; omega)
       have hc2 : ∀ t, AHA t .add (.string (str [49])) (.string (str (s.drop (N - 2)))) = some (.string (str (49 :: s.drop (N - 2)))) := fun t => AS4 (by rw [List.length_drop]; simp; omega)
       simp -dsimp (disch := first | assumption | omega | (simp only [AE8]; done) | (simp only [AE8]; omega)) only [↓AFe, AFa, AFc, AFd, eq_self, Nat.reduceEqDiff, ↓reduceIte, Nat.reduceAdd, reduceCtorEq, ↓ATT, AFi, hN, h22, hc1]
       refine (A5h (49 :: (s.drop (N - 4)).take 2)).calls rfl fun r hr => ?_
       subst hr
       simp -dsimp (disch := first | assumption | omega | (simp only [AE8]; done) | (simp only [AE8]; omega)) only [↓AFe, AFa, AFc, AFd, eq_self, Nat.reduceEqDiff, ↓reduceIte, reduceCtorEq, ↓ATS, AFi, hN, hNN, htk2, hc2]
       refine (A5h (49 :: s.drop (N - 2))).calls rfl fun r hr => ?_
       subst hr
       have bt := A7k ((s.drop (j + 2)).take (N - 6 - (j + 2)))
       have bh := A7k (49 :: (s.drop (N - 4)).take 2)
       have bm := A7k (49 :: s.drop (N - 2))
       have hL : ∀ p, AGR p → AJl p = s → (p.name = s.take (i - 1) ∧ p.mail = (s.drop (i + 1)).take (j - (i + 1)) ∧ p.time = AZI ((s.drop (j + 2)).take (N - 6 - (j + 2)))
         ∧ AZI (49 :: (s.drop (N - 4)).take 2) = ((100 + p.zone.natAbs / 60 : Nat) : Int) ∧ AZI (49 :: s.drop (N - 2)) = ((100 + p.zone.natAbs % 60 : Nat) : Int) ∧ s[N - 5]? = some (AY8 p.zone)) := fun p hp e => by
        have L := A4q p hp e
        obtain ⟨_, _, q1, q2, q3, q4⟩ := hp
        have a := L.time
        have b := L.hrs
        have c := L.mins
        have d := L.sign
        rw [hN] at a b c d
        refine ⟨L.name.symm, L.mail.symm, ?_, ?_, ?_, d⟩
        ·rw [a, Bel (by omega)]; omega
        ·rw [b, A8w (by omega) (by omega)]; omega
        ·rw [c, A8w (by omega) (by omega)]; omega
       generalize AZI ((s.drop (j + 2)).take (N - 6 - (j + 2))) = tt at *
       generalize AZI (49 :: (s.drop (N - 4)).take 2) = hh at *
       generalize AZI (49 :: s.drop (N - 2)) = mm at *
       generalize hn1 : s.take (i - 1) = nm at *
       generalize hn2 : (s.drop (i + 1)).take (j - (i + 1)) = ml at *
       have bad2 : hh < 0 ∨ mm < 0 → A3t s (.tup [AVC ⟨nm, ml, tt, 0⟩, tb false]) := fun hb => by
        refine ⟨fun p hp e => ?_, fun _ => ⟨_, ⟨⟨by simp only; omega, by simp only; omega⟩, (show (-9223372036854775808 : Int) ≤ 0 by omega), (show (0 : Int) ≤ 9223372036854775807 by omega)⟩, rfl⟩⟩
        obtain ⟨_, _, _, e4, e5, _⟩ := hL p hp e
        omega
       by_cases c1 : hh < 0
       ·simp -dsimp (disch := first | assumption | omega | (simp only [AE8]; done) | (simp only [AE8]; omega)) only [↓AFe, AFa, AFc, AFd, eq_self, Nat.reduceEqDiff, ↓reduceIte, Nat.reduceAdd, reduceCtorEq, ↓AIU, ↓AFF]
        exact bad2 (.inl c1)
       by_cases c2 : mm < 0
       ·simp -dsimp (disch := first | assumption | omega | (simp only [AE8]; done) | (simp only [AE8]; omega)) only [↓AFe, AFa, AFc, AFd, eq_self, Nat.reduceEqDiff, ↓reduceIte, Nat.reduceAdd, reduceCtorEq, ↓AIU, ↓AFF]
        exact bad2 (.inr c2)
       simp -dsimp (disch := first | assumption | omega | (simp only [AE8]; done) | (simp only [AE8]; omega)) only [↓AFe, AFa, AFc, AFd, eq_self, Nat.reduceEqDiff, ↓reduceIte, Nat.reduceAdd, reduceCtorEq, ↓AIU, ↓ATY]
       have hgc : s[N - 5]? = some s[N - 5] := List.getElem?_eq_getElem (by omega)
       generalize s[N - 5] = c at *
       have hvv : ∀ p, AGR p → AJl p = s → (hh - 100) * 60 + mm - 100 = ((p.zone.natAbs : Nat) : Int) := fun p hp e => by
        obtain ⟨_, _, _, e4, e5, _⟩ := hL p hp e
        omega
       by_cases hc45 : c.toNat = 45
       ·obtain ⟨q, hq⟩ : ∃ q : Per, q = ⟨nm, ml, tt, -((hh - 100) * 60 + mm - 100)⟩ := ⟨_, rfl⟩
        have key : ∀ p, AGR p → AJl p = s → p = q := fun p hp e => by
         obtain ⟨e1, e2, e3, _, _, e6⟩ := hL p hp e
         have hv := hvv p hp e
         rw [hgc, show c = 45 from UInt8.toNat_inj.1 hc45] at e6
         have e7 := Option.some.inj e6
         unfold AY8 at e7
         split at e7
         ·obtain ⟨pn, pm, pt, pz⟩ := p
          simp only at *
          rw [hq, e1, e2, e3, hv]
          congr 1
          omega
         ·cases e7
        have hneg : unV .neg (.int .i64 ((hh - ((100 : Nat) : Int)) * ((60 : Nat) : Int) + mm - ((100 : Nat) : Int))) = some (.int .i64 (-((hh - 100) * 60 + mm - 100))) := by
         have e : Op.unary .neg (.int .i64 ((hh - ((100 : Nat) : Int)) * ((60 : Nat) : Int) + mm - ((100 : Nat) : Int))) = .pure (.int .i64 (IntKind.i64.wrap (0 - ((hh - ((100 : Nat) : Int)) * ((60 : Nat) : Int) + mm - ((100 : Nat) : Int))))) := rfl
         unfold unV
         rw [e, Int.zero_sub, AGD (by omega) (by omega)]
         rfl
        simp -dsimp (disch := first | assumption | omega | (simp only [AE8]; done) | (simp only [AE8]; omega)) only [↓AFe, AFa, AFc, AFd, eq_self, Nat.reduceEqDiff, ↓reduceIte, Nat.reduceAdd, reduceCtorEq, ↓ALH, AFi, hgc, hneg]
        rw [show TV.agg [TV.val (Value.string (str nm)), TV.val (Value.string (str ml)), i64 tt, TV.val (Value.int IntKind.i64 (-((hh - 100) * 60 + mm - 100)))] = AVC q by rw [hq]]
        have hfit : ANp q := by subst hq; exact ⟨⟨by simp only; omega, by simp only; omega⟩, by simp only; omega, by simp only; omega⟩
        have fin : ∀ β : Bool, (β = true ↔ AGR q ∧ AJl q = s) → A3t s (.tup [AVC q, tb β]) := fun β hβ => by
         refine ⟨fun p hp e => ?_, fun h => ?_⟩
         ·obtain rfl := key p hp e
          rw [hβ.2 ⟨hp, e⟩]
         ·refine ⟨q, hfit, ?_⟩
          cases β with
          | false => rfl
          | true => exact absurd (hβ.1 rfl).2 (h q (hβ.1 rfl).1)
        clear hq
        simp -dsimp (disch := first | assumption | omega | (simp only [AE8]; done) | (simp only [AE8]; omega)) only [↓AFe, AFa, AFc, AFd, eq_self, Nat.reduceEqDiff, ↓reduceIte, Nat.reduceAdd, reduceCtorEq, ↓ALi]
        refine (Bg3 q hfit).calls rfl fun r hr => ?_
        by_cases hok : AGR q
        ·rw [hr.1 hok]
         by_cases heq : AJl q = s
         ·simp -dsimp (disch := first | assumption | omega | (simp only [AE8]; done) | (simp only [AE8]; omega)) only [↓AFe, AFa, AFc, AFd, eq_self, Nat.reduceEqDiff, ↓reduceIte, Nat.reduceAdd, reduceCtorEq, heq, ↓AFF]
          exact fin true ⟨fun _ => ⟨hok, heq⟩, fun _ => rfl⟩
         ·simp -dsimp (disch := first | assumption | omega | (simp only [AE8]; done) | (simp only [AE8]; omega)) only [↓AFe, AFa, AFc, AFd, eq_self, Nat.reduceEqDiff, ↓reduceIte, Nat.reduceAdd, reduceCtorEq, heq, ↓AFF]
          exact fin false ⟨fun h => (by cases h), fun h => absurd h.2 heq⟩
        ·rw [hr.2 hok]
         simp -dsimp (disch := first | assumption | omega | (simp only [AE8]; done) | (simp only [AE8]; omega)) only [↓AFe, AFa, AFc, AFd, eq_self, Nat.reduceEqDiff, ↓reduceIte, Nat.reduceAdd, reduceCtorEq, ↓AFF]
         exact fin false ⟨fun h => (by cases h), fun h => absurd h.1 hok⟩
       ·obtain ⟨q, hq⟩ : ∃ q : Per, q = ⟨nm, ml, tt, (hh - 100) * 60 + mm - 100⟩ := ⟨_, rfl⟩
        have key : ∀ p, AGR p → AJl p = s → p = q := fun p hp e => by
         obtain ⟨e1, e2, e3, _, _, e6⟩ := hL p hp e
         have hv := hvv p hp e
         rw [hgc] at e6
         have e7 := Option.some.inj e6
         unfold AY8 at e7
         split at e7
         ·exact absurd (by rw [e7]; rfl) hc45
         ·obtain ⟨pn, pm, pt, pz⟩ := p
          simp only at *
          rw [hq, e1, e2, e3, hv]
          congr 1
          omega
        simp -dsimp (disch := first | assumption | omega | (simp only [AE8]; done) | (simp only [AE8]; omega)) only [↓AFe, AFa, AFc, AFd, eq_self, Nat.reduceEqDiff, ↓reduceIte, reduceCtorEq, ↓ALH, AFi, hgc]
        rw [show TV.agg [TV.val (Value.string (str nm)), TV.val (Value.string (str ml)), i64 tt, TV.val (Value.int IntKind.i64 ((hh - ((100 : Nat) : Int)) * ((60 : Nat) : Int) + mm - ((100 : Nat) : Int)))] = AVC q by rw [hq]; rfl]
        have hfit : ANp q := by subst hq; exact ⟨⟨by simp only; omega, by simp only; omega⟩, by simp only; omega, by simp only; omega⟩
        have fin : ∀ β : Bool, (β = true ↔ AGR q ∧ AJl q = s) → A3t s (.tup [AVC q, tb β]) := fun β hβ => by
         refine ⟨fun p hp e => ?_, fun h => ?_⟩
         ·obtain rfl := key p hp e
          rw [hβ.2 ⟨hp, e⟩]
         ·refine ⟨q, hfit, ?_⟩
          cases β with
          | false => rfl
          | true => exact absurd (hβ.1 rfl).2 (h q (hβ.1 rfl).1)
        clear hq
        simp -dsimp (disch := first | assumption | omega | (simp only [AE8]; done) | (simp only [AE8]; omega)) only [↓AFe, AFa, AFc, AFd, eq_self, Nat.reduceEqDiff, ↓reduceIte, Nat.reduceAdd, reduceCtorEq, ↓ALi]
        refine (Bg3 q hfit).calls rfl fun r hr => ?_
        by_cases hok : AGR q
        ·rw [hr.1 hok]
         by_cases heq : AJl q = s
         ·simp -dsimp (disch := first | assumption | omega | (simp only [AE8]; done) | (simp only [AE8]; omega)) only [↓AFe, AFa, AFc, AFd, eq_self, Nat.reduceEqDiff, ↓reduceIte, Nat.reduceAdd, reduceCtorEq, heq, ↓AFF]
          exact fin true ⟨fun _ => ⟨hok, heq⟩, fun _ => rfl⟩
         ·simp -dsimp (disch := first | assumption | omega | (simp only [AE8]; done) | (simp only [AE8]; omega)) only [↓AFe, AFa, AFc, AFd, eq_self, Nat.reduceEqDiff, ↓reduceIte, Nat.reduceAdd, reduceCtorEq, heq, ↓AFF]
          exact fin false ⟨fun h => (by cases h), fun h => absurd h.2 heq⟩
        ·rw [hr.2 hok]
         simp -dsimp (disch := first | assumption | omega | (simp only [AE8]; done) | (simp only [AE8]; omega)) only [↓AFe, AFa, AFc, AFd, eq_self, Nat.reduceEqDiff, ↓reduceIte, Nat.reduceAdd, reduceCtorEq, ↓AFF]
         exact fin false ⟨fun h => (by cases h), fun h => absurd h.1 hok⟩
      rcases hend2 with hend2 | hend2
      ·have hlt : ¬ j < s.length := by omega
       simp -dsimp (disch := first | assumption | omega | (simp only [AE8]; done) | (simp only [AE8]; omega)) only [↓AFe, AFa, AFc, AFd, eq_self, Nat.reduceEqDiff, ↓reduceIte, reduceCtorEq, ↓AIX, AFi]
       exact go3
      ·obtain ⟨hl, _⟩ := List.getElem?_eq_some_iff.1 hend2
       simp -dsimp (disch := first | assumption | omega | (simp only [AE8]; done) | (simp only [AE8]; omega)) only [↓AFe, AFa, AFc, AFd, eq_self, Nat.reduceEqDiff, UInt8.reduceToNat, ↓reduceIte, reduceCtorEq, ↓AIX, AFi, hend2]
       exact go3
   rcases hend with hend | hend
   ·have hlt : ¬ i < s.length := by omega
    simp -dsimp (disch := first | assumption | omega | (simp only [AE8]; done) | (simp only [AE8]; omega)) only [↓AFe, AFa, AFc, AFd, eq_self, Nat.reduceEqDiff, ↓reduceIte, reduceCtorEq, ↓AIY, AFi]
    exact go2
   ·obtain ⟨hl, _⟩ := List.getElem?_eq_some_iff.1 hend
    simp -dsimp (disch := first | assumption | omega | (simp only [AE8]; done) | (simp only [AE8]; omega)) only [↓AFe, AFa, AFc, AFd, eq_self, Nat.reduceEqDiff, UInt8.reduceToNat, ↓reduceIte, reduceCtorEq, ↓AIY, AFi, hend]
    exact go2
end Go.Proofs.YtliaddbbmnfioaaGreatDoor


namespace Go.Proofs.YtliaddbbmnfioaaGreatDoor
open Go.RowKit
variable [AFG] [AFg] [AFp] [AFr] [AIJ] [AFq]
set_option linter.unusedSectionVars false
set_option linter.unusedVariables false
set_option linter.unusedSimpArgs false

/-- What the document's ReadTag says. -/
def BiF (s : List UInt8) (r : TV) : Prop := (∀ t, A5r t → tgB t = s → r = .tup [tgT t, tb true]) ∧ ((∀ t, A5r t → tgB t ≠ s) → ∃ q, r = .tup [tgT q, tb false])
set_option maxHeartbeats 1000000 in
theorem BcT (s : List UInt8) (hs : s.length ≤ 1000000) : AFE Tryz.prog 40 [slB s] (BiF s) := by
 refine AFk.toPureV (A2B (by simp) ?_)
 have m1 := AY3 AGY s
 have m2 := AY3 AMk (tr1 s)
 have m3 := AY3 A1Q (tr2 s)
 have m4 := AY3 AGK (tr3 s)
 have l1 := A8t s AGY hs (by decide) (by decide)
 have l2 := A8t (tr1 s) AMk (by unfold tr1; omega) (by decide) (by decide)
 have l3 := A8t (tr2 s) A1Q (by unfold tr2 tr1 at *; omega) (by decide) (by decide)
 have l4 := A8t (tr3 s) AGK (by unfold tr3 tr2 tr1 at *; omega) (by decide) (by decide)
 have hpr := Bbv (tv1 s) (by unfold tv1; omega)
 have hrp := A6G (tv4 s) (by unfold tv4 tr3 tr2 tr1 at *; omega)
 simp -dsimp (disch := first | assumption | omega | (simp only [AE8]; done) | (simp only [AE8]; omega)) only [↓AFe, AFa, AFc, AFd, eq_self, Nat.reduceEqDiff, ↓reduceIte, reduceCtorEq, ↓A1S, ↓AVN, ↓AV2, ↓AWg]
 refine l1.calls rfl fun r hr => ?_
 subst hr
 simp -dsimp (disch := first | assumption | omega | (simp only [AE8]; done) | (simp only [AE8]; omega)) only [↓AFe, AFa, AFc, AFd, eq_self, Nat.reduceEqDiff, ↓reduceIte, reduceCtorEq, ↓AV1]
 refine l2.calls rfl fun r hr => ?_
 subst hr
 simp -dsimp (disch := first | assumption | omega | (simp only [AE8]; done) | (simp only [AE8]; omega)) only [↓AFe, AFa, AFc, AFd, eq_self, Nat.reduceEqDiff, ↓reduceIte, reduceCtorEq, ↓AVY]
 refine l3.calls rfl fun r hr => ?_
 subst hr
 simp -dsimp (disch := first | assumption | omega | (simp only [AE8]; done) | (simp only [AE8]; omega)) only [↓AFe, AFa, AFc, AFd, eq_self, Nat.reduceEqDiff, ↓reduceIte, reduceCtorEq, ↓AWo]
 refine l4.calls rfl fun r hr => ?_
 subst hr
 simp -dsimp (disch := first | assumption | omega | (simp only [AE8]; done) | (simp only [AE8]; omega)) only [↓AFe, AFa, AFc, AFd, eq_self, Nat.reduceEqDiff, ↓reduceIte, reduceCtorEq, ↓AWf]
 refine hpr.calls rfl fun r hr => ?_
 subst hr
 simp -dsimp (disch := first | assumption | omega | (simp only [AE8]; done) | (simp only [AE8]; omega)) only [↓AFe, AFa, AFc, AFd, eq_self, Nat.reduceEqDiff, ↓reduceIte, Nat.reduceAdd, reduceCtorEq, ↓AXi]
 have no : (A79 s = true ∨ AJd (tv1 s) = false ∨ ¬ ∃ m, tr4 s = 10 :: m) → BiF s (.tup [tgT A5k, tb false]) := fun h => by
  refine ⟨fun t ht e => ?_, fun _ => ⟨_, rfl⟩⟩
  exfalso
  obtain ⟨id, k, n, p, m⟩ := t
  obtain ⟨h20, hk, hp, hn, hm⟩ := ht
  subst e
  unfold tgB at h
  simp only at *
  cases hkk : AGS k with
  | none => exact absurd hkk hk
  | some kn =>
   rw [hkk] at h
   simp only [Option.getD_some] at h
   obtain ⟨c1, c2, c3, c4, c5, c6⟩ := BbR (m := m) (A4u id) (A0Q hkk) (A0f hn) (A4L hp)
   rw [c1, c2, Bby h20, c6] at h
   rcases h with h | h | h
   ·cases h
   ·cases h
   ·exact h ⟨m, rfl⟩
 have hbd : A79 s = (mb AGY s || mb AMk (tr1 s) || mb A1Q (tr2 s) || mb AGK (tr3 s)) := rfl
 have htr : mr AGK (tr3 s) = tr4 s := rfl
 by_cases hgo : A79 s = false ∧ AJd (tv1 s) = true ∧ ∃ m, tr4 s = 10 :: m
 case neg =>
  have no' := no (by
   by_cases a : A79 s = true
   ·exact .inl a
   ·by_cases b : AJd (tv1 s) = false
    ·exact .inr (.inl b)
    ·exact .inr (.inr fun c => hgo ⟨by simpa using a, by simpa using b, c⟩))
  cases b1 : mb AGY s <;> cases b2 : mb AMk (tr1 s) <;> cases b3 : mb A1Q (tr2 s) <;> cases b4 : mb AGK (tr3 s) <;> cases b5 : AJd (tv1 s)
  case false.false.false.false.true =>
   have hno : ¬ ∃ m, tr4 s = 10 :: m := fun h => hgo ⟨by rw [hbd, b1, b2, b3, b4]; rfl, b5, h⟩
   cases ht : tr4 s with
   | nil =>
    simp -dsimp (disch := first | assumption | omega | (simp only [AE8]; done) | (simp only [AE8]; omega)) only [↓AFe, AFa, AFc, AFd, eq_self, Nat.reduceLT, Nat.reduceEqDiff, ↓reduceIte, Nat.reduceAdd, reduceCtorEq, ↓AGz, htr, ht, AFi]
    exact no'
   | cons c m =>
    have hc : ¬ c.toNat = 10 := fun e => hno ⟨m, by rw [ht, show c = 10 from UInt8.toNat_inj.1 e]⟩
    simp -dsimp (disch := first | assumption | omega | (simp only [AE8]; done) | (simp only [AE8]; omega)) only [↓AFe, AFa, AFc, AFd, eq_self, Nat.reduceEqDiff, ↓reduceIte, Nat.reduceAdd, reduceCtorEq, ↓AGz, htr, ht, AFi, hc]
    exact no'
  all_goals
   simp -dsimp (disch := first | assumption | omega | (simp only [AE8]; done) | (simp only [AE8]; omega)) only [↓AFe, AFa, AFc, AFd, eq_self, Nat.reduceEqDiff, ↓reduceIte, Nat.reduceAdd, reduceCtorEq, ↓AGz]
   exact no'
 obtain ⟨g1, g2, m, g3⟩ := hgo
 have g1' := g1
 rw [hbd] at g1'
 simp only [Bool.or_eq_false_iff] at g1'
 obtain ⟨⟨⟨b1, b2⟩, b3⟩, b4⟩ := g1'
 have hsz : s = A3W (tv1 s) (tv2 s) (tv3 s) (tv4 s) m := BgH g1 g3
 have hmr : m.length ≤ s.length := by
  have := congrArg List.length hsz
  simp [A3W] at this
  omega
 simp -dsimp (disch := first | assumption | omega | (simp only [AE8]; done) | (simp only [AE8]; omega)) only [↓AFe, AFa, AFc, AFd, eq_self, Nat.reduceEqDiff, UInt8.reduceToNat, ↓reduceIte, reduceCtorEq, b1, b2, b3, b4, g2, htr, g3, AFi, ↓AXh, ↓AYa]
 refine AI0 (fun q e H => ∃ (k : Nat) (kf : Int), q = 5 - k ∧ 1 ≤ k ∧ k ≤ 5 ∧ ((kf = 0 ∧ ∀ j : Int, j < k → AGS j ≠ some (tv2 s)) ∨ (AGS kf = some (tv2 s) ∧ kf < k))
   ∧ e = [(0, slB s), (2, .op 0 0 []), (4, .op 1 0 []), (5, ts (10 :: m)), (8, ts (tv2 s)), (10, ts (tv3 s)), (12, ts (tv4 s)), (16, i64 (k : Int))]
   ∧ H = [.obj 0 (tgT A5k), .obj 0 (tgT ⟨AHg (tv1 s), kf, [], ⟨[], [], 0, 0⟩, []⟩), .obj 0 (.arr 20 1 ((AHg (tv1 s)).map by8))]) 4 ?_ ?_
 ·refine ⟨1, 0, rfl, by omega, by omega, .inl ⟨rfl, fun j hj h => ?_⟩, rfl, rfl⟩
  have := AOo h
  omega
 ·rintro q e H ⟨k, kf, rfl, hk1, hk5, hkf, rfl, rfl⟩
  by_cases h4 : k ≤ 4
  ·have hnm := Blb (k : Int)
   obtain ⟨kn, hkn, hne⟩ : ∃ kn, AGS (k : Int) = some kn ∧ kn ≠ [] := by
    rcases (by omega : k = 1 ∨ k = 2 ∨ k = 3 ∨ k = 4) with rfl | rfl | rfl | rfl <;> exact ⟨_, rfl, by decide⟩
   rw [hkn] at hnm
   simp only [Option.getD_some] at hnm
   simp -dsimp (disch := first | assumption | omega | (simp only [AE8]; done) | (simp only [AE8]; omega)) only [↓AFe, AFa, AFc, AFd, eq_self, Nat.reduceEqDiff, ↓reduceIte, reduceCtorEq, ↓AOS]
   refine hnm.calls rfl fun r hr => ?_
   subst hr
   by_cases he : kn = tv2 s
   ·simp -dsimp (disch := first | assumption | omega | (simp only [AE8]; done) | (simp only [AE8]; omega)) only [↓AFe, AFa, AFc, AFd, eq_self, Nat.reduceEqDiff, ↓reduceIte, Nat.reduceAdd, reduceCtorEq, he]
    exact AFO (5 - (k + 1)) (by omega) (by simp) ⟨k + 1, (k : Int), rfl, by omega, by omega, .inr ⟨by rw [hkn, he], by omega⟩, rfl, rfl⟩
   ·simp -dsimp (disch := first | assumption | omega | (simp only [AE8]; done) | (simp only [AE8]; omega)) only [↓AFe, AFa, AFc, AFd, eq_self, Nat.reduceEqDiff, ↓reduceIte, Nat.reduceAdd, reduceCtorEq, he]
    refine AFO (5 - (k + 1)) (by omega) (by simp) ⟨k + 1, kf, rfl, by omega, by omega, ?_, rfl, rfl⟩
    rcases hkf with ⟨h1, h2⟩ | ⟨h1, h2⟩
    ·refine .inl ⟨h1, fun j hj h => ?_⟩
     by_cases hjk : j = k
     ·subst hjk; rw [hkn] at h; exact he (Option.some.inj h)
     ·exact h2 j (by omega) h
    ·exact .inr ⟨h1, by omega⟩
  ·have hk : k = 5 := by omega
   subst hk
   have hkf2 : (kf = 0 ∧ ∀ j : Int, AGS j ≠ some (tv2 s)) ∨ AGS kf = some (tv2 s) := by
    rcases hkf with ⟨h1, h2⟩ | ⟨h1, h2⟩
    ·refine .inl ⟨h1, fun j h => h2 j ?_ h⟩
     have := AOo h
     omega
    ·exact .inr h1
   clear hkf
   simp -dsimp (disch := first | assumption | omega | (simp only [AE8]; done) | (simp only [AE8]; omega)) only [↓AFe, AFa, AFc, AFd, eq_self, Nat.reduceEqDiff, ↓reduceIte, Nat.reduceAdd, reduceCtorEq, Nat.reduceLeDiff, ↓AOS, ↓AXF, ↓AXJ]
   refine hrp.calls rfl fun r hr => ?_
   obtain ⟨q, ok, rfl, hfq, hq1, hq2⟩ : ∃ (q : Per) (ok : Bool), r = .tup [AVC q, tb ok] ∧ ANp q ∧ (ok = true → AGR q ∧ AJl q = tv4 s) ∧ (ok = false → ∀ p, AGR p → AJl p ≠ tv4 s) := by
    by_cases h : ∃ p, AGR p ∧ AJl p = tv4 s
    ·obtain ⟨p, hp, e⟩ := h
     refine ⟨p, true, hr.1 p hp e, ?_, fun _ => ⟨hp, e⟩, fun h => (by cases h)⟩
     obtain ⟨_, _, q1, q2, q3, q4⟩ := hp
     exact ⟨⟨by omega, by omega⟩, by omega, by omega⟩
    ·have h' : ∀ p, AGR p → AJl p ≠ tv4 s := fun p hp e => h ⟨p, hp, e⟩
     obtain ⟨q, hfq, hq⟩ := hr.2 h'
     exact ⟨q, false, hq, hfq, fun h => (by cases h), fun _ => h'⟩
   have hkb : -9223372036854775808 ≤ kf ∧ kf ≤ 9223372036854775807 := by
    rcases hkf2 with ⟨h, _⟩ | h
    ·omega
    ·have := AOo h; omega
   have hfit : A8Q ⟨AHg (tv1 s), kf, tv3 s, q, m⟩ := ⟨A0v, hkb, hfq, by show (tv3 s).length ≤ 1000000; unfold tv3 tr2 tr1 at *; omega⟩
   simp -dsimp (disch := first | assumption | omega | (simp only [AE8]; done) | (simp only [AE8]; omega)) only [↓AFe, AFa, AFc, AFd, eq_self, Nat.reduceEqDiff, ↓reduceIte, Nat.reduceAdd, reduceCtorEq, Nat.reduceLeDiff, AFi, ↓AYy, ↓AXw]
   refine (A3O ⟨AHg (tv1 s), kf, tv3 s, q, m⟩ hfit).lends (args' := [tgT ⟨AHg (tv1 s), kf, tv3 s, q, m⟩]) (by simp -dsimp (disch := first | assumption | omega | (simp only [AE8]; done) | (simp only [AE8]; omega)) only [AFc, AFd, eq_self]) fun r hr => ?_
   have key : ∀ t, A5r t → tgB t = s → t = ⟨AHg (tv1 s), kf, tv3 s, q, m⟩ ∧ ok = true := by
    rintro ⟨id, k, n, p, m'⟩ ⟨h20, hk, hp, hn, hm⟩ e
    unfold tgB at e
    simp only at *
    cases hkk : AGS k with
    | none => exact absurd hkk hk
    | some kn =>
     rw [hkk] at e
     simp only [Option.getD_some] at e
     obtain ⟨c1, c2, c3, c4, c5, c6⟩ := BbR (m := m') (A4u id) (A0Q hkk) (A0f hn) (A4L hp)
     rw [e] at c1 c2 c3 c4 c5 c6
     have hok : ok = true := by
      cases ok with
      | true => rfl
      | false => exact absurd c5.symm (hq2 rfl p hp)
     have hkf3 : k = kf := by
      rcases hkf2 with ⟨_, h⟩ | h
      ·exact absurd (by rw [c3]; exact hkk) (h k)
      ·rw [c3] at h; exact A5R hkk h
     have hmm : m' = m := by rw [g3] at c6; exact (List.cons.inj c6).2.symm
     refine ⟨?_, hok⟩
     rw [c2, c4, A4a h20, hkf3, hmm, A8Z hp (hq1 hok).1 ((hq1 hok).2.trans c5).symm]
   generalize hTT : (⟨AHg (tv1 s), kf, tv3 s, q, m⟩ : A7o) = T at *
   have fin : ∀ β : Bool, (β = true ↔ ok = true ∧ A5r T ∧ tgB T = s) → BiF s (.tup [tgT T, tb β]) := fun β hβ => by
    refine ⟨fun t ht e => ?_, fun h => ⟨T, ?_⟩⟩
    ·obtain ⟨rfl, ho⟩ := key t ht e
     rw [hβ.2 ⟨ho, ht, e⟩]
    ·cases β with
     | false => rfl
     | true => exact absurd (hβ.1 rfl).2.2 (h T (hβ.1 rfl).2.1)
   rw [← hTT] at fin hr
   rw [hTT] at hr
   have hw0 : AFo (tgT A5k) = 27 := rfl
   have hw1 : tgT A5k = .agg [.arr 20 1 ((zer 20).map by8), i64 0, ts [], .agg [ts [], ts [], i64 0, i64 0], ts []] := rfl
   rw [hw1]
   have hzl : ((zer 20).map by8).length = 20 := rfl
   have hpl : ((AHg (tv1 s)).map by8).length = 20 := by rw [List.length_map]; exact A0v
   clear hrp hpr l1 l2 l3 l4 no key
   by_cases hT : A5r T
   ·rw [hr.1 hT]
    have hun : ∀ l : List UInt8, (l.map by8).map AZi = l := fun l => A8z
    by_cases heq : tgB T = s
    ·cases ok with
     | false =>
      simp -dsimp (disch := first | assumption | omega | (simp only [AE8]; done) | (simp only [AE8]; omega)) only [↓AFe, AFa, AFc, AFd, eq_self, Nat.reduceEqDiff, Nat.reduceMod, ↓reduceIte, Nat.reduceAdd, reduceCtorEq, ↓AG4, ↓AGz]
      refine ⟨fin false ⟨fun h => (by cases h), fun h => (by cases h.1)⟩, ?_⟩
      change AT7 [114, 116] _ _ _; exact AQo (by simp [get]) (AQo (by simp [get]) AZC)
     | true =>
      simp -dsimp (disch := first | assumption | omega | (simp only [AE8]; done) | (simp only [AE8]; omega)) only [↓AFe, AFa, AFc, AFd, eq_self, Nat.reduceEqDiff, Nat.reduceMod, ↓reduceIte, Nat.reduceAdd, reduceCtorEq, ↓AG4, ↓AGz, hun, heq]
      refine ⟨fin true ⟨fun _ => ⟨rfl, by rw [hTT]; exact hT, by rw [hTT]; exact heq⟩, fun _ => rfl⟩, ?_⟩
      change AT7 [114, 116] _ _ _; exact AQo (by simp [get]) (AQo (by simp [get]) AZC)
    ·cases ok with
     | false =>
      simp -dsimp (disch := first | assumption | omega | (simp only [AE8]; done) | (simp only [AE8]; omega)) only [↓AFe, AFa, AFc, AFd, eq_self, Nat.reduceEqDiff, Nat.reduceMod, ↓reduceIte, Nat.reduceAdd, reduceCtorEq, ↓AG4, ↓AGz]
      refine ⟨fin false ⟨fun h => (by cases h), fun h => (by cases h.1)⟩, ?_⟩
      change AT7 [114, 116] _ _ _; exact AQo (by simp [get]) (AQo (by simp [get]) AZC)
     | true =>
      simp -dsimp (disch := first | assumption | omega | (simp only [AE8]; done) | (simp only [AE8]; omega)) only [↓AFe, AFa, AFc, AFd, eq_self, Nat.reduceEqDiff, Nat.reduceMod, ↓reduceIte, Nat.reduceAdd, reduceCtorEq, ↓AG4, ↓AGz, hun, heq]
      refine ⟨fin false ⟨fun h => (by cases h), fun h => absurd h.2.2 (by rw [hTT]; exact heq)⟩, ?_⟩
      change AT7 [114, 116] _ _ _; exact AQo (by simp [get]) (AQo (by simp [get]) AZC)
   ·rw [hr.2 hT]
    cases ok
    all_goals
     simp -dsimp (disch := first | assumption | omega | (simp only [AE8]; done) | (simp only [AE8]; omega)) only [↓AFe, AFa, AFc, AFd, eq_self, Nat.reduceEqDiff, Nat.reduceMod, ↓reduceIte, Nat.reduceAdd, reduceCtorEq, ↓AG4, ↓AGz]
     refine ⟨fin false ⟨fun h => (by cases h), fun h => absurd h.2.1 (by rw [hTT]; exact hT)⟩, ?_⟩
     change AT7 [114, 116] _ _ _; exact AQo (by simp [get]) (AQo (by simp [get]) AZC)
end Go.Proofs.YtliaddbbmnfioaaGreatDoor


namespace Go.Proofs.YtliaddbbmnfioaaGreatDoor
open Go.RowKit
variable [AFG]
set_option linter.unusedSectionVars false
set_option linter.unusedVariables false
set_option linter.unusedSimpArgs false

set_option maxRecDepth 100000 in
theorem A9b {t : TypeId} (ht : Tryz.prog.underlying t = some (.array 20 5)) (hn : Tryz.prog.cellsOf t = 20) : AMW Tryz.prog t (fun l : List UInt8 => .arr 20 1 (l.map by8)) (fun l => l.length = 20) :=
 AOk (A6p ht (k := 1) (by kernel_rfl) (by rw [hn]) (A6m Tryz.underlying5) (fun _ _ => rfl)) fun l h => ⟨l, rfl, h.1⟩
/-- What fits into memory of a person. -/
def Bgv (p : Per) : Prop := ANp p ∧ p.name.length ≤ 140737488351232 ∧ p.mail.length ≤ 140737488351232
set_option maxRecDepth 100000 in
theorem A9q : AMW Tryz.prog 26 (fun p : Per => AVC p) Bgv := by
 refine AOk (AZm Tryz.underlying26 (by kernel_rfl) (AHP (off := 0) (n := 1) rfl (by kernel_rfl) (AOf Tryz.underlying9) (AHP (off := 1) (n := 1) rfl (by kernel_rfl) (AOf Tryz.underlying9)
  (AHP (off := 2) (n := 1) rfl (by kernel_rfl) (A0h Tryz.underlying2) (AHP (off := 3) (n := 1) rfl (by kernel_rfl) (A0h Tryz.underlying3) A2h))))) fun x h => ?_
 obtain ⟨n, m, t, z, u⟩ := x
 exact ⟨⟨n, m, t, z⟩, rfl, ⟨h.2.2.1, h.2.2.2.1⟩, h.1, h.2.1⟩
/-- What fits into memory of a tag. -/
def BkN (t : A7o) : Prop := t.id.length = 20 ∧ (-9223372036854775808 ≤ t.kind ∧ t.kind ≤ 9223372036854775807) ∧ Bgv t.who ∧ t.name.length ≤ 140737488351232 ∧ t.msg.length ≤ 140737488351232
set_option maxRecDepth 100000 in
theorem A90 : AMW Tryz.prog 28 (fun t : A7o => tgT t) BkN := by
 refine AOk (AZm Tryz.underlying28 (by kernel_rfl) (AHP (off := 0) (n := 20) rfl (by kernel_rfl) (A9b Tryz.underlying23 (by kernel_rfl)) (AHP (off := 20) (n := 1) rfl (by kernel_rfl) (A0h Tryz.underlying24)
  (AHP (off := 21) (n := 1) rfl (by kernel_rfl) (AOf Tryz.underlying9) (AHP (off := 22) (n := 4) rfl (by kernel_rfl) A9q (AHP (off := 26) (n := 1) rfl (by kernel_rfl) (AOf Tryz.underlying9) A2h)))))) fun x h => ?_
 obtain ⟨i, k, n, p, m, u⟩ := x
 exact ⟨⟨i, k, n, p, m⟩, rfl, h.1, h.2.1, h.2.2.2.1, h.2.2.1, h.2.2.2.2.1⟩
end Go.Proofs.YtliaddbbmnfioaaGreatDoor


namespace Go.Proofs.YtliaddbbmnfioaaGreatDoor
open Go.RowKit
variable [AFG]
set_option linter.unusedSectionVars false
set_option linter.unusedVariables false
set_option linter.unusedSimpArgs false

theorem Bah {l m : List UInt8} {k : Nat} (h : l.take k = m.take k) (h1 : k < l.length) (h2 : k < m.length) (e : l[k] = m[k]) : l.take (k + 1) = m.take (k + 1) := by
 rw [List.take_succ_eq_append_getElem h1, List.take_succ_eq_append_getElem h2, h, e]
theorem BoG {x y : UInt8} (h : x ≠ y) : ¬ (x.toNat = y.toNat) := fun e => h (UInt8.toNat_inj.1 e)

/-- Same: the same bytes? -/
theorem same (l m : List UInt8) (hl : l.length ≤ 9223372036854775807) (hm : m.length ≤ 9223372036854775807) : AFE Tryz.prog 11 [slB l, slB m] (fun x => x = tb (decide (l = m))) := by
 refine AFk.toPureV (A6D (by simp) ?_)
 by_cases hlen : l.length = m.length
 case neg =>
  have hne : l ≠ m := fun e => hlen (by rw [e])
  simp -dsimp (disch := first | assumption | omega) only [↓AFe, AFa, AFc, AFd, eq_self, Nat.reduceEqDiff, ↓reduceIte, Nat.reduceAdd, reduceCtorEq, ↓AOr, decide_eq_false hne]
 simp -dsimp (disch := first | assumption | omega) only [↓AFe, AFa, AFc, AFd, eq_self, Nat.reduceEqDiff, ↓reduceIte, Nat.reduceAdd, reduceCtorEq, ↓AOr]
 refine AI0 (fun n e H => ∃ (k : Nat), n = l.length - k ∧ k ≤ l.length ∧ l.take k = m.take k ∧ e = [(0, slB l), (1, slB m), (5, i64 (k : Int))] ∧ H = []) l.length ?_ ?_
 ·exact ⟨0, by simp, by omega, by simp, rfl, rfl⟩
 ·rintro n e H ⟨k, rfl, hk, ht, rfl, rfl⟩
  by_cases hkl : k < l.length
  ·have hkm : k < m.length := by omega
   have g1 : l[k]? = some l[k] := by simp [hkl]
   have g2 : m[k]? = some m[k] := by simp [hkm]
   by_cases he : l[k] = m[k]
   ·have hx := Bah ht hkl hkm he
    have he' : l[k].toNat = m[k].toNat := by rw [he]
    simp -dsimp (disch := first | assumption | omega) only [↓AFe, AFa, AFc, AFd, eq_self, Nat.reduceEqDiff, ↓reduceIte, reduceCtorEq, ↓AOr, g1, g2]
    exact AFO (l.length - (k + 1)) (by omega) (by simp) ⟨k + 1, rfl, by omega, hx, rfl, rfl⟩
   ·have he' := BoG he
    have hne : l ≠ m := fun e => he (by subst e; rfl)
    simp -dsimp (disch := first | assumption | omega) only [↓AFe, AFa, AFc, AFd, eq_self, Nat.reduceEqDiff, ↓reduceIte, reduceCtorEq, ↓AOr, g1, g2, decide_eq_false hne]
  ·have hke : k = l.length := by omega
   have heq : l = m := by rw [hke, List.take_length, hlen, List.take_length] at ht; exact ht
   simp -dsimp (disch := first | assumption | omega) only [↓AFe, AFa, AFc, AFd, eq_self, Nat.reduceEqDiff, ↓reduceIte, reduceCtorEq, ↓AOr, decide_eq_true heq]
/-- Roomy: the same bytes, with two more in their spare room. -/
theorem BoK (l : List UInt8) (hl : l.length ≤ 1000000) {H : List Ob} {K : TV → List Ob → Prop} (hk : K (.os 1 H.length 0 [] 0 l.length (l.length + 2)) (H ++ [.obj 0 (.arr (l.length + 2) 1 ((l ++ [71, 72]).map by8))])) :
  AFk Tryz.prog 37 [slB l] H K := by
 refine A48 (by simp) ?_
 have c2 : ((l.length : Int) + 2) = ((l.length + 2 : Nat) : Int) := by omega
 have b1 : ((1 : Nat) : Int) * ((l.length + 2 : Nat) : Int) ≤ 281474976710656 := by omega
 have b2 : ((l.length + 2 : Nat) : Int) ≤ 9223372036854775807 := by omega
 have z : ∀ n : Nat, List.replicate n (TV.val (.int .u8 ((0 : Nat) : Int))) = (List.replicate n (0 : UInt8)).map by8 := fun n => by rw [List.map_replicate]; rfl
 have e1 : List.map by8 l ++ List.drop (min l.length (l.length + 2)) (List.replicate (l.length + 2) (TV.val (.int .u8 ((0 : Nat) : Int)))) = (l ++ [0, 0]).map by8 := by
  rw [z, ← List.map_drop, ← List.map_append, Nat.min_eq_left (by omega), List.drop_replicate, show l.length + 2 - l.length = 2 from by omega]; rfl
 have e2 : ((l ++ [0, 0]).map by8).set l.length (.val (.int .u8 ((71 : Nat) : Int))) = (l ++ [71, 0]).map by8 := by
  rw [List.map_append, List.set_append_right _ _ (by simp), List.map_append]; simp
 have e3 : ((l ++ [71, 0]).map by8).set (l.length + 1) (.val (.int .u8 ((72 : Nat) : Int))) = (l ++ [71, 72]).map by8 := by
  rw [List.map_append, List.set_append_right _ _ (by simp), List.map_append]; simp
 have g1 : ((l ++ [0, 0]).map by8)[l.length]? = some (by8 0) := by simp
 have g2 : ((l ++ [71, 0]).map by8)[l.length + 1]? = some (by8 0) := by simp
 simp -dsimp (disch := first | assumption | omega | (simp only [AE8]; done) | (simp only [AE8]; omega)) only [↓AFe, AFa, AFc, AFd, eq_self, Nat.reduceEqDiff, ↓reduceIte, reduceCtorEq, Nat.reduceLeDiff, ↓A5Y, e1, e2, e3, g1, g2]
 exact hk
abbrev x85 (l : List UInt8) : List UInt8 := l.map (· ^^^ 85)
theorem Bek {c : List UInt8} {k : Nat} (hk : k < c.length) : (x85 (c.take k) ++ c.drop k).set k (c[k] ^^^ 85) = x85 (c.take (k + 1)) ++ c.drop (k + 1) := by
 have h1 : (x85 (c.take k)).length = k := by simp; omega
 rw [List.set_append_right _ _ (by omega), h1, Nat.sub_self, List.drop_eq_getElem_cons hk, List.set_cons_zero, List.take_succ_eq_append_getElem hk, x85, x85, List.map_append, List.append_assoc]
 rfl

/-- Still: aS they were; then their owner writes into them. -/
theorem A7Z (l : List UInt8) (hl : l.length ≤ 1000000) {H : List Ob} {id ver : Nat} {K : TV → List Ob → Prop} (ho : H[id]? = some (.obj ver (.arr (l.length + 2) 1 ((l ++ [71, 72]).map by8))))
  (hk : K (tb true) (H.set id (.obj ver (.arr (l.length + 2) 1 ((x85 (l ++ [71, 72])).map by8))))) :
  AFk Tryz.prog 39 [.os 1 id ver [] 0 l.length (l.length + 2), slB l] H K := by
 refine A41 (by simp) ?_
 have hid : id < H.length := (List.getElem?_eq_some_iff.1 ho).1
 have c2 : ((l.length : Int) + 2) = ((l.length + 2 : Nat) : Int) := by omega
 have g1 : (l ++ [71, 72])[l.length]? = some 71 := by simp
 have g2 : (l ++ [71, 72])[l.length + 1]? = some 72 := by simp
 have hL : (l ++ [71, 72]).length = l.length + 2 := by simp
 have ht : (l ++ [71, 72]).take l.length = l := by simp
 generalize hc : l ++ [71, 72] = c at *
 simp -dsimp (disch := first | assumption | omega | (simp only [AE8]; done) | (simp only [AE8]; omega)) only [↓AFe, AFa, AFc, AFd, eq_self, Nat.reduceEqDiff, ↓reduceIte, Nat.reduceAdd, reduceCtorEq, Nat.reduceLeDiff, ↓APA]
 refine (same l l (by omega) (by omega)).lends (args' := [slB l, slB l]) (by simp -dsimp (disch := first | assumption | omega) only [AFc, AFd, eq_self, ↓reduceIte, ho, hL, ht]) ?_
 rintro x rfl
 refine ⟨rfl, ?_⟩
 rw [show tb (decide (l = l)) = tb true from by simp]
 simp -dsimp (disch := first | assumption | omega | (simp only [AE8]; done) | (simp only [AE8]; omega)) only [↓AFe, AFa, AFc, AFd, eq_self, Nat.reduceEqDiff, UInt8.reduceToNat, ↓reduceIte, ↓APA, ho, g1, g2]
 ·refine AI0 (fun n e H' => ∃ (k : Nat), n = c.length - k ∧ k ≤ c.length ∧ e = [(6, .os 1 id ver [] 0 (l.length + 2) (l.length + 2)), (7, tb true), (8, i64 (k : Int))] ∧ H' = H.set id (.obj ver (.arr (l.length + 2) 1 ((x85 (c.take k) ++ c.drop k).map by8)))) c.length ?_ ?_
  ·refine ⟨0, by simp, by omega, rfl, ?_⟩
   have e0 : x85 (c.take 0) ++ c.drop 0 = c := by simp
   obtain ⟨h1, h2⟩ := List.getElem?_eq_some_iff.1 ho
   rw [e0, ← h2, List.set_getElem_self]
  ·rintro n e H' ⟨k, rfl, hkl, rfl, rfl⟩
   have gs : ∀ o, (H.set id o)[id]? = some o := fun o => by simp [hid]
   by_cases hkc : k < c.length
   ·have hk2 : k < l.length + 2 := by omega
    have hlen : (x85 (c.take k)).length = k := by simp; omega
    have g3 : (x85 (c.take k) ++ c.drop k)[k]? = some c[k] := by
     rw [List.getElem?_append_right (by omega), hlen, Nat.sub_self, List.getElem?_drop]; simp [hkc]
    have g4 := Bek hkc
    have h85 : ∀ (t : TypeId) (x : UInt8), AHA t .xor (.int .u8 (x.toNat : Int)) (.int .u8 ((85 : Nat) : Int)) = some (.int .u8 ((x ^^^ 85).toNat : Int)) := fun t x => Bgx (t := t) (x := x) (y := 85)
    generalize x85 (c.take k) ++ c.drop k = r at *
    generalize c[k] = y at *
    simp -dsimp (disch := first | assumption | omega | (simp only [AE8]; done) | (simp only [AE8]; omega)) only [↓AFe, AFa, AFc, AFd, eq_self, Nat.reduceEqDiff, ↓reduceIte, ↓APA, gs, g3, g4, h85, BfF]
    exact AFO (c.length - (k + 1)) (by omega) (by simp) ⟨k + 1, rfl, by omega, rfl, rfl⟩
   ·have hke : k = c.length := by omega
    have hk2 : ¬ k < l.length + 2 := by omega
    have e0 : x85 (c.take k) ++ c.drop k = x85 c := by rw [hke, List.take_length, List.drop_length, List.append_nil]
    have e1 : List.drop k c = [] := by rw [hke, List.drop_length]
    simp -dsimp (disch := first | assumption | omega | (simp only [AE8]; done) | (simp only [AE8]; omega)) only [↓AFe, AFa, AFc, AFd, eq_self, Nat.reduceEqDiff, ↓reduceIte, ↓APA]
    rw [e1, List.append_nil]
    exact hk
end Go.Proofs.YtliaddbbmnfioaaGreatDoor


namespace Go.Proofs.YtliaddbbmnfioaaGreatDoor
open Go.RowKit
variable [AFG]
set_option linter.unusedSectionVars false
set_option linter.unusedVariables false

variable {P : Program}
/-- A CALL THAT LEAVES NOTHING BEHIND, AND YIELDS NEW MEMORY ALONE, or ends in a panic. -/
def A7z (P : Program) (f : FuncId) (args : List TV) (R : TV → Prop) (RP : Value → Prop) : Prop :=
 ∀ (β : Nat → Nat → Option (Nat × Nat)) (F : Nat → Prop) (w : World) (vs : List Value), ((∀ b, F b → b < w.heap.size) ∧ AJB F w) → AF9 ⟨β, [], F⟩ w args vs →
  Calls P f vs.toArray w fun e w' => ∃ F', ATn F w F' w' ∧ ((∃ v x, e = .returned v ∧ R x ∧ Rep ⟨β, [], fun b => F' b ∧ w.heap.size ≤ b⟩ w' x v) ∨ ∃ u, e = .panicked [{ v := u, recovered := false }] ∧ RP u)
theorem A7z.mono {f : FuncId} {args : List TV} {R R' : TV → Prop} {RP RP' : Value → Prop} (h : A7z P f args R RP) (hr : ∀ x, R x → R' x) (hp : ∀ u, RP u → RP' u) : A7z P f args R' RP' :=
 fun β F w vs hF hv => (h β F w vs hF hv).mono fun _ _ ⟨F', h1, h2⟩ => ⟨F', h1, h2.imp (fun ⟨v, x, k1, k2, k3⟩ => ⟨v, x, k1, hr _ k2, k3⟩) fun ⟨u, k1, k2⟩ => ⟨u, k1, hp _ k2⟩⟩

def Bk5 (x x' : TV) : Prop := ∀ (c : Ctx) (w : World) (v : Value), A98 c w x v → A98 c w x' v
inductive A6y : List TV → List TV → Prop
 | nil : A6y [] []
 | cons {x x' : TV} {xs xs' : List TV} : Bk5 x x' → A6y xs xs' → A6y (x :: xs) (x' :: xs')
theorem A6y.rep {c : Ctx} {w : World} {xs xs' : List TV} (h : A6y xs xs') : ∀ {vs : List Value}, AF9 c w xs vs → AF9 c w xs' vs := by
 induction h with
 | nil => exact fun h => h
 | cons h1 h2 ih =>
  intro vs hv
  rw [AF9.cons] at hv ⊢
  obtain ⟨u, us, rfl, k1, k2⟩ := hv
  exact ⟨u, us, rfl, h1 _ _ _ k1, ih k2⟩
/-- No slice is an empty one. -/
theorem A8i {k : Nat} : Bk5 (.val (.slice none 0 0)) (.sl k []) := fun c w v h => by
 have hv : v = .slice none 0 0 := by
  have h' : Rep c w (.val (.slice none 0 0)) v := .inl h
  rw [Rep.val] at h'; exact h'
 subst hv
 refine .inr (.inr ⟨[.slice none 0 0], ?_, rfl⟩)
 rw [AFh]
 exact ⟨by simp, .inl ⟨rfl, none, 0, rfl, by omega⟩⟩
theorem AFE.argL {f : FuncId} {args args' : List TV} {R : TV → Prop} (h : AFE P f args' R) (hc : A6y args args') : AFE P f args R :=
 fun β F w vs hF hv => h β F w vs hF (hc.rep hv)
theorem A6y.tup {xs xs' : List TV} (h : A6y xs xs') : ∀ (c : Ctx) (w : World) (v : Value), Rep c w (.tup xs) v → Rep c w (.tup xs') v := by
 rintro c w v ((h1 | h1 | ⟨us, h1, _⟩) | ⟨ys, vs, h1, h2, h3⟩)
 ·cases h1
 ·cases h1
 ·rw [AFh] at h1; exact h1.elim
 ·cases h1
  exact .inr ⟨xs', vs, rfl, h2, h.rep h3⟩
end Go.Proofs.YtliaddbbmnfioaaGreatDoor


namespace Go.Proofs.YtliaddbbmnfioaaGreatDoor
open Go.RowKit
variable [AFG] [AGi] [AFg] [AFp] [AFr] [AIJ] [AFq]
set_option linter.unusedSectionVars false
set_option linter.unusedVariables false
set_option linter.unusedSimpArgs false

omit [AGi] [AFg] [AFp] [AFr] [AIJ] [AFq] in
theorem A8Y (p : Per) : AFE Tryz.prog 9 [AVC p] (fun r => r = AVC p) := by
 refine AFk.toPureV (A3h (by simp) ?_)
 simp -dsimp (disch := first | assumption | omega | (simp only [AE8]; done) | (simp only [AE8]; omega)) only [↓AFe, AFa, AFc, AFd, eq_self, Nat.reduceEqDiff, ↓reduceIte, Nat.reduceAdd, ↓A4V]
omit [AGi] [AFg] [AFp] [AFr] [AIJ] [AFq] in
theorem Bi3 (p : Per) : AFE Tryz.prog 41 [AVC p, AVC p] (fun r => r = tb true) := by
 refine AFk.toPureV (AZj (by simp) ?_)
 simp -dsimp (disch := first | assumption | omega | (simp only [AE8]; done) | (simp only [AE8]; omega)) only [↓AFe, AFa, AFc, AFd, eq_self, Nat.reduceEqDiff, ↓reduceIte, Nat.reduceAdd, reduceCtorEq, ↓A0E]
theorem Bhh {t : A7o} (h : A5r t) : (tgB t).length ≤ 4000 := by
 obtain ⟨id, k, n, p, m⟩ := t
 obtain ⟨h20, hk, hp, hn, hm⟩ := h
 simp only at *
 cases hkk : AGS k with
 | none => exact absurd hkk hk
 | some kn =>
  have hkl := (AOo hkk).2.2
  have hpl := A4y hp
  have hn60 := (AVE.1 hn).2.1
  have hm2 : m.length ≤ 2000 := by unfold AOv at hm; simp at hm; exact hm.1
  have hhl : (AHl id).length = 40 := by rw [AM0]; omega
  unfold tgB A3W
  simp only [hkk, Option.getD_some, List.length_append, List.length_cons, AGY, AMk, A1Q, AGK, List.length_nil]
  omega
theorem Bbk : ∀ l : List UInt8, AQl (l.map by8) = true
 | [] => rfl
 | b :: l => by rw [List.map_cons, AQl, Bbk l]; rfl
theorem Ba2 {t : A7o} {x : TV} (h : A5a x = true) : A5a (.tup [tgT t, x]) = true := by
 have := Bbk t.id
 simp [A5a, AQl, this, h]
theorem A5E (b : List UInt8) (hb : b.length ≤ 500000) : AFE Tryz.prog 12 [slB b] (fun r => r = tb true) := by
 refine AFk.toPureV (A1C (by simp) ?_)
 have htk2 : ((b ++ [71, 72]).map by8).take b.length = b.map by8 := by rw [List.map_append, List.take_append_of_le_length (by simp), List.take_of_length_le (by simp)]
 have hrd := BcT b (by omega)
 have hun : ∀ l : List UInt8, (l.map by8).map AZi = l := fun l => A8z
 simp -dsimp (disch := first | assumption | omega | (simp only [AE8]; done) | (simp only [AE8]; omega)) only [↓AFe, AFa, AFc, AFd, eq_self, ↓reduceIte, reduceCtorEq, ↓A0m, ↓AVk]
 refine AZW (BoK b (by omega) ?_)
 simp -dsimp (disch := first | assumption | omega | (simp only [AE8]; done) | (simp only [AE8]; omega)) only [↓AFe, AFa, AFc, AFd, eq_self, ↓reduceIte, reduceCtorEq, ↓AV4]
 refine (Bd9 b (by omega)).lends (args' := [slB b]) (by simp -dsimp (disch := first | assumption | omega | (simp only [AE8]; done) | (simp only [AE8]; omega)) only [AFc, AFd, eq_self, ↓reduceIte, Nat.reduceAdd, htk2]) fun r hr => ?_
 by_cases h : ∃ t, A5r t ∧ tgB t = b
 ·obtain ⟨t, ht, e⟩ := h
  rw [hr.1 t ht e]
  refine ⟨Ba2 rfl, ?_⟩
  have h20 : (t.id.map by8).length = 20 := by rw [List.length_map]; exact ht.1
  simp -dsimp (disch := first | assumption | omega | (simp only [AE8]; done) | (simp only [AE8]; omega)) only [↓AFe, AFa, AFc, AFd, eq_self, Nat.reduceEqDiff, ↓reduceIte, Nat.reduceAdd, reduceCtorEq, ↓ANC]
  refine Bll.calls rfl fun r hr => ?_
  subst hr
  simp -dsimp (disch := first | assumption | omega | (simp only [AE8]; done) | (simp only [AE8]; omega)) only [↓AFe, AFa, AFc, AFd, eq_self, Nat.reduceEqDiff, ↓reduceIte, reduceCtorEq, ↓ANI]
  refine AZW (A7Z b (by omega) rfl ?_)
  simp -dsimp (disch := first | assumption | omega | (simp only [AE8]; done) | (simp only [AE8]; omega)) only [↓AFe, AFa, AFc, AFd, eq_self, Nat.reduceEqDiff, ↓reduceIte, reduceCtorEq, ↓AN0]
  refine hrd.calls rfl fun r hr => ?_
  rw [hr.1 t ht e]
  simp -dsimp (disch := first | assumption | omega | (simp only [AE8]; done) | (simp only [AE8]; omega)) only [↓AFe, AFa, AFc, AFd, eq_self, Nat.reduceEqDiff, ↓reduceIte, Nat.reduceAdd, reduceCtorEq, ↓ANJ, ↓ANQ, ↓AWj]
  refine (Bi3 t.who).calls rfl fun r hr => ?_
  subst hr
  simp -dsimp (disch := first | assumption | omega | (simp only [AE8]; done) | (simp only [AE8]; omega)) only [↓AFe, AFa, AFc, AFd, eq_self, Nat.reduceEqDiff, ↓reduceIte, Nat.reduceAdd, beq_self_eq_true, ↓AWe, ↓ARr]
 ·have hno : ∀ t, A5r t → tgB t ≠ b := fun t ht e => h ⟨t, ht, e⟩
  rw [hr.2 hno]
  refine ⟨Ba2 rfl, ?_⟩
  have h20 : (A5k.id.map by8).length = 20 := rfl
  have hk0 : A5k.kind = 0 := rfl
  have hn0 : A5k.name = [] := rfl
  simp -dsimp (disch := first | assumption | omega | (simp only [AE8]; done) | (simp only [AE8]; omega)) only [↓AFe, AFa, AFc, AFd, eq_self, Nat.reduceEqDiff, ↓reduceIte, Nat.reduceAdd, reduceCtorEq, ↓ANC]
  refine Bpx.calls rfl fun r hr => ?_
  subst hr
  simp -dsimp (disch := first | assumption | omega | (simp only [AE8]; done) | (simp only [AE8]; omega)) only [↓AFe, AFa, AFc, AFd, eq_self, Nat.reduceEqDiff, ↓reduceIte, reduceCtorEq, ↓ANI]
  refine AZW (A7Z b (by omega) rfl ?_)
  simp -dsimp (disch := first | assumption | omega | (simp only [AE8]; done) | (simp only [AE8]; omega)) only [↓AFe, AFa, AFc, AFd, eq_self, Nat.reduceEqDiff, ↓reduceIte, reduceCtorEq, ↓AN0]
  refine hrd.calls rfl fun r hr => ?_
  obtain ⟨q, hq⟩ := hr.2 hno
  rw [hq]
  simp -dsimp (disch := first | assumption | omega | (simp only [AE8]; done) | (simp only [AE8]; omega)) only [↓AFe, AFa, AFc, AFd, eq_self, Nat.reduceEqDiff, ↓reduceIte, Nat.reduceAdd, reduceCtorEq, hk0, hn0, ↓ANJ, ↓ANQ, ↓AWb, ↓ARr]
  rfl
theorem BiY (t : A7o) (b : List UInt8) (ht : BkN t) (hb : b.length ≤ 140737488351232) : AFE Tryz.prog 3 [tgT t, slB b] (fun r => r = tb true) := by
 refine AFk.toPureV (AZd (by simp) ?_)
 obtain ⟨id, k, n, p, m⟩ := t
 obtain ⟨pn, pm, pt, pz⟩ := p
 obtain ⟨h20, hk, ⟨hpf, hpn, hpm⟩, hn, hm⟩ := ht
 simp only at *
 have h20' : (id.map by8).length = 20 := by rw [List.length_map]; exact h20
 simp -dsimp (disch := first | assumption | omega | (simp only [AE8]; done) | (simp only [AE8]; omega)) only [↓AFe, AFa, AFc, AFd, eq_self, Nat.reduceEqDiff, ↓reduceIte, Nat.reduceAdd, reduceCtorEq, AFi, ↓AXG, ↓ATe]
 by_cases hl : m.length + b.length + n.length + pn.length ≤ 20000
 case neg => simp -dsimp (disch := first | assumption | omega | (simp only [AE8]; done) | (simp only [AE8]; omega)) only [↓AFe, AFa, AFc, AFd, eq_self, ↓reduceIte, ↓AJT]
 have hfit : A8Q ⟨id, k, n, ⟨pn, pm, pt, pz⟩, m⟩ := ⟨h20, hk, hpf, by show n.length ≤ 1000000; omega⟩
 have hwt := BaI _ hfit
 have hrw := A3O _ hfit
 have hrb := A5E b (by omega)
 simp -dsimp (disch := first | assumption | omega | (simp only [AE8]; done) | (simp only [AE8]; omega)) only [↓AFe, AFa, AFc, AFd, eq_self, Nat.reduceEqDiff, ↓reduceIte, Nat.reduceAdd, ↓AST]
 refine hwt.pure.calls rfl fun r hr => ?_
 by_cases hok : A5r ⟨id, k, n, ⟨pn, pm, pt, pz⟩, m⟩
 ·rw [hr.1 hok]
  have hxl := Bhh hok
  have hrx := A5E (tgB ⟨id, k, n, ⟨pn, pm, pt, pz⟩, m⟩) (by omega)
  generalize hX : tgB ⟨id, k, n, ⟨pn, pm, pt, pz⟩, m⟩ = X at *
  simp -dsimp (disch := first | assumption | omega | (simp only [AE8]; done) | (simp only [AE8]; omega)) only [↓AFe, AFa, AFc, AFd, eq_self, Nat.reduceEqDiff, ↓reduceIte, ↓ALV]
  refine Bll.calls rfl fun r hr => ?_
  subst hr
  simp -dsimp (disch := first | assumption | omega | (simp only [AE8]; done) | (simp only [AE8]; omega)) only [↓AFe, AFa, AFc, AFd, eq_self, Nat.reduceEqDiff, ↓reduceIte, Nat.reduceAdd, ↓ALU]
  refine (A8Y ⟨pn, pm, pt, pz⟩).calls rfl fun r hr => ?_
  subst hr
  simp -dsimp (disch := first | assumption | omega | (simp only [AE8]; done) | (simp only [AE8]; omega)) only [↓AFe, AFa, AFc, AFd, eq_self, Nat.reduceEqDiff, ↓reduceIte, Nat.reduceAdd, ↓ALw, ↓ALK]
  refine hrw.pure.calls rfl fun r hr => ?_
  rw [hr.1 hok, hX]
  simp -dsimp (disch := first | assumption | omega | (simp only [AE8]; done) | (simp only [AE8]; omega)) only [↓AFe, AFa, AFc, AFd, eq_self, Nat.reduceEqDiff, ↓reduceIte, ↓ALh]
  refine (same X X (by omega) (by omega)).calls rfl fun r hr => ?_
  subst hr
  simp -dsimp (disch := first | assumption | omega | (simp only [AE8]; done) | (simp only [AE8]; omega)) only [↓AFe, AFa, AFc, AFd, eq_self, Nat.reduceEqDiff, ↓reduceIte, ↓ALW, ↓ALJ]
  refine hrb.calls rfl fun r hr => ?_
  subst hr
  simp -dsimp (disch := first | assumption | omega | (simp only [AE8]; done) | (simp only [AE8]; omega)) only [↓AFe, AFa, AFc, AFd, eq_self, Nat.reduceEqDiff, ↓reduceIte, ↓ALP]
  refine hrx.calls rfl fun r hr => ?_
  subst hr
  simp -dsimp (disch := first | assumption | omega | (simp only [AE8]; done) | (simp only [AE8]; omega)) only [↓AFe, AFa, AFc, AFd, eq_self, Nat.reduceEqDiff, ↓reduceIte, ↓AJT]
 ·rw [hr.2 hok]
  simp -dsimp (disch := first | assumption | omega | (simp only [AE8]; done) | (simp only [AE8]; omega)) only [↓AFe, AFa, AFc, AFd, eq_self, Nat.reduceEqDiff, ↓reduceIte, ↓ALV]
  refine Bpx.calls rfl fun r hr => ?_
  subst hr
  simp -dsimp (disch := first | assumption | omega | (simp only [AE8]; done) | (simp only [AE8]; omega)) only [↓AFe, AFa, AFc, AFd, eq_self, Nat.reduceEqDiff, ↓reduceIte, Nat.reduceAdd, ↓ALU]
  refine (A8Y ⟨pn, pm, pt, pz⟩).calls rfl fun r hr => ?_
  subst hr
  simp -dsimp (disch := first | assumption | omega | (simp only [AE8]; done) | (simp only [AE8]; omega)) only [↓AFe, AFa, AFc, AFd, eq_self, Nat.reduceEqDiff, ↓reduceIte, Nat.reduceAdd, ↓ALw, ↓ALK]
  refine hrw.pure.calls rfl fun r hr => ?_
  rw [hr.2 hok]
  simp -dsimp (disch := first | assumption | omega | (simp only [AE8]; done) | (simp only [AE8]; omega)) only [↓AFe, AFa, AFc, AFd, eq_self, Nat.reduceEqDiff, ↓reduceIte, ↓ALh]
  refine ((same [] [] (by simp) (by simp)).argL (.cons A8i (.cons A8i .nil))).calls rfl fun r hr => ?_
  subst hr
  simp -dsimp (disch := first | assumption | omega | (simp only [AE8]; done) | (simp only [AE8]; omega)) only [↓AFe, AFa, AFc, AFd, eq_self, Nat.reduceEqDiff, ↓reduceIte, ↓ALW, ↓ALJ]
  refine hrb.calls rfl fun r hr => ?_
  subst hr
  simp -dsimp (disch := first | assumption | omega | (simp only [AE8]; done) | (simp only [AE8]; omega)) only [↓AFe, AFa, AFc, AFd, eq_self, Nat.reduceEqDiff, ↓reduceIte, reduceCtorEq, ↓ALP, ↓ATW, ↓AJT]
end Go.Proofs.YtliaddbbmnfioaaGreatDoor


namespace Go.Proofs.YtliaddbbmnfioaaGreatDoor.objectTags
open Go.ChangeShapes Go.WideShapes Go.ChangeAt Go.RowKit
set_option linter.unusedVariables false

theorem own : ownKnob Tryz.prog.godebug = none := by kernel_rfl
mutual
def Bhn : DataW Unit → List Value
 | .lit (.int k n) => [.int k n]
 | .lit (.string l) => [.string ⟨l.toArray⟩]
 | .agg l => Blz l
 | _ => []
def Blz : List (DataW Unit) → List Value
 | [] => []
 | d :: l => Bhn d ++ Blz l
end
abbrev giM (t0 : TypeId) (a0 : Addr) (t1 : TypeId) (a1 : Addr) (m : Int) : AFG := ⟨[(1, AG0), (8, AF1), (9, AF0), (3, AFt), (0, AF3), (5, GV.one (.iface t0 (.pointer (some a0)))), (4, GV.one (.iface t1 (.pointer (some a1)))), (2, GV.one (.int .i64 m))], by kernel_rfl⟩
theorem AZE (t0 : TypeId) (a0 : Addr) (t1 : TypeId) (a1 : Addr) (m : Int) : @AGi (giM t0 a0 t1 a1 m) := @AGi.mk (giM t0 a0 t1 a1 m) (by kernel_rfl)
theorem AQh (t0 : TypeId) (a0 : Addr) (t1 : TypeId) (a1 : Addr) (m : Int) : @AHW (giM t0 a0 t1 a1 m) := @AHW.mk (giM t0 a0 t1 a1 m) (by kernel_rfl)
theorem AP3 (t0 : TypeId) (a0 : Addr) (t1 : TypeId) (a1 : Addr) (m : Int) : @AHU (giM t0 a0 t1 a1 m) := @AHU.mk (giM t0 a0 t1 a1 m) (by kernel_rfl)
theorem ANd (t0 : TypeId) (a0 : Addr) (t1 : TypeId) (a1 : Addr) (m : Int) : @AFg (giM t0 a0 t1 a1 m) := @AFg.mk (giM t0 a0 t1 a1 m) (by kernel_rfl)
theorem ATV (t0 : TypeId) (a0 : Addr) (t1 : TypeId) (a1 : Addr) (m : Int) : @AFq (giM t0 a0 t1 a1 m) := @AFq.mk (giM t0 a0 t1 a1 m) (by kernel_rfl)
theorem AYQ (t0 : TypeId) (a0 : Addr) (t1 : TypeId) (a1 : Addr) (m : Int) : @AFr (giM t0 a0 t1 a1 m) := @AFr.mk (giM t0 a0 t1 a1 m) ⟨t0, a0, by kernel_rfl⟩
theorem AYj (t0 : TypeId) (a0 : Addr) (t1 : TypeId) (a1 : Addr) (m : Int) : @AFp (giM t0 a0 t1 a1 m) := @AFp.mk (giM t0 a0 t1 a1 m) ⟨t1, a1, by kernel_rfl⟩
theorem et : Tryz.prog.globalNamed "errors.errorType" = some 1 := by kernel_rfl
theorem rt : (Tryz.prog.cutTypes.find? (·.1 == "internal/reflectlite.rtype")).map (·.2) = some 175 := by kernel_rfl
theorem BkJ : ((List.range Tryz.prog.types.size).filter fun t => Tryz.prog.rowNamed t [101, 114, 114, 111, 114]) = [31] := by kernel_rfl
theorem A3j {W : World} (h : handlesMet Tryz.prog [("errors.errorType", Rows.laid_errors_errorType)] W) : ∃ t fr, W.heap[1]? = some (.cells AG0.cells.toArray t fr) := by
 obtain ⟨name, u, ty, e1, e2, e3, e4, e5⟩ := h _ (List.mem_singleton.2 rfl)
 have en : name = [101, 114, 114, 111, 114] := (Option.some.inj e1).symm
 subst en
 obtain rfl := Option.some.inj (rt.symm.trans e2)
 have hm : ty ∈ (List.range Tryz.prog.types.size).filter fun t => Tryz.prog.rowNamed t [101, 114, 114, 111, 114] := List.mem_filter.2 ⟨List.mem_range.2 e3, e4⟩
 rw [BkJ] at hm
 obtain rfl := List.mem_singleton.1 hm
 have hh : typeHandle Tryz.prog 31 = .pointer (some ⟨10, 31, none⟩) := by kernel_rfl
 rw [hh] at e5
 exact A5l et e5
def AOY : List (DataW Unit) := [.lit (.int .u8 0), .lit (.int .u8 1), .lit (.int .u8 28), .lit (.int .u8 2), .lit (.int .u8 29), .lit (.int .u8 14), .lit (.int .u8 24), .lit (.int .u8 3), .lit (.int .u8 30), .lit (.int .u8 22), .lit (.int .u8 20), .lit (.int .u8 15), .lit (.int .u8 25), .lit (.int .u8 17), .lit (.int .u8 4), .lit (.int .u8 8), .lit (.int .u8 31), .lit (.int .u8 27), .lit (.int .u8 13), .lit (.int .u8 23), .lit (.int .u8 21), .lit (.int .u8 19), .lit (.int .u8 16), .lit (.int .u8 7), .lit (.int .u8 26), .lit (.int .u8 12), .lit (.int .u8 18), .lit (.int .u8 6), .lit (.int .u8 11), .lit (.int .u8 5), .lit (.int .u8 10), .lit (.int .u8 9)]
theorem AO1 {W : World} (h : laidMet Tryz.prog [("math/bits.deBruijn32tab", Rows.laid_math_bits_deBruijn32tab), ("math/bits.deBruijn64tab", Rows.laid_math_bits_deBruijn64tab), ("internal/strconv.uint64pow10", Rows.laid_internal_strconv_uint64pow10), ("unicode/utf8.acceptRanges", Rows.laid_unicode_utf8_acceptRanges), ("strconv.ErrRange", Rows.laid_strconv_ErrRange), ("strconv.ErrSyntax", Rows.laid_strconv_ErrSyntax), ("gitlike/object.kinds", Rows.laid_gitlike_object_kinds), ("unicode/utf8.first", Rows.laid_unicode_utf8_first)] W) : ∃ t fr, W.heap[8]? = some (.cells AF1.cells.toArray t fr) :=
 A1Y (t := (Tryz.prog.globals[8]?).elim 0 (·.type)) (e := match Tryz.prog.underlying ((Tryz.prog.globals[8]?).elim 0 (·.type)) with | some (.array _ e) => e | _ => 0) (n := AF1.cells.length) h (List.mem_of_getElem? (i := 0) (show [("math/bits.deBruijn32tab", Rows.laid_math_bits_deBruijn32tab), ("math/bits.deBruijn64tab", Rows.laid_math_bits_deBruijn64tab), ("internal/strconv.uint64pow10", Rows.laid_internal_strconv_uint64pow10), ("unicode/utf8.acceptRanges", Rows.laid_unicode_utf8_acceptRanges), ("strconv.ErrRange", Rows.laid_strconv_ErrRange), ("strconv.ErrSyntax", Rows.laid_strconv_ErrSyntax), ("gitlike/object.kinds", Rows.laid_gitlike_object_kinds), ("unicode/utf8.first", Rows.laid_unicode_utf8_first)][0]? = some ("math/bits.deBruijn32tab", DataW.agg AOY) by kernel_rfl)) (by kernel_rfl) (by kernel_rfl) (by kernel_rfl) (by kernel_rfl) (by kernel_rfl) (by kernel_rfl) (by kernel_rfl)
def AO3 : List (DataW Unit) := [.lit (.int .u8 0), .lit (.int .u8 1), .lit (.int .u8 56), .lit (.int .u8 2), .lit (.int .u8 57), .lit (.int .u8 49), .lit (.int .u8 28), .lit (.int .u8 3), .lit (.int .u8 61), .lit (.int .u8 58), .lit (.int .u8 42), .lit (.int .u8 50), .lit (.int .u8 38), .lit (.int .u8 29), .lit (.int .u8 17), .lit (.int .u8 4), .lit (.int .u8 62), .lit (.int .u8 47), .lit (.int .u8 59), .lit (.int .u8 36), .lit (.int .u8 45), .lit (.int .u8 43), .lit (.int .u8 51), .lit (.int .u8 22), .lit (.int .u8 53), .lit (.int .u8 39), .lit (.int .u8 33), .lit (.int .u8 30), .lit (.int .u8 24), .lit (.int .u8 18), .lit (.int .u8 12), .lit (.int .u8 5), .lit (.int .u8 63), .lit (.int .u8 55), .lit (.int .u8 48), .lit (.int .u8 27), .lit (.int .u8 60), .lit (.int .u8 41), .lit (.int .u8 37), .lit (.int .u8 16), .lit (.int .u8 46), .lit (.int .u8 35), .lit (.int .u8 44), .lit (.int .u8 21), .lit (.int .u8 52), .lit (.int .u8 32), .lit (.int .u8 23), .lit (.int .u8 11), .lit (.int .u8 54), .lit (.int .u8 26), .lit (.int .u8 40), .lit (.int .u8 15), .lit (.int .u8 34), .lit (.int .u8 20), .lit (.int .u8 31), .lit (.int .u8 10), .lit (.int .u8 25), .lit (.int .u8 14), .lit (.int .u8 19), .lit (.int .u8 9), .lit (.int .u8 13), .lit (.int .u8 8), .lit (.int .u8 7), .lit (.int .u8 6)]
theorem AO2 {W : World} (h : laidMet Tryz.prog [("math/bits.deBruijn32tab", Rows.laid_math_bits_deBruijn32tab), ("math/bits.deBruijn64tab", Rows.laid_math_bits_deBruijn64tab), ("internal/strconv.uint64pow10", Rows.laid_internal_strconv_uint64pow10), ("unicode/utf8.acceptRanges", Rows.laid_unicode_utf8_acceptRanges), ("strconv.ErrRange", Rows.laid_strconv_ErrRange), ("strconv.ErrSyntax", Rows.laid_strconv_ErrSyntax), ("gitlike/object.kinds", Rows.laid_gitlike_object_kinds), ("unicode/utf8.first", Rows.laid_unicode_utf8_first)] W) : ∃ t fr, W.heap[9]? = some (.cells AF0.cells.toArray t fr) :=
 A1Y (t := (Tryz.prog.globals[9]?).elim 0 (·.type)) (e := match Tryz.prog.underlying ((Tryz.prog.globals[9]?).elim 0 (·.type)) with | some (.array _ e) => e | _ => 0) (n := AF0.cells.length) h (List.mem_of_getElem? (i := 1) (show [("math/bits.deBruijn32tab", Rows.laid_math_bits_deBruijn32tab), ("math/bits.deBruijn64tab", Rows.laid_math_bits_deBruijn64tab), ("internal/strconv.uint64pow10", Rows.laid_internal_strconv_uint64pow10), ("unicode/utf8.acceptRanges", Rows.laid_unicode_utf8_acceptRanges), ("strconv.ErrRange", Rows.laid_strconv_ErrRange), ("strconv.ErrSyntax", Rows.laid_strconv_ErrSyntax), ("gitlike/object.kinds", Rows.laid_gitlike_object_kinds), ("unicode/utf8.first", Rows.laid_unicode_utf8_first)][1]? = some ("math/bits.deBruijn64tab", DataW.agg AO3) by kernel_rfl)) (by kernel_rfl) (by kernel_rfl) (by kernel_rfl) (by kernel_rfl) (by kernel_rfl) (by kernel_rfl) (by kernel_rfl)
def AMh : List (DataW Unit) := [.lit (.int .u64 1), .lit (.int .u64 10), .lit (.int .u64 100), .lit (.int .u64 1000), .lit (.int .u64 10000), .lit (.int .u64 100000), .lit (.int .u64 1000000), .lit (.int .u64 10000000), .lit (.int .u64 100000000), .lit (.int .u64 1000000000), .lit (.int .u64 10000000000), .lit (.int .u64 100000000000), .lit (.int .u64 1000000000000), .lit (.int .u64 10000000000000), .lit (.int .u64 100000000000000), .lit (.int .u64 1000000000000000), .lit (.int .u64 10000000000000000), .lit (.int .u64 100000000000000000), .lit (.int .u64 1000000000000000000), .lit (.int .u64 10000000000000000000)]
theorem AMj {W : World} (h : laidMet Tryz.prog [("math/bits.deBruijn32tab", Rows.laid_math_bits_deBruijn32tab), ("math/bits.deBruijn64tab", Rows.laid_math_bits_deBruijn64tab), ("internal/strconv.uint64pow10", Rows.laid_internal_strconv_uint64pow10), ("unicode/utf8.acceptRanges", Rows.laid_unicode_utf8_acceptRanges), ("strconv.ErrRange", Rows.laid_strconv_ErrRange), ("strconv.ErrSyntax", Rows.laid_strconv_ErrSyntax), ("gitlike/object.kinds", Rows.laid_gitlike_object_kinds), ("unicode/utf8.first", Rows.laid_unicode_utf8_first)] W) : ∃ t fr, W.heap[3]? = some (.cells AFt.cells.toArray t fr) :=
 A1Y (t := (Tryz.prog.globals[3]?).elim 0 (·.type)) (e := match Tryz.prog.underlying ((Tryz.prog.globals[3]?).elim 0 (·.type)) with | some (.array _ e) => e | _ => 0) (n := AFt.cells.length) h (List.mem_of_getElem? (i := 2) (show [("math/bits.deBruijn32tab", Rows.laid_math_bits_deBruijn32tab), ("math/bits.deBruijn64tab", Rows.laid_math_bits_deBruijn64tab), ("internal/strconv.uint64pow10", Rows.laid_internal_strconv_uint64pow10), ("unicode/utf8.acceptRanges", Rows.laid_unicode_utf8_acceptRanges), ("strconv.ErrRange", Rows.laid_strconv_ErrRange), ("strconv.ErrSyntax", Rows.laid_strconv_ErrSyntax), ("gitlike/object.kinds", Rows.laid_gitlike_object_kinds), ("unicode/utf8.first", Rows.laid_unicode_utf8_first)][2]? = some ("internal/strconv.uint64pow10", DataW.agg AMh) by kernel_rfl)) (by kernel_rfl) (by kernel_rfl) (by kernel_rfl) (by kernel_rfl) (by kernel_rfl) (by kernel_rfl) (by kernel_rfl)
def ASP : List (DataW Unit) := [.lit (.string []), .lit (.string [99, 111, 109, 109, 105, 116]), .lit (.string [116, 114, 101, 101]), .lit (.string [98, 108, 111, 98]), .lit (.string [116, 97, 103])]
theorem ATa {W : World} (h : laidMet Tryz.prog [("math/bits.deBruijn32tab", Rows.laid_math_bits_deBruijn32tab), ("math/bits.deBruijn64tab", Rows.laid_math_bits_deBruijn64tab), ("internal/strconv.uint64pow10", Rows.laid_internal_strconv_uint64pow10), ("unicode/utf8.acceptRanges", Rows.laid_unicode_utf8_acceptRanges), ("strconv.ErrRange", Rows.laid_strconv_ErrRange), ("strconv.ErrSyntax", Rows.laid_strconv_ErrSyntax), ("gitlike/object.kinds", Rows.laid_gitlike_object_kinds), ("unicode/utf8.first", Rows.laid_unicode_utf8_first)] W) : ∃ t fr, W.heap[0]? = some (.cells AF3.cells.toArray t fr) :=
 A1Y (t := (Tryz.prog.globals[0]?).elim 0 (·.type)) (e := match Tryz.prog.underlying ((Tryz.prog.globals[0]?).elim 0 (·.type)) with | some (.array _ e) => e | _ => 0) (n := AF3.cells.length) h (List.mem_of_getElem? (i := 6) (show [("math/bits.deBruijn32tab", Rows.laid_math_bits_deBruijn32tab), ("math/bits.deBruijn64tab", Rows.laid_math_bits_deBruijn64tab), ("internal/strconv.uint64pow10", Rows.laid_internal_strconv_uint64pow10), ("unicode/utf8.acceptRanges", Rows.laid_unicode_utf8_acceptRanges), ("strconv.ErrRange", Rows.laid_strconv_ErrRange), ("strconv.ErrSyntax", Rows.laid_strconv_ErrSyntax), ("gitlike/object.kinds", Rows.laid_gitlike_object_kinds), ("unicode/utf8.first", Rows.laid_unicode_utf8_first)][6]? = some ("gitlike/object.kinds", DataW.agg ASP) by kernel_rfl)) (by kernel_rfl) (by kernel_rfl) (by kernel_rfl) (by kernel_rfl) (by kernel_rfl) (by kernel_rfl) (by kernel_rfl)
theorem Bpk : "*" ++ "errors.errorString" = "*errors.errorString" := by decide
theorem BgI (u : TypeId) (h : Tryz.prog.typeName? 3 u = some "*errors.errorString") : u = 252 :=
 typeName_ptr_named (nm := "errors.errorString") (by rw [Bpk]; kernel_rfl) (by kernel_rfl) (by decide) u (by rw [Bpk]; exact h)
theorem AWc {W : World} (h : laidMet Tryz.prog [("math/bits.deBruijn32tab", Rows.laid_math_bits_deBruijn32tab), ("math/bits.deBruijn64tab", Rows.laid_math_bits_deBruijn64tab), ("internal/strconv.uint64pow10", Rows.laid_internal_strconv_uint64pow10), ("unicode/utf8.acceptRanges", Rows.laid_unicode_utf8_acceptRanges), ("strconv.ErrRange", Rows.laid_strconv_ErrRange), ("strconv.ErrSyntax", Rows.laid_strconv_ErrSyntax), ("gitlike/object.kinds", Rows.laid_gitlike_object_kinds), ("unicode/utf8.first", Rows.laid_unicode_utf8_first)] W) : ∃ (a : Addr) (t : TypeId) (fr : Nat × Nat), W.heap[5]? = some (.cells #[.iface 252 (.pointer (some a))] t fr) := by
 have h2 : laidMet Tryz.prog (("strconv.ErrRange", DataW.iface "*errors.errorString" (.ptr (.agg [.lit (.string [118, 97, 108, 117, 101, 32, 111, 117, 116, 32, 111, 102, 32, 114, 97, 110, 103, 101])]))) :: [("strconv.ErrSyntax", Rows.laid_strconv_ErrSyntax), ("gitlike/object.kinds", Rows.laid_gitlike_object_kinds), ("unicode/utf8.first", Rows.laid_unicode_utf8_first)]) W := h.tail.tail.tail.tail
 have hg : Tryz.prog.globalNamed "strconv.ErrRange" = some 5 := by kernel_rfl
 obtain ⟨a, s, hv, _⟩ := laid_sentinel h2 hg (show (Tryz.prog.globals[5]?).map (·.type) = some 31 by kernel_rfl) Tryz.underlying31 BgI Tryz.underlying252 Tryz.underlying254 rfl rfl Tryz.underlying9 (by kernel_rfl) (by kernel_rfl)
 exact ⟨a, A5l hg hv⟩
theorem AUr {W : World} (h : laidMet Tryz.prog [("math/bits.deBruijn32tab", Rows.laid_math_bits_deBruijn32tab), ("math/bits.deBruijn64tab", Rows.laid_math_bits_deBruijn64tab), ("internal/strconv.uint64pow10", Rows.laid_internal_strconv_uint64pow10), ("unicode/utf8.acceptRanges", Rows.laid_unicode_utf8_acceptRanges), ("strconv.ErrRange", Rows.laid_strconv_ErrRange), ("strconv.ErrSyntax", Rows.laid_strconv_ErrSyntax), ("gitlike/object.kinds", Rows.laid_gitlike_object_kinds), ("unicode/utf8.first", Rows.laid_unicode_utf8_first)] W) : ∃ (a : Addr) (t : TypeId) (fr : Nat × Nat), W.heap[4]? = some (.cells #[.iface 252 (.pointer (some a))] t fr) := by
 have h2 : laidMet Tryz.prog (("strconv.ErrSyntax", DataW.iface "*errors.errorString" (.ptr (.agg [.lit (.string [105, 110, 118, 97, 108, 105, 100, 32, 115, 121, 110, 116, 97, 120])]))) :: [("gitlike/object.kinds", Rows.laid_gitlike_object_kinds), ("unicode/utf8.first", Rows.laid_unicode_utf8_first)]) W := h.tail.tail.tail.tail.tail
 have hg : Tryz.prog.globalNamed "strconv.ErrSyntax" = some 4 := by kernel_rfl
 obtain ⟨a, s, hv, _⟩ := laid_sentinel h2 hg (show (Tryz.prog.globals[4]?).map (·.type) = some 31 by kernel_rfl) Tryz.underlying31 BgI Tryz.underlying252 Tryz.underlying254 rfl rfl Tryz.underlying9 (by kernel_rfl) (by kernel_rfl)
 exact ⟨a, A5l hg hv⟩
theorem A6n {W : World} (h : laidMetH Tryz.prog Rows.objectTagsRow.laid W) (hsh : W.ShapedOpen Tryz.prog) : ∃ t0 a0 t1 a1 m, @AJB (giM t0 a0 t1 a1 m) (fun b => b < W.heap.size) W := by
 have h' : laidMet Tryz.prog [("math/bits.deBruijn32tab", Rows.laid_math_bits_deBruijn32tab), ("math/bits.deBruijn64tab", Rows.laid_math_bits_deBruijn64tab), ("internal/strconv.uint64pow10", Rows.laid_internal_strconv_uint64pow10), ("unicode/utf8.acceptRanges", Rows.laid_unicode_utf8_acceptRanges), ("strconv.ErrRange", Rows.laid_strconv_ErrRange), ("strconv.ErrSyntax", Rows.laid_strconv_ErrSyntax), ("gitlike/object.kinds", Rows.laid_gitlike_object_kinds), ("unicode/utf8.first", Rows.laid_unicode_utf8_first)] W ∧ handlesMet Tryz.prog [("errors.errorType", Rows.laid_errors_errorType)] W := h
 obtain ⟨a0, e0⟩ := AWc h'.1
 obtain ⟨a1, e1⟩ := AUr h'.1
 obtain ⟨m, tt, fr, hh⟩ := A4A (k := .i64) (zero := #[.int .i64 0]) (g := 2) (t := 3) hsh (of_decide_eq_true (by kernel_rfl)) (by kernel_rfl) rfl (by kernel_rfl) (by kernel_rfl) Tryz.underlying3
 refine ⟨252, a0, 252, a1, m, ?_⟩
 letI := giM 252 a0 252 a1 m
 intro g x hx
 have hm := A9o hx
 have hm' : (g, x) ∈ ([(1, AG0), (8, AF1), (9, AF0), (3, AFt), (0, AF3), (5, GV.one (.iface 252 (.pointer (some a0)))), (4, GV.one (.iface 252 (.pointer (some a1)))), (2, GV.one (.int .i64 m))] : List (Nat × GV)) := hm
 simp only [List.mem_cons, List.mem_nil_iff, or_false, Prod.mk.injEq] at hm'
 have key : ∃ t fr, W.heap[g]? = some (.cells x.cells.toArray t fr) := by
  rcases hm' with ⟨rfl, rfl⟩ | ⟨rfl, rfl⟩ | ⟨rfl, rfl⟩ | ⟨rfl, rfl⟩ | ⟨rfl, rfl⟩ | ⟨rfl, rfl⟩ | ⟨rfl, rfl⟩ | ⟨rfl, rfl⟩
  ·exact A3j h'.2
  ·exact AO1 h'.1
  ·exact AO2 h'.1
  ·exact AMj h'.1
  ·exact ATa h'.1
  ·exact e0
  ·exact e1
  ·exact ⟨tt, fr, hh⟩
 obtain ⟨t, fr, hk⟩ := key
 exact ⟨(Array.getElem?_eq_some_iff.1 hk).1, t, fr, hk⟩
noncomputable def A6N (os : Os) : World :=
 let w0 := World.holding Tryz.prog os ⟨#[], #[.agg #[.int .u8 0, .int .u8 0, .int .u8 0, .int .u8 0, .int .u8 0, .int .u8 0, .int .u8 0, .int .u8 0, .int .u8 0, .int .u8 0, .int .u8 0, .int .u8 0, .int .u8 0, .int .u8 0, .int .u8 0, .int .u8 0, .int .u8 0, .int .u8 0, .int .u8 0, .int .u8 0, .int .i64 0, .string ⟨#[]⟩, .string ⟨#[]⟩, .string ⟨#[]⟩, .int .i64 0, .int .i64 0, .string ⟨#[]⟩], .slice none 0 0], []⟩
 let w1 := { w0 with heap := w0.heap.modify 1 fun
   | .cells _ t frozen => .cells AG0.cells.toArray t frozen
   | o => o }
 let w2 := { w1 with heap := w1.heap.modify 8 fun
   | .cells _ t frozen => .cells AF1.cells.toArray t frozen
   | o => o }
 let w3 := { w2 with heap := w2.heap.modify 9 fun
   | .cells _ t frozen => .cells AF0.cells.toArray t frozen
   | o => o }
 let w4 := { w3 with heap := w3.heap.modify 3 fun
   | .cells _ t frozen => .cells AFt.cells.toArray t frozen
   | o => o }
 let w5 := { w4 with heap := w4.heap.modify 0 fun
   | .cells _ t frozen => .cells AF3.cells.toArray t frozen
   | o => o }
 let w6 := { w5 with heap := w5.heap.modify 7 fun
   | .cells _ t frozen => .cells (Bhn Rows.laid_unicode_utf8_acceptRanges).toArray t frozen
   | o => o }
 let w7 := { w6 with heap := w6.heap.modify 6 fun
   | .cells _ t frozen => .cells (Bhn Rows.laid_unicode_utf8_first).toArray t frozen
   | o => o }
 let w8 := { w7 with heap := (w7.heap.push (.cells #[.string ⟨([118, 97, 108, 117, 101, 32, 111, 117, 116, 32, 111, 102, 32, 114, 97, 110, 103, 101] : List UInt8).toArray⟩] 254 (0, 0))).modify 5 fun
   | .cells _ t frozen => .cells #[.iface 252 (.pointer (some ⟨w7.heap.size, 0, none⟩))] t frozen
   | o => o }
 let w9 := { w8 with heap := (w8.heap.push (.cells #[.string ⟨([105, 110, 118, 97, 108, 105, 100, 32, 115, 121, 110, 116, 97, 120] : List UInt8).toArray⟩] 254 (0, 0))).modify 4 fun
   | .cells _ t frozen => .cells #[.iface 252 (.pointer (some ⟨w8.heap.size, 0, none⟩))] t frozen
   | o => o }
 w9
theorem A4I (os : Os) (args : Array Value) : laidMetH Tryz.prog Rows.objectTagsRow.laid ((A6N os).forCall (fun _ _ => 0) ⟨#[], args, []⟩).memory :=
 laidMetH_of_parts (laidMet_of_run' 8 (by kernel_rfl) (by kernel_rfl)) (by kernel_rfl)

theorem Bij : laidOutB Tryz.prog = true ∧ mapsRowed Tryz.prog = true :=
 have H := ClosedOfChecked.allSpec_of Tryz.checked.wellFormed (by kernel_rfl : Tryz.checked.prog.types = Tryz.checked.src.types)
 ⟨ClosedOfChecked.laidOutB_of H (by kernel_rfl), ClosedOfChecked.mapsRowed_of H⟩
theorem AJU {a b : Bool} (h : a = true) (k : b = true) : (a && b) = true := by rw [h, k]; rfl
theorem Bo1 : (Rows.objectTagsRow.wf (OpenSpec.ofChange Rows.objectTagsSpec)) = true := by kernel_rfl
theorem BoW : (laidOutB Tryz.prog) = true := Bij.1
theorem Bou : (mapsRowed Tryz.prog) = true := Bij.2
theorem BoO : (Tryz.f3.params.all (Tryz.prog.readableRec ·)) = true := by kernel_rfl
theorem Bnz : (namedTie Tryz.prog Rows.objectTagsRow.named Rows.objectTagsSpec.vars) = true := by kernel_rfl
theorem BnL : ((Rows.objectTagsRow.stops == [])) = true := by kernel_rfl
theorem Bng : ((Tryz.prog.stops == [])) = true := by kernel_rfl
theorem Bn8 : ((Rows.objectTagsRow.knobs == [])) = true := by kernel_rfl
theorem Bm6 : ((Tryz.prog.stopKnobs == [])) = true := by kernel_rfl
theorem Bor : ((Rows.objectTagsRow.inPlace == Tryz.prog.inPlace 3)) = true := by kernel_rfl
theorem BlC : ((Rows.objectTagsRow.unfollowed == Tryz.prog.unfollowed 3)) = true := by kernel_rfl
theorem BlT : ((Rows.objectTagsRow.recurses == Tryz.prog.recurses 3)) = true := by kernel_rfl
theorem BjB : ((Rows.objectTagsRow.named == Tryz.prog.varsNamed 3)) = true := by kernel_rfl
theorem Blo : ((Rows.objectTagsRow.maps == (Tryz.f3.params.toList ++ Rows.objectTagsSpec.plain.varTypes Tryz.prog).any (Tryz.prog.mapsRec ·))) = true := by kernel_rfl
theorem Bkq : ((Rows.objectTagsRow.ifaces == (Tryz.f3.params.toList ++ Rows.objectTagsSpec.plain.varTypes Tryz.prog).any (Tryz.prog.ifacesRec ·))) = true := by kernel_rfl
theorem Bme : ((Rows.objectTagsRow.mapsOut == Tryz.prog.mapsAmong Tryz.f3.resultTypes.toList)) = true := by kernel_rfl
theorem Blc : ((Rows.objectTagsRow.loops == (Tryz.f3.params.toList ++ Rows.objectTagsSpec.plain.varTypes Tryz.prog).any (Tryz.prog.loopsFrom ·))) = true := by kernel_rfl
theorem BjX : ((Rows.objectTagsRow.wideKeys == (Tryz.f3.params.toList ++ Rows.objectTagsSpec.plain.varTypes Tryz.prog ++ Tryz.f3.resultTypes.toList).any (Tryz.prog.wideKeysFrom ·))) = true := by kernel_rfl
theorem Bl8 : (Rows.objectTagsSpec.vars.all (Tryz.prog.varReadable ·)) = true := by kernel_rfl
theorem BlA : (Tryz.f3.resultTypes.all (fun t => Tryz.prog.readableRec t && decide (t < Tryz.prog.types.size))) = true := by kernel_rfl
theorem Bmf : ((Rows.objectTagsRow.ifacesOut == Tryz.f3.resultTypes.toList.any (Tryz.prog.ifacesRec ·))) = true := by kernel_rfl
theorem Bk8 : ((Rows.objectTagsRow.loopsOut == Tryz.f3.resultTypes.toList.any (Tryz.prog.loopsFrom ·))) = true := by kernel_rfl
theorem Bjt : ((Rows.objectTagsRow.plainKeys == Tryz.prog.plainKeys)) = true := by kernel_rfl
theorem BjM : (Rows.objectTagsRow.shortTexts.isNone) = true := by kernel_rfl
theorem Bke : (Tryz.prog.stopsHeard) = true := by kernel_rfl
theorem Bl4 : (Tryz.prog.mayEnter) = true := by kernel_rfl
theorem Bmb : ((Rows.objectTagsRow.lifted == Tryz.prog.liftsFinal)) = true := by kernel_rfl
theorem Bkk : ((Tryz.prog.make == some Rows.objectTagsRow.make)) = true := by kernel_rfl
theorem BlO : ((Rows.objectTagsRow.kinds == (if Rows.objectTagsRow.domain.isEmpty then [] else Tryz.f3.params.toList.map fun t => match Tryz.prog.underlying t with | some (.int k) => some k | _ => none))) = true := by kernel_rfl
theorem BjO : ((Rows.objectTagsRow.pinned == Rows.objectTagsRow.pinnedBy)) = true := by kernel_rfl
theorem Blg : ((Rows.objectTagsRow.veiled == (Tryz.f3.params.toList ++ Rows.objectTagsSpec.plain.varTypes Tryz.prog ++ Tryz.f3.resultTypes.toList).any (Tryz.prog.veiledRec ·))) = true := by kernel_rfl
theorem BlI : (Rows.objectTagsRow.veiledFits Tryz.prog Tryz.f3.params.toList (Tryz.f3.params.toList ++ Rows.objectTagsSpec.plain.varTypes Tryz.prog ++ Tryz.f3.resultTypes.toList)) = true := by kernel_rfl
set_option maxRecDepth 100000 in
theorem Bd8 : ((Rows.objectTagsRow.wf (OpenSpec.ofChange Rows.objectTagsSpec)) && (laidOutB Tryz.prog) && (mapsRowed Tryz.prog) && (Tryz.f3.params.all (Tryz.prog.readableRec ·)) && (namedTie Tryz.prog Rows.objectTagsRow.named Rows.objectTagsSpec.vars) && ((Rows.objectTagsRow.stops == [])) && ((Tryz.prog.stops == [])) && ((Rows.objectTagsRow.knobs == [])) && ((Tryz.prog.stopKnobs == [])) && ((Rows.objectTagsRow.inPlace == Tryz.prog.inPlace 3)) && ((Rows.objectTagsRow.unfollowed == Tryz.prog.unfollowed 3)) && ((Rows.objectTagsRow.recurses == Tryz.prog.recurses 3)) && ((Rows.objectTagsRow.named == Tryz.prog.varsNamed 3)) && ((Rows.objectTagsRow.maps == (Tryz.f3.params.toList ++ Rows.objectTagsSpec.plain.varTypes Tryz.prog).any (Tryz.prog.mapsRec ·))) && ((Rows.objectTagsRow.ifaces == (Tryz.f3.params.toList ++ Rows.objectTagsSpec.plain.varTypes Tryz.prog).any (Tryz.prog.ifacesRec ·))) && ((Rows.objectTagsRow.mapsOut == Tryz.prog.mapsAmong Tryz.f3.resultTypes.toList)) && ((Rows.objectTagsRow.loops == (Tryz.f3.params.toList ++ Rows.objectTagsSpec.plain.varTypes Tryz.prog).any (Tryz.prog.loopsFrom ·))) && ((Rows.objectTagsRow.wideKeys == (Tryz.f3.params.toList ++ Rows.objectTagsSpec.plain.varTypes Tryz.prog ++ Tryz.f3.resultTypes.toList).any (Tryz.prog.wideKeysFrom ·))) && (Rows.objectTagsSpec.vars.all (Tryz.prog.varReadable ·)) && (Tryz.f3.resultTypes.all (fun t => Tryz.prog.readableRec t && decide (t < Tryz.prog.types.size))) && ((Rows.objectTagsRow.ifacesOut == Tryz.f3.resultTypes.toList.any (Tryz.prog.ifacesRec ·))) && ((Rows.objectTagsRow.loopsOut == Tryz.f3.resultTypes.toList.any (Tryz.prog.loopsFrom ·))) && ((Rows.objectTagsRow.plainKeys == Tryz.prog.plainKeys)) && (Rows.objectTagsRow.shortTexts.isNone) && (Tryz.prog.stopsHeard) && (Tryz.prog.mayEnter) && ((Rows.objectTagsRow.lifted == Tryz.prog.liftsFinal)) && ((Tryz.prog.make == some Rows.objectTagsRow.make)) && ((Rows.objectTagsRow.kinds == (if Rows.objectTagsRow.domain.isEmpty then [] else Tryz.f3.params.toList.map fun t => match Tryz.prog.underlying t with | some (.int k) => some k | _ => none))) && ((Rows.objectTagsRow.pinned == Rows.objectTagsRow.pinnedBy)) && ((Rows.objectTagsRow.veiled == (Tryz.f3.params.toList ++ Rows.objectTagsSpec.plain.varTypes Tryz.prog ++ Tryz.f3.resultTypes.toList).any (Tryz.prog.veiledRec ·))) && (Rows.objectTagsRow.veiledFits Tryz.prog Tryz.f3.params.toList (Tryz.f3.params.toList ++ Rows.objectTagsSpec.plain.varTypes Tryz.prog ++ Tryz.f3.resultTypes.toList))) = true := (AJU (AJU (AJU (AJU (AJU (AJU (AJU (AJU (AJU (AJU (AJU (AJU (AJU (AJU (AJU (AJU (AJU (AJU (AJU (AJU (AJU (AJU (AJU (AJU (AJU (AJU (AJU (AJU (AJU (AJU (AJU Bo1 BoW) Bou) BoO) Bnz) BnL) Bng) Bn8) Bm6) Bor) BlC) BlT) BjB) Blo) Bkq) Bme) Blc) BjX) Bl8) BlA) Bmf) Bk8) Bjt) BjM) Bke) Bl4) Bmb) Bkk) BlO) BjO) Blg) BlI)
set_option maxRecDepth 100000 in
theorem A71 : joinedFacts Tryz.prog 3 Tryz.f3 Rows.objectTagsSpec Rows.objectTagsRow = true := Bd8
set_option maxRecDepth 100000 in
theorem lifted (os : Os) (started : os.Started) (H : Type) (enc : TypeId × Value → H) :
  ReturnsInHanded {} Tryz.checked os 3 .any (fun w args => (Rows.objectTagsSpec.pre enc Tryz.prog Tryz.f3 [] false w args ∧ laidMetH Tryz.prog Rows.objectTagsRow.laid w) ∧ sizedMet enc Tryz.prog Tryz.f3 (OpenSpec.ofChange Rows.objectTagsSpec) false w args) (Rows.objectTagsSpec.post enc Tryz.prog Tryz.f3 false true false false) := by
 refine A0c (C := Tryz.checked) (X := fun w _ => laidMetH Tryz.prog Rows.objectTagsRow.laid w) (fun _ _ _ hh h => h.of_heap hh) own started (by kernel_rfl) Tryz.func3
  (ChangeSpec.witness_at (enc := enc) (C := Tryz.checked) (os := os) (X := fun w _ => laidMetH Tryz.prog Rows.objectTagsRow.laid w) false (A6N os) #[.agg #[.int .u8 0, .int .u8 0, .int .u8 0, .int .u8 0, .int .u8 0, .int .u8 0, .int .u8 0, .int .u8 0, .int .u8 0, .int .u8 0, .int .u8 0, .int .u8 0, .int .u8 0, .int .u8 0, .int .u8 0, .int .u8 0, .int .u8 0, .int .u8 0, .int .u8 0, .int .u8 0, .int .i64 0, .string ⟨#[]⟩, .string ⟨#[]⟩, .string ⟨#[]⟩, .int .i64 0, .int .i64 0, .string ⟨#[]⟩], .slice none 0 0] 8 rfl (by kernel_rfl) (by kernel_rfl) (by kernel_rfl) (by kernel_rfl) (by kernel_rfl) (A4I os _)) ?_
 intro W base args ds gs before hval0 hW hcnd hsz0 hL hsh _
 obtain ⟨t0, a0, t1, a1, m, hG⟩ := A6n hL hsh
 letI : AFG := giM t0 a0 t1 a1 m
 haveI : AGi := AZE t0 a0 t1 a1 m
 haveI : AHW := AQh t0 a0 t1 a1 m
 haveI : AHU := AP3 t0 a0 t1 a1 m
 haveI : AFg := ANd t0 a0 t1 a1 m
 haveI : AFq := ATV t0 a0 t1 a1 m
 haveI : AFr := AYQ t0 a0 t1 a1 m
 haveI : AFp := AYj t0 a0 t1 a1 m
 haveI : AIJ := ⟨m, by kernel_rfl⟩
 have hsz : (DataW.weightsEach Tryz.prog (Tryz.f3.params.toList ++ Rows.objectTagsSpec.plain.varTypes Tryz.prog) (ds ++ gs)).all (· ≤ reachBytes) = true := hsz0
 have hval : ∀ (j : Nat) t v, Tryz.f3.params[j]? = some t → args[j]? = some v → Value.okWide Tryz.prog W .any base t v := hval0
 have hW' := hW
 obtain ⟨p, q, hA0, hV, rfl, hfz, hnd⟩ := hW
 have hA : DataW.TrodAll enc Tryz.prog W 0 (fun _ => true) true Tryz.f3.params.toList args.toList ds p := hA0
 obtain ⟨rfl, rfl⟩ := trodVars_none hV
 have hsz2 : (DataW.weightsEach Tryz.prog Tryz.f3.params.toList ds).all (· ≤ reachBytes) = true := by
  have e : Tryz.f3.params.toList ++ Rows.objectTagsSpec.plain.varTypes Tryz.prog = Tryz.f3.params.toList := by simp [ChangeSpec.plain, Rows.objectTagsSpec]; rfl
  rw [e, List.append_nil] at hsz; exact hsz
 have hA' := hA
 have hps : (Tryz.f3.params.toList.all fun t => Tryz.prog.readableRec t && decide (t < Tryz.prog.types.size)) = true := by kernel_rfl
 have hv2 : ∀ (j : Nat) t v, Tryz.f3.params.toList[j]? = some t → args.toList[j]? = some v → ∃ base, Value.okWide Tryz.prog W .any base t v := fun j t v h1 h2 => ⟨base, hval j t v (by rw [← Array.getElem?_toList]; exact h1) (by rw [← Array.getElem?_toList]; exact h2)⟩
 rw [Tryz.params3] at hA hsz2 hv2
 obtain ⟨dsE, hdsE⟩ : ∃ x, x = ds := ⟨_, rfl⟩
 refine (BlN (f := 3) (AWG A90 (A5o Tryz.underlying28) (fun _ => rfl) (AWG (A6I Tryz.underlying29 Tryz.underlying5 (by kernel_rfl) (by kernel_rfl)) (A6f Tryz.underlying29) (fun _ => rfl) A4r)) (fun a h => BiY a.1 a.2.1 h.1 h.2.1) hA hv2 hsz2 (hG)).mono fun e W' ⟨he, bel⟩ => ?_
 subst he
 have hB := AZt Bij.1 bel hps hA'
 have hAo := hA
 obtain ⟨v0, vs0, d0, ds0, p0, q0, ha0, hd0, hp0, h0, r0⟩ := trodAll_cons hAo
 obtain ⟨v1, vs1, d1, ds1, p1, q1, ha1, hd1, hp1, h1, r1⟩ := trodAll_cons r0
 obtain ⟨hz1, hz2, hz3⟩ := trodAll_nil r1
 have hd : ds = [d0, d1] := by rw [hd0, hd1, hz2]
 subst hd
 exact ⟨_, rfl, _, _, _, [], _, [], hW', trodAll_mk1 (shut_bool Tryz.underlying4 _), hB, rfl, bel.frame _, fun h => by cases h⟩

theorem over : Rows.objectTagsRow.holds Tryz.pinned (OpenSpec.ofChange Rows.objectTagsSpec) :=
 OpenClaim.holds_of_wide 3 Tryz.f3 rfl rfl rfl rfl rfl rfl rfl ⟨rfl, rfl, rfl, rfl, rfl⟩ rfl rfl rfl rfl rfl (by kernel_rfl) Tryz.func3 A71
  (of_decide_eq_true (by kernel_rfl)) (by unfold Func.isWrapper; first | (rw [if_pos (by decide +kernel)]; kernel_rfl) | (rw [if_neg (by decide +kernel)]; exact ⟨rfl, rfl⟩))
  (fun os started H enc _ => lifted os started H enc)
theorem stands : (Tryz.f3.params.toList.all fun t => !Tryz.prog.wantsStandIn t) = true := by kernel_rfl
theorem proved : Rows.ObjectTagsCardSaid :=
 Claim7.holds_tied_plain_at .later [] [.data, .data, .data, .data, .handle, .sentinel, .sentinel, .data, .pinned] true (true, "e6ab31fe43430383ffa178a85459ae3fe14ad8d0c4adf46aafb056f087e0bfb5") true
  over (fun _ h => by cases h) (by kernel_rfl) (fun _ h => by cases h) objectTags_row_tie rfl ⟨rfl, rfl⟩ (by kernel_rfl) rfl
  (fun f fn hf hfn => by
   obtain rfl : f = 3 := (Option.some.inj ((show Tryz.prog.funcNamed "gitlike/gitlikelaw3.ObjectTags" = some 3 by kernel_rfl).symm.trans hf)).symm
   obtain rfl : fn = Tryz.f3 := (Option.some.inj (Tryz.func3.symm.trans hfn)).symm
   exact ⟨by kernel_rfl, fun j t ht => by
    rw [← Array.getElem?_toList] at ht
    have := List.all_eq_true.1 stands t (List.mem_of_getElem? ht)
    exact (show Tryz.prog.wantsStandIn t = false by simpa using this)⟩)
  (by kernel_rfl)
#print axioms proved
end Go.Proofs.YtliaddbbmnfioaaGreatDoor.objectTags

