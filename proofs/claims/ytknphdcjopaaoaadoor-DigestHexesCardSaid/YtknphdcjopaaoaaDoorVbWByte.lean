/- strings.Builder's WriteByte. -/
import Derived.Test.YtknphdcjopaaoaaDoorVbPath
import Derived.Test.YtknphdcjopaaoaaDoorCodeW
namespace Go.Proofs.YtknphdcjopaaoaaDoor
open Go.RowKit
set_option linter.unusedVariables false
set_option linter.unusedSimpArgs false

theorem writeByteV {id ver j v : Nat} {p : List (Nat × Nat)} {x x' : TV} {l : List UInt8} {c : UInt8} {H : List Ob} {K : TV → List Ob → Prop} (hB : Bld H id ver p j v x l) (hlen : l.length + 1 ≤ 140737488355328)
    (hs : setP p x (.agg [.op id ver p, .os 1 j v [] 0 l.length l.length]) = some x') (hk : ∀ x'', setP p x (.agg [.op id ver p, .os 1 j (v + 1) [] 0 (l ++ [c]).length (l ++ [c]).length]) = some x'' → K (.val .nilIface) ((H.set id (.obj ver x'')).set j (.bld (v + 1) 5 (l ++ [c])) ++ [.obj 0 (.arr 1 1 [by8 c])])) :
    VCalls Tryd.prog 33 [.op id ver p, by8 c] H K := by
  obtain ⟨ho, ⟨a, ha, hg⟩, hj, hne, q, T, m, hq, hT⟩ := hB
  refine go_strings_Builder_WriteByte (by simp) ?_
  simp -dsimp (disch := first | assumption | omega) only [↓vmPre, vmPost, vmWrd, vmDat, eq_self, forall_const, Nat.reduceLT, Nat.reduceEqDiff, Nat.reduceSub, Nat.reduceMul, Nat.reduceMod, Nat.reduceDiv, Nat.reducePow, UInt8.reduceToNat, Int.reduceEq, Int.reduceLT, Int.reduceLE, ↓reduceIte, Nat.reduceEqDiff, Nat.reduceAdd, Int.reduceToNat, reduceCtorEq, Nat.reduceLeDiff, ↓u_strings_Builder_WriteByte]
  refine copyCheckV ho hg rfl ha hq hT hs rfl ?_
  have hid : id < H.length := (List.getElem?_eq_some_iff.1 ho).1
  have hjl : j < H.length := (List.getElem?_eq_some_iff.1 hj).1
  obtain ⟨g1, x'', g2, g3⟩ := bld_path (b' := .os 1 j (v + 1) [] 0 (l ++ [c]).length (l ++ [c]).length) (width_self ha) (by rfl) (by rfl) (by rfl) (by rfl) hg hs
  have hll : (H.set id (.obj ver x')).length = H.length := by simp
  have b1 : ∀ {G : List Ob} {o g : Ob} {i : Nat}, G[i]? = some o → (G ++ [g])[i]? = some o := fun h => by rw [List.getElem?_append_left (List.getElem?_eq_some_iff.1 h).1]; exact h
  have f0 : (H.set id (.obj ver x') ++ [Ob.obj 0 (.arr 1 1 [by8 c])])[H.length]? = some (.obj 0 (.arr 1 1 [by8 c])) := by
    rw [← hll, List.getElem?_append_right (Nat.le_refl _)]; simp
  have f1 : (H.set id (.obj ver x'))[id]? = some (.obj ver x') := by simp [hid]
  have f2 : (H.set id (.obj ver x') ++ [Ob.obj 0 (.arr 1 1 [by8 c])])[j]? = some (.bld v 5 l) := b1 (by rw [List.getElem?_set_ne hne]; exact hj)
  have f5 : (H.set id (.obj ver x') ++ [Ob.obj 0 (.arr 1 1 [by8 c])]).set j (.bld (v + 1) 5 (l ++ [c])) = (H.set id (.obj ver x')).set j (.bld (v + 1) 5 (l ++ [c])) ++ [Ob.obj 0 (.arr 1 1 [by8 c])] := by
    rw [List.set_append_left _ _ (by rw [hll]; exact hjl)]
  have f3 : ((H.set id (.obj ver x')).set j (.bld (v + 1) 5 (l ++ [c])) ++ [Ob.obj 0 (.arr 1 1 [by8 c])])[id]? = some (.obj ver x') := b1 (by rw [List.getElem?_set_ne (Ne.symm hne)]; exact f1)
  have f4 : ((H.set id (.obj ver x')).set j (.bld (v + 1) 5 (l ++ [c])) ++ [Ob.obj 0 (.arr 1 1 [by8 c])]).set id (.obj ver x'') = (H.set id (.obj ver x'')).set j (.bld (v + 1) 5 (l ++ [c])) ++ [Ob.obj 0 (.arr 1 1 [by8 c])] := by
    rw [List.set_append_left _ _ (by simpa using hid), List.set_comm _ _ hne, List.set_set, List.set_comm _ _ hne.symm]
  have one : (List.replicate 1 (TV.val (Value.int IntKind.u8 ((0 : Nat) : Int)))).set 0 (by8 c) = [by8 c] := by simp
  have tk1 : [by8 c].take 1 = [by8 c] := by simp
  have tkl : l.take l.length = l := List.take_length
  have e1 : (l ++ [c]).length = l.length + 1 := by simp
  rw [e1] at g2
  have hk' := hk x'' g3
  simp -dsimp (disch := first | assumption | omega) only [↓vmPre, vmPost, vmWrd, vmDat, eq_self, forall_const, Nat.reduceLT, Nat.reduceEqDiff, Nat.reduceSub, Nat.reduceMul, Nat.reduceMod, Nat.reduceDiv, Nat.reducePow, UInt8.reduceToNat, Int.reduceEq, Int.reduceLT, Int.reduceLE, ↓reduceIte, Nat.reduceEqDiff, Nat.reduceAdd, Int.reduceToNat, reduceCtorEq, Nat.reduceLeDiff, ↓u_strings_Builder_WriteByte, f0, f1, f2, f3, f4, f5, g1, g2, one, tk1, tkl]
  exact hk'
end Go.Proofs.YtknphdcjopaaoaaDoor
