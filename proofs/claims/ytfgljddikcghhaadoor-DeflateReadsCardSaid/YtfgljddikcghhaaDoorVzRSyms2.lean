import Derived.Test.YtfgljddikcghhaaDoorVzRSyms
namespace Go.Proofs.YtfgljddikcghhaaDoor
open Go.RowKit
variable [Globs]
set_option linter.unusedSectionVars false
set_option linter.unusedVariables false
set_option linter.unusedSimpArgs false

/-- The document's reader of a code. -/
def rdC (ls bs : List Nat) : Rd := fun B => (symC ls bs 15 0 0 B).map fun p => (p.1, B.drop p.2)
section
omit [Globs]
theorem findC_lt {ls bs : List Nat} {n v i : Nat} (h : findC ls bs n v = some i) : i < ls.length := by
 unfold findC at h
 rw [List.find?_range_eq_some] at h
 simpa using h.2.1
theorem symC_spec {ls bs : List Nat} : ∀ {k n v : Nat} {B : List Bool} {i m : Nat}, symC ls bs k n v B = some (i, m) → i < ls.length ∧ n + 1 ≤ m ∧ m ≤ n + B.length
 | 0, n, v, B, i, m, h => by simp [symC] at h
 | k + 1, n, v, [], i, m, h => by simp [symC] at h
 | k + 1, n, v, b :: B, i, m, h => by
  rw [symC] at h
  split at h
  ·rename_i j hj
   cases h
   exact ⟨findC_lt hj, Nat.le_refl _, by rw [List.length_cons]; omega⟩
  ·obtain ⟨h1, h2, h3⟩ := symC_spec h
   rw [List.length_cons]
   exact ⟨h1, by omega, by omega⟩
theorem rdC_spec {ls bs : List Nat} {B B1 : List Bool} {y : Nat} (h : rdC ls bs B = some (y, B1)) : y < ls.length ∧ ∃ n, 1 ≤ n ∧ n ≤ B.length ∧ B1 = B.drop n := by
 unfold rdC at h
 obtain ⟨⟨i, m⟩, h1, h2⟩ := Option.map_eq_some_iff.1 h
 cases h2
 obtain ⟨k1, k2, k3⟩ := symC_spec h1
 exact ⟨k1, m, by omega, by omega, rfl⟩
end
/-- The stream's bits, as a call leaves it. -/
theorem sbitsS {id n at_ : Nat} {inn l : List UInt8} {o : TV} {most win : Int} {J : Option Nat} {H : List Ob} (hst : StmOk H id inn at_ o l most win J) (hn : n ≤ 16) (hi : inn.length ≤ 1000000) : VCalls Tryd.prog 34 [.op id 0 [], i64 (n : Int)] H
  (fun x H' => Frm id none H H' ∧ H'.length = H.length ∧ if n ≤ ((allB inn).drop at_).length then x = i64 ((valN (((allB inn).drop at_).take n) : Nat) : Int) ∧ StmOk H' id inn (at_ + n) o l most win J
   else x = i64 ((0 : Nat) : Int) ∧ H'[id]? = some (stm inn (8 * inn.length) o most win 10) ∧ width o = 1) := by
 refine VCalls.mono (sbitsV hst.row.width1 hst.ob hn hi hst.at_) ?_
 intro x H' hx
 have hat := hst.at_
 have hlt := hst.lt
 have hlen : ((allB inn).drop at_).length = 8 * inn.length - at_ := by rw [List.length_drop, allB_len]
 by_cases hc : at_ + n ≤ 8 * inn.length
 ·rw [if_pos hc] at hx
  obtain ⟨rfl, rfl⟩ := hx
  refine ⟨Frm.set, by simp, ?_⟩
  rw [if_pos (by omega)]
  exact ⟨rfl, hst.moved (by simp [hlt]) hc Frm.set⟩
 ·rw [if_neg hc] at hx
  obtain ⟨rfl, rfl⟩ := hx
  refine ⟨Frm.set, by simp, ?_⟩
  rw [if_neg (by omega)]
  exact ⟨rfl, by simp [hlt], hst.row.width1⟩
theorem rsymS {id at_ : Nat} {inn l : List UInt8} {o : TV} {most win : Int} {ls bs : List Nat} {J : Option Nat} {H : List Ob} (hst : StmOk H id inn at_ o l most win J) (hi : inn.length ≤ 1000000) (hlen : ls.length = bs.length) (hl3 : ls.length ≤ 1000) :
  VCalls Tryd.prog 55 [.op id 0 [], .agg [nats ls, nats bs]] H
  (fun x H' => Frm id none H H' ∧ match rdC ls bs ((allB inn).drop at_) with
   | some (y, B) => x = i64 (y : Int) ∧ y < ls.length ∧ ∃ n, 1 ≤ n ∧ B = (allB inn).drop (at_ + n) ∧ StmOk H' id inn (at_ + n) o l most win J
   | none => x = i64 (-1) ∧ StmBad H' id inn most win 10) := by
 refine VCalls.mono (rsymbolV hst.row.width1 hst.ob hi hst.at_ hlen hl3) ?_
 intro x H' hx
 have hlt := hst.lt
 unfold rdC
 split at hx
 ·rename_i i n hs
  obtain ⟨rfl, h2⟩ := hx
  obtain ⟨k1, k2, k3⟩ := symC_spec hs
  have hat := hst.at_
  rw [List.length_drop, allB_len] at k3
  have hf : Frm id none H H' := Frm.of_lt h2
  rw [hs]
  exact ⟨hf, rfl, k1, n, by omega, by simp [List.drop_drop], hst.moved (by rw [h2 id hlt]; simp [hlt]) (by omega) hf⟩
 ·rename_i hs
  obtain ⟨rfl, a, ha, h2⟩ := hx
  have hf : Frm id none H H' := Frm.of_lt h2
  rw [hs]
  exact ⟨hf, rfl, by simp, a, o, ha, hst.row.width1, by rw [h2 id hlt]; simp [hlt]⟩
/-- Behind an error the bits lead nowhere. -/
theorem rsymbolE {id err : Nat} {inn : List UInt8} {o : TV} {m f : Int} {ls bs : List Nat} {H : List Ob} (hw : width o = 1) (he : err ≠ 0) (h : H[id]? = some (stm inn (8 * inn.length) o m f err)) (hi : inn.length ≤ 1000000) :
  VCalls Tryd.prog 55 [.op id 0 [], .agg [nats ls, nats bs]] H (fun x H' => x = i64 (-1) ∧ ∀ k, k < H.length → H'[k]? = H[k]?) := by
 have hid : id < H.length := (List.getElem?_eq_some_iff.1 h).1
 refine go_ref1_Stream_symbol (by simp) ?_
 simp -dsimp (disch := first | assumption | omega | (simp only [vmLen]; done) | (simp only [vmLen]; omega)) only [↓vmPre, vmPost, vmWrd, vmDat, eq_self, forall_const, Nat.reduceLT, Nat.reduceEqDiff, Nat.reduceSub, Nat.reduceMul, Nat.reduceMod, Nat.reduceDiv, Nat.reducePow, UInt8.reduceToNat, Int.reduceEq, Int.reduceLT, Int.reduceLE, ↓reduceIte, Nat.reduceAdd, Int.reduceToNat, reduceCtorEq, Nat.reduceLeDiff, ↓u_ref1_Stream_symbol, h]
 refine w_loop (fun q e H' => e = [(0, .op id 0 []), (3, .op H.length 0 []), (5, i64 ((0 : Nat) : Int)), (6, i64 ((1 : Nat) : Int))] ∧ H' = H ++ [.obj 0 (.agg [nats ls, nats bs])]) 15 ?_ ?_
 ·exact ⟨rfl, rfl⟩
 ·rintro q e H' ⟨rfl, rfl⟩
  have h' : (H ++ [.obj 0 (.agg [nats ls, nats bs])])[id]? = some (stm inn (8 * inn.length) o m f err) := by rw [List.getElem?_append_left (by simpa using hid)]; exact h
  simp -dsimp (disch := first | assumption | omega | (simp only [vmLen]; done) | (simp only [vmLen]; omega)) only [↓vmPre, vmPost, vmWrd, vmDat, eq_self, forall_const, Nat.reduceLT, Nat.reduceEqDiff, Nat.reduceSub, Nat.reduceMul, Nat.reduceMod, Nat.reduceDiv, Nat.reducePow, UInt8.reduceToNat, Int.reduceEq, Int.reduceLT, Int.reduceLE, ↓reduceIte, Nat.reduceAdd, Int.reduceToNat, reduceCtorEq, Nat.reduceLeDiff, ↓u_ref1_Stream_symbol]
  refine VCalls.mono (sbitsV (n := 1) hw h' (by omega) hi (Nat.le_refl _)) ?_
  intro x H' hx
  rw [if_neg (by omega), if_neg he, set_same h'] at hx
  obtain ⟨rfl, rfl⟩ := hx
  simp -dsimp (disch := first | assumption | omega | (simp only [vmLen]; done) | (simp only [vmLen]; omega)) only [↓vmPre, vmPost, vmWrd, vmDat, eq_self, forall_const, Nat.reduceLT, Nat.reduceEqDiff, Nat.reduceSub, Nat.reduceMul, Nat.reduceMod, Nat.reduceDiv, Nat.reducePow, UInt8.reduceToNat, Int.reduceEq, Int.reduceLT, Int.reduceLE, ↓reduceIte, Nat.reduceAdd, Int.reduceToNat, reduceCtorEq, Nat.reduceLeDiff, ↓u_ref1_Stream_symbol, h']
  exact fun k hk => by rw [List.getElem?_append_left (by simpa using hk)]
theorem rsymsV {id at_ : Nat} {inn l : List UInt8} {o : TV} {most win : Int} {ls bs ld bd : List Nat} {J : Option Nat} {H : List Ob} (fuel : Nat) (hst : StmOk H id inn at_ o l most win J) (hfu : ((allB inn).drop at_).length < fuel) (hi : inn.length ≤ 1000000) (hlen : ls.length = bs.length) (hl3 : ls.length ≤ 1000) (hlen2 : ld.length = bd.length) (hl4 : ld.length ≤ 1000) (hm : -9223372036854775808 ≤ most ∧ most ≤ 1000000) (hw : -9223372036854775808 ≤ win ∧ win ≤ 9223372036854775807) :
  VCalls Tryd.prog 38 [.op id 0 [], .agg [nats ls, nats bs], .agg [nats ld, nats bd]] H
  (fun x H' => Frm id J H H' ∧ match syms (rdC ls bs) (rdC ld bd) most win fuel ((allB inn).drop at_) l with
   | .ok (B, l') => ∃ at' o' J', B = (allB inn).drop at' ∧ StmOk H' id inn at' o' l' most win J' ∧ Jn J J' H
   | .error e => StmBad H' id inn most win e) := by
 have hid := hst.lt
 have hJl : ∀ j, J = some j → j < H.length := by
  intro j hj
  have := hst.row; subst hj
  obtain ⟨v, _, h2⟩ := this
  exact (List.getElem?_eq_some_iff.1 h2).1
 refine go_ref1_Stream_symbols (by simp) ?_
 simp -dsimp (disch := first | assumption | omega | (simp only [vmLen]; done) | (simp only [vmLen]; omega)) only [↓vmPre, vmPost, vmWrd, vmDat, eq_self, forall_const, Nat.reduceLT, Nat.reduceEqDiff, Nat.reduceSub, Nat.reduceMul, Nat.reduceMod, Nat.reduceDiv, Nat.reducePow, UInt8.reduceToNat, Int.reduceEq, Int.reduceLT, Int.reduceLE, ↓reduceIte, Nat.reduceAdd, Int.reduceToNat, reduceCtorEq, Nat.reduceLeDiff, ↓u_ref1_Stream_symbols]
 obtain ⟨H1, hH1⟩ : ∃ H1 : List Ob, H1 = H ++ [.obj 0 (.agg [nats ls, nats bs]), .obj 0 (.agg [nats ld, nats bd])] := ⟨_, rfl⟩
 have hH1l : H1.length = H.length + 2 := by rw [hH1]; simp
 have hF1 : Frm id none H H1 := ⟨by omega, fun i hi _ _ => by rw [hH1, List.getElem?_append_left hi]⟩
 have hst1 : StmOk H1 id inn at_ o l most win J := hst.moved (by rw [hH1, List.getElem?_append_left hid]; exact hst.ob) hst.at_ hF1
 have hL1 : H1[H.length]? = some (.obj 0 (.agg [nats ls, nats bs])) := by rw [hH1, List.getElem?_append_right (Nat.le_refl _)]; simp
 have hL2 : H1[H.length + 1]? = some (.obj 0 (.agg [nats ld, nats bd])) := by rw [hH1, List.getElem?_append_right (by omega)]; simp
 have fin : ∀ {H'}, Frm id J H1 H' → Frm id J H H' := fun h => ⟨by have := h.1; omega, fun i hi h1 h2 => by rw [h.2 i (by omega) h1 h2]; exact hF1.2 i hi h1 (by simp)⟩
 have finJ : ∀ {J'}, Jn J J' H1 → Jn J J' H := fun h => Or.imp (fun e => e) (fun h j hj => by have := h j hj; omega) h
 obtain ⟨R, hR⟩ : ∃ R, R = syms (rdC ls bs) (rdC ld bd) most win fuel ((allB inn).drop at_) l := ⟨_, rfl⟩
 rw [← hR]
 refine w_loop (fun q e H' => ∃ at1 o1 l1 J1, e = [(0, .op id 0 []), (4, .op H.length 0 []), (5, .op (H.length + 1) 0 [])] ∧ Frm id J H1 H' ∧
  ((∃ f, q = f + 1 ∧ ((allB inn).drop at1).length < f ∧ R = syms (rdC ls bs) (rdC ld bd) most win f ((allB inn).drop at1) l1 ∧ StmOk H' id inn at1 o1 l1 most win J1 ∧ Jn J J1 H1) ∨ (q = 0 ∧ ∃ err, R = .error err ∧ StmBad H' id inn most win err))) (fuel + 1) ?_ ?_
 ·exact ⟨at_, o, l, J, by rfl, by rw [show H ++ [Ob.obj 0 (TV.agg [nats ls, nats bs])] ++ [Ob.obj 0 (TV.agg [nats ld, nats bd])] = H1 by rw [hH1, List.append_assoc]; rfl]; exact Frm.refl, .inl ⟨fuel, rfl, hfu, hR, by rw [show H ++ [Ob.obj 0 (TV.agg [nats ls, nats bs])] ++ [Ob.obj 0 (TV.agg [nats ld, nats bd])] = H1 by rw [hH1, List.append_assoc]; rfl]; exact hst1, Jn.refl⟩⟩
 ·rintro q e H' ⟨at1, o1, l1, J1, rfl, hfr, hc⟩
  have hlen1 := hfr.1
  rcases hc with ⟨f, rfl, hf, hR1, hs, hj⟩ | ⟨rfl, err, hR1, hb⟩
  case inr =>
   obtain ⟨b1, a2, o2, b2, b3, b4⟩ := hb
   simp -dsimp (disch := first | assumption | omega | (simp only [vmLen]; done) | (simp only [vmLen]; omega)) only [↓vmPre, vmPost, vmWrd, vmDat, eq_self, forall_const, Nat.reduceLT, Nat.reduceEqDiff, Nat.reduceSub, Nat.reduceMul, Nat.reduceMod, Nat.reduceDiv, Nat.reducePow, UInt8.reduceToNat, Int.reduceEq, Int.reduceLT, Int.reduceLE, ↓reduceIte, Nat.reduceAdd, Int.reduceToNat, reduceCtorEq, Nat.reduceLeDiff, ↓u_ref1_Stream_symbols, b4, b3]
   rw [hR1]
   exact ⟨fin hfr, b1, a2, o2, b2, b3, b4⟩
  obtain ⟨f, rfl⟩ : ∃ f', f = f' + 1 := ⟨f - 1, by omega⟩
  have ho := hs.ob
  have hk1 : H'[H.length]? = some (.obj 0 (.agg [nats ls, nats bs])) := by rw [hfr.2 _ (by omega) (by omega) (fun e => by have := hJl _ e; omega)]; exact hL1
  have hk2 : H'[H.length + 1]? = some (.obj 0 (.agg [nats ld, nats bd])) := by rw [hfr.2 _ (by omega) (by omega) (fun e => by have := hJl _ e; omega)]; exact hL2
  have hlt := hs.lt
  have hw1 := hs.row.width1
  simp -dsimp (disch := first | assumption | omega | (simp only [vmLen]; done) | (simp only [vmLen]; omega)) only [↓vmPre, vmPost, vmWrd, vmDat, eq_self, forall_const, Nat.reduceLT, Nat.reduceEqDiff, Nat.reduceSub, Nat.reduceMul, Nat.reduceMod, Nat.reduceDiv, Nat.reducePow, UInt8.reduceToNat, Int.reduceEq, Int.reduceLT, Int.reduceLE, ↓reduceIte, Nat.reduceAdd, Int.reduceToNat, reduceCtorEq, Nat.reduceLeDiff, ↓u_ref1_Stream_symbols, ho, hk1, hw1]
  refine VCalls.mono (rsymS hs hi hlen hl3) ?_
  intro x H2 hx
  obtain ⟨hf2, hx⟩ := hx
  rw [syms] at hR1
  have hfr2 : Frm id J H1 H2 := hfr.trans hj hf2.weak
  split at hx
  case h_2 hnone =>
   rw [hnone] at hR1
   obtain ⟨rfl, hb⟩ := hx
   have hb' := hb
   obtain ⟨b1, a2, o2, b2, b3, b4⟩ := hb
   simp -dsimp (disch := first | assumption | omega | (simp only [vmLen]; done) | (simp only [vmLen]; omega)) only [↓vmPre, vmPost, vmWrd, vmDat, eq_self, forall_const, Nat.reduceLT, Nat.reduceEqDiff, Nat.reduceSub, Nat.reduceMul, Nat.reduceMod, Nat.reduceDiv, Nat.reducePow, UInt8.reduceToNat, Int.reduceEq, Int.reduceLT, Int.reduceLE, ↓reduceIte, Nat.reduceAdd, Int.reduceToNat, reduceCtorEq, Nat.reduceLeDiff, ↓u_ref1_Stream_symbols, b4, b3]
   rw [hR1]
   exact ⟨fin hfr2, hb'⟩
  rename_i y B1 hsome
  obtain ⟨rfl, hyl, n1, hn1, rfl, hs2⟩ := hx
  rw [hsome] at hR1
  have ho2 := hs2.ob
  have hB2 : ((allB inn).drop (at1 + n1)).length < f := by rw [List.length_drop, allB_len] at hf ⊢; have := hs2.at_; omega
  have hk2' : H2[H.length + 1]? = some (.obj 0 (.agg [nats ld, nats bd])) := by rw [hf2.2 _ (by omega) (by omega) (by simp)]; exact hk2
  simp only at hR1
  by_cases hy : y < 256
  ·rw [if_pos hy] at hR1
   simp -dsimp (disch := first | assumption | omega | (simp only [vmLen]; done) | (simp only [vmLen]; omega)) only [↓vmPre, vmPost, vmWrd, vmDat, eq_self, forall_const, Nat.reduceLT, Nat.reduceEqDiff, Nat.reduceSub, Nat.reduceMul, Nat.reduceMod, Nat.reduceDiv, Nat.reducePow, UInt8.reduceToNat, Int.reduceEq, Int.reduceLT, Int.reduceLE, ↓reduceIte, Nat.reduceAdd, Int.reduceToNat, reduceCtorEq, Nat.reduceLeDiff, ↓u_ref1_Stream_symbols, ho2, hw1]
   refine VCalls.mono (sputV (b := UInt8.ofNat y) ho2 hs2.row hs2.ne (by have := hs2.len; omega) (by omega)) ?_
   intro x H3 hx
   simp only [ne_eq, not_true_eq_false, if_false] at hx
   have hl2 := hs2.len
   have hlt2 := hs2.lt
   by_cases hmo : most ≤ (l1.length : Int)
   ·rw [if_pos hmo] at hx hR1
    subst hx
    simp -dsimp (disch := first | assumption | omega | (simp only [vmLen]; done) | (simp only [vmLen]; omega)) only [↓vmPre, vmPost, vmWrd, vmDat, eq_self, forall_const, Nat.reduceLT, Nat.reduceEqDiff, Nat.reduceSub, Nat.reduceMul, Nat.reduceMod, Nat.reduceDiv, Nat.reducePow, UInt8.reduceToNat, Int.reduceEq, Int.reduceLT, Int.reduceLE, ↓reduceIte, Nat.reduceAdd, Int.reduceToNat, reduceCtorEq, Nat.reduceLeDiff, ↓u_ref1_Stream_symbols]
    exact Rnd_keep 0 (by omega) (by have := hfr2.1; simp; omega) ⟨at1 + n1, o1, l1, J1, rfl, hfr2.trans hj Frm.set, .inr ⟨rfl, 11, hR1, by simp, at1 + n1, o1, hs2.at_, hw1, by simp [hlt2]⟩⟩
   ·rw [if_neg hmo] at hx hR1
    obtain ⟨o3, j, g1, g2, g3, g4, g5, g6⟩ := hx
    have hj2 : Jn J1 (some j) H2 := by
     rcases g4 with e | e
     ·exact .inl e.symm
     ·exact .inr fun j2 h2 => by cases h2; exact e
    simp -dsimp (disch := first | assumption | omega | (simp only [vmLen]; done) | (simp only [vmLen]; omega)) only [↓vmPre, vmPost, vmWrd, vmDat, eq_self, forall_const, Nat.reduceLT, Nat.reduceEqDiff, Nat.reduceSub, Nat.reduceMul, Nat.reduceMod, Nat.reduceDiv, Nat.reducePow, UInt8.reduceToNat, Int.reduceEq, Int.reduceLT, Int.reduceLE, ↓reduceIte, Nat.reduceAdd, Int.reduceToNat, reduceCtorEq, Nat.reduceLeDiff, ↓u_ref1_Stream_symbols]
    exact Rnd_keep (f + 1) (by omega) (by have := hfr2.1; simp; omega) ⟨at1 + n1, o3, l1 ++ [UInt8.ofNat y], some j, rfl, hfr2.trans hj ⟨g6, g5⟩, .inl ⟨f, rfl, (by rw [List.length_drop] at hB2; exact hB2), hR1, ⟨g1, g2, by simpa using g3, hs2.at_, by simp; omega⟩, Jn.trans hfr2 hj hj2⟩⟩
  rw [if_neg hy] at hR1
  by_cases hy2 : y = 256
  ·subst hy2
   rw [if_pos rfl] at hR1
   simp -dsimp (disch := first | assumption | omega | (simp only [vmLen]; done) | (simp only [vmLen]; omega)) only [↓vmPre, vmPost, vmWrd, vmDat, eq_self, forall_const, Nat.reduceLT, Nat.reduceEqDiff, Nat.reduceSub, Nat.reduceMul, Nat.reduceMod, Nat.reduceDiv, Nat.reducePow, UInt8.reduceToNat, Int.reduceEq, Int.reduceLT, Int.reduceLE, ↓reduceIte, Nat.reduceAdd, Int.reduceToNat, reduceCtorEq, Nat.reduceLeDiff, ↓u_ref1_Stream_symbols, ho2, hw1]
   rw [hR1]
   exact ⟨fin hfr2, at1 + n1, o1, J1, rfl, hs2, finJ hj⟩
  rw [if_neg hy2] at hR1
  by_cases hy3 : 285 < y
  ·rw [if_pos hy3] at hR1
   simp -dsimp (disch := first | assumption | omega | (simp only [vmLen]; done) | (simp only [vmLen]; omega)) only [↓vmPre, vmPost, vmWrd, vmDat, eq_self, forall_const, Nat.reduceLT, Nat.reduceEqDiff, Nat.reduceSub, Nat.reduceMul, Nat.reduceMod, Nat.reduceDiv, Nat.reducePow, UInt8.reduceToNat, Int.reduceEq, Int.reduceLT, Int.reduceLE, ↓reduceIte, Nat.reduceAdd, Int.reduceToNat, reduceCtorEq, Nat.reduceLeDiff, ↓u_ref1_Stream_symbols, ho2, hw1]
   refine VCalls.mono (failV (e := 10) hw1 ho2) ?_
   intro x H3 hx
   subst hx
   rw [if_pos rfl]
   simp -dsimp (disch := first | assumption | omega | (simp only [vmLen]; done) | (simp only [vmLen]; omega)) only [↓vmPre, vmPost, vmWrd, vmDat, eq_self, forall_const, Nat.reduceLT, Nat.reduceEqDiff, Nat.reduceSub, Nat.reduceMul, Nat.reduceMod, Nat.reduceDiv, Nat.reducePow, UInt8.reduceToNat, Int.reduceEq, Int.reduceLT, Int.reduceLE, ↓reduceIte, Nat.reduceAdd, Int.reduceToNat, reduceCtorEq, Nat.reduceLeDiff, ↓u_ref1_Stream_symbols]
   rw [hR1]
   exact ⟨fin (hfr2.trans hj Frm.set), by simp, at1 + n1, o1, hs2.at_, hw1, by simp [hs2.lt]⟩
  rw [if_neg hy3] at hR1
  simp -dsimp (disch := first | assumption | omega | (simp only [vmLen]; done) | (simp only [vmLen]; omega)) only [↓vmPre, vmPost, vmWrd, vmDat, eq_self, forall_const, Nat.reduceLT, Nat.reduceEqDiff, Nat.reduceSub, Nat.reduceMul, Nat.reduceMod, Nat.reduceDiv, Nat.reducePow, UInt8.reduceToNat, Int.reduceEq, Int.reduceLT, Int.reduceLE, ↓reduceIte, Nat.reduceAdd, Int.reduceToNat, reduceCtorEq, Nat.reduceLeDiff, ↓u_ref1_Stream_symbols, ho2, hw1]
  have hy4 : 257 ≤ y ∧ y ≤ 285 := by omega
  refine (refSpanV y false hy4).calls rfl ?_
  rintro _ rfl
  have hlp : (if (false : Bool) = true then spanP 1 2 y else if y = 285 then (258, 0) else spanP 3 4 (y - 257)) = lenP y := by simp [lenP]
  rw [hlp]
  have hlb : (lenP y).1 ≤ 1000 ∧ (lenP y).2 ≤ 10 ∧ 1 ≤ (lenP y).1 := by
   unfold lenP
   split
   ·simp
   ·have := span_lenB (y - 257) (by omega)
    rw [span_len (y - 257) (by omega)] at this
    refine ⟨this.1, this.2, ?_⟩
    unfold spanP; split <;> simp only <;> omega
  obtain ⟨hlb1, hlb2, hlb3⟩ := hlb
  simp -dsimp (disch := first | assumption | omega | (simp only [vmLen]; done) | (simp only [vmLen]; omega)) only [↓vmPre, vmPost, vmWrd, vmDat, eq_self, forall_const, Nat.reduceLT, Nat.reduceEqDiff, Nat.reduceSub, Nat.reduceMul, Nat.reduceMod, Nat.reduceDiv, Nat.reducePow, UInt8.reduceToNat, Int.reduceEq, Int.reduceLT, Int.reduceLE, ↓reduceIte, Nat.reduceAdd, Int.reduceToNat, reduceCtorEq, Nat.reduceLeDiff, ↓u_ref1_Stream_symbols]
  refine VCalls.mono (sbitsS hs2 (n := (lenP y).2) (by omega) hi) ?_
  intro x H3 hx
  obtain ⟨hf3, hl3', hx⟩ := hx
  have hfr3 : Frm id J H1 H3 := hfr2.trans hj hf3.weak
  have hk23 : H3[H.length + 1]? = some (.obj 0 (.agg [nats ld, nats bd])) := by rw [hf3.2 _ (by have := hfr2.1; omega) (by omega) (by simp)]; exact hk2'
  rw [refP] at hR1
  by_cases hen : (lenP y).2 ≤ ((allB inn).drop (at1 + n1)).length
  case neg =>
   rw [if_neg hen] at hx
   rw [if_pos (by omega)] at hR1
   obtain ⟨rfl, ho3, _⟩ := hx
   have hlt3 : id < H3.length := (List.getElem?_eq_some_iff.1 ho3).1
   simp -dsimp (disch := first | assumption | omega | (simp only [vmLen]; done) | (simp only [vmLen]; omega)) only [↓vmPre, vmPost, vmWrd, vmDat, eq_self, forall_const, Nat.reduceLT, Nat.reduceEqDiff, Nat.reduceSub, Nat.reduceMul, Nat.reduceMod, Nat.reduceDiv, Nat.reducePow, UInt8.reduceToNat, Int.reduceEq, Int.reduceLT, Int.reduceLE, ↓reduceIte, Nat.reduceAdd, Int.reduceToNat, reduceCtorEq, Nat.reduceLeDiff, ↓u_ref1_Stream_symbols, hk23]
   refine VCalls.mono (rsymbolE hw1 (by decide) ho3 hi) ?_
   intro x H4 hx
   obtain ⟨rfl, h4⟩ := hx
   have ho4 : H4[id]? = some (stm inn (8 * inn.length) o1 most win 10) := by rw [h4 id hlt3]; exact ho3
   have hf4 : Frm id none H3 H4 := Frm.of_lt (o := stm inn (8 * inn.length) o1 most win 10) (fun k hk => by rw [h4 k hk, set_same ho3])
   simp -dsimp (disch := first | assumption | omega | (simp only [vmLen]; done) | (simp only [vmLen]; omega)) only [↓vmPre, vmPost, vmWrd, vmDat, eq_self, forall_const, Nat.reduceLT, Nat.reduceEqDiff, Nat.reduceSub, Nat.reduceMul, Nat.reduceMod, Nat.reduceDiv, Nat.reducePow, UInt8.reduceToNat, Int.reduceEq, Int.reduceLT, Int.reduceLE, ↓reduceIte, Nat.reduceAdd, Int.reduceToNat, reduceCtorEq, Nat.reduceLeDiff, ↓u_ref1_Stream_symbols, ho4, hw1]
   refine VCalls.mono (failV (e := 10) hw1 ho4) ?_
   intro x H5 hx
   rw [if_neg (by decide)] at hx
   subst hx
   simp -dsimp (disch := first | assumption | omega | (simp only [vmLen]; done) | (simp only [vmLen]; omega)) only [↓vmPre, vmPost, vmWrd, vmDat, eq_self, forall_const, Nat.reduceLT, Nat.reduceEqDiff, Nat.reduceSub, Nat.reduceMul, Nat.reduceMod, Nat.reduceDiv, Nat.reducePow, UInt8.reduceToNat, Int.reduceEq, Int.reduceLT, Int.reduceLE, ↓reduceIte, Nat.reduceAdd, Int.reduceToNat, reduceCtorEq, Nat.reduceLeDiff, ↓u_ref1_Stream_symbols]
   rw [hR1]
   exact ⟨fin ((hfr3.trans hj hf4.weak).trans hj Frm.set), by simp, _, o1, Nat.le_refl _, hw1, by simp [(List.getElem?_eq_some_iff.1 ho4).1]⟩
  rw [if_pos hen] at hx
  rw [if_neg (by omega)] at hR1
  obtain ⟨rfl, hs3⟩ := hx
  obtain ⟨n2, hn2⟩ : ∃ n2, n2 = valN (((allB inn).drop (at1 + n1)).take (lenP y).2) := ⟨_, rfl⟩
  rw [← hn2]
  have hn2l : n2 ≤ 1024 := by
   have h1 := valN_lt (((allB inn).drop (at1 + n1)).take (lenP y).2)
   rw [← hn2] at h1
   have h2 : (((allB inn).drop (at1 + n1)).take (lenP y).2).length ≤ 10 := by rw [List.length_take]; omega
   have h3 : 2 ^ (((allB inn).drop (at1 + n1)).take (lenP y).2).length ≤ 2 ^ 10 := Nat.pow_le_pow_right (by omega) h2
   omega
  simp -dsimp (disch := first | assumption | omega | (simp only [vmLen]; done) | (simp only [vmLen]; omega)) only [↓vmPre, vmPost, vmWrd, vmDat, eq_self, forall_const, Nat.reduceLT, Nat.reduceEqDiff, Nat.reduceSub, Nat.reduceMul, Nat.reduceMod, Nat.reduceDiv, Nat.reducePow, UInt8.reduceToNat, Int.reduceEq, Int.reduceLT, Int.reduceLE, ↓reduceIte, Nat.reduceAdd, Int.reduceToNat, reduceCtorEq, Nat.reduceLeDiff, ↓u_ref1_Stream_symbols, hk23]
  refine VCalls.mono (rsymS hs3 hi hlen2 hl4) ?_
  intro x H4 hx
  obtain ⟨hf4, hx⟩ := hx
  have hfr4 : Frm id J H1 H4 := hfr3.trans hj hf4.weak
  have hdd : ((allB inn).drop (at1 + n1)).drop (lenP y).2 = (allB inn).drop (at1 + n1 + (lenP y).2) := by rw [List.drop_drop]
  rw [hdd] at hR1
  have hw3 := hs3.row.width1
  split at hx
  case h_2 hnone =>
   rw [hnone] at hR1
   obtain ⟨rfl, hb⟩ := hx
   obtain ⟨b1, a2, o2, b2, b3, b4⟩ := hb
   simp -dsimp (disch := first | assumption | omega | (simp only [vmLen]; done) | (simp only [vmLen]; omega)) only [↓vmPre, vmPost, vmWrd, vmDat, eq_self, forall_const, Nat.reduceLT, Nat.reduceEqDiff, Nat.reduceSub, Nat.reduceMul, Nat.reduceMod, Nat.reduceDiv, Nat.reducePow, UInt8.reduceToNat, Int.reduceEq, Int.reduceLT, Int.reduceLE, ↓reduceIte, Nat.reduceAdd, Int.reduceToNat, reduceCtorEq, Nat.reduceLeDiff, ↓u_ref1_Stream_symbols, b4, b3]
   refine VCalls.mono (failV (e := 10) b3 b4) ?_
   intro x H5 hx
   rw [if_neg (by decide)] at hx
   subst hx
   simp -dsimp (disch := first | assumption | omega | (simp only [vmLen]; done) | (simp only [vmLen]; omega)) only [↓vmPre, vmPost, vmWrd, vmDat, eq_self, forall_const, Nat.reduceLT, Nat.reduceEqDiff, Nat.reduceSub, Nat.reduceMul, Nat.reduceMod, Nat.reduceDiv, Nat.reducePow, UInt8.reduceToNat, Int.reduceEq, Int.reduceLT, Int.reduceLE, ↓reduceIte, Nat.reduceAdd, Int.reduceToNat, reduceCtorEq, Nat.reduceLeDiff, ↓u_ref1_Stream_symbols]
   rw [hR1]
   exact ⟨fin (hfr4.trans hj Frm.set), by simp, _, o2, b2, b3, by simp [(List.getElem?_eq_some_iff.1 b4).1]⟩
  rename_i d B2 hsome2
  obtain ⟨rfl, hdl, n3, hn3, rfl, hs4⟩ := hx
  rw [hsome2] at hR1
  have ho4 := hs4.ob
  simp only at hR1
  by_cases hd29 : 29 < d
  ·rw [if_pos hd29] at hR1
   simp -dsimp (disch := first | assumption | omega | (simp only [vmLen]; done) | (simp only [vmLen]; omega)) only [↓vmPre, vmPost, vmWrd, vmDat, eq_self, forall_const, Nat.reduceLT, Nat.reduceEqDiff, Nat.reduceSub, Nat.reduceMul, Nat.reduceMod, Nat.reduceDiv, Nat.reducePow, UInt8.reduceToNat, Int.reduceEq, Int.reduceLT, Int.reduceLE, ↓reduceIte, Nat.reduceAdd, Int.reduceToNat, reduceCtorEq, Nat.reduceLeDiff, ↓u_ref1_Stream_symbols, ho4, hw1]
   refine VCalls.mono (failV (e := 10) hw1 ho4) ?_
   intro x H5 hx
   rw [if_pos rfl] at hx
   subst hx
   simp -dsimp (disch := first | assumption | omega | (simp only [vmLen]; done) | (simp only [vmLen]; omega)) only [↓vmPre, vmPost, vmWrd, vmDat, eq_self, forall_const, Nat.reduceLT, Nat.reduceEqDiff, Nat.reduceSub, Nat.reduceMul, Nat.reduceMod, Nat.reduceDiv, Nat.reducePow, UInt8.reduceToNat, Int.reduceEq, Int.reduceLT, Int.reduceLE, ↓reduceIte, Nat.reduceAdd, Int.reduceToNat, reduceCtorEq, Nat.reduceLeDiff, ↓u_ref1_Stream_symbols]
   rw [hR1]
   exact ⟨fin (hfr4.trans hj Frm.set), by simp, _, o1, hs4.at_, hw1, by simp [hs4.lt]⟩
  rw [if_neg hd29] at hR1
  simp -dsimp (disch := first | assumption | omega | (simp only [vmLen]; done) | (simp only [vmLen]; omega)) only [↓vmPre, vmPost, vmWrd, vmDat, eq_self, forall_const, Nat.reduceLT, Nat.reduceEqDiff, Nat.reduceSub, Nat.reduceMul, Nat.reduceMod, Nat.reduceDiv, Nat.reducePow, UInt8.reduceToNat, Int.reduceEq, Int.reduceLT, Int.reduceLE, ↓reduceIte, Nat.reduceAdd, Int.reduceToNat, reduceCtorEq, Nat.reduceLeDiff, ↓u_ref1_Stream_symbols, ho4, hw1]
  have hd4 : d ≤ 29 := by omega
  refine (refSpanV d true hd4).calls rfl ?_
  rintro _ rfl
  rw [if_pos rfl]
  obtain ⟨hpb1, hpb2⟩ := span_distB d (by omega)
  rw [span_dist d (by omega)] at hpb1 hpb2
  have hpb3 : 1 ≤ (spanP 1 2 d).1 := by unfold spanP; split <;> simp only <;> omega
  simp -dsimp (disch := first | assumption | omega | (simp only [vmLen]; done) | (simp only [vmLen]; omega)) only [↓vmPre, vmPost, vmWrd, vmDat, eq_self, forall_const, Nat.reduceLT, Nat.reduceEqDiff, Nat.reduceSub, Nat.reduceMul, Nat.reduceMod, Nat.reduceDiv, Nat.reducePow, UInt8.reduceToNat, Int.reduceEq, Int.reduceLT, Int.reduceLE, ↓reduceIte, Nat.reduceAdd, Int.reduceToNat, reduceCtorEq, Nat.reduceLeDiff, ↓u_ref1_Stream_symbols]
  refine VCalls.mono (sbitsS hs4 (n := (spanP 1 2 d).2) (by omega) hi) ?_
  intro x H5 hx
  obtain ⟨hf5, hl5', hx⟩ := hx
  have hfr5 : Frm id J H1 H5 := hfr4.trans hj hf5.weak
  by_cases hen2 : (spanP 1 2 d).2 ≤ ((allB inn).drop (at1 + n1 + (lenP y).2 + n3)).length
  case neg =>
   rw [if_neg hen2] at hx
   rw [if_pos (by omega)] at hR1
   obtain ⟨rfl, ho5, _⟩ := hx
   simp -dsimp (disch := first | assumption | omega | (simp only [vmLen]; done) | (simp only [vmLen]; omega)) only [↓vmPre, vmPost, vmWrd, vmDat, eq_self, forall_const, Nat.reduceLT, Nat.reduceEqDiff, Nat.reduceSub, Nat.reduceMul, Nat.reduceMod, Nat.reduceDiv, Nat.reducePow, UInt8.reduceToNat, Int.reduceEq, Int.reduceLT, Int.reduceLE, ↓reduceIte, Nat.reduceAdd, Int.reduceToNat, reduceCtorEq, Nat.reduceLeDiff, ↓u_ref1_Stream_symbols, ho5, hw1]
   refine VCalls.mono (failV (e := 10) hw1 ho5) ?_
   intro x H6 hx
   rw [if_neg (by decide)] at hx
   subst hx
   simp -dsimp (disch := first | assumption | omega | (simp only [vmLen]; done) | (simp only [vmLen]; omega)) only [↓vmPre, vmPost, vmWrd, vmDat, eq_self, forall_const, Nat.reduceLT, Nat.reduceEqDiff, Nat.reduceSub, Nat.reduceMul, Nat.reduceMod, Nat.reduceDiv, Nat.reducePow, UInt8.reduceToNat, Int.reduceEq, Int.reduceLT, Int.reduceLE, ↓reduceIte, Nat.reduceAdd, Int.reduceToNat, reduceCtorEq, Nat.reduceLeDiff, ↓u_ref1_Stream_symbols]
   rw [hR1]
   exact ⟨fin (hfr5.trans hj Frm.set), by simp, _, o1, Nat.le_refl _, hw1, by simp [(List.getElem?_eq_some_iff.1 ho5).1]⟩
  rw [if_pos hen2] at hx
  rw [if_neg (by omega)] at hR1
  obtain ⟨rfl, hs5⟩ := hx
  obtain ⟨n4, hn4⟩ : ∃ n4, n4 = valN (((allB inn).drop (at1 + n1 + (lenP y).2 + n3)).take (spanP 1 2 d).2) := ⟨_, rfl⟩
  rw [← hn4]
  rw [← hn4, ← hn2] at hR1
  have hn4l : n4 ≤ 65536 := by
   have h1 := valN_lt (((allB inn).drop (at1 + n1 + (lenP y).2 + n3)).take (spanP 1 2 d).2)
   rw [← hn4] at h1
   have h2 : (((allB inn).drop (at1 + n1 + (lenP y).2 + n3)).take (spanP 1 2 d).2).length ≤ 15 := by rw [List.length_take]; omega
   have h3 : 2 ^ (((allB inn).drop (at1 + n1 + (lenP y).2 + n3)).take (spanP 1 2 d).2).length ≤ 2 ^ 15 := Nat.pow_le_pow_right (by omega) h2
   omega
  obtain ⟨far, hfar⟩ : ∃ far, far = (spanP 1 2 d).1 + n4 := ⟨_, rfl⟩
  obtain ⟨n, hn⟩ : ∃ n, n = (lenP y).1 + n2 := ⟨_, rfl⟩
  have ho5 := hs5.ob
  have hl5 := hs5.len
  have hdd2 : ((allB inn).drop (at1 + n1 + (lenP y).2 + n3)).drop (spanP 1 2 d).2 = (allB inn).drop (at1 + n1 + (lenP y).2 + n3 + (spanP 1 2 d).2) := by rw [List.drop_drop]
  rw [← hfar, ← hn, hdd2] at hR1
  simp only at hR1
  have hB5 : (allB inn).length - (at1 + n1 + (lenP y).2 + n3 + (spanP 1 2 d).2) < f := by rw [List.length_drop, allB_len] at hf; rw [allB_len]; have := hs5.at_; omega
  have hE : (((spanP 1 2 d).1 : Int) + (n4 : Int)) = (far : Int) := by omega
  have hE2 : (((lenP y).1 : Int) + (n2 : Int)) = (n : Int) := by omega
  have bad : ∀ H6, H6 = H5.set id (stm inn (at1 + n1 + (lenP y).2 + n3 + (spanP 1 2 d).2) o1 most win 10) → Frm id J H H6 ∧ StmBad H6 id inn most win 10 := fun H6 h6 => by
   subst h6
   exact ⟨fin (hfr5.trans hj Frm.set), by simp, _, o1, hs5.at_, hw1, by simp [hs5.lt]⟩
  have hrow5 := hs5.row
  cases J1 with
  | none =>
   obtain ⟨rfl, rfl⟩ := hrow5
   rw [if_pos (.inl (by simp; omega))] at hR1
   simp -dsimp (disch := first | assumption | omega | (simp only [vmLen]; done) | (simp only [vmLen]; omega)) only [↓vmPre, vmPost, vmWrd, vmDat, eq_self, forall_const, Nat.reduceLT, Nat.reduceEqDiff, Nat.reduceSub, Nat.reduceMul, Nat.reduceMod, Nat.reduceDiv, Nat.reducePow, UInt8.reduceToNat, Int.reduceEq, Int.reduceLT, Int.reduceLE, ↓reduceIte, Nat.reduceAdd, Int.reduceToNat, reduceCtorEq, Nat.reduceLeDiff, ↓u_ref1_Stream_symbols, ho5, hE, hE2]
   refine VCalls.mono (failV (e := 10) rfl ho5) ?_
   intro x H6 hx
   rw [if_pos rfl] at hx
   simp -dsimp (disch := first | assumption | omega | (simp only [vmLen]; done) | (simp only [vmLen]; omega)) only [↓vmPre, vmPost, vmWrd, vmDat, eq_self, forall_const, Nat.reduceLT, Nat.reduceEqDiff, Nat.reduceSub, Nat.reduceMul, Nat.reduceMod, Nat.reduceDiv, Nat.reducePow, UInt8.reduceToNat, Int.reduceEq, Int.reduceLT, Int.reduceLE, ↓reduceIte, Nat.reduceAdd, Int.reduceToNat, reduceCtorEq, Nat.reduceLeDiff, ↓u_ref1_Stream_symbols]
   rw [hR1]
   exact bad _ hx
  | some j1 =>
   obtain ⟨v1, rfl, hjo⟩ := hrow5
   by_cases hfa : l1.length < far
   ·rw [if_pos (.inl hfa)] at hR1
    simp -dsimp (disch := first | assumption | omega | (simp only [vmLen]; done) | (simp only [vmLen]; omega)) only [↓vmPre, vmPost, vmWrd, vmDat, eq_self, forall_const, Nat.reduceLT, Nat.reduceEqDiff, Nat.reduceSub, Nat.reduceMul, Nat.reduceMod, Nat.reduceDiv, Nat.reducePow, UInt8.reduceToNat, Int.reduceEq, Int.reduceLT, Int.reduceLE, ↓reduceIte, Nat.reduceAdd, Int.reduceToNat, reduceCtorEq, Nat.reduceLeDiff, ↓u_ref1_Stream_symbols, ho5, hjo, hE, hE2]
    refine VCalls.mono (failV (e := 10) rfl ho5) ?_
    intro x H6 hx
    rw [if_pos rfl] at hx
    simp -dsimp (disch := first | assumption | omega | (simp only [vmLen]; done) | (simp only [vmLen]; omega)) only [↓vmPre, vmPost, vmWrd, vmDat, eq_self, forall_const, Nat.reduceLT, Nat.reduceEqDiff, Nat.reduceSub, Nat.reduceMul, Nat.reduceMod, Nat.reduceDiv, Nat.reducePow, UInt8.reduceToNat, Int.reduceEq, Int.reduceLT, Int.reduceLE, ↓reduceIte, Nat.reduceAdd, Int.reduceToNat, reduceCtorEq, Nat.reduceLeDiff, ↓u_ref1_Stream_symbols]
    rw [hR1]
    exact bad _ hx
   by_cases hfw : win < (far : Int)
   ·rw [if_pos (.inr hfw)] at hR1
    simp -dsimp (disch := first | assumption | omega | (simp only [vmLen]; done) | (simp only [vmLen]; omega)) only [↓vmPre, vmPost, vmWrd, vmDat, eq_self, forall_const, Nat.reduceLT, Nat.reduceEqDiff, Nat.reduceSub, Nat.reduceMul, Nat.reduceMod, Nat.reduceDiv, Nat.reducePow, UInt8.reduceToNat, Int.reduceEq, Int.reduceLT, Int.reduceLE, ↓reduceIte, Nat.reduceAdd, Int.reduceToNat, reduceCtorEq, Nat.reduceLeDiff, ↓u_ref1_Stream_symbols, ho5, hjo, hE, hE2]
    refine VCalls.mono (failV (e := 10) rfl ho5) ?_
    intro x H6 hx
    rw [if_pos rfl] at hx
    simp -dsimp (disch := first | assumption | omega | (simp only [vmLen]; done) | (simp only [vmLen]; omega)) only [↓vmPre, vmPost, vmWrd, vmDat, eq_self, forall_const, Nat.reduceLT, Nat.reduceEqDiff, Nat.reduceSub, Nat.reduceMul, Nat.reduceMod, Nat.reduceDiv, Nat.reducePow, UInt8.reduceToNat, Int.reduceEq, Int.reduceLT, Int.reduceLE, ↓reduceIte, Nat.reduceAdd, Int.reduceToNat, reduceCtorEq, Nat.reduceLeDiff, ↓u_ref1_Stream_symbols]
    rw [hR1]
    exact bad _ hx
   rw [if_neg (by omega)] at hR1
   simp -dsimp (disch := first | assumption | omega | (simp only [vmLen]; done) | (simp only [vmLen]; omega)) only [↓vmPre, vmPost, vmWrd, vmDat, eq_self, forall_const, Nat.reduceLT, Nat.reduceEqDiff, Nat.reduceSub, Nat.reduceMul, Nat.reduceMod, Nat.reduceDiv, Nat.reducePow, UInt8.reduceToNat, Int.reduceEq, Int.reduceLT, Int.reduceLE, ↓reduceIte, Nat.reduceAdd, Int.reduceToNat, reduceCtorEq, Nat.reduceLeDiff, ↓u_ref1_Stream_symbols, ho5, hjo, hE, hE2]
   subst hn
   refine rcopy (n := (lenP y).1 + n2) (far := far) hs5 hm (by omega) (by omega) (by omega) hi ?_ ?_
   ·intro l' J' o' H6 yy c1 c2 c3 c4
    rw [c1] at hR1
    have hl6 := c4.1
    have := hfr5.1
    simp -dsimp (disch := first | assumption | omega | (simp only [vmLen]; done) | (simp only [vmLen]; omega)) only [↓vmPre, vmPost, vmWrd, vmDat, eq_self, forall_const, Nat.reduceLT, Nat.reduceEqDiff, Nat.reduceSub, Nat.reduceMul, Nat.reduceMod, Nat.reduceDiv, Nat.reducePow, UInt8.reduceToNat, Int.reduceEq, Int.reduceLT, Int.reduceLE, ↓reduceIte, Nat.reduceAdd, Int.reduceToNat, reduceCtorEq, Nat.reduceLeDiff, ↓u_ref1_Stream_symbols]
    exact Rnd_keep (f + 1) (by omega) (by omega) ⟨_, o', l', J', rfl, hfr5.trans hj c4, .inl ⟨f, rfl, hB5, hR1, c2, Jn.trans hfr5 hj c3⟩⟩
   ·intro H6 yy c1 c2 c4
    rw [c1] at hR1
    have hl6 := c4.1
    have := hfr5.1
    simp -dsimp (disch := first | assumption | omega | (simp only [vmLen]; done) | (simp only [vmLen]; omega)) only [↓vmPre, vmPost, vmWrd, vmDat, eq_self, forall_const, Nat.reduceLT, Nat.reduceEqDiff, Nat.reduceSub, Nat.reduceMul, Nat.reduceMod, Nat.reduceDiv, Nat.reducePow, UInt8.reduceToNat, Int.reduceEq, Int.reduceLT, Int.reduceLE, ↓reduceIte, Nat.reduceAdd, Int.reduceToNat, reduceCtorEq, Nat.reduceLeDiff, ↓u_ref1_Stream_symbols]
    exact Rnd_keep 0 (by omega) (by omega) ⟨at_, o, l, J, rfl, hfr5.trans hj c4, .inr ⟨rfl, 11, hR1, c2⟩⟩
end Go.Proofs.YtfgljddikcghhaaDoor

