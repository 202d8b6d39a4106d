/- The program's digest: New, Add. -/
import Derived.Test.YtknphdcjopaaoaaShaBlock
import Derived.Test.YtknphdcjopaaoaaFr
import Derived.Test.YtknphdcjopaaoaaHelp
import Derived.Deep.LoopGhost
import Derived.Deep.DeepMust
namespace Go.Proofs.Ytknphdcjopaaoaa
open Go.RowKit
set_option linter.unusedVariables false

/-- A digest at block g, to which 'all' was added; its rest lies in the slice vr. -/
structure Dig (w : World) (base g : Nat) (vr : Value) (all : List UInt8) : Prop where
  arr : Arr w g 56 (u32v (blocks H0 all).1.list ++ [vr, .int .u64 ((all.length % 18446744073709551616 : Nat) : Int)])
  seg : Seg w base 5 1 vr (blocks H0 all).2.length (bv (blocks H0 all).2)

theorem Dig.fr {w w' : World} {base g : Nat} {vr : Value} {all : List UInt8} {S : Nat → Prop} (h : Dig w base g vr all) (k : Fr S w w') (h1 : ¬ S g) (h2 : ∀ i, vr.ownBlock = some i → ¬ S i) : Dig w' base g vr all :=
  ⟨h.arr.fr k h1, h.seg.fr k h2⟩

/-- What is left to be mixed in. -/
structure BlkAt (all : List UInt8) (h : V5) (l : List UInt8) : Prop where
  eq : blocks h l = blocks H0 all
  ok : h.ok

theorem seven (a b c d e f g : Value) : [a, b, c, d, e] ++ [f, g] = [a, b, c, d, e, f, g] := rfl

set_option maxRecDepth 100000 in
set_option maxHeartbeats 4000000 in
theorem digNew (w : World) : Calls Try.prog 18 #[] w fun e w' => e = .returned (.pointer (some ⟨w.heap.size, 0, none⟩)) ∧ Dig w' 0 w.heap.size (.slice none 0 0) [] ∧ Keeps w w' := by
  go_enter Try.func18, Try.ntmps18
  go_wp2
  go_ret
  refine ⟨rfl, ⟨?_, Seg.nil _ _ _ _⟩, (Keeps.refl w).alloc _⟩
  exact Arr.new _ _ _

set_option maxRecDepth 100000 in
set_option maxHeartbeats 4000000 in
theorem digAdd (g base : Nat) (vr : Value) (all : List UInt8) (a : Option Addr) (cap : Nat) (b : List UInt8) (w : World) (hD : Dig w base g vr all) (hb : Bs w a b) (hag : 0 < b.length → ∀ p, a = some p → p.block ≠ g) (hbl : b.length ≤ 1000000000) (hbase : base ≤ w.heap.size) :
    Calls Try.prog 19 #[.pointer (some ⟨g, 0, none⟩), .slice a b.length cap] w fun e w' =>
      e = .returned (.tuple #[]) ∧ ∃ vr', Dig w' base g vr' (all ++ b) ∧ Fr (fun i => i = g ∨ vr.ownBlock = some i) w w' ∧ (vr'.ownBlock = vr.ownBlock ∨ ∃ i, w.heap.size ≤ i ∧ vr'.ownBlock = some i) := by
  obtain ⟨hA, hS⟩ := hD
  have hrl := blocks_rest_lt H0 all
  have hok := blocks_ok H0 all H0_ok
  have hba := blocks_append H0 all b
  generalize blocks H0 all = B0 at *
  obtain ⟨h0, rest⟩ := B0
  simp only at hA hS hrl hok hba
  have hBA : BlkAt (all ++ b) h0 (rest ++ b) := ⟨hba.symm, hok⟩
  clear hba hok
  have hne : vr.ownBlock ≠ some g := hS.ne_arr hA (by decide)
  have c6 : w.cell? ⟨g, 6, none⟩ = some (.int .u64 ((all.length % 18446744073709551616 : Nat) : Int)) := hA.cell 6
  have f6 := hA.frozen 6
  obtain ⟨sz, hsz⟩ : ∃ sz : Nat, sz = all.length % 18446744073709551616 := ⟨_, rfl⟩
  rw [← hsz] at c6 hA
  have hszl : sz < 18446744073709551616 := by omega
  have HSZ := Lib.hid hsz; clear hsz
  go_enter Try.func19, Try.ntmps19
  have hgl : g < w.heap.size := hA.lt
  go_upto_region 0 with (fail)
  go_cut [] (fun w1 => Arr w1 g 56 (u32v h0.list ++ [vr, .int .u64 (((sz + b.length) % 18446744073709551616 : Nat) : Int)]) ∧ Fr (fun i => i = g) w w1)
  case first =>
    go_wp2
    go_meet
    case rel =>
      refine ⟨?_, (Fr.refl (fun i => i = g) w).setCell (p := ⟨g, 6, none⟩) (.inl rfl) _⟩
      have h1 := hA.set 6 (.int .u64 (((sz + b.length) % 18446744073709551616 : Nat) : Int))
      rw [show IntKind.u64.wrap ((sz : Int) + (b.length : Int)) = (((sz + b.length) % 18446744073709551616 : Nat) : Int) from by rw [IntKind.wrap_u64]; omega]
      exact h1
  case rest =>
    obtain ⟨hA1, hF1⟩ := hcut
    have hS1 : Seg wc base 5 1 vr rest.length (bv rest) := hS.fr hF1 (fun i hi e => hne (by rw [hi, e]))
    have hb1 : Bs wc a b := hb.fr hF1 (fun hl p hp e => hag hl p hp e)
    have hsrc : Src Try.prog 1 22 (.slice a b.length cap) b.length (bv b) wc := hb1.srcOf Try.underlying22 cap (fun _ => rfl)
    have c5 : wc.cell? ⟨g, 5, none⟩ = some vr := hA1.cell 5
    obtain ⟨szb, hszb⟩ : ∃ z : Nat, z = (sz + b.length) % 18446744073709551616 := ⟨_, rfl⟩
    rw [← hszb] at hA1
    have HSB := Lib.hid hszb; clear hszb
    clear c6 f6
    obtain ⟨wa, rfl⟩ : ∃ wa : World, wa = wc := ⟨_, rfl⟩
    have hsza : w.heap.size ≤ wa.heap.size := hF1.size
    go_upto_region 1 with (fail)
    go_cut [] (fun w2 => ∃ vr1, Arr w2 g 56 (u32v h0.list ++ [vr1, .int .u64 (szb : Int)]) ∧ Seg w2 base 5 1 vr1 (rest ++ b).length (bv (rest ++ b)) ∧ Fr (fun i => i = g ∨ vr.ownBlock = some i) w w2 ∧ (vr1.ownBlock = vr.ownBlock ∨ ∃ i, w.heap.size ≤ i ∧ vr1.ownBlock = some i))
    case first =>
      go_wp2_with (at_builtin; go_must (refine wpList_append_seg _ rfl (.tmp 18) (.tmp 19) 22 22 rfl base 5 (.int .u8 0) 1 1 Try.underlying22 Try.infoU8 rfl vr _ _ rfl hS1 _ _ _ rfl hsrc ?c1 ?c2 ?c3 ?_))
      case c1 => unfold maxLen; omega
      case c2 => omega
      case c3 => omega
      intro v' w2 hS2 hg2 ho2
      have hA2 : Arr w2 g 56 (u32v h0.list ++ [vr, .int .u64 (szb : Int)]) := hA1.grown hg2 (fun e => hne e.symm)
      have hne2 := hS2.ne_arr hA2 (by decide)
      have c5' : w2.cell? ⟨g, 5, none⟩ = some vr := hA2.cell 5
      have f5' := hA2.frozen 5
      obtain ⟨x1, cap1, rfl, hnc1, hcm1, hx1⟩ := hS2.form
      go_wp2
      go_meet
      case rel =>
        go_light
        refine ⟨_, hA2.set 5 (.slice x1 (rest.length + b.length) cap1), ?_, ?_, ?_⟩
        · have h3 := hS2.fr (S := fun i => i = g) ((Fr.refl (fun i => i = g) w2).setCell (p := ⟨g, 5, none⟩) (.inl rfl) (.slice x1 (rest.length + b.length) cap1)) (fun i hi e => hne2 (by rw [hi, e]))
          rw [show bv (rest ++ b) = bv rest ++ bv b from by simp [bv], List.length_append]
          exact h3
        · refine Fr.setCell (Fr.grown (hF1.mono (fun i _ e => .inl e)) hg2 (fun i hi _ => .inr hi)) (p := ⟨g, 5, none⟩) (.inl (.inl rfl)) _
        · rcases ho2 with h | h
          · exact .inl h
          · exact .inr ⟨_, hsza, h⟩
    case rest =>
      clear c5 hsrc hb1 hS1 hA1
      obtain ⟨vr1, hA2, hS2, hF2, ho2⟩ := hcut
      obtain ⟨wd, rfl⟩ : ∃ wd : World, wd = wc := ⟨_, rfl⟩
      go_wp2
      go_loopg [] ((rest ++ b).length) (fun n wr => ∃ h l v, l.length ≤ n ∧ Arr wr g 56 (u32v h.list ++ [v, .int .u64 (szb : Int)]) ∧ Seg wr base 5 1 v l.length (bv l) ∧ BlkAt (all ++ b) h l ∧ Fr (fun i => i = g ∨ vr.ownBlock = some i) w wr ∧ v.ownBlock = vr1.ownBlock)
      case atStart => exact ⟨h0, rest ++ b, vr1, Nat.le_refl _, hA2, hS2, hBA, hF2, rfl⟩
      case round =>
        clear hA2 hS2 hBA hF2
        obtain ⟨h, l, v, hln, hA2, hS2, hB, hF2, ho⟩ := hrel
        obtain ⟨x, capx, rfl, hnc, hcm, hx⟩ := hS2.form
        have c5 : wr.cell? ⟨g, 5, none⟩ = some (.slice x l.length capx) := hA2.cell 5
        have f5 := hA2.frozen 5
        have hne2 := hS2.ne_arr hA2 (by decide)
        by_cases hlong : 64 ≤ l.length
        · obtain ⟨bb, off, rfl, hbb, hbw⟩ := hx (by omega)
          have hbt : Bs wr (some ⟨bb, off, none⟩) (l.take 64) := hS2.bytes.take 64
          go_wp2_with fail
          (with_reducible refine (block _ _ _ _ _ _ _ _ hB.ok hbt (by simp; omega) hA2).mono ?_)
          rintro e w3 ⟨rfl, hA3, hg3⟩
          have hS3 : Seg w3 base 5 1 (.slice (some ⟨bb, off, none⟩) l.length capx) l.length (bv l) := hS2.kept hg3 (.inr hne2)
          have hszr : wr.heap.size ≤ w3.heap.size := hg3.size
          have c5' : w3.cell? ⟨g, 5, none⟩ = some (.slice (some ⟨bb, off, none⟩) l.length capx) := hA3.cell 5
          have f5' := hA3.frozen 5
          have hB2 : BlkAt (all ++ b) (blk h (l.take 64)) (l.drop 64) := ⟨by rw [← hB.eq, blocks_long _ _ hlong], add5_ok _ _⟩
          have hdl : (l.drop 64).length = l.length - 64 := by simp
          have HDL := Lib.hid hdl; clear hdl
          generalize blk h (l.take 64) = h' at *
          clear c5 f5
          by_cases hcc : capx = 64
          · have hl64 : l.length = 64 := by omega
            have HL := Lib.hid hl64; clear hl64
            go_wp2
            go_roundg 0
            case measure => have := HL.out; omega
            case rel =>
              go_light
              have hnil : l.drop 64 = [] := List.eq_nil_of_length_eq_zero (by rw [HDL.out, HL.out])
              have e0 : l.length - 64 = 0 := by have := HL.out; omega
              rw [e0]
              refine ⟨h', l.drop 64, .slice (some ⟨bb, off, none⟩) 0 0, by rw [hnil]; exact Nat.le_refl _, hA3.set 5 _, ?_, hB2, ?_, ho⟩
              · rw [hnil]
                exact hS3.end0.fr ((Fr.refl (fun i => i = g) w3).setCell (p := ⟨g, 5, none⟩) (.inl rfl) _) (fun i hi e => hne2 (by rw [← e]; exact hi))
              · exact Fr.setCell (hF2.grown hg3 (fun i hi _ => by cases hi; exact .inl rfl)) (p := ⟨g, 5, none⟩) (.inl (.inl rfl)) _
          · have hcc2 : 64 < capx := by omega
            clear hcc
            go_wp2
            go_roundg (l.length - 64)
            case measure => omega
            case rel =>
              go_light
              refine ⟨h', l.drop 64, .slice (some ⟨bb, off + 64, none⟩) (l.length - 64) (capx - 64), by rw [HDL.out]; omega, hA3.set 5 _, ?_, hB2, ?_, ho⟩
              · rw [HDL.out, show bv (l.drop 64) = (bv l).drop (64 * 1) from by simp [bv]]
                exact (hS3.drop rfl 64 hlong).fr ((Fr.refl (fun i => i = g) w3).setCell (p := ⟨g, 5, none⟩) (.inl rfl) _) (fun i hi e => hne2 (by rw [← e]; exact hi))
              · exact Fr.setCell (hF2.grown hg3 (fun i hi _ => by cases hi; exact .inl rfl)) (p := ⟨g, 5, none⟩) (.inl (.inl rfl)) _
        · go_wp2
          go_end0
          have he := hB.eq
          rw [blocks_short _ _ (by omega)] at he
          refine ⟨rfl, .slice x l.length capx, ⟨?_, ?_⟩, hF2, ?_⟩
          · rw [← he]
            have e : (all ++ b).length % 18446744073709551616 = szb := by rw [HSB.out, HSZ.out, List.length_append]; omega
            rw [e]; exact hA2
          · rw [← he]; exact hS2
          · rw [ho]; exact ho2
end Go.Proofs.Ytknphdcjopaaoaa
