import Derived.Test.YtfgljddikcghhaaDoorFrame
import Derived.Lib.LaidTab
import Derived.LaidHandle
namespace Go.Proofs.YtfgljddikcghhaaDoor
open Go.RowKit
variable [Globs]
set_option linter.unusedSectionVars false
set_option linter.unusedVariables false

theorem globOf_mem {g : Nat} {x : GV} (h : globOf g = some x) : (g, x) ∈ Globs.l := by
 unfold globOf at h
 obtain ⟨p, hp, rfl⟩ := Option.map_eq_some_iff.1 h
 have h1 := List.mem_of_find?_eq_some hp
 have h2 := List.find?_some hp
 have h3 : p.1 = g := by simpa using h2
 obtain ⟨a, b⟩ := p
 simp only at h3; subst h3; exact h1
section
omit [Globs]
theorem var_row {P : Program} {w : World} {name : String} {g : Nat} {cs : Array Value} (hg : P.globalNamed name = some g) (h : w.var? P name = some cs) : ∃ t fr, w.heap[g]? = some (.cells cs t fr) := by
 unfold World.var? at h
 rw [hg, Option.bind_some] at h
 split at h
 ·rename_i c t fr hh; cases h; exact ⟨t, fr, hh⟩
 ·cases h
/-- A number's or a text's type. -/
def litTy (P : Program) (t : TypeId) : Bool := match P.underlying t with
 | some (.int _) => true
 | some .string => true
 | _ => false
def litV : DataW Unit → Option Value
 | .lit (.int k n) => some (.int k n)
 | .lit (.string l) => some (.string ⟨l.toArray⟩)
 | _ => none
variable {P : Program} {w : World} {fuel : Nat} {cs : List Value}
theorem lit_of_trod {t : TypeId} {x : DataW Unit × List MemPlace} (ht : litTy P t = true) (h : DataW.trod (fun _ => ()) P w 0 (fun _ => true) false fuel t cs = some x) : ∃ v, litV x.1 = some v ∧ cs = [v] := by
 unfold litTy at ht
 split at ht
 ·rename_i k hk
  obtain ⟨n, rfl, rfl, _⟩ := DataW.trod_int hk h
  exact ⟨_, rfl, rfl⟩
 ·rename_i hk
  obtain ⟨s, rfl, rfl, _⟩ := DataW.trod_string hk h
  exact ⟨_, rfl, by simp⟩
 ·cases ht
theorem arr_of_trod {t e : TypeId} {n : Nat} {ds : List (DataW Unit)} {p : List MemPlace} {vs : List Value} (ht : P.underlying t = some (.array n e)) (he : litTy P e = true) (hce : P.cellsOf e = 1) (hct : P.cellsOf t = n) (hv : ds.map litV = vs.map some)
  (h : DataW.trod (fun _ => ()) P w 0 (fun _ => true) false fuel t cs = some (.agg ds, p)) : cs = vs := by
 cases fuel with
 | zero => simp [DataW.trod] at h
 | succ fuel =>
  simp only [DataW.trod, ht, hce, hct, Nat.mul_one] at h
  split at h
  ·rename_i hl
   obtain ⟨xs, hm, hx⟩ := Option.map_eq_some_iff.1 h
   have hxs : xs.map (·.1) = ds := by
    have := congrArg Prod.fst hx
    simpa using this
   have hxl : xs.length = n := by simpa using Lib.mapM_length hm
   have hvl : vs.length = n := by
    have h1 := congrArg List.length hxs
    have h2 := congrArg List.length hv
    simp at h1 h2
    omega
   apply List.ext_getElem?
   intro i
   by_cases hi : i < n
   ·obtain ⟨b, hb, hf⟩ := Lib.mapM_at hm i i (by simp [hi])
    obtain ⟨v, hv1, hv2⟩ := lit_of_trod he hf
    have h1 : cs[i]? = some v := by
     have := congrArg (·[0]?) hv2
     simpa [List.getElem?_take, List.getElem?_drop] using this
    have h2 : ds[i]? = some b.1 := by rw [← hxs]; simp [hb]
    have h3 : (ds.map litV)[i]? = some (some v) := by simp [h2, hv1]
    rw [hv] at h3
    simp only [List.getElem?_map, Option.map_eq_some_iff, Option.some.injEq] at h3
    obtain ⟨u, hu, rfl⟩ := h3
    rw [h1, hu]
   ·rw [List.getElem?_eq_none (by omega), List.getElem?_eq_none (by omega)]
  ·cases h
theorem laid_mem {name : String} {d : DataW Unit} : ∀ {laid : List (String × DataW Unit)} {ps : List MemPlace}, DataW.LaidVars P w laid ps → (name, d) ∈ laid →
  ∃ g t cs fuel p, P.globalNamed name = some g ∧ (P.globals[g]?).map (·.type) = some t ∧ w.var? P name = some cs ∧ DataW.trod (fun _ => ()) P w 0 (fun _ => true) false fuel t cs.toList = some (d, p)
 | [], ps, _, hm => by simp at hm
 | (n, d') :: r, ps, h, hm => by
  obtain ⟨g, t, cs, fuel, p, q, h1, h2, h3, h4, h5, _⟩ := h
  rcases List.mem_cons.1 hm with e | hm
  ·cases e; exact ⟨g, t, cs, fuel, p, h1, h2, h3, h4⟩
  ·exact laid_mem h5 hm
/-- A laid array lies there. -/
theorem arr_laid {laid : List (String × DataW Unit)} (h : laidMet P laid w) {name : String} {ds : List (DataW Unit)} (hm : (name, DataW.agg ds) ∈ laid) {g : Nat} {t e : TypeId} {n : Nat} {vs : List Value} (hg : P.globalNamed name = some g) (hty : (P.globals[g]?).map (·.type) = some t)
  (ht : P.underlying t = some (.array n e)) (he : litTy P e = true) (hce : P.cellsOf e = 1) (hct : P.cellsOf t = n) (hv : ds.map litV = vs.map some) : ∃ tt fr, w.heap[g]? = some (.cells vs.toArray tt fr) := by
 obtain ⟨ps, h, _⟩ := h
 obtain ⟨g', t', cs, fuel, p, h1, h2, h3, h4⟩ := laid_mem h hm
 obtain rfl := Option.some.inj (hg.symm.trans h1)
 obtain rfl := Option.some.inj (hty.symm.trans h2)
 have := arr_of_trod ht he hce hct hv h4
 have e : cs = vs.toArray := by rw [← this, Array.toArray_toList]
 rw [e] at h3
 exact var_row hg h3
end
end Go.Proofs.YtfgljddikcghhaaDoor

