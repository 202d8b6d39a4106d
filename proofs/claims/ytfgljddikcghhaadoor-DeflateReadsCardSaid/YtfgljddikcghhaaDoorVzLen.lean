import Derived.Test.YtfgljddikcghhaaDoorVzPlain
namespace Go.Proofs.YtfgljddikcghhaaDoor
open Go.RowKit
variable [Globs]
set_option linter.unusedSectionVars false
set_option linter.unusedVariables false

section
omit [Globs]
/-- A reader takes something. -/
def RdOk (r : Rd) : Prop := ∀ B y B1, r B = some (y, B1) → B1.length < B.length
theorem refP_len {sd : Rd} (hd : RdOk sd) {y : Nat} {B B2 : List Bool} {n far : Nat} (h : refP sd y B = some (n, far, B2)) : B2.length ≤ B.length := by
 unfold refP at h
 split at h
 ·cases h
 ·split at h
  ·cases h
  ·rename_i d B3 hs
   split at h
   ·cases h
   ·split at h
    ·cases h
    ·cases h
     have := hd _ _ _ hs
     rw [List.length_drop] at this ⊢
     omega
theorem syms_len {sl sd : Rd} (hl : RdOk sl) (hd : RdOk sd) {most win : Int} : ∀ {f : Nat} {B : List Bool} {l : List UInt8} {B' : List Bool} {l' : List UInt8}, syms sl sd most win f B l = .ok (B', l') → B'.length ≤ B.length
 | 0, B, l, B', l', h => by simp [syms] at h
 | f + 1, B, l, B', l', h => by
  rw [syms] at h
  split at h
  ·cases h
  ·rename_i y B1 hs
   have h1 := hl _ _ _ hs
   split at h
   ·split at h
    ·cases h
    ·have := syms_len hl hd h; omega
   ·split at h
    ·cases h; omega
    ·split at h
     ·cases h
     ·split at h
      ·cases h
      ·rename_i n far B2 hr
       have h2 := refP_len hd hr
       split at h
       ·cases h
       ·split at h
        ·cases h
        ·have := syms_len hl hd h; omega
theorem rowsP_len {sc : Rd} (hc : RdOk sc) {tot : Nat} : ∀ {f : Nat} {B : List Bool} {row row' : List Nat} {B' : List Bool}, rowsP sc tot f B row = some (row', B') → B'.length ≤ B.length
 | 0, B, row, row', B', h => by simp [rowsP] at h
 | f + 1, B, row, row', B', h => by
  rw [rowsP] at h
  split at h
  ·cases h; omega
  ·split at h
   ·cases h
   ·rename_i y B1 hs
    have h1 := hc _ _ _ hs
    split at h
    ·cases h
    ·split at h
     ·cases h
     ·split at h
      ·cases h
      ·have := rowsP_len hc h
       rw [List.length_drop] at this
       omega
theorem toldP_len {okc : List Nat → Bool → Bool → Bool} {rd : List Nat → Rd} (hr : ∀ ls, RdOk (rd ls)) {B : List Bool} {a b : List Nat} {B' : List Bool} (h : toldP okc rd B = some (a, b, B')) : B'.length ≤ B.length := by
 unfold toldP at h
 split at h
 ·cases h
 ·split at h
  ·cases h
  ·split at h
   ·cases h
   ·split at h
    ·cases h
    ·split at h
     ·cases h
     ·rename_i row B2 hs
      have := rowsP_len (hr _) hs
      rw [List.length_drop] at this
      split at h
      ·cases h
      ·cases h; omega
theorem storedP_len {most : Int} {B : List Bool} {l : List UInt8} {B' : List Bool} {l' : List UInt8} (h : storedP most B l = .ok (B', l')) : B'.length ≤ B.length := by
 unfold storedP at h
 simp only at h
 split at h
 ·cases h
 ·split at h
  ·cases h
  ·cases h
   simp only [List.length_drop]
   omega
theorem blockP_len {okc : List Nat → Bool → Bool → Bool} {rd : List Nat → Rd} (hr : ∀ ls, RdOk (rd ls)) {most win : Int} {B : List Bool} {l : List UInt8} {b : Bool} {B' : List Bool} {l' : List UInt8} (h : blockP okc rd most win B l = (b, .ok (B', l'))) : B'.length < B.length := by
 unfold blockP at h
 split at h
 ·cases h
 ·have h3 : (B.drop 3).length < B.length := by rw [List.length_drop]; omega
  simp only [Prod.mk.injEq] at h
  obtain ⟨_, h⟩ := h
  unfold kindP at h
  split at h
  ·have := storedP_len h; omega
  ·have := syms_len (hr _) (hr _) h; omega
  ·split at h
   ·cases h
   ·rename_i a b B2 ht
    have h1 := toldP_len hr ht
    split at h
    ·have := syms_len (hr _) (hr _) h; omega
    ·cases h
  ·cases h
end
end Go.Proofs.YtfgljddikcghhaaDoor

