import Derived.Test.YtfgljddikcghhaaDoorVzStream
import Derived.Test.YtfgljddikcghhaaDoorVzSpan
namespace Go.Proofs.YtfgljddikcghhaaDoor
open Go.RowKit
variable [Globs]
set_option linter.unusedSectionVars false
set_option linter.unusedVariables false

section
omit [Globs]
/-- Bytes that come out one by one; none: they are too many. -/
def putsP (most : Int) : List UInt8 → List UInt8 → Option (List UInt8)
 | l, [] => some l
 | l, b :: r => if most ≤ (l.length : Int) then none else putsP most (l ++ [b]) r
/-- So many bytes again, from so far back. -/
def copyN (most : Int) (far : Nat) : Nat → List UInt8 → Option (List UInt8)
 | 0, l => some l
 | n + 1, l => if most ≤ (l.length : Int) then none else copyN most far n (l ++ [(l[l.length - far]?).getD 0])
/-- A reader of a code: the symbol, what is left. -/
abbrev Rd := List Bool → Option (Nat × List Bool)
/-- What is left and what came out, or the error. -/
abbrev Res := Except Nat (List Bool × List UInt8)
def lenP (y : Nat) : Nat × Nat := if y = 285 then (258, 0) else spanP 3 4 (y - 257)
/-- A length and a distance, behind the symbol y: which, what is left. -/
def refP (sd : Rd) (y : Nat) (B : List Bool) : Option (Nat × Nat × List Bool) :=
 if B.length < (lenP y).2 then none else match sd (B.drop (lenP y).2) with
 | none => none
 | some (d, B2) => if 29 < d then none else if B2.length < (spanP 1 2 d).2 then none else
  some ((lenP y).1 + valN (B.take (lenP y).2), (spanP 1 2 d).1 + valN (B2.take (spanP 1 2 d).2), B2.drop (spanP 1 2 d).2)
/-- The symbols of a block. -/
def syms (sl sd : Rd) (most win : Int) : Nat → List Bool → List UInt8 → Res
 | 0, _, _ => .error 10
 | f + 1, B, l => match sl B with
  | none => .error 10
  | some (y, B1) =>
   if y < 256 then (if most ≤ (l.length : Int) then .error 11 else syms sl sd most win f B1 (l ++ [UInt8.ofNat y]))
   else if y = 256 then .ok (B1, l)
   else if 285 < y then .error 10
   else match refP sd y B1 with
    | none => .error 10
    | some (n, far, B2) => if l.length < far ∨ win < (far : Int) then .error 10 else match copyN most far n l with
     | none => .error 11
     | some l' => syms sl sd most win f B2 l'
/-- The third code's lengths, k of them. -/
def orderL : List Nat := [16, 17, 18, 0, 8, 7, 9, 6, 10, 5, 11, 4, 12, 3, 13, 2, 14, 1, 15]
def thirdL (B : List Bool) : Nat → List Nat
 | 0 => List.replicate 19 0
 | i + 1 => (thirdL B i).set (orderL.getD i 0) (valN ((B.drop (3 * i)).take 3))
/-- What a symbol of the third code asks for: so many bits more, how often at least, what. -/
def stepR (y : Nat) (row : List Nat) : Option (Nat × Nat × Nat) :=
 if y = 16 then row.getLast?.map fun w => (2, 3, w) else if y = 17 then some (3, 3, 0) else if y = 18 then some (7, 11, 0) else some (0, 1, y)
/-- The lengths of the two codes. -/
def rowsP (sc : Rd) (tot : Nat) : Nat → List Bool → List Nat → Option (List Nat × List Bool)
 | 0, _, _ => none
 | f + 1, B, row => if tot ≤ row.length then some (row, B) else match sc B with
  | none => none
  | some (y, B1) => match stepR y row with
   | none => none
   | some (n, base, what) => if B1.length < n then none else if tot < row.length + (base + valN (B1.take n)) then none else
    rowsP sc tot f (B1.drop n) (row ++ List.replicate (base + valN (B1.take n)) what)
/-- The lengths that are told, before it is asked whether they are codes. -/
def toldP (okc : List Nat → Bool → Bool → Bool) (rd : List Nat → Rd) (B : List Bool) : Option (List Nat × List Nat × List Bool) :=
 if B.length < 14 then none else
 if 286 < valN (B.take 5) + 257 ∨ 30 < valN ((B.drop 5).take 5) + 1 then none else
 if B.length < 14 + 3 * (valN ((B.drop 10).take 4) + 4) then none else
 if okc (thirdL (B.drop 14) (valN ((B.drop 10).take 4) + 4)) false false = false then none else
 match rowsP (rd (thirdL (B.drop 14) (valN ((B.drop 10).take 4) + 4))) (valN (B.take 5) + 257 + (valN ((B.drop 5).take 5) + 1)) (valN (B.take 5) + 257 + (valN ((B.drop 5).take 5) + 1) + 1) (B.drop (14 + 3 * (valN ((B.drop 10).take 4) + 4))) [] with
 | none => none
 | some (row, B') => if row.getD 256 0 = 0 then none else some (row.take (valN (B.take 5) + 257), row.drop (valN (B.take 5) + 257), B')
def fixL : List Nat := List.replicate 144 8 ++ List.replicate 112 9 ++ List.replicate 24 7 ++ List.replicate 8 8
def fixD : List Nat := List.replicate 32 5
/-- Bytes out of bits. -/
def bytesB (n : Nat) (B : List Bool) : List UInt8 := (List.range n).map fun i => UInt8.ofNat (valN ((B.drop (8 * i)).take 8))
/-- A block that is stored. -/
def storedP (most : Int) (B : List Bool) (l : List UInt8) : Res :=
 let C := B.drop (B.length % 8)
 if C.length < 32 ∨ valN (C.take 16) + valN ((C.drop 16).take 16) ≠ 65535 ∨ C.length < 32 + 8 * valN (C.take 16) then .error 10 else
 match putsP most l (bytesB (valN (C.take 16)) (C.drop 32)) with
 | none => .error 11
 | some l' => .ok (C.drop (32 + 8 * valN (C.take 16)), l')
/-- A block of a kind. -/
def kindP (okc : List Nat → Bool → Bool → Bool) (rd : List Nat → Rd) (most win : Int) (f : Nat) (C : List Bool) (l : List UInt8) : Nat → Res
 | 0 => storedP most C l
 | 1 => syms (rd fixL) (rd fixD) most win f C l
 | 2 => (match toldP okc rd C with
  | none => .error 10
  | some (a, b, B') => if okc a true false && okc b true true then syms (rd a) (rd b) most win f B' l else .error 10)
 | _ => .error 10
/-- A block: and whether it is the last one. -/
def blockP (okc : List Nat → Bool → Bool → Bool) (rd : List Nat → Rd) (most win : Int) (B : List Bool) (l : List UInt8) : Bool × Res :=
 if B.length < 3 then (true, .error 10) else
 (valN (B.take 1) == 1, kindP okc rd most win (B.length + 1) (B.drop 3) l (valN ((B.drop 1).take 2)))
def blocksP (okc : List Nat → Bool → Bool → Bool) (rd : List Nat → Rd) (most win : Int) : Nat → List Bool → List UInt8 → Res
 | 0, _, _ => .error 10
 | f + 1, B, l => match blockP okc rd most win B l with
  | (_, .error e) => .error e
  | (true, .ok r) => .ok r
  | (false, .ok (B', l')) => blocksP okc rd most win f B' l'
/-- The sum at the end, and how many bytes are left; what came out, or the error. -/
def headOk (b0 b1 : Nat) : Bool := b0 % 16 == 8 && decide (b0 / 16 ≤ 7) && decide ((b0 * 256 + b1) % 31 = 0) && b1 / 32 % 2 == 0
def numB (n : Nat) (B : List Bool) : Nat := (bytesB n B).foldl (fun s b => s * 256 + b.toNat) 0
def inflP (okc : List Nat → Bool → Bool → Bool) (rd : List Nat → Rd) (adl : List UInt8 → Nat) (b : List UInt8) (most : Int) : Except Nat (List UInt8 × Nat) :=
 match b with
 | x :: y :: r => if headOk x.toNat y.toNat then (match blocksP okc rd most ((2 ^ (x.toNat / 16 + 8) : Nat) : Int) (8 * r.length + 1) (allB r) [] with
  | .error e => .error e
  | .ok (B, l) => if (B.drop (B.length % 8)).length < 32 then .error 10 else if numB 4 (B.drop (B.length % 8)) = adl l then .ok (l, b.length - (B.length / 8 - 4)) else .error 10) else .error 10
 | _ => .error 10
end
end Go.Proofs.YtfgljddikcghhaaDoor

