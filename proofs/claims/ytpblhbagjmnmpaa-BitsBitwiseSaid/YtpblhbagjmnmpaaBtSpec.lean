/- Plain words for package bits: masks, widths and values of operations, as functions on integers and lists. No program in sight; no conditions. -/
import Derived.WalkKit
set_option linter.unusedVariables false
set_option linter.unusedSimpArgs false
namespace Go.Proofs.Ytpblhbagjmnmpaa
open Go Go.RowKit
namespace Bt

/-- The greatest value of a width. -/
def mask (w : Int) : Int := if w < 0 ∨ 62 < w then 0 else 2 ^ w.toNat - 1
/-- 1 for true, 0 for false. -/
def b2i (b : Bool) : Int := if b = true then 1 else 0
/-- Is a width in range? -/
def fit (w : Int) : Bool := decide (1 ≤ w ∧ w ≤ 8)
/-- Are there n widths in range, the last two of which are equal? -/
def alike (ws : List Int) (n : Nat) : Bool := decide (ws.length = n) && (ws.all fit && (decide (n < 2) || decide (ws.getD (n - 1) 0 = ws.getD (n - 2) 0)))
/-- The width of a result, before it is held against the range. -/
def wide (op : Int) (ws : List Int) (k w : Int) : Int :=
  if op = 1 then if ws.length = 0 ∧ fit w = true ∧ 0 ≤ k ∧ k ≤ mask w then w else 0
  else if op = 2 then if alike ws 1 = true then ws.getD 0 0 else 0
  else if op = 3 ∨ op = 4 ∨ op = 5 ∨ op = 6 ∨ op = 7 then if alike ws 2 = true then ws.getD 0 0 else 0
  else if op = 8 ∨ op = 9 then if alike ws 2 = true then 1 else 0
  else if op = 10 then if alike ws 3 = true ∧ ws.getD 0 0 = 1 then ws.getD 1 0 else 0
  else if op = 11 then if ws.length = 2 ∧ fit (ws.getD 0 0) = true ∧ fit (ws.getD 1 0) = true then ws.getD 0 0 + ws.getD 1 0 else 0
  else if op = 12 then if alike ws 1 = true ∧ fit w = true ∧ 0 ≤ k ∧ k ≤ ws.getD 0 0 - w then w else 0
  else if op = 13 then if alike ws 1 = true ∧ ws.getD 0 0 ≤ w then w else 0
  else 0
/-- The width of a result, 0 where the operation is not valid. -/
def width (op : Int) (ws : List Int) (k w : Int) : Int := if fit (wide op ws k w) = true then wide op ws k w else 0
/-- The error beside it. -/
def err (r : Int) : Int := if r = 0 then 1 else 0
/-- Is argument j a value of its width? -/
def okAt (vs ws : List Int) (j : Nat) : Bool := decide (0 ≤ vs.getD j 0) && decide (vs.getD j 0 ≤ mask (ws.getD j 0))
/-- Are the first n arguments values of their widths? -/
def within (vs ws : List Int) (n : Nat) : Bool := (List.range n).all (okAt vs ws)
/-- The value of a valid operation. -/
def val (op : Int) (ws vs : List Int) (k w : Int) : Int :=
  if op = 1 then k
  else if op = 2 then mask (ws.getD 0 0) - vs.getD 0 0
  else if op = 3 then Go.bits .and .i64 (vs.getD 0 0) (vs.getD 1 0)
  else if op = 4 then Go.bits .or .i64 (vs.getD 0 0) (vs.getD 1 0)
  else if op = 5 then Go.bits .xor .i64 (vs.getD 0 0) (vs.getD 1 0)
  else if op = 6 then (vs.getD 0 0 + vs.getD 1 0) % (mask (ws.getD 0 0) + 1)
  else if op = 7 then (vs.getD 0 0 - vs.getD 1 0 + mask (ws.getD 0 0) + 1) % (mask (ws.getD 0 0) + 1)
  else if op = 8 then b2i (vs.getD 0 0 == vs.getD 1 0)
  else if op = 9 then b2i (decide (vs.getD 0 0 < vs.getD 1 0))
  else if op = 10 then if vs.getD 0 0 = 1 then vs.getD 1 0 else vs.getD 2 0
  else if op = 11 then Go.bits .or .i64 (vs.getD 0 0 * 2 ^ (ws.getD 1 0).toNat) (vs.getD 1 0)
  else if op = 12 then Go.bits .and .i64 (vs.getD 0 0 / 2 ^ k.toNat) (mask w)
  else vs.getD 0 0
/-- Is an operation valid? -/
def okay (op : Int) (ws vs num : List Int) : Bool :=
  decide (num.length = 2) && (decide (vs.length = ws.length) && (decide (width op ws (num.getD 0 0) (num.getD 1 0) ≠ 0) && within vs ws vs.length))
/-- The value of an operation, 0 where it is not valid. -/
def app (op : Int) (ws vs num : List Int) : Int := if okay op ws vs num = true then val op ws vs (num.getD 0 0) (num.getD 1 0) else 0
/-- The error beside it. -/
def appErr (op : Int) (ws vs num : List Int) : Int := if okay op ws vs num = true then 0 else 1
end Bt
end Go.Proofs.Ytpblhbagjmnmpaa
