/- The cells of a slice of numbers that holds a list. -/
import Derived.Test.YtkgnfmdeimaedaaIntS
namespace Go.Proofs.Ytkgnfmdeimaedaa
open Go.RowKit
set_option linter.unusedVariables false

def mkL (l : List Int) : Nat → Nat → Value := mk1 fun i => l.getD i 0
theorem mkL_app (l : List Int) (x : Int) (i j : Nat) (hi : i < l.length) (hj : j < 1) : mkL (l ++ [x]) i j = mkL l i j := by
  simp only [mkL, mk1, List.getD_eq_getElem?_getD, List.getElem?_append_left hi]
theorem mkL_last (l : List Int) (x : Int) (j : Nat) : mkL (l ++ [x]) l.length j = .int .i64 x := by
  simp [mkL, mk1, List.getD_eq_getElem?_getD]
end Go.Proofs.Ytkgnfmdeimaedaa
