/- The bytes of a text, one more at a time. -/
import Derived.Test.YtpmbnfoilhfobaaDoorBase
namespace Go.Proofs.YtpmbnfoilhfobaaDoor
open Go.RowKit
set_option linter.unusedVariables false

theorem take_snoc (s : ByteArray) (k : Nat) (h : k < s.size) : s.data.toList.take (k + 1) = s.data.toList.take k ++ [s[k]] := by
  rw [List.take_succ_eq_append_getElem (by simpa using h)]; rfl
theorem bs_eq {a b : ByteArray} (h : a = b) : (a.toList == b.toList) = true := by rw [h]; exact beq_self_eq_true _
theorem bs_ne {a b : ByteArray} (h : a ≠ b) : (a.toList == b.toList) = false := by
  rw [Bool.eq_false_iff]
  intro h2
  have h3 := eq_of_beq h2
  rw [ByteArray.toList_eq, ByteArray.toList_eq] at h3
  exact h (ByteArray.ext (Array.toList_inj.1 h3))
end Go.Proofs.YtpmbnfoilhfobaaDoor
