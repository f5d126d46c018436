/- A text cut at each separator: the pieces; the reference's contract. -/
import Derived.Test.YtpmbnfoilhfobaaOwn
import Derived.Test.YtpmbnfoilhfobaaRows
import Derived.Test.YtpmbnfoilhfobaaBytes
namespace Go.Proofs.Ytpmbnfoilhfobaa
open Go.RowKit
set_option linter.unusedVariables false

theorem elStr : ElemOk Try.prog 22 9 (.string ByteArray.empty) 1 16 := ⟨Try.underlying22, info_parts (by kernel_rfl), rfl, by decide, by decide⟩
/-- The cells of a slice of texts. -/
def mkS (l : List ByteArray) : Nat → Nat → Value := fun i _ => .string (l.getD i ByteArray.empty)
theorem mkS_app (l : List ByteArray) (x : ByteArray) (i j : Nat) (hi : i < l.length) (hj : j < 1) : mkS (l ++ [x]) i j = mkS l i j := by
  simp only [mkS, List.getD_eq_getElem?_getD, List.getElem?_append_left hi]
theorem mkS_last (l : List ByteArray) (x : ByteArray) (j : Nat) : mkS (l ++ [x]) l.length j = .string x := by
  simp [mkS, List.getD_eq_getElem?_getD]
theorem Rd.atS {w : World} {A : Option Addr} {n i : Nat} {l : List ByteArray} (h : Rd w A n 1 (mkS l)) (hi : i < n) :
    ∃ g off, A = some ⟨g, off, none⟩ ∧ g < w.heap.size ∧ w.cell? ⟨g, off + i, none⟩ = some (.string (l.getD i ByteArray.empty)) := by
  obtain ⟨g, off, hA, hg, hc⟩ := h (by omega)
  have := hc i 0 hi (by omega)
  rw [Nat.mul_one, Nat.add_zero] at this
  exact ⟨g, off, hA, hg, this⟩
/-- The pieces in front of place k, and where the next one begins. -/
def spP (s : ByteArray) (b : UInt8) : Nat → List ByteArray × Nat
  | 0 => ([], 0)
  | k + 1 => if s.data.toList.getD k 0 = b then ((spP s b k).1 ++ [s.extract (spP s b k).2 k], k + 1) else spP s b k
def spL (s : ByteArray) (b : UInt8) : List ByteArray := (spP s b s.size).1 ++ [s.extract (spP s b s.size).2 s.size]
theorem spP_le (s : ByteArray) (b : UInt8) (k : Nat) : (spP s b k).2 ≤ k ∧ (spP s b k).1.length ≤ k := by
  induction k with
  | zero => exact ⟨Nat.le_refl _, Nat.le_refl _⟩
  | succ k ih =>
    unfold spP
    split
    · exact ⟨Nat.le_refl _, by rw [List.length_append]; have := ih.2; simp; omega⟩
    · exact ⟨by omega, by omega⟩
theorem getD_at (s : ByteArray) (k : Nat) (h : k < s.size) : s.data.toList.getD k 0 = s[k] := by
  rw [List.getD_eq_getElem?_getD, List.getElem?_eq_getElem (by simpa using h)]
  simp only [Option.getD_some, Array.getElem_toList]
  rfl
theorem spP_hit {s : ByteArray} {b : UInt8} {k : Nat} (h : k < s.size) (he : s[k] = b) : spP s b (k + 1) = ((spP s b k).1 ++ [s.extract (spP s b k).2 k], k + 1) := by
  conv => lhs; unfold spP
  rw [if_pos (by rw [getD_at s k h]; exact he)]
theorem spP_miss {s : ByteArray} {b : UInt8} {k : Nat} (h : k < s.size) (he : s[k] ≠ b) : spP s b (k + 1) = spP s b k := by
  conv => lhs; unfold spP
  rw [if_neg (by rw [getD_at s k h]; exact he)]
end Go.Proofs.Ytpmbnfoilhfobaa
