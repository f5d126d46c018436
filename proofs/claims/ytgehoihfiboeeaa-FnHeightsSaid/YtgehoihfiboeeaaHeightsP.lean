/- What FnHeights says of tides, in plain numbers. -/
import Derived.Test.YtgehoihfiboeeaaArea
import Derived.Test.YtgehoihfiboeeaaTurns
import Derived.Test.YtgehoihfiboeeaaShift
import Derived.Test.YtgehoihfiboeeaaHigh
namespace Go.Proofs.Ytgehoihfiboeeaa
open Go.RowKit
set_option linter.unusedVariables false

theorem turnTo_shift (m : Nat → Mk) (b : Int) (k : Nat) : turnTo (shiftM m b) k = turnTo m k := by
  induction k with
  | zero => rfl
  | succ k ih =>
    have h : turnP (shiftM m b) (k + 1) ↔ turnP m (k + 1) := by
      rw [turn_iff, turn_iff]
      simp only [shiftM]
      omega
    unfold turnTo
    rw [ih]
    by_cases h1 : turnP m (k + 1)
    · rw [if_pos h1, if_pos (h.2 h1)]
      rfl
    · rw [if_neg h1, if_neg (fun h2 => h1 (h.1 h2))]
theorem hiTo_shift (m : Nat → Mk) (b : Int) (k : Nat) : hiTo (shiftM m b) k = hiTo m k := by
  induction k with
  | zero => rfl
  | succ k ih =>
    unfold hiTo
    rw [ih]
    by_cases h1 : (m (hiTo m k)).h < (m k).h
    · have h2 : (shiftM m b (hiTo m k)).h < (shiftM m b k).h := by simp only [shiftM]; omega
      rw [if_pos h1, if_pos h2]
    · have h2 : ¬ (shiftM m b (hiTo m k)).h < (shiftM m b k).h := by simp only [shiftM]; omega
      rw [if_neg h1, if_neg h2]
theorem hi_shift {n : Nat} {m : Nat → Mk} {b : Int} (h : tideB n m = true) (h2 : tideB n (shiftM m b) = true) : hiT n (shiftM m b) = hiT n m ∧ hiH n (shiftM m b) = hiH n m + b := by
  unfold hiT hiH
  rw [if_pos h, if_pos h2, if_pos h, if_pos h2, hiTo_shift]
  exact ⟨rfl, rfl⟩
theorem areaTo_mono {n : Nat} {m : Nat → Mk} {h : Int} (hP : tideP n m) (h0 : -500 ≤ h) (h1 : h < 500) (k : Nat) (hk : (k : Int) ≤ 1441) : areaTo n m (h + 1) k ≤ areaTo n m h k := by
  induction k with
  | zero => exact Int.le_refl _
  | succ k ih =>
    have ih2 := ih (by omega)
    obtain ⟨_, p2, _⟩ := area_step (h := h) hP h0 (by omega) k (by omega)
    have e : (h + 1) * atD n m k = h * atD n m k + atD n m k := by rw [Int.add_mul, Int.one_mul]
    unfold areaTo
    rw [e]
    generalize atN n m k = x at *
    generalize atD n m k = d at *
    generalize h * d = y at *
    have : (if 0 ≤ x - (y + d) then x - (y + d) else 0) / d ≤ (if 0 ≤ x - y then x - y else 0) / d := Int.ediv_le_ediv (by omega) (by split <;> split <;> omega)
    omega
theorem area_mono {n : Nat} {m : Nat → Mk} {h : Int} (hc : areaC n m h = true) (h1 : h < 500) : areaC n m (h + 1) = true ∧ areaV n m (h + 1) ≤ areaV n m h := by
  unfold areaC at hc
  rw [Bool.and_eq_true] at hc
  have hP : tideP n m := tideB_iff.1 hc.1
  obtain ⟨b0, b1⟩ := inB_iff.1 hc.2
  have hc2 : areaC n m (h + 1) = true := by unfold areaC; rw [Bool.and_eq_true]; exact ⟨hc.1, inB_iff.2 ⟨by omega, by omega⟩⟩
  have hc3 : areaC n m h = true := by unfold areaC; rw [Bool.and_eq_true]; exact hc
  refine ⟨hc2, ?_⟩
  unfold areaV
  rw [if_pos hc2, if_pos hc3]
  exact areaTo_mono hP b0 h1 1441 (by omega)
theorem hiH_bd {n : Nat} {m : Nat → Mk} (h : tideB n m = true) : -500 ≤ hiH n m ∧ hiH n m ≤ 500 := by
  unfold hiH
  rw [if_pos h]
  obtain ⟨⟨h2, _⟩, _, _, h3⟩ := tideB_iff.1 h
  exact (h3 _ (hiTo_lt m (by omega) n (Nat.le_refl _))).2.1
end Go.Proofs.Ytgehoihfiboeeaa
