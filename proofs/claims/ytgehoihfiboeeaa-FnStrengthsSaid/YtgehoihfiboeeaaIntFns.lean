/- The contracts of the functions on whole numbers and of the mass of a brine. -/
import Derived.Test.YtgehoihfiboeeaaBrines
namespace Go.Proofs.Ytgehoihfiboeeaa
open Go.RowKit
set_option linter.unusedVariables false

theorem l2Brine_cases (a b : Int) (w : World) : Calls Try.prog 51 #[.agg #[.int .i64 a, .int .i64 b]] w fun e w' =>
    (e = .returned (.bool true) ∧ ((0 ≤ a ∧ a ≤ 1000000) ∧ (0 ≤ b ∧ b ≤ 1000000)) ∧ Ext w w') ∨ (e = .returned (.bool false) ∧ ((a < 0 ∨ 1000000 < a) ∨ (b < 0 ∨ 1000000 < b)) ∧ Ext w w') :=
  (l2Brine_any a b w).mono fun e w' ⟨he, hw⟩ => by
    cases h : brineB a b
    · refine .inr ⟨by rw [he, h], ?_, hw⟩
      have h2 := mt brineB_iff.2 (by rw [h]; simp)
      omega
    · exact .inl ⟨by rw [he, h], brineB_iff.1 h, hw⟩
theorem isBrine_cases (a b : Int) (w : World) : Calls Try.prog 47 #[.agg #[.int .i64 a, .int .i64 b]] w fun e w' =>
    (e = .returned (.bool true) ∧ ((0 ≤ a ∧ a ≤ 1000000) ∧ (0 ≤ b ∧ b ≤ 1000000)) ∧ Ext w w') ∨ (e = .returned (.bool false) ∧ ((a < 0 ∨ 1000000 < a) ∨ (b < 0 ∨ 1000000 < b)) ∧ Ext w w') :=
  (isBrine_any a b w).mono fun e w' ⟨he, hw⟩ => by
    cases h : brineB a b
    · refine .inr ⟨by rw [he, h], ?_, hw⟩
      have h2 := mt brineB_iff.2 (by rw [h]; simp)
      omega
    · exact .inl ⟨by rw [he, h], brineB_iff.1 h, hw⟩

theorem mass_any (a b : Int) (w : World) (h1 : 0 ≤ a) (h2 : a ≤ 1000000) (h3 : 0 ≤ b) (h4 : b ≤ 1000000) : Calls Try.prog 50 #[.agg #[.int .i64 a, .int .i64 b]] w fun e w' => e = .returned (.int .i64 (a + b)) ∧ Ext w w' := by
  go_enter Try.func50, Try.ntmps50
  go_wp2
  go_ret
  exact ⟨rfl, by repeat (first | exact Ext.refl _ | refine Ext.alloc ?_ _)⟩
theorem l2Mass_any (a b : Int) (w : World) (h1 : 0 ≤ a) (h2 : a ≤ 1000000) (h3 : 0 ≤ b) (h4 : b ≤ 1000000) : Calls Try.prog 54 #[.agg #[.int .i64 a, .int .i64 b]] w fun e w' => e = .returned (.int .i64 (a + b)) ∧ Ext w w' := by
  go_enter Try.func54, Try.ntmps54
  go_wp2
  go_ret
  exact ⟨rfl, by repeat (first | exact Ext.refl _ | refine Ext.alloc ?_ _)⟩

def rateB (n d : Int) : Bool := decide ((1 ≤ n ∧ n ≤ d) ∧ d ≤ 1000)
theorem rateB_iff {n d : Int} : rateB n d = true ↔ (1 ≤ n ∧ n ≤ d) ∧ d ≤ 1000 := by unfold rateB; exact decide_eq_true_iff
theorem l2Rate_any (n d : Int) (w : World) : Calls Try.prog 52 #[.int .i64 n, .int .i64 d] w fun e w' => e = .returned (.bool (rateB n d)) ∧ w = w' := by
  go_enter Try.func52, Try.ntmps52
  go_wp2_with (go_at_call 78; refine (l1In_cases _ _ _ _).mono ?_; rintro e w1 (⟨rfl, hin, rfl⟩ | ⟨rfl, hout, rfl⟩))
  all_goals
    go_ret
    exact ⟨ret_bool (by first | exact (decide_eq_true (by omega)).symm | exact (decide_eq_false (by omega)).symm | exact (decide_eq_decide.2 (by omega))), rfl⟩
theorem isStrength_any (n d : Int) (w : World) : Calls Try.prog 48 #[.int .i64 n, .int .i64 d] w fun e w' => e = .returned (.bool (rateB n d)) ∧ w = w' := by
  go_enter Try.func48, Try.ntmps48
  go_wp2
  all_goals
    go_ret
    exact ⟨ret_bool (by first | exact (decide_eq_true (by omega)).symm | exact (decide_eq_false (by omega)).symm | exact (decide_eq_decide.2 (by omega))), rfl⟩
theorem ceilDiv_any (a b : Int) (w : World) (h1 : 0 ≤ a) (h2 : a ≤ 4000000000) (h3 : 0 < b) (h4 : b ≤ 4000000000) : Calls Try.prog 49 #[.int .i64 a, .int .i64 b] w fun e w' => e = .returned (.int .i64 ((a + b - 1) / b)) ∧ w = w' := by
  go_enter Try.func49, Try.ntmps49
  go_wp2
  go_ret
  exact ⟨rfl, rfl⟩
end Go.Proofs.Ytgehoihfiboeeaa
