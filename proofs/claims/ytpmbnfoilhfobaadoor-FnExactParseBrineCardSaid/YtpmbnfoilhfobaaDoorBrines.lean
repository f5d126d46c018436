/- The contracts of the functions that say whether a brine is valid. -/
import Derived.Test.YtpmbnfoilhfobaaDoorInts
namespace Go.Proofs.YtpmbnfoilhfobaaDoor
open Go.RowKit
set_option linter.unusedVariables false

def brineB (a b : Int) : Bool := inB a 0 1000000 && inB b 0 1000000
theorem brineB_iff {a b : Int} : brineB a b = true ↔ (0 ≤ a ∧ a ≤ 1000000) ∧ (0 ≤ b ∧ b ≤ 1000000) := by unfold brineB; rw [Bool.and_eq_true, inB_iff, inB_iff]

theorem toBrine_any (a b : Int) (w : World) : Calls Tryd.prog 28 #[.agg #[.int .i64 a, .int .i64 b]] w fun e w' => e = .returned (.agg #[.int .i64 a, .int .i64 b]) ∧ Ext w w' := by
  go_enter Tryd.func28, Tryd.ntmps28
  go_wp2
  exact bodyPost_ret (v := .agg #[.int .i64 a, .int .i64 b]) (by simp [results, Tryd.results28, go_sem]) rfl ⟨rfl, by repeat (first | exact Ext.refl _ | refine Ext.alloc ?_ _ | refine Ext.setCell ?_ (by simp) _)⟩
theorem l2Brine_any (a b : Int) (w : World) : Calls Tryd.prog 49 #[.agg #[.int .i64 a, .int .i64 b]] w fun e w' => e = .returned (.bool (brineB a b)) ∧ Ext w w' := by
  cases h1 : inB a 0 1000000
  · rw [show brineB a b = false by simp [brineB, h1]]
    go_enter Tryd.func49, Tryd.ntmps49
    go_wp2_with (go_at_call 56; refine (l1In_any _ _ _ _).mono ?_; rintro e w1 ⟨rfl, rfl⟩)
    go_ret
    exact ⟨rfl, by repeat (first | exact Ext.refl _ | refine Ext.alloc ?_ _)⟩
  · cases h2 : inB b 0 1000000
    · rw [show brineB a b = false by simp [brineB, h2]]
      go_enter Tryd.func49, Tryd.ntmps49
      go_wp2_with (go_at_call 56; refine (l1In_any _ _ _ _).mono ?_; rintro e w1 ⟨rfl, rfl⟩)
      go_ret
      exact ⟨rfl, by repeat (first | exact Ext.refl _ | refine Ext.alloc ?_ _)⟩
    · rw [show brineB a b = true by simp [brineB, h1, h2]]
      go_enter Tryd.func49, Tryd.ntmps49
      go_wp2_with (go_at_call 56; refine (l1In_any _ _ _ _).mono ?_; rintro e w1 ⟨rfl, rfl⟩)
      go_ret
      exact ⟨rfl, by repeat (first | exact Ext.refl _ | refine Ext.alloc ?_ _)⟩
theorem isBrine_any (a b : Int) (w : World) : Calls Tryd.prog 65 #[.agg #[.int .i64 a, .int .i64 b]] w fun e w' => e = .returned (.bool (brineB a b)) ∧ Ext w w' := by
  cases h1 : inB a 0 1000000
  · rw [show brineB a b = false by simp [brineB, h1]]
    go_enter Tryd.func65, Tryd.ntmps65
    go_wp2_with (go_at_call 45; refine (within_any _ _ _ _).mono ?_; rintro e w1 ⟨rfl, rfl⟩)
    go_ret
    exact ⟨rfl, by repeat (first | exact Ext.refl _ | refine Ext.alloc ?_ _)⟩
  · cases h2 : inB b 0 1000000
    · rw [show brineB a b = false by simp [brineB, h2]]
      go_enter Tryd.func65, Tryd.ntmps65
      go_wp2_with (go_at_call 45; refine (within_any _ _ _ _).mono ?_; rintro e w1 ⟨rfl, rfl⟩)
      go_ret
      exact ⟨rfl, by repeat (first | exact Ext.refl _ | refine Ext.alloc ?_ _)⟩
    · rw [show brineB a b = true by simp [brineB, h1, h2]]
      go_enter Tryd.func65, Tryd.ntmps65
      go_wp2_with (go_at_call 45; refine (within_any _ _ _ _).mono ?_; rintro e w1 ⟨rfl, rfl⟩)
      go_ret
      exact ⟨rfl, by repeat (first | exact Ext.refl _ | refine Ext.alloc ?_ _)⟩
end Go.Proofs.YtpmbnfoilhfobaaDoor
