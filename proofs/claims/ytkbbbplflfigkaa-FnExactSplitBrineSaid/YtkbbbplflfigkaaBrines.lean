/- The contracts of the functions that say whether a brine is valid. -/
import Derived.Test.YtkbbbplflfigkaaInts
namespace Go.Proofs.Ytkbbbplflfigkaa
open Go.RowKit

def brineB (a b : Int) : Bool := inB a 0 1000000 && inB b 0 1000000
theorem brineB_iff {a b : Int} : brineB a b = true ↔ (0 ≤ a ∧ a ≤ 1000000) ∧ (0 ≤ b ∧ b ≤ 1000000) := by unfold brineB; rw [Bool.and_eq_true, inB_iff, inB_iff]

theorem toBrine_any (a b : Int) (w : World) : Calls Try.prog 18 #[.agg #[.int .i64 a, .int .i64 b]] w fun e w' => e = .returned (.agg #[.int .i64 a, .int .i64 b]) ∧ Ext w w' := by
  go_enter Try.func18, Try.ntmps18
  go_wp2
  exact bodyPost_ret (v := .agg #[.int .i64 a, .int .i64 b]) (by simp [results, Try.results18, go_sem]) rfl ⟨rfl, by repeat (first | exact Ext.refl _ | refine Ext.alloc ?_ _ | refine Ext.setCell ?_ (by simp) _)⟩

theorem l2Brine_any (a b : Int) (w : World) : Calls Try.prog 49 #[.agg #[.int .i64 a, .int .i64 b]] w fun e w' => e = .returned (.bool (brineB a b)) ∧ Ext w w' := by
  cases h1 : inB a 0 1000000
  · rw [show brineB a b = false by simp [brineB, h1]]
    go_enter Try.func49, Try.ntmps49
    go_wp2_with (go_at_call 63; refine (l1In_any _ _ _ _).mono ?_; rintro e w1 ⟨rfl, rfl⟩)
    go_ret
    exact ⟨rfl, by repeat (first | exact Ext.refl _ | refine Ext.alloc ?_ _)⟩
  · cases h2 : inB b 0 1000000
    · rw [show brineB a b = false by simp [brineB, h2]]
      go_enter Try.func49, Try.ntmps49
      go_wp2_with (go_at_call 63; refine (l1In_any _ _ _ _).mono ?_; rintro e w1 ⟨rfl, rfl⟩)
      go_ret
      exact ⟨rfl, by repeat (first | exact Ext.refl _ | refine Ext.alloc ?_ _)⟩
    · rw [show brineB a b = true by simp [brineB, h1, h2]]
      go_enter Try.func49, Try.ntmps49
      go_wp2_with (go_at_call 63; refine (l1In_any _ _ _ _).mono ?_; rintro e w1 ⟨rfl, rfl⟩)
      go_ret
      exact ⟨rfl, by repeat (first | exact Ext.refl _ | refine Ext.alloc ?_ _)⟩
theorem specIsBrine_any (a b : Int) (w : World) : Calls Try.prog 17 #[.agg #[.int .i64 a, .int .i64 b]] w fun e w' => e = .returned (.bool (brineB a b)) ∧ Ext w w' := by
  go_enter Try.func17, Try.ntmps17
  go_wp2_with (go_at_call 49; refine (l2Brine_any _ _ _).mono ?_; rintro e w1 ⟨rfl, hx⟩; obtain ⟨x, rfl⟩ := hx.to_gw)
  go_ret
  exact ⟨rfl, by repeat (first | exact Ext.refl _ | refine Ext.alloc ?_ _ | refine Ext.gw ?_ _)⟩
theorem isBrine_any (a b : Int) (w : World) : Calls Try.prog 19 #[.agg #[.int .i64 a, .int .i64 b]] w fun e w' => e = .returned (.bool (brineB a b)) ∧ Ext w w' := by
  cases h1 : inB a 0 1000000
  · rw [show brineB a b = false by simp [brineB, h1]]
    go_enter Try.func19, Try.ntmps19
    go_wp2_with (go_at_call 50; refine (within_any _ _ _ _).mono ?_; rintro e w1 ⟨rfl, rfl⟩)
    go_ret
    exact ⟨rfl, by repeat (first | exact Ext.refl _ | refine Ext.alloc ?_ _)⟩
  · cases h2 : inB b 0 1000000
    · rw [show brineB a b = false by simp [brineB, h2]]
      go_enter Try.func19, Try.ntmps19
      go_wp2_with (go_at_call 50; refine (within_any _ _ _ _).mono ?_; rintro e w1 ⟨rfl, rfl⟩)
      go_ret
      exact ⟨rfl, by repeat (first | exact Ext.refl _ | refine Ext.alloc ?_ _)⟩
    · rw [show brineB a b = true by simp [brineB, h1, h2]]
      go_enter Try.func19, Try.ntmps19
      go_wp2_with (go_at_call 50; refine (within_any _ _ _ _).mono ?_; rintro e w1 ⟨rfl, rfl⟩)
      go_ret
      exact ⟨rfl, by repeat (first | exact Ext.refl _ | refine Ext.alloc ?_ _)⟩
end Go.Proofs.Ytkbbbplflfigkaa
