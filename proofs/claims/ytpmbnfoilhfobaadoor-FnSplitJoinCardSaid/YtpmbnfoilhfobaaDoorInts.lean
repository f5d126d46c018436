/- The contracts of the program's and the reference's smallest functions on whole numbers. -/
import Derived.Test.YtpmbnfoilhfobaaDoorBase
import Derived.Test.YtpmbnfoilhfobaaDoorRows
namespace Go.Proofs.YtpmbnfoilhfobaaDoor
open Go.RowKit
set_option linter.unusedVariables false

theorem l1In_any (n a b : Int) (w : World) : Calls Tryd.prog 56 #[.int .i64 n, .int .i64 a, .int .i64 b] w fun e w' => e = .returned (.bool (inB n a b)) ∧ w = w' := by
  by_cases h1 : a ≤ n
  · by_cases h2 : n ≤ b
    · rw [inB_pos h1 h2]
      go_enter Tryd.func56, Tryd.ntmps56
      go_wp2
      go_ret
      exact ⟨rfl, rfl⟩
    · rw [inB_neg (fun h => h2 h.2)]
      go_enter Tryd.func56, Tryd.ntmps56
      go_wp2
      go_ret
      exact ⟨rfl, rfl⟩
  · rw [inB_neg (fun h => h1 h.1)]
    go_enter Tryd.func56, Tryd.ntmps56
    go_wp2
    go_ret
    exact ⟨rfl, rfl⟩

theorem within_any (n a b : Int) (w : World) : Calls Tryd.prog 45 #[.int .i64 n, .int .i64 a, .int .i64 b] w fun e w' => e = .returned (.bool (inB n a b)) ∧ w = w' := by
  by_cases h1 : a ≤ n
  · by_cases h2 : n ≤ b
    · rw [inB_pos h1 h2]
      go_enter Tryd.func45, Tryd.ntmps45
      go_wp2
      go_ret
      exact ⟨rfl, rfl⟩
    · rw [inB_neg (fun h => h2 h.2)]
      go_enter Tryd.func45, Tryd.ntmps45
      go_wp2
      go_ret
      exact ⟨rfl, rfl⟩
  · rw [inB_neg (fun h => h1 h.1)]
    go_enter Tryd.func45, Tryd.ntmps45
    go_wp2
    go_ret
    exact ⟨rfl, rfl⟩

theorem l1In_cases (n a b : Int) (w : World) : Calls Tryd.prog 56 #[.int .i64 n, .int .i64 a, .int .i64 b] w fun e w' =>
    (e = .returned (.bool true) ∧ (a ≤ n ∧ n ≤ b) ∧ w = w') ∨ (e = .returned (.bool false) ∧ (n < a ∨ b < n) ∧ w = w') :=
  (l1In_any n a b w).mono fun e w' ⟨he, hw⟩ => by
    by_cases h : a ≤ n ∧ n ≤ b
    · exact .inl ⟨by rw [he, inB_pos h.1 h.2], h, hw⟩
    · exact .inr ⟨by rw [he, inB_neg h], by omega, hw⟩

theorem within_cases (n a b : Int) (w : World) : Calls Tryd.prog 45 #[.int .i64 n, .int .i64 a, .int .i64 b] w fun e w' =>
    (e = .returned (.bool true) ∧ (a ≤ n ∧ n ≤ b) ∧ w = w') ∨ (e = .returned (.bool false) ∧ (n < a ∨ b < n) ∧ w = w') :=
  (within_any n a b w).mono fun e w' ⟨he, hw⟩ => by
    by_cases h : a ≤ n ∧ n ≤ b
    · exact .inl ⟨by rw [he, inB_pos h.1 h.2], h, hw⟩
    · exact .inr ⟨by rw [he, inB_neg h], by omega, hw⟩
end Go.Proofs.YtpmbnfoilhfobaaDoor
