/- The contracts of the program's and the reference's smallest functions on whole numbers. -/
import Derived.Test.YtkgnfmdeimaedaaBase
import Derived.Test.YtkgnfmdeimaedaaRows
namespace Go.Proofs.Ytkgnfmdeimaedaa
open Go.RowKit
set_option linter.unusedVariables false

theorem l1In_any (n a b : Int) (w : World) : Calls Try.prog 61 #[.int .i64 n, .int .i64 a, .int .i64 b] w fun e w' => e = .returned (.bool (inB n a b)) ∧ w = w' := by
  by_cases h1 : a ≤ n
  · by_cases h2 : n ≤ b
    · rw [inB_pos h1 h2]
      go_enter Try.func61, Try.ntmps61
      go_wp2
      go_ret
      exact ⟨rfl, rfl⟩
    · rw [inB_neg (fun h => h2 h.2)]
      go_enter Try.func61, Try.ntmps61
      go_wp2
      go_ret
      exact ⟨rfl, rfl⟩
  · rw [inB_neg (fun h => h1 h.1)]
    go_enter Try.func61, Try.ntmps61
    go_wp2
    go_ret
    exact ⟨rfl, rfl⟩

theorem within_any (n a b : Int) (w : World) : Calls Try.prog 62 #[.int .i64 n, .int .i64 a, .int .i64 b] w fun e w' => e = .returned (.bool (inB n a b)) ∧ w = w' := by
  by_cases h1 : a ≤ n
  · by_cases h2 : n ≤ b
    · rw [inB_pos h1 h2]
      go_enter Try.func62, Try.ntmps62
      go_wp2
      go_ret
      exact ⟨rfl, rfl⟩
    · rw [inB_neg (fun h => h2 h.2)]
      go_enter Try.func62, Try.ntmps62
      go_wp2
      go_ret
      exact ⟨rfl, rfl⟩
  · rw [inB_neg (fun h => h1 h.1)]
    go_enter Try.func62, Try.ntmps62
    go_wp2
    go_ret
    exact ⟨rfl, rfl⟩

theorem l1In_cases (n a b : Int) (w : World) : Calls Try.prog 61 #[.int .i64 n, .int .i64 a, .int .i64 b] w fun e w' =>
    (e = .returned (.bool true) ∧ (a ≤ n ∧ n ≤ b) ∧ w = w') ∨ (e = .returned (.bool false) ∧ (n < a ∨ b < n) ∧ w = w') :=
  (l1In_any n a b w).mono fun e w' ⟨he, hw⟩ => by
    by_cases h : a ≤ n ∧ n ≤ b
    · exact .inl ⟨by rw [he, inB_pos h.1 h.2], h, hw⟩
    · exact .inr ⟨by rw [he, inB_neg h], by omega, hw⟩

theorem within_cases (n a b : Int) (w : World) : Calls Try.prog 62 #[.int .i64 n, .int .i64 a, .int .i64 b] w fun e w' =>
    (e = .returned (.bool true) ∧ (a ≤ n ∧ n ≤ b) ∧ w = w') ∨ (e = .returned (.bool false) ∧ (n < a ∨ b < n) ∧ w = w') :=
  (within_any n a b w).mono fun e w' ⟨he, hw⟩ => by
    by_cases h : a ≤ n ∧ n ≤ b
    · exact .inl ⟨by rw [he, inB_pos h.1 h.2], h, hw⟩
    · exact .inr ⟨by rw [he, inB_neg h], by omega, hw⟩
theorem l1Most_any (a b : Int) (w : World) : Calls Try.prog 69 #[.int .i64 a, .int .i64 b] w fun e w' => e = .returned (.int .i64 (max a b)) ∧ w = w' := by
  by_cases h : b < a
  · rw [show max a b = a by omega]
    go_enter Try.func69, Try.ntmps69
    go_wp2
    go_ret
    exact ⟨rfl, rfl⟩
  · rw [show max a b = b by omega]
    go_enter Try.func69, Try.ntmps69
    go_wp2
    go_ret
    exact ⟨rfl, rfl⟩
theorem l1Least_any (a b : Int) (w : World) : Calls Try.prog 68 #[.int .i64 a, .int .i64 b] w fun e w' => e = .returned (.int .i64 (min a b)) ∧ w = w' := by
  by_cases h : a < b
  · rw [show min a b = a by omega]
    go_enter Try.func68, Try.ntmps68
    go_wp2
    go_ret
    exact ⟨rfl, rfl⟩
  · rw [show min a b = b by omega]
    go_enter Try.func68, Try.ntmps68
    go_wp2
    go_ret
    exact ⟨rfl, rfl⟩
end Go.Proofs.Ytkgnfmdeimaedaa
