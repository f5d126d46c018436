/- The contracts of the functions that say whether a worker or a pond is valid. -/
import Derived.Test.YtkgnfmdeimaedaaInts
namespace Go.Proofs.Ytkgnfmdeimaedaa
open Go.RowKit
set_option linter.unusedVariables false

def workP (id gang rakes free : Int) : Prop := (1 ≤ id ∧ id ≤ 99) ∧ (0 ≤ gang ∧ gang ≤ 5) ∧ (1 ≤ rakes ∧ rakes ≤ 50) ∧ (0 ≤ free ∧ free ≤ 6)
instance (id gang rakes free : Int) : Decidable (workP id gang rakes free) := by unfold workP; infer_instance
def workB (id gang rakes free : Int) : Bool := decide (workP id gang rakes free)
theorem workB_iff {a b c d : Int} : workB a b c d = true ↔ workP a b c d := by unfold workB; exact decide_eq_true_iff
def pondP (id l t w h d : Int) : Prop := (1 ≤ id ∧ id ≤ 99) ∧ (0 ≤ l ∧ l ≤ 49) ∧ (0 ≤ t ∧ t ≤ 49) ∧ (1 ≤ w ∧ w ≤ 20) ∧ (1 ≤ h ∧ h ≤ 20) ∧ l + w ≤ 50 ∧ t + h ≤ 50 ∧ (5 ≤ d ∧ d ≤ 200)
instance (id l t w h d : Int) : Decidable (pondP id l t w h d) := by unfold pondP; infer_instance
def pondB (id l t w h d : Int) : Bool := decide (pondP id l t w h d)
theorem pondB_iff {a b c d f g : Int} : pondB a b c d f g = true ↔ pondP a b c d f g := by unfold pondB; exact decide_eq_true_iff

theorem isId_any (n : Int) (w : World) : Calls Try.prog 79 #[.int .i64 n] w fun e w' => e = .returned (.bool (inB n 1 99)) ∧ w = w' := by
  go_enter Try.func79, Try.ntmps79
  go_wp2_with (go_at_call 62; refine (within_any _ _ _ _).mono ?_; rintro e w1 ⟨rfl, rfl⟩)
  go_ret
  exact ⟨rfl, rfl⟩
theorem isId_cases (n : Int) (w : World) : Calls Try.prog 79 #[.int .i64 n] w fun e w' =>
    (e = .returned (.bool true) ∧ (1 ≤ n ∧ n ≤ 99) ∧ w = w') ∨ (e = .returned (.bool false) ∧ (n < 1 ∨ 99 < n) ∧ w = w') :=
  (isId_any n w).mono fun e w' ⟨he, hw⟩ => by
    by_cases h : 1 ≤ n ∧ n ≤ 99
    · exact .inl ⟨by rw [he, inB_pos h.1 h.2], h, hw⟩
    · exact .inr ⟨by rw [he, inB_neg h], by omega, hw⟩
theorem toPond_any (a b c d f g : Int) (w : World) : Calls Try.prog 58 #[.agg #[.int .i64 a, .int .i64 b, .int .i64 c, .int .i64 d, .int .i64 f, .int .i64 g]] w fun e w' => e = .returned (.agg #[.int .i64 a, .int .i64 b, .int .i64 c, .int .i64 d, .int .i64 f, .int .i64 g]) ∧ Ext w w' := by
  go_enter Try.func58, Try.ntmps58
  go_wp2
  exact bodyPost_ret (v := .agg #[.int .i64 a, .int .i64 b, .int .i64 c, .int .i64 d, .int .i64 f, .int .i64 g]) (by simp [results, Try.results58, go_sem]) rfl ⟨rfl, by repeat (first | exact Ext.refl _ | refine Ext.alloc ?_ _ | refine Ext.setCell ?_ (by simp) _)⟩

theorem l3One_any (a b c d f g : Int) (w : World) : Calls Try.prog 80 #[.agg #[.int .i64 a, .int .i64 b, .int .i64 c, .int .i64 d, .int .i64 f, .int .i64 g]] w fun e w' => e = .returned (.bool (pondB a b c d f g)) ∧ Ext w w' := by
  go_enter Try.func80, Try.ntmps80
  go_wp2_with (go_at_call 61; refine (l1In_cases _ _ _ _).mono ?_; rintro e w1 (⟨rfl, hin, rfl⟩ | ⟨rfl, hout, rfl⟩))
  all_goals
    go_ret
    exact ⟨ret_bool (by first | exact (decide_eq_true (by unfold pondP; omega)).symm | exact (decide_eq_false (by unfold pondP; omega)).symm), by repeat (first | exact Ext.refl _ | refine Ext.alloc ?_ _)⟩

theorem isPond_any (a b c d f g : Int) (w : World) : Calls Try.prog 51 #[.agg #[.int .i64 a, .int .i64 b, .int .i64 c, .int .i64 d, .int .i64 f, .int .i64 g]] w fun e w' => e = .returned (.bool (pondB a b c d f g)) ∧ Ext w w' := by
  go_enter Try.func51, Try.ntmps51
  go_wp2_with (first
    | (go_at_call 62; refine (within_cases _ _ _ _).mono ?_; rintro e w1 (⟨rfl, hin, rfl⟩ | ⟨rfl, hout, rfl⟩))
    | (go_at_call 79; refine (isId_cases _ _).mono ?_; rintro e w1 (⟨rfl, hin, rfl⟩ | ⟨rfl, hout, rfl⟩)))
  all_goals
    go_ret
    exact ⟨ret_bool (by first | exact (decide_eq_true (by unfold pondP; omega)).symm | exact (decide_eq_false (by unfold pondP; omega)).symm), by repeat (first | exact Ext.refl _ | refine Ext.alloc ?_ _)⟩
theorem specIsPond_any (a b c d f g : Int) (w : World) : Calls Try.prog 52 #[.agg #[.int .i64 a, .int .i64 b, .int .i64 c, .int .i64 d, .int .i64 f, .int .i64 g]] w fun e w' => e = .returned (.bool (pondB a b c d f g)) ∧ Ext w w' := by
  go_enter Try.func52, Try.ntmps52
  go_wp2_with (go_at_call 80; refine (l3One_any _ _ _ _ _ _ _).mono ?_; rintro e w1 ⟨rfl, hx⟩; obtain ⟨x, rfl⟩ := hx.to_gw)
  go_ret
  exact ⟨rfl, by repeat (first | exact Ext.refl _ | refine Ext.alloc ?_ _ | refine Ext.gw ?_ _)⟩
end Go.Proofs.Ytkgnfmdeimaedaa
