/- StrengthOf: the contracts, and the walk of the law. -/
import Derived.Test.YtgehoihfiboeeaaIntFns
import Derived.Test.YtgehoihfiboeeaaGcd
namespace Go.Proofs.Ytgehoihfiboeeaa
open Go.RowKit
set_option linter.unusedVariables false

def strengthP (a b : Int) : Prop := ((0 ≤ a ∧ a ≤ 1000000) ∧ (0 ≤ b ∧ b ≤ 1000000)) ∧ a + b ≠ 0
theorem specStrength_no (a b : Int) (w : World) (h : ¬ strengthP a b) : Calls Try.prog 18 #[.agg #[.int .i64 a, .int .i64 b]] w fun e w' => e = .returned (.tuple #[.int .i64 0, .int .i64 0, .bool false]) ∧ Ext w w' := by
  by_cases hb : brineB a b = true
  · obtain ⟨⟨a0, a1⟩, b0, b1⟩ := brineB_iff.1 hb
    have hz : a + b = 0 := by
      by_cases hz : a + b = 0
      · exact hz
      · exact absurd ⟨⟨⟨a0, a1⟩, b0, b1⟩, hz⟩ h
    have hz : (a + b == 0) = true := by simp; omega
    clear h
    go_enter Try.func18, Try.ntmps18
    go_wp2_with (first | (go_at_call 51; refine (l2Brine_any _ _ _).mono ?_; rintro e w1 ⟨rfl, hx⟩; (try replace hx := Ext.flat hx); obtain ⟨x, rfl⟩ := hx.to_gw; clear hx) | (go_at_call 54; refine (l2Mass_any _ _ _ (by omega) (by omega) (by omega) (by omega)).mono ?_; rintro e w1 ⟨rfl, hx⟩; (try replace hx := Ext.flat hx); obtain ⟨x, rfl⟩ := hx.to_gw; clear hx))
    go_ret3
    exact ⟨rfl, by repeat (with_reducible first | exact Ext.refl _ | refine Ext.setCell ?_ (by first | (simp; done) | (simp; omega)) _ | refine Ext.alloc ?_ _ | refine Ext.gw ?_ _ | refine Ext.drew ?_)⟩
  · have hb : brineB a b = false := by simpa using hb
    clear h
    go_enter Try.func18, Try.ntmps18
    go_wp2_with (first | (go_at_call 51; refine (l2Brine_any _ _ _).mono ?_; rintro e w1 ⟨rfl, hx⟩; (try replace hx := Ext.flat hx); obtain ⟨x, rfl⟩ := hx.to_gw; clear hx) | (go_at_call 54; refine (l2Mass_any _ _ _ (by omega) (by omega) (by omega) (by omega)).mono ?_; rintro e w1 ⟨rfl, hx⟩; (try replace hx := Ext.flat hx); obtain ⟨x, rfl⟩ := hx.to_gw; clear hx))
    go_ret3
    exact ⟨rfl, by repeat (with_reducible first | exact Ext.refl _ | refine Ext.setCell ?_ (by first | (simp; done) | (simp; omega)) _ | refine Ext.alloc ?_ _ | refine Ext.gw ?_ _ | refine Ext.drew ?_)⟩
theorem specStrength_yes (a b : Int) (w : World) (h : strengthP a b) : Calls Try.prog 18 #[.agg #[.int .i64 a, .int .i64 b]] w fun e w' => e = .returned (.tuple #[.int .i64 (redN b (a + b)), .int .i64 (redD b (a + b)), .bool true]) ∧ Ext w w' := by
  obtain ⟨⟨⟨a0, a1⟩, b0, b1⟩, hz⟩ := h
  have hb : brineB a b = true := brineB_iff.2 ⟨⟨a0, a1⟩, b0, b1⟩
  have hp : 0 < a + b := by omega
  have hz : (a + b == 0) = false := by simp; omega
  go_enter Try.func18, Try.ntmps18
  go_wp2_with (first | (go_at_call 51; refine (l2Brine_any _ _ _).mono ?_; rintro e w1 ⟨rfl, hx⟩; (try replace hx := Ext.flat hx); obtain ⟨x, rfl⟩ := hx.to_gw; clear hx) | (go_at_call 54; refine (l2Mass_any _ _ _ (by omega) (by omega) (by omega) (by omega)).mono ?_; rintro e w1 ⟨rfl, hx⟩; (try replace hx := Ext.flat hx); obtain ⟨x, rfl⟩ := hx.to_gw; clear hx))
  first | refine wp_region_grow2 (by kernel_rfl) (by kernel_rfl) ?_ | refine wp_region_grow (by kernel_rfl) (by kernel_rfl) ?_
  repeat (go_big_quiet_step (first | (go_at_call 54; exact grow_of (l2Mass_any _ _ _ (by omega) (by omega) (by omega) (by omega))) | (go_at_call 59; exact grow_of (l2Reduce_any _ _ _ (by omega) (by omega) (by omega) (by omega)))))
  refine wpQuiet_nil ?_
  rintro _ ⟨xq, rfl⟩
  go_wp2
  go_ret3
  exact ⟨rfl, by repeat (with_reducible first | exact Ext.refl _ | refine Ext.setCell ?_ (by first | (simp; done) | (simp; omega)) _ | refine Ext.alloc ?_ _ | refine Ext.gw ?_ _ | refine Ext.drew ?_)⟩
theorem implStrength_no (a b : Int) (w : World) (h : ¬ strengthP a b) : Calls Try.prog 10 #[.agg #[.int .i64 a, .int .i64 b]] w fun e w' => e = .returned (.tuple #[.int .i64 0, .int .i64 0, .bool false]) ∧ Ext w w' := by
  by_cases hb : brineB a b = true
  · obtain ⟨⟨a0, a1⟩, b0, b1⟩ := brineB_iff.1 hb
    have hz : a + b = 0 := by
      by_cases hz : a + b = 0
      · exact hz
      · exact absurd ⟨⟨⟨a0, a1⟩, b0, b1⟩, hz⟩ h
    have hz : (a + b == 0) = true := by simp; omega
    clear h
    go_enter Try.func10, Try.ntmps10
    go_wp2_with (first | (go_at_call 47; refine (isBrine_any _ _ _).mono ?_; rintro e w1 ⟨rfl, hx⟩; (try replace hx := Ext.flat hx); obtain ⟨x, rfl⟩ := hx.to_gw; clear hx) | (go_at_call 50; refine (mass_any _ _ _ (by omega) (by omega) (by omega) (by omega)).mono ?_; rintro e w1 ⟨rfl, hx⟩; (try replace hx := Ext.flat hx); obtain ⟨x, rfl⟩ := hx.to_gw; clear hx))
    go_ret3
    exact ⟨rfl, by repeat (with_reducible first | exact Ext.refl _ | refine Ext.setCell ?_ (by first | (simp; done) | (simp; omega)) _ | refine Ext.alloc ?_ _ | refine Ext.gw ?_ _ | refine Ext.drew ?_)⟩
  · have hb : brineB a b = false := by simpa using hb
    clear h
    go_enter Try.func10, Try.ntmps10
    go_wp2_with (first | (go_at_call 47; refine (isBrine_any _ _ _).mono ?_; rintro e w1 ⟨rfl, hx⟩; (try replace hx := Ext.flat hx); obtain ⟨x, rfl⟩ := hx.to_gw; clear hx) | (go_at_call 50; refine (mass_any _ _ _ (by omega) (by omega) (by omega) (by omega)).mono ?_; rintro e w1 ⟨rfl, hx⟩; (try replace hx := Ext.flat hx); obtain ⟨x, rfl⟩ := hx.to_gw; clear hx))
    go_ret3
    exact ⟨rfl, by repeat (with_reducible first | exact Ext.refl _ | refine Ext.setCell ?_ (by first | (simp; done) | (simp; omega)) _ | refine Ext.alloc ?_ _ | refine Ext.gw ?_ _ | refine Ext.drew ?_)⟩
theorem implStrength_yes (a b : Int) (w : World) (h : strengthP a b) : Calls Try.prog 10 #[.agg #[.int .i64 a, .int .i64 b]] w fun e w' => e = .returned (.tuple #[.int .i64 (redN b (a + b)), .int .i64 (redD b (a + b)), .bool true]) ∧ Ext w w' := by
  obtain ⟨⟨⟨a0, a1⟩, b0, b1⟩, hz⟩ := h
  have hb : brineB a b = true := brineB_iff.2 ⟨⟨a0, a1⟩, b0, b1⟩
  have hp : 0 < a + b := by omega
  have hz : (a + b == 0) = false := by simp; omega
  go_enter Try.func10, Try.ntmps10
  go_wp2_with (first | (go_at_call 47; refine (isBrine_any _ _ _).mono ?_; rintro e w1 ⟨rfl, hx⟩; (try replace hx := Ext.flat hx); obtain ⟨x, rfl⟩ := hx.to_gw; clear hx) | (go_at_call 50; refine (mass_any _ _ _ (by omega) (by omega) (by omega) (by omega)).mono ?_; rintro e w1 ⟨rfl, hx⟩; (try replace hx := Ext.flat hx); obtain ⟨x, rfl⟩ := hx.to_gw; clear hx))
  first | refine wp_region_grow2 (by kernel_rfl) (by kernel_rfl) ?_ | refine wp_region_grow (by kernel_rfl) (by kernel_rfl) ?_
  repeat (go_big_quiet_step (first | (go_at_call 50; exact grow_of (mass_any _ _ _ (by omega) (by omega) (by omega) (by omega))) | (go_at_call 55; exact grow_of (reduced_any _ _ _ (by omega) (by omega) (by omega) (by omega)))))
  refine wpQuiet_nil ?_
  rintro _ ⟨xq, rfl⟩
  go_wp2
  go_ret3
  exact ⟨rfl, by repeat (with_reducible first | exact Ext.refl _ | refine Ext.setCell ?_ (by first | (simp; done) | (simp; omega)) _ | refine Ext.alloc ?_ _ | refine Ext.gw ?_ _ | refine Ext.drew ?_)⟩

end Go.Proofs.Ytgehoihfiboeeaa
