/- WaterToAdd: the reference and the program give the same number. -/
import Derived.Test.YtgehoihfiboeeaaLose
namespace Go.Proofs.Ytgehoihfiboeeaa
open Go.RowKit
set_option linter.unusedVariables false

theorem specAdd_yes (a b n d : Int) (w : World) (h : waterP a b n d) (hz : a + b ≠ 0) (hm : a + addV a b n d ≤ 1000000) :
    Calls Try.prog 13 #[.agg #[.int .i64 a, .int .i64 b], .int .i64 n, .int .i64 d] w fun e w' => e = .returned (.tuple #[.int .i64 (addV a b n d), .bool true]) ∧ Ext w w' := by
  unfold addV at *
  obtain ⟨⟨⟨a0, a1⟩, b0, b1⟩, ⟨n0, nd⟩, d1⟩ := h
  have hr : rateB n d = true := rateB_iff.2 ⟨⟨n0, nd⟩, d1⟩
  have hb : brineB a b = true := brineB_iff.2 ⟨⟨a0, a1⟩, ⟨by omega, b1⟩⟩
  have hz : (a + b == 0) = false := by simp; omega
  obtain ⟨⟨m0, m1⟩, _, _, ⟨q0, q1⟩⟩ := water_facts a0 a1 b0 b1 n0 nd d1
  go_enter Try.func13, Try.ntmps13
  go_wp2_with (first | (go_at_call 51; refine (l2Brine_any _ _ _).mono ?_; rintro e w1 ⟨rfl, hx⟩; (try replace hx := Ext.flat hx); obtain ⟨x, rfl⟩ := hx.to_gw; clear hx) | (go_at_call 52; refine (l2Rate_any _ _ _).mono ?_; rintro e w1 ⟨rfl, rfl⟩) | (go_at_call 54; refine (l2Mass_any _ _ _ (by omega) (by omega) (by omega) (by omega)).mono ?_; rintro e w1 ⟨rfl, hx⟩; (try replace hx := Ext.flat hx); obtain ⟨x, rfl⟩ := hx.to_gw; clear hx))
  first | refine wp_region_grow2 (by kernel_rfl) (by kernel_rfl) ?_ | refine wp_region_grow (by kernel_rfl) (by kernel_rfl) ?_
  repeat (go_big_quiet_step (first | (go_at_call 54; exact grow_of (l2Mass_any _ _ _ (by omega) (by omega) (by omega) (by omega))) | (go_at_call 53; exact grow_same (l1Most_any _ _ _))))
  refine wpQuiet_nil ?_
  rintro _ ⟨xq, rfl⟩
  go_wp2
  go_ret2
  exact ⟨rfl, by repeat (with_reducible first | exact Ext.refl _ | refine Ext.setCell ?_ (by first | (simp; done) | (simp; omega)) _ | refine Ext.alloc ?_ _ | refine Ext.gw ?_ _ | refine Ext.drew ?_)⟩
theorem specAdd_far (a b n d : Int) (w : World) (h : waterP a b n d) (hz : a + b ≠ 0) (hm : 1000000 < a + addV a b n d) :
    Calls Try.prog 13 #[.agg #[.int .i64 a, .int .i64 b], .int .i64 n, .int .i64 d] w fun e w' => e = .returned (.tuple #[.int .i64 0, .bool false]) ∧ Ext w w' := by
  unfold addV at *
  obtain ⟨⟨⟨a0, a1⟩, b0, b1⟩, ⟨n0, nd⟩, d1⟩ := h
  have hr : rateB n d = true := rateB_iff.2 ⟨⟨n0, nd⟩, d1⟩
  have hb : brineB a b = true := brineB_iff.2 ⟨⟨a0, a1⟩, ⟨by omega, b1⟩⟩
  have hz : (a + b == 0) = false := by simp; omega
  obtain ⟨⟨m0, m1⟩, _, _, ⟨q0, q1⟩⟩ := water_facts a0 a1 b0 b1 n0 nd d1
  go_enter Try.func13, Try.ntmps13
  go_wp2_with (first | (go_at_call 51; refine (l2Brine_any _ _ _).mono ?_; rintro e w1 ⟨rfl, hx⟩; (try replace hx := Ext.flat hx); obtain ⟨x, rfl⟩ := hx.to_gw; clear hx) | (go_at_call 52; refine (l2Rate_any _ _ _).mono ?_; rintro e w1 ⟨rfl, rfl⟩) | (go_at_call 54; refine (l2Mass_any _ _ _ (by omega) (by omega) (by omega) (by omega)).mono ?_; rintro e w1 ⟨rfl, hx⟩; (try replace hx := Ext.flat hx); obtain ⟨x, rfl⟩ := hx.to_gw; clear hx))
  first | refine wp_region_grow2 (by kernel_rfl) (by kernel_rfl) ?_ | refine wp_region_grow (by kernel_rfl) (by kernel_rfl) ?_
  repeat (go_big_quiet_step (first | (go_at_call 54; exact grow_of (l2Mass_any _ _ _ (by omega) (by omega) (by omega) (by omega))) | (go_at_call 53; exact grow_same (l1Most_any _ _ _))))
  refine wpQuiet_nil ?_
  rintro _ ⟨xq, rfl⟩
  go_wp2
  go_ret2
  exact ⟨rfl, by repeat (with_reducible first | exact Ext.refl _ | refine Ext.setCell ?_ (by first | (simp; done) | (simp; omega)) _ | refine Ext.alloc ?_ _ | refine Ext.gw ?_ _ | refine Ext.drew ?_)⟩
theorem implAdd_yes (a b n d : Int) (w : World) (h : waterP a b n d) (hz : a + b ≠ 0) (hm : a + addV a b n d ≤ 1000000) :
    Calls Try.prog 12 #[.agg #[.int .i64 a, .int .i64 b], .int .i64 n, .int .i64 d] w fun e w' => e = .returned (.tuple #[.int .i64 (addV a b n d), .bool true]) ∧ Ext w w' := by
  obtain ⟨⟨⟨a0, a1⟩, b0, b1⟩, ⟨n0, nd⟩, d1⟩ := h
  rw [show addV a b n d = (max (b * d - n * (a + b)) 0 + n - 1) / n from (add_eq (a + b) (b * d) n n0).symm] at *
  have hr : rateB n d = true := rateB_iff.2 ⟨⟨n0, nd⟩, d1⟩
  have hb : brineB a b = true := brineB_iff.2 ⟨⟨a0, a1⟩, ⟨by omega, b1⟩⟩
  have hz : (a + b == 0) = false := by simp; omega
  obtain ⟨⟨m0, m1⟩, ⟨k0, k1⟩, _, _⟩ := water_facts a0 a1 b0 b1 n0 nd d1
  have q0 : 0 ≤ (max (b * d - n * (a + b)) 0 + n - 1) / n := Int.ediv_nonneg (by omega) (by omega)
  by_cases hk : 0 ≤ b * d - n * (a + b)
  · rw [show max (b * d - n * (a + b)) 0 = b * d - n * (a + b) by omega] at *
    go_enter Try.func12, Try.ntmps12
    go_wp2_with (first | (go_at_call 47; refine (isBrine_any _ _ _).mono ?_; rintro e w1 ⟨rfl, hx⟩; (try replace hx := Ext.flat hx); obtain ⟨x, rfl⟩ := hx.to_gw; clear hx) | (go_at_call 48; refine (isStrength_any _ _ _).mono ?_; rintro e w1 ⟨rfl, rfl⟩) | (go_at_call 50; refine (mass_any _ _ _ (by omega) (by omega) (by omega) (by omega)).mono ?_; rintro e w1 ⟨rfl, hx⟩; (try replace hx := Ext.flat hx); obtain ⟨x, rfl⟩ := hx.to_gw; clear hx))
    first | refine wp_region_grow2 (by kernel_rfl) (by kernel_rfl) ?_ | refine wp_region_grow (by kernel_rfl) (by kernel_rfl) ?_
    repeat (go_big_quiet_step (first | (go_at_call 50; exact grow_of (mass_any _ _ _ (by omega) (by omega) (by omega) (by omega))) | (go_at_call 49; exact grow_same (ceilDiv_any _ _ _ (by omega) (by omega) (by omega) (by omega)))))
    refine wpQuiet_nil ?_
    rintro _ ⟨xq, rfl⟩
    go_wp2
    go_ret2
    exact ⟨rfl, by repeat (with_reducible first | exact Ext.refl _ | refine Ext.setCell ?_ (by first | (simp; done) | (simp; omega)) _ | refine Ext.alloc ?_ _ | refine Ext.gw ?_ _ | refine Ext.drew ?_)⟩
  · rw [show max (b * d - n * (a + b)) 0 = 0 by omega] at *
    have hq0 : (0 + n - 1) / n = 0 := Int.ediv_eq_zero_of_lt (by omega) (by omega)
    have hq1 : (n - 1) / n = 0 := Int.ediv_eq_zero_of_lt (by omega) (by omega)
    rw [hq0] at *
    go_enter Try.func12, Try.ntmps12
    go_wp2_with (first | (go_at_call 47; refine (isBrine_any _ _ _).mono ?_; rintro e w1 ⟨rfl, hx⟩; (try replace hx := Ext.flat hx); obtain ⟨x, rfl⟩ := hx.to_gw; clear hx) | (go_at_call 48; refine (isStrength_any _ _ _).mono ?_; rintro e w1 ⟨rfl, rfl⟩) | (go_at_call 50; refine (mass_any _ _ _ (by omega) (by omega) (by omega) (by omega)).mono ?_; rintro e w1 ⟨rfl, hx⟩; (try replace hx := Ext.flat hx); obtain ⟨x, rfl⟩ := hx.to_gw; clear hx))
    first | refine wp_region_grow2 (by kernel_rfl) (by kernel_rfl) ?_ | refine wp_region_grow (by kernel_rfl) (by kernel_rfl) ?_
    repeat (go_big_quiet_step (first | (go_at_call 50; exact grow_of (mass_any _ _ _ (by omega) (by omega) (by omega) (by omega))) | (go_at_call 49; exact grow_same (ceilDiv_any _ _ _ (by omega) (by omega) (by omega) (by omega)))))
    refine wpQuiet_nil ?_
    rintro _ ⟨xq, rfl⟩
    go_wp2
    go_ret2
    exact ⟨by simp [hq1], by repeat (with_reducible first | exact Ext.refl _ | refine Ext.setCell ?_ (by first | (simp; done) | (simp; omega)) _ | refine Ext.alloc ?_ _ | refine Ext.gw ?_ _ | refine Ext.drew ?_)⟩
theorem implAdd_far (a b n d : Int) (w : World) (h : waterP a b n d) (hz : a + b ≠ 0) (hm : 1000000 < a + addV a b n d) :
    Calls Try.prog 12 #[.agg #[.int .i64 a, .int .i64 b], .int .i64 n, .int .i64 d] w fun e w' => e = .returned (.tuple #[.int .i64 0, .bool false]) ∧ Ext w w' := by
  obtain ⟨⟨⟨a0, a1⟩, b0, b1⟩, ⟨n0, nd⟩, d1⟩ := h
  rw [show addV a b n d = (max (b * d - n * (a + b)) 0 + n - 1) / n from (add_eq (a + b) (b * d) n n0).symm] at *
  have hr : rateB n d = true := rateB_iff.2 ⟨⟨n0, nd⟩, d1⟩
  have hb : brineB a b = true := brineB_iff.2 ⟨⟨a0, a1⟩, ⟨by omega, b1⟩⟩
  have hz : (a + b == 0) = false := by simp; omega
  obtain ⟨⟨m0, m1⟩, ⟨k0, k1⟩, _, _⟩ := water_facts a0 a1 b0 b1 n0 nd d1
  have q0 : (max (b * d - n * (a + b)) 0 + n - 1) / n ≤ (max (b * d - n * (a + b)) 0 + n - 1) := Int.ediv_le_self _ (by omega)
  by_cases hk : 0 ≤ b * d - n * (a + b)
  · rw [show max (b * d - n * (a + b)) 0 = b * d - n * (a + b) by omega] at *
    go_enter Try.func12, Try.ntmps12
    go_wp2_with (first | (go_at_call 47; refine (isBrine_any _ _ _).mono ?_; rintro e w1 ⟨rfl, hx⟩; (try replace hx := Ext.flat hx); obtain ⟨x, rfl⟩ := hx.to_gw; clear hx) | (go_at_call 48; refine (isStrength_any _ _ _).mono ?_; rintro e w1 ⟨rfl, rfl⟩) | (go_at_call 50; refine (mass_any _ _ _ (by omega) (by omega) (by omega) (by omega)).mono ?_; rintro e w1 ⟨rfl, hx⟩; (try replace hx := Ext.flat hx); obtain ⟨x, rfl⟩ := hx.to_gw; clear hx))
    first | refine wp_region_grow2 (by kernel_rfl) (by kernel_rfl) ?_ | refine wp_region_grow (by kernel_rfl) (by kernel_rfl) ?_
    repeat (go_big_quiet_step (first | (go_at_call 50; exact grow_of (mass_any _ _ _ (by omega) (by omega) (by omega) (by omega))) | (go_at_call 49; exact grow_same (ceilDiv_any _ _ _ (by omega) (by omega) (by omega) (by omega)))))
    refine wpQuiet_nil ?_
    rintro _ ⟨xq, rfl⟩
    go_wp2
    go_ret2
    exact ⟨rfl, by repeat (with_reducible first | exact Ext.refl _ | refine Ext.setCell ?_ (by first | (simp; done) | (simp; omega)) _ | refine Ext.alloc ?_ _ | refine Ext.gw ?_ _ | refine Ext.drew ?_)⟩
  · rw [show max (b * d - n * (a + b)) 0 = 0 by omega] at *
    have hq0 : (0 + n - 1) / n = 0 := Int.ediv_eq_zero_of_lt (by omega) (by omega)
    rw [hq0] at hm
    exfalso
    omega
theorem specAdd_no (a b n d : Int) (w : World) (h : ¬ (waterP a b n d ∧ a + b ≠ 0)) :
    Calls Try.prog 13 #[.agg #[.int .i64 a, .int .i64 b], .int .i64 n, .int .i64 d] w fun e w' => e = .returned (.tuple #[.int .i64 0, .bool false]) ∧ Ext w w' := by
  by_cases hb : brineB a b = true
  · obtain ⟨⟨a0, a1⟩, b0, b1⟩ := brineB_iff.1 hb
    by_cases hz : a + b = 0
    · have hz : (a + b == 0) = true := by simp; omega
      clear h
      go_enter Try.func13, Try.ntmps13
      go_wp2_with (first | (go_at_call 51; refine (l2Brine_any _ _ _).mono ?_; rintro e w1 ⟨rfl, hx⟩; (try replace hx := Ext.flat hx); obtain ⟨x, rfl⟩ := hx.to_gw; clear hx) | (go_at_call 52; refine (l2Rate_any _ _ _).mono ?_; rintro e w1 ⟨rfl, rfl⟩) | (go_at_call 54; refine (l2Mass_any _ _ _ (by omega) (by omega) (by omega) (by omega)).mono ?_; rintro e w1 ⟨rfl, hx⟩; (try replace hx := Ext.flat hx); obtain ⟨x, rfl⟩ := hx.to_gw; clear hx))
      go_ret2
      exact ⟨rfl, by repeat (with_reducible first | exact Ext.refl _ | refine Ext.setCell ?_ (by first | (simp; done) | (simp; omega)) _ | refine Ext.alloc ?_ _ | refine Ext.gw ?_ _ | refine Ext.drew ?_)⟩
    · have hr : rateB n d = false := Bool.eq_false_iff.2 fun hr => h ⟨⟨brineB_iff.1 hb, rateB_iff.1 hr⟩, hz⟩
      have hz : (a + b == 0) = false := by simp; omega
      clear h
      go_enter Try.func13, Try.ntmps13
      go_wp2_with (first | (go_at_call 51; refine (l2Brine_any _ _ _).mono ?_; rintro e w1 ⟨rfl, hx⟩; (try replace hx := Ext.flat hx); obtain ⟨x, rfl⟩ := hx.to_gw; clear hx) | (go_at_call 52; refine (l2Rate_any _ _ _).mono ?_; rintro e w1 ⟨rfl, rfl⟩) | (go_at_call 54; refine (l2Mass_any _ _ _ (by omega) (by omega) (by omega) (by omega)).mono ?_; rintro e w1 ⟨rfl, hx⟩; (try replace hx := Ext.flat hx); obtain ⟨x, rfl⟩ := hx.to_gw; clear hx))
      go_ret2
      exact ⟨rfl, by repeat (with_reducible first | exact Ext.refl _ | refine Ext.setCell ?_ (by first | (simp; done) | (simp; omega)) _ | refine Ext.alloc ?_ _ | refine Ext.gw ?_ _ | refine Ext.drew ?_)⟩
  · have hb : brineB a b = false := by simpa using hb
    clear h
    go_enter Try.func13, Try.ntmps13
    go_wp2_with (first | (go_at_call 51; refine (l2Brine_any _ _ _).mono ?_; rintro e w1 ⟨rfl, hx⟩; (try replace hx := Ext.flat hx); obtain ⟨x, rfl⟩ := hx.to_gw; clear hx) | (go_at_call 52; refine (l2Rate_any _ _ _).mono ?_; rintro e w1 ⟨rfl, rfl⟩) | (go_at_call 54; refine (l2Mass_any _ _ _ (by omega) (by omega) (by omega) (by omega)).mono ?_; rintro e w1 ⟨rfl, hx⟩; (try replace hx := Ext.flat hx); obtain ⟨x, rfl⟩ := hx.to_gw; clear hx))
    go_ret2
    exact ⟨rfl, by repeat (with_reducible first | exact Ext.refl _ | refine Ext.setCell ?_ (by first | (simp; done) | (simp; omega)) _ | refine Ext.alloc ?_ _ | refine Ext.gw ?_ _ | refine Ext.drew ?_)⟩
theorem implAdd_no (a b n d : Int) (w : World) (h : ¬ (waterP a b n d ∧ a + b ≠ 0)) :
    Calls Try.prog 12 #[.agg #[.int .i64 a, .int .i64 b], .int .i64 n, .int .i64 d] w fun e w' => e = .returned (.tuple #[.int .i64 0, .bool false]) ∧ Ext w w' := by
  by_cases hb : brineB a b = true
  · obtain ⟨⟨a0, a1⟩, b0, b1⟩ := brineB_iff.1 hb
    by_cases hz : a + b = 0
    · have hz : (a + b == 0) = true := by simp; omega
      clear h
      go_enter Try.func12, Try.ntmps12
      go_wp2_with (first | (go_at_call 47; refine (isBrine_any _ _ _).mono ?_; rintro e w1 ⟨rfl, hx⟩; (try replace hx := Ext.flat hx); obtain ⟨x, rfl⟩ := hx.to_gw; clear hx) | (go_at_call 48; refine (isStrength_any _ _ _).mono ?_; rintro e w1 ⟨rfl, rfl⟩) | (go_at_call 50; refine (mass_any _ _ _ (by omega) (by omega) (by omega) (by omega)).mono ?_; rintro e w1 ⟨rfl, hx⟩; (try replace hx := Ext.flat hx); obtain ⟨x, rfl⟩ := hx.to_gw; clear hx))
      go_ret2
      exact ⟨rfl, by repeat (with_reducible first | exact Ext.refl _ | refine Ext.setCell ?_ (by first | (simp; done) | (simp; omega)) _ | refine Ext.alloc ?_ _ | refine Ext.gw ?_ _ | refine Ext.drew ?_)⟩
    · have hr : rateB n d = false := Bool.eq_false_iff.2 fun hr => h ⟨⟨brineB_iff.1 hb, rateB_iff.1 hr⟩, hz⟩
      have hz : (a + b == 0) = false := by simp; omega
      clear h
      go_enter Try.func12, Try.ntmps12
      go_wp2_with (first | (go_at_call 47; refine (isBrine_any _ _ _).mono ?_; rintro e w1 ⟨rfl, hx⟩; (try replace hx := Ext.flat hx); obtain ⟨x, rfl⟩ := hx.to_gw; clear hx) | (go_at_call 48; refine (isStrength_any _ _ _).mono ?_; rintro e w1 ⟨rfl, rfl⟩) | (go_at_call 50; refine (mass_any _ _ _ (by omega) (by omega) (by omega) (by omega)).mono ?_; rintro e w1 ⟨rfl, hx⟩; (try replace hx := Ext.flat hx); obtain ⟨x, rfl⟩ := hx.to_gw; clear hx))
      go_ret2
      exact ⟨rfl, by repeat (with_reducible first | exact Ext.refl _ | refine Ext.setCell ?_ (by first | (simp; done) | (simp; omega)) _ | refine Ext.alloc ?_ _ | refine Ext.gw ?_ _ | refine Ext.drew ?_)⟩
  · have hb : brineB a b = false := by simpa using hb
    clear h
    go_enter Try.func12, Try.ntmps12
    go_wp2_with (first | (go_at_call 47; refine (isBrine_any _ _ _).mono ?_; rintro e w1 ⟨rfl, hx⟩; (try replace hx := Ext.flat hx); obtain ⟨x, rfl⟩ := hx.to_gw; clear hx) | (go_at_call 48; refine (isStrength_any _ _ _).mono ?_; rintro e w1 ⟨rfl, rfl⟩) | (go_at_call 50; refine (mass_any _ _ _ (by omega) (by omega) (by omega) (by omega)).mono ?_; rintro e w1 ⟨rfl, hx⟩; (try replace hx := Ext.flat hx); obtain ⟨x, rfl⟩ := hx.to_gw; clear hx))
    go_ret2
    exact ⟨rfl, by repeat (with_reducible first | exact Ext.refl _ | refine Ext.setCell ?_ (by first | (simp; done) | (simp; omega)) _ | refine Ext.alloc ?_ _ | refine Ext.gw ?_ _ | refine Ext.drew ?_)⟩
end Go.Proofs.Ytgehoihfiboeeaa
