/- WaterToLose, WaterToAdd: the reference and the program give the same number. -/
import Derived.Test.YtgehoihfiboeeaaIntFns
namespace Go.Proofs.Ytgehoihfiboeeaa
open Go.RowKit
set_option linter.unusedVariables false

def waterP (a b n d : Int) : Prop := ((0 ≤ a ∧ a ≤ 1000000) ∧ (0 ≤ b ∧ b ≤ 1000000)) ∧ ((1 ≤ n ∧ n ≤ d) ∧ d ≤ 1000)
def loseV (a b n d : Int) : Int := max 0 (a + b - b * d / n)
def addV (a b n d : Int) : Int := max 0 ((b * d + n - 1) / n - (a + b))
theorem lose_eq (M k n : Int) (hn : 1 ≤ n) : (max (n * M - k) 0 + n - 1) / n = max 0 (M - k / n) := by
  have h1 := Int.mul_ediv_add_emod k n
  have h2 := Int.emod_nonneg k (show n ≠ 0 by omega)
  have h3 := Int.emod_lt_of_pos k (show 0 < n by omega)
  generalize k / n = q at *
  generalize k % n = r at *
  by_cases h : M - q ≤ 0
  · have h4 : n * (M - q) ≤ 0 := Int.mul_nonpos_of_nonneg_of_nonpos (by omega) h
    have h5 : n * (M - q) = n * M - n * q := Int.mul_sub ..
    rw [show max (n * M - k) 0 = 0 by omega, show max 0 (M - q) = 0 by omega]
    exact Int.ediv_eq_zero_of_lt (by omega) (by omega)
  · have h4 : n * 1 ≤ n * (M - q) := Int.mul_le_mul_of_nonneg_left (by omega) (by omega)
    have h5 : n * (M - q) = n * M - n * q := Int.mul_sub ..
    rw [show max (n * M - k) 0 = n * (M - q) - r by omega, show max 0 (M - q) = M - q by omega,
      show n * (M - q) - r + n - 1 = (n - 1 - r) + n * (M - q) by omega, Int.add_mul_ediv_left _ _ (by omega), Int.ediv_eq_zero_of_lt (by omega) (by omega)]
    omega
theorem add_eq (M k n : Int) (hn : 1 ≤ n) : (max (k - n * M) 0 + n - 1) / n = max 0 ((k + n - 1) / n - M) := by
  have h1 : (k + n - 1) / n - M = (k - n * M + n - 1) / n := by
    rw [show k - n * M + n - 1 = (k + n - 1) + n * (-M) by rw [Int.mul_neg]; omega, Int.add_mul_ediv_left _ _ (by omega)]
    omega
  rw [h1]
  generalize k - n * M = j
  by_cases h : j ≤ 0
  · rw [show max j 0 = 0 by omega, Int.ediv_eq_zero_of_lt (by omega) (by omega)]
    have : (j + n - 1) / n ≤ (n - 1) / n := Int.ediv_le_ediv (by omega) (by omega)
    rw [Int.ediv_eq_zero_of_lt (show 0 ≤ n - 1 by omega) (by omega)] at this
    omega
  · rw [show max j 0 = j by omega]
    have : 0 ≤ (j + n - 1) / n := Int.ediv_nonneg (by omega) (by omega)
    omega
theorem water_facts {a b n d : Int} (a0 : 0 ≤ a) (a1 : a ≤ 1000000) (b0 : 0 ≤ b) (b1 : b ≤ 1000000) (n0 : 1 ≤ n) (nd : n ≤ d) (d1 : d ≤ 1000) :
    (0 ≤ b * d ∧ b * d ≤ 1000000000) ∧ (0 ≤ n * (a + b) ∧ n * (a + b) ≤ 2000000000) ∧ (0 ≤ b * d / n ∧ b * d / n ≤ b * d) ∧ (0 ≤ (b * d + n - 1) / n ∧ (b * d + n - 1) / n ≤ b * d + n - 1) := by
  have m0 : 0 ≤ b * d := Int.mul_nonneg (by omega) (by omega)
  have m1 : b * d ≤ 1000000 * 1000 := Int.mul_le_mul b1 d1 (by omega) (by omega)
  have k0 : 0 ≤ n * (a + b) := Int.mul_nonneg (by omega) (by omega)
  have k1 : n * (a + b) ≤ 1000 * 2000000 := Int.mul_le_mul (by omega) (by omega) (by omega) (by omega)
  exact ⟨⟨m0, by omega⟩, ⟨k0, by omega⟩, ⟨Int.ediv_nonneg m0 (by omega), Int.ediv_le_self _ m0⟩, ⟨Int.ediv_nonneg (by omega) (by omega), Int.ediv_le_self _ (by omega)⟩⟩

theorem specLose_yes (a b n d : Int) (w : World) (h : waterP a b n d) (hz : b ≠ 0) :
    Calls Try.prog 9 #[.agg #[.int .i64 a, .int .i64 b], .int .i64 n, .int .i64 d] w fun e w' => e = .returned (.tuple #[.int .i64 (loseV a b n d), .bool true]) ∧ Ext w w' := by
  obtain ⟨⟨⟨a0, a1⟩, b0, b1⟩, ⟨n0, nd⟩, d1⟩ := h
  have hr : rateB n d = true := rateB_iff.2 ⟨⟨n0, nd⟩, d1⟩
  have hb : brineB a b = true := brineB_iff.2 ⟨⟨a0, a1⟩, ⟨by omega, b1⟩⟩
  have hz : (b == 0) = false := by simp; omega
  obtain ⟨⟨m0, m1⟩, _, ⟨q0, q1⟩, _⟩ := water_facts a0 a1 b0 b1 n0 nd d1
  go_enter Try.func9, Try.ntmps9
  go_wp2_with (first | (go_at_call 51; refine (l2Brine_any _ _ _).mono ?_; rintro e w1 ⟨rfl, hx⟩; (try replace hx := Ext.flat hx); obtain ⟨x, rfl⟩ := hx.to_gw; clear hx) | (go_at_call 52; refine (l2Rate_any _ _ _).mono ?_; rintro e w1 ⟨rfl, rfl⟩))
  first | refine wp_region_grow2 (by kernel_rfl) (by kernel_rfl) ?_ | refine wp_region_grow (by kernel_rfl) (by kernel_rfl) ?_
  repeat (go_big_quiet_step (first | (go_at_call 54; exact grow_of (l2Mass_any _ _ _ (by omega) (by omega) (by omega) (by omega))) | (go_at_call 53; exact grow_same (l1Most_any _ _ _))))
  refine wpQuiet_nil ?_
  rintro _ ⟨xq, rfl⟩
  go_wp2
  go_ret2
  exact ⟨rfl, by repeat (with_reducible first | exact Ext.refl _ | refine Ext.setCell ?_ (by first | (simp; done) | (simp; omega)) _ | refine Ext.alloc ?_ _ | refine Ext.gw ?_ _ | refine Ext.drew ?_)⟩
theorem specLose_no (a b n d : Int) (w : World) (h : ¬ (waterP a b n d ∧ b ≠ 0)) :
    Calls Try.prog 9 #[.agg #[.int .i64 a, .int .i64 b], .int .i64 n, .int .i64 d] w fun e w' => e = .returned (.tuple #[.int .i64 0, .bool false]) ∧ Ext w w' := by
  by_cases hb : brineB a b = true
  · by_cases hz : b = 0
    · subst hz
      go_enter Try.func9, Try.ntmps9
      go_wp2_with (first | (go_at_call 51; refine (l2Brine_any _ _ _).mono ?_; rintro e w1 ⟨rfl, hx⟩; (try replace hx := Ext.flat hx); obtain ⟨x, rfl⟩ := hx.to_gw; clear hx) | (go_at_call 52; refine (l2Rate_any _ _ _).mono ?_; rintro e w1 ⟨rfl, rfl⟩))
      go_ret2
      exact ⟨rfl, by repeat (with_reducible first | exact Ext.refl _ | refine Ext.setCell ?_ (by first | (simp; done) | (simp; omega)) _ | refine Ext.alloc ?_ _ | refine Ext.gw ?_ _ | refine Ext.drew ?_)⟩
    · have hr : rateB n d = false := Bool.eq_false_iff.2 fun hr => h ⟨⟨brineB_iff.1 hb, rateB_iff.1 hr⟩, hz⟩
      have hz : (b == 0) = false := by simp; omega
      clear h
      go_enter Try.func9, Try.ntmps9
      go_wp2_with (first | (go_at_call 51; refine (l2Brine_any _ _ _).mono ?_; rintro e w1 ⟨rfl, hx⟩; (try replace hx := Ext.flat hx); obtain ⟨x, rfl⟩ := hx.to_gw; clear hx) | (go_at_call 52; refine (l2Rate_any _ _ _).mono ?_; rintro e w1 ⟨rfl, rfl⟩))
      go_ret2
      exact ⟨rfl, by repeat (with_reducible first | exact Ext.refl _ | refine Ext.setCell ?_ (by first | (simp; done) | (simp; omega)) _ | refine Ext.alloc ?_ _ | refine Ext.gw ?_ _ | refine Ext.drew ?_)⟩
  · have hb : brineB a b = false := by simpa using hb
    clear h
    go_enter Try.func9, Try.ntmps9
    go_wp2_with (first | (go_at_call 51; refine (l2Brine_any _ _ _).mono ?_; rintro e w1 ⟨rfl, hx⟩; (try replace hx := Ext.flat hx); obtain ⟨x, rfl⟩ := hx.to_gw; clear hx) | (go_at_call 52; refine (l2Rate_any _ _ _).mono ?_; rintro e w1 ⟨rfl, rfl⟩))
    go_ret2
    exact ⟨rfl, by repeat (with_reducible first | exact Ext.refl _ | refine Ext.setCell ?_ (by first | (simp; done) | (simp; omega)) _ | refine Ext.alloc ?_ _ | refine Ext.gw ?_ _ | refine Ext.drew ?_)⟩
theorem implLose_yes (a b n d : Int) (w : World) (h : waterP a b n d) (hz : b ≠ 0) :
    Calls Try.prog 8 #[.agg #[.int .i64 a, .int .i64 b], .int .i64 n, .int .i64 d] w fun e w' => e = .returned (.tuple #[.int .i64 (loseV a b n d), .bool true]) ∧ Ext w w' := by
  obtain ⟨⟨⟨a0, a1⟩, b0, b1⟩, ⟨n0, nd⟩, d1⟩ := h
  rw [show loseV a b n d = (max (n * (a + b) - b * d) 0 + n - 1) / n from (lose_eq (a + b) (b * d) n n0).symm]
  have hr : rateB n d = true := rateB_iff.2 ⟨⟨n0, nd⟩, d1⟩
  have hb : brineB a b = true := brineB_iff.2 ⟨⟨a0, a1⟩, ⟨by omega, b1⟩⟩
  have hz : (b == 0) = false := by simp; omega
  obtain ⟨⟨m0, m1⟩, ⟨k0, k1⟩, _, _⟩ := water_facts a0 a1 b0 b1 n0 nd d1
  by_cases hk : 0 ≤ n * (a + b) - b * d
  · rw [show max (n * (a + b) - b * d) 0 = n * (a + b) - b * d by omega]
    go_enter Try.func8, Try.ntmps8
    go_wp2_with (first | (go_at_call 47; refine (isBrine_any _ _ _).mono ?_; rintro e w1 ⟨rfl, hx⟩; (try replace hx := Ext.flat hx); obtain ⟨x, rfl⟩ := hx.to_gw; clear hx) | (go_at_call 48; refine (isStrength_any _ _ _).mono ?_; rintro e w1 ⟨rfl, rfl⟩))
    first | refine wp_region_grow2 (by kernel_rfl) (by kernel_rfl) ?_ | refine wp_region_grow (by kernel_rfl) (by kernel_rfl) ?_
    repeat (go_big_quiet_step (first | (go_at_call 50; exact grow_of (mass_any _ _ _ (by omega) (by omega) (by omega) (by omega))) | (go_at_call 49; exact grow_same (ceilDiv_any _ _ _ (by omega) (by omega) (by omega) (by omega)))))
    refine wpQuiet_nil ?_
    rintro _ ⟨xq, rfl⟩
    go_wp2
    go_ret2
    exact ⟨rfl, by repeat (with_reducible first | exact Ext.refl _ | refine Ext.setCell ?_ (by first | (simp; done) | (simp; omega)) _ | refine Ext.alloc ?_ _ | refine Ext.gw ?_ _ | refine Ext.drew ?_)⟩
  · rw [show max (n * (a + b) - b * d) 0 = 0 by omega]
    go_enter Try.func8, Try.ntmps8
    go_wp2_with (first | (go_at_call 47; refine (isBrine_any _ _ _).mono ?_; rintro e w1 ⟨rfl, hx⟩; (try replace hx := Ext.flat hx); obtain ⟨x, rfl⟩ := hx.to_gw; clear hx) | (go_at_call 48; refine (isStrength_any _ _ _).mono ?_; rintro e w1 ⟨rfl, rfl⟩))
    first | refine wp_region_grow2 (by kernel_rfl) (by kernel_rfl) ?_ | refine wp_region_grow (by kernel_rfl) (by kernel_rfl) ?_
    repeat (go_big_quiet_step (first | (go_at_call 50; exact grow_of (mass_any _ _ _ (by omega) (by omega) (by omega) (by omega))) | (go_at_call 49; exact grow_same (ceilDiv_any _ _ _ (by omega) (by omega) (by omega) (by omega)))))
    refine wpQuiet_nil ?_
    rintro _ ⟨xq, rfl⟩
    go_wp2
    go_ret2
    exact ⟨rfl, by repeat (with_reducible first | exact Ext.refl _ | refine Ext.setCell ?_ (by first | (simp; done) | (simp; omega)) _ | refine Ext.alloc ?_ _ | refine Ext.gw ?_ _ | refine Ext.drew ?_)⟩
theorem implLose_no (a b n d : Int) (w : World) (h : ¬ (waterP a b n d ∧ b ≠ 0)) :
    Calls Try.prog 8 #[.agg #[.int .i64 a, .int .i64 b], .int .i64 n, .int .i64 d] w fun e w' => e = .returned (.tuple #[.int .i64 0, .bool false]) ∧ Ext w w' := by
  by_cases hb : brineB a b = true
  · by_cases hz : b = 0
    · subst hz
      go_enter Try.func8, Try.ntmps8
      go_wp2_with (first | (go_at_call 47; refine (isBrine_any _ _ _).mono ?_; rintro e w1 ⟨rfl, hx⟩; (try replace hx := Ext.flat hx); obtain ⟨x, rfl⟩ := hx.to_gw; clear hx) | (go_at_call 48; refine (isStrength_any _ _ _).mono ?_; rintro e w1 ⟨rfl, rfl⟩))
      go_ret2
      exact ⟨rfl, by repeat (with_reducible first | exact Ext.refl _ | refine Ext.setCell ?_ (by first | (simp; done) | (simp; omega)) _ | refine Ext.alloc ?_ _ | refine Ext.gw ?_ _ | refine Ext.drew ?_)⟩
    · have hr : rateB n d = false := Bool.eq_false_iff.2 fun hr => h ⟨⟨brineB_iff.1 hb, rateB_iff.1 hr⟩, hz⟩
      have hz : (b == 0) = false := by simp; omega
      clear h
      go_enter Try.func8, Try.ntmps8
      go_wp2_with (first | (go_at_call 47; refine (isBrine_any _ _ _).mono ?_; rintro e w1 ⟨rfl, hx⟩; (try replace hx := Ext.flat hx); obtain ⟨x, rfl⟩ := hx.to_gw; clear hx) | (go_at_call 48; refine (isStrength_any _ _ _).mono ?_; rintro e w1 ⟨rfl, rfl⟩))
      go_ret2
      exact ⟨rfl, by repeat (with_reducible first | exact Ext.refl _ | refine Ext.setCell ?_ (by first | (simp; done) | (simp; omega)) _ | refine Ext.alloc ?_ _ | refine Ext.gw ?_ _ | refine Ext.drew ?_)⟩
  · have hb : brineB a b = false := by simpa using hb
    clear h
    go_enter Try.func8, Try.ntmps8
    go_wp2_with (first | (go_at_call 47; refine (isBrine_any _ _ _).mono ?_; rintro e w1 ⟨rfl, hx⟩; (try replace hx := Ext.flat hx); obtain ⟨x, rfl⟩ := hx.to_gw; clear hx) | (go_at_call 48; refine (isStrength_any _ _ _).mono ?_; rintro e w1 ⟨rfl, rfl⟩))
    go_ret2
    exact ⟨rfl, by repeat (with_reducible first | exact Ext.refl _ | refine Ext.setCell ?_ (by first | (simp; done) | (simp; omega)) _ | refine Ext.alloc ?_ _ | refine Ext.gw ?_ _ | refine Ext.drew ?_)⟩
end Go.Proofs.Ytgehoihfiboeeaa
