/- IsStronger: the contracts, and the walk of the law. -/
import Derived.Test.YtgehoihfiboeeaaIntFns
namespace Go.Proofs.Ytgehoihfiboeeaa
open Go.RowKit
set_option linter.unusedVariables false

def strongP (a b c d : Int) : Prop := ((0 ≤ a ∧ a ≤ 1000000) ∧ (0 ≤ b ∧ b ≤ 1000000)) ∧ ((0 ≤ c ∧ c ≤ 1000000) ∧ (0 ≤ d ∧ d ≤ 1000000)) ∧ a + b ≠ 0 ∧ c + d ≠ 0
def strongB (a b c d : Int) : Bool := decide (d * a < b * c)
theorem mul_bd {x y : Int} (h0 : 0 ≤ x) (h1 : x ≤ 1000000) (h2 : 0 ≤ y) (h3 : y ≤ 2000000) : 0 ≤ x * y ∧ x * y ≤ 2000000000000 := by
  have m0 : 0 ≤ x * y := Int.mul_nonneg h0 h2
  have m1 : x * y ≤ 1000000 * 2000000 := Int.mul_le_mul h1 h3 h2 (by omega)
  exact ⟨m0, by omega⟩

theorem l2Stronger_any (a b c d : Int) (w : World) (h : strongP a b c d) : Calls Try.prog 57 #[.agg #[.int .i64 a, .int .i64 b], .agg #[.int .i64 c, .int .i64 d]] w fun e w' => e = .returned (.bool (strongB a b c d)) ∧ Ext w w' := by
  obtain ⟨⟨⟨a0, a1⟩, b0, b1⟩, ⟨⟨c0, c1⟩, d0, d1⟩, _, _⟩ := h
  obtain ⟨p0, p1⟩ := mul_bd b0 b1 c0 (by omega)
  obtain ⟨q0, q1⟩ := mul_bd d0 d1 a0 (by omega)
  unfold strongB
  go_enter Try.func57, Try.ntmps57
  go_wp2
  go_ret
  exact ⟨rfl, by repeat (with_reducible first | exact Ext.refl _ | refine Ext.setCell ?_ (by first | (simp; done) | (simp; omega)) _ | refine Ext.alloc ?_ _ | refine Ext.gw ?_ _ | refine Ext.drew ?_)⟩
theorem specStronger_yes (a b c d : Int) (w : World) (h : strongP a b c d) : Calls Try.prog 16 #[.agg #[.int .i64 a, .int .i64 b], .agg #[.int .i64 c, .int .i64 d]] w fun e w' => e = .returned (.tuple #[.bool (strongB a b c d), .bool true]) ∧ Ext w w' := by
  have H := Lib.hid h
  obtain ⟨⟨⟨a0, a1⟩, b0, b1⟩, ⟨⟨c0, c1⟩, d0, d1⟩, hm, hn⟩ := h
  have hb : brineB a b = true := brineB_iff.2 ⟨⟨a0, a1⟩, b0, b1⟩
  have hd : brineB c d = true := brineB_iff.2 ⟨⟨c0, c1⟩, d0, d1⟩
  have hm : (a + b == 0) = false := by simp; omega
  have hn : (c + d == 0) = false := by simp; omega
  go_enter Try.func16, Try.ntmps16
  go_wp2_with (first | (go_at_call 51; refine (l2Brine_any _ _ _).mono ?_; rintro e w1 ⟨rfl, hx⟩; (try replace hx := Ext.flat hx); obtain ⟨x, rfl⟩ := hx.to_gw; clear hx) | (go_at_call 54; refine (l2Mass_any _ _ _ (by omega) (by omega) (by omega) (by omega)).mono ?_; rintro e w1 ⟨rfl, hx⟩; (try replace hx := Ext.flat hx); obtain ⟨x, rfl⟩ := hx.to_gw; clear hx) | (go_at_call 57; refine (l2Stronger_any _ _ _ _ _ H.out).mono ?_; rintro e w1 ⟨rfl, hx⟩; (try replace hx := Ext.flat hx); obtain ⟨x, rfl⟩ := hx.to_gw; clear hx))
  go_ret2
  exact ⟨rfl, by repeat (with_reducible first | exact Ext.refl _ | refine Ext.setCell ?_ (by first | (simp; done) | (simp; omega)) _ | refine Ext.alloc ?_ _ | refine Ext.gw ?_ _ | refine Ext.drew ?_)⟩
theorem implStronger_yes (a b c d : Int) (w : World) (h : strongP a b c d) : Calls Try.prog 15 #[.agg #[.int .i64 a, .int .i64 b], .agg #[.int .i64 c, .int .i64 d]] w fun e w' => e = .returned (.tuple #[.bool (strongB a b c d), .bool true]) ∧ Ext w w' := by
  obtain ⟨⟨⟨a0, a1⟩, b0, b1⟩, ⟨⟨c0, c1⟩, d0, d1⟩, hm, hn⟩ := h
  have hb : brineB a b = true := brineB_iff.2 ⟨⟨a0, a1⟩, b0, b1⟩
  have hd : brineB c d = true := brineB_iff.2 ⟨⟨c0, c1⟩, d0, d1⟩
  have hm : (a + b == 0) = false := by simp; omega
  have hn : (c + d == 0) = false := by simp; omega
  obtain ⟨p0, p1⟩ := mul_bd b0 b1 (show 0 ≤ c + d by omega) (by omega)
  obtain ⟨q0, q1⟩ := mul_bd d0 d1 (show 0 ≤ a + b by omega) (by omega)
  rw [show strongB a b c d = decide (d * (a + b) < b * (c + d)) by unfold strongB; rw [decide_eq_decide, Int.mul_add, Int.mul_add, Int.mul_comm d b]; omega]
  go_enter Try.func15, Try.ntmps15
  go_wp2_with (first | (go_at_call 47; refine (isBrine_any _ _ _).mono ?_; rintro e w1 ⟨rfl, hx⟩; (try replace hx := Ext.flat hx); obtain ⟨x, rfl⟩ := hx.to_gw; clear hx) | (go_at_call 50; refine (mass_any _ _ _ (by omega) (by omega) (by omega) (by omega)).mono ?_; rintro e w1 ⟨rfl, hx⟩; (try replace hx := Ext.flat hx); obtain ⟨x, rfl⟩ := hx.to_gw; clear hx))
  first | refine wp_region_grow2 (by kernel_rfl) (by kernel_rfl) ?_ | refine wp_region_grow (by kernel_rfl) (by kernel_rfl) ?_
  repeat (go_big_quiet_step (first | (go_at_call 50; exact grow_of (mass_any _ _ _ (by omega) (by omega) (by omega) (by omega)))))
  refine wpQuiet_nil ?_
  rintro _ ⟨xq, rfl⟩
  go_wp2
  go_ret2
  exact ⟨rfl, by repeat (with_reducible first | exact Ext.refl _ | refine Ext.setCell ?_ (by first | (simp; done) | (simp; omega)) _ | refine Ext.alloc ?_ _ | refine Ext.gw ?_ _ | refine Ext.drew ?_)⟩
theorem specStronger_no (a b c d : Int) (w : World) (h : ¬ strongP a b c d) : Calls Try.prog 16 #[.agg #[.int .i64 a, .int .i64 b], .agg #[.int .i64 c, .int .i64 d]] w fun e w' => e = .returned (.tuple #[.bool false, .bool false]) ∧ Ext w w' := by
  by_cases hb : brineB a b = true
  · by_cases hd : brineB c d = true
    · obtain ⟨⟨a0, a1⟩, b0, b1⟩ := brineB_iff.1 hb
      obtain ⟨⟨c0, c1⟩, d0, d1⟩ := brineB_iff.1 hd
      by_cases hm : a + b = 0
      · have hm : (a + b == 0) = true := by simp; omega
        clear h
        go_enter Try.func16, Try.ntmps16
        go_wp2_with (first | (go_at_call 51; refine (l2Brine_any _ _ _).mono ?_; rintro e w1 ⟨rfl, hx⟩; (try replace hx := Ext.flat hx); obtain ⟨x, rfl⟩ := hx.to_gw; clear hx) | (go_at_call 54; refine (l2Mass_any _ _ _ (by omega) (by omega) (by omega) (by omega)).mono ?_; rintro e w1 ⟨rfl, hx⟩; (try replace hx := Ext.flat hx); obtain ⟨x, rfl⟩ := hx.to_gw; clear hx))
        go_ret2
        exact ⟨rfl, by repeat (with_reducible first | exact Ext.refl _ | refine Ext.setCell ?_ (by first | (simp; done) | (simp; omega)) _ | refine Ext.alloc ?_ _ | refine Ext.gw ?_ _ | refine Ext.drew ?_)⟩
      · have hn : c + d = 0 := by
          by_cases hn : c + d = 0
          · exact hn
          · exact absurd ⟨⟨⟨a0, a1⟩, b0, b1⟩, ⟨⟨c0, c1⟩, d0, d1⟩, hm, hn⟩ h
        have hm : (a + b == 0) = false := by simp; omega
        have hn : (c + d == 0) = true := by simp; omega
        clear h
        go_enter Try.func16, Try.ntmps16
        go_wp2_with (first | (go_at_call 51; refine (l2Brine_any _ _ _).mono ?_; rintro e w1 ⟨rfl, hx⟩; (try replace hx := Ext.flat hx); obtain ⟨x, rfl⟩ := hx.to_gw; clear hx) | (go_at_call 54; refine (l2Mass_any _ _ _ (by omega) (by omega) (by omega) (by omega)).mono ?_; rintro e w1 ⟨rfl, hx⟩; (try replace hx := Ext.flat hx); obtain ⟨x, rfl⟩ := hx.to_gw; clear hx))
        go_ret2
        exact ⟨rfl, by repeat (with_reducible first | exact Ext.refl _ | refine Ext.setCell ?_ (by first | (simp; done) | (simp; omega)) _ | refine Ext.alloc ?_ _ | refine Ext.gw ?_ _ | refine Ext.drew ?_)⟩
    · have hd : brineB c d = false := by simpa using hd
      clear h
      go_enter Try.func16, Try.ntmps16
      go_wp2_with (first | (go_at_call 51; refine (l2Brine_any _ _ _).mono ?_; rintro e w1 ⟨rfl, hx⟩; (try replace hx := Ext.flat hx); obtain ⟨x, rfl⟩ := hx.to_gw; clear hx) | (go_at_call 54; refine (l2Mass_any _ _ _ (by omega) (by omega) (by omega) (by omega)).mono ?_; rintro e w1 ⟨rfl, hx⟩; (try replace hx := Ext.flat hx); obtain ⟨x, rfl⟩ := hx.to_gw; clear hx))
      go_ret2
      exact ⟨rfl, by repeat (with_reducible first | exact Ext.refl _ | refine Ext.setCell ?_ (by first | (simp; done) | (simp; omega)) _ | refine Ext.alloc ?_ _ | refine Ext.gw ?_ _ | refine Ext.drew ?_)⟩
  · have hb : brineB a b = false := by simpa using hb
    clear h
    go_enter Try.func16, Try.ntmps16
    go_wp2_with (first | (go_at_call 51; refine (l2Brine_any _ _ _).mono ?_; rintro e w1 ⟨rfl, hx⟩; (try replace hx := Ext.flat hx); obtain ⟨x, rfl⟩ := hx.to_gw; clear hx) | (go_at_call 54; refine (l2Mass_any _ _ _ (by omega) (by omega) (by omega) (by omega)).mono ?_; rintro e w1 ⟨rfl, hx⟩; (try replace hx := Ext.flat hx); obtain ⟨x, rfl⟩ := hx.to_gw; clear hx))
    go_ret2
    exact ⟨rfl, by repeat (with_reducible first | exact Ext.refl _ | refine Ext.setCell ?_ (by first | (simp; done) | (simp; omega)) _ | refine Ext.alloc ?_ _ | refine Ext.gw ?_ _ | refine Ext.drew ?_)⟩
theorem implStronger_no (a b c d : Int) (w : World) (h : ¬ strongP a b c d) : Calls Try.prog 15 #[.agg #[.int .i64 a, .int .i64 b], .agg #[.int .i64 c, .int .i64 d]] w fun e w' => e = .returned (.tuple #[.bool false, .bool false]) ∧ Ext w w' := by
  by_cases hb : brineB a b = true
  · by_cases hd : brineB c d = true
    · obtain ⟨⟨a0, a1⟩, b0, b1⟩ := brineB_iff.1 hb
      obtain ⟨⟨c0, c1⟩, d0, d1⟩ := brineB_iff.1 hd
      by_cases hm : a + b = 0
      · have hm : (a + b == 0) = true := by simp; omega
        clear h
        go_enter Try.func15, Try.ntmps15
        go_wp2_with (first | (go_at_call 47; refine (isBrine_any _ _ _).mono ?_; rintro e w1 ⟨rfl, hx⟩; (try replace hx := Ext.flat hx); obtain ⟨x, rfl⟩ := hx.to_gw; clear hx) | (go_at_call 50; refine (mass_any _ _ _ (by omega) (by omega) (by omega) (by omega)).mono ?_; rintro e w1 ⟨rfl, hx⟩; (try replace hx := Ext.flat hx); obtain ⟨x, rfl⟩ := hx.to_gw; clear hx))
        go_ret2
        exact ⟨rfl, by repeat (with_reducible first | exact Ext.refl _ | refine Ext.setCell ?_ (by first | (simp; done) | (simp; omega)) _ | refine Ext.alloc ?_ _ | refine Ext.gw ?_ _ | refine Ext.drew ?_)⟩
      · have hn : c + d = 0 := by
          by_cases hn : c + d = 0
          · exact hn
          · exact absurd ⟨⟨⟨a0, a1⟩, b0, b1⟩, ⟨⟨c0, c1⟩, d0, d1⟩, hm, hn⟩ h
        have hm : (a + b == 0) = false := by simp; omega
        have hn : (c + d == 0) = true := by simp; omega
        clear h
        go_enter Try.func15, Try.ntmps15
        go_wp2_with (first | (go_at_call 47; refine (isBrine_any _ _ _).mono ?_; rintro e w1 ⟨rfl, hx⟩; (try replace hx := Ext.flat hx); obtain ⟨x, rfl⟩ := hx.to_gw; clear hx) | (go_at_call 50; refine (mass_any _ _ _ (by omega) (by omega) (by omega) (by omega)).mono ?_; rintro e w1 ⟨rfl, hx⟩; (try replace hx := Ext.flat hx); obtain ⟨x, rfl⟩ := hx.to_gw; clear hx))
        go_ret2
        exact ⟨rfl, by repeat (with_reducible first | exact Ext.refl _ | refine Ext.setCell ?_ (by first | (simp; done) | (simp; omega)) _ | refine Ext.alloc ?_ _ | refine Ext.gw ?_ _ | refine Ext.drew ?_)⟩
    · have hd : brineB c d = false := by simpa using hd
      clear h
      go_enter Try.func15, Try.ntmps15
      go_wp2_with (first | (go_at_call 47; refine (isBrine_any _ _ _).mono ?_; rintro e w1 ⟨rfl, hx⟩; (try replace hx := Ext.flat hx); obtain ⟨x, rfl⟩ := hx.to_gw; clear hx) | (go_at_call 50; refine (mass_any _ _ _ (by omega) (by omega) (by omega) (by omega)).mono ?_; rintro e w1 ⟨rfl, hx⟩; (try replace hx := Ext.flat hx); obtain ⟨x, rfl⟩ := hx.to_gw; clear hx))
      go_ret2
      exact ⟨rfl, by repeat (with_reducible first | exact Ext.refl _ | refine Ext.setCell ?_ (by first | (simp; done) | (simp; omega)) _ | refine Ext.alloc ?_ _ | refine Ext.gw ?_ _ | refine Ext.drew ?_)⟩
  · have hb : brineB a b = false := by simpa using hb
    clear h
    go_enter Try.func15, Try.ntmps15
    go_wp2_with (first | (go_at_call 47; refine (isBrine_any _ _ _).mono ?_; rintro e w1 ⟨rfl, hx⟩; (try replace hx := Ext.flat hx); obtain ⟨x, rfl⟩ := hx.to_gw; clear hx) | (go_at_call 50; refine (mass_any _ _ _ (by omega) (by omega) (by omega) (by omega)).mono ?_; rintro e w1 ⟨rfl, hx⟩; (try replace hx := Ext.flat hx); obtain ⟨x, rfl⟩ := hx.to_gw; clear hx))
    go_ret2
    exact ⟨rfl, by repeat (with_reducible first | exact Ext.refl _ | refine Ext.setCell ?_ (by first | (simp; done) | (simp; omega)) _ | refine Ext.alloc ?_ _ | refine Ext.gw ?_ _ | refine Ext.drew ?_)⟩
end Go.Proofs.Ytgehoihfiboeeaa
