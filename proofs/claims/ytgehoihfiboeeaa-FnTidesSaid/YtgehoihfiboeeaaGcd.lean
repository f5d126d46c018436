/- Fractions in lowest terms: the contracts of the program's gcd, reduced and of the reference's l2Reduce. -/
import Derived.Test.YtgehoihfiboeeaaInts
namespace Go.Proofs.Ytgehoihfiboeeaa
open Go.RowKit
set_option linter.unusedVariables false

theorem gcd_step {a b : Nat} : Nat.gcd b (a % b) = Nat.gcd a b := by rw [Nat.gcd_comm a b, Nat.gcd_rec b a, Nat.gcd_comm]
/-- The numerator and the denominator in lowest terms, as Go's division gives them. -/
def redN (a b : Int) : Int := a.tdiv (Int.gcd a b)
def redD (a b : Int) : Int := b.tdiv (Int.gcd a b)

theorem abs_any (n : Int) (w : World) (h0 : -1000000000000 ≤ n) (h1 : n ≤ 1000000000000) : Calls Try.prog 84 #[.int .i64 n] w fun e w' => e = .returned (.int .i64 (n.natAbs : Int)) ∧ w = w' := by
  by_cases h : n < 0
  · rw [show (n.natAbs : Int) = -n by omega]
    go_enter Try.func84, Try.ntmps84
    go_wp2
    go_ret
    exact ⟨rfl, rfl⟩
  · rw [show (n.natAbs : Int) = n by omega]
    go_enter Try.func84, Try.ntmps84
    go_wp2
    go_ret
    exact ⟨rfl, rfl⟩
set_option maxHeartbeats 400000 in
theorem gcd_any (a b : Int) (w : World) (a0 : -1000000000000 ≤ a) (a1 : a ≤ 1000000000000) (b0 : -1000000000000 ≤ b) (b1 : b ≤ 1000000000000) :
    Calls Try.prog 82 #[.int .i64 a, .int .i64 b] w fun e w' => e = .returned (.int .i64 (Int.gcd a b)) ∧ Ext w w' := by
  go_enter Try.func82, Try.ntmps82
  go_wp2_with (first | (go_at_call 84; refine (abs_any _ _ (by omega) (by omega)).mono ?_; rintro e w1 ⟨rfl, rfl⟩))
  go_loopw [0, 1] (fun x y w' => ∃ p q : Nat, x = .int .i64 p ∧ y = .int .i64 q ∧ p ≤ 1000000000000 ∧ q ≤ 1000000000000 ∧ Nat.gcd p q = Int.gcd a b ∧ Ext w w') (fun _ y _ => (intOf y).toNat)
  case atStart => exact ⟨a.natAbs, b.natAbs, rfl, rfl, by omega, by omega, rfl, Ext.refl _⟩
  case round =>
    obtain ⟨p, q, rfl, rfl, hp, hq, hg, hx⟩ := hrel
    have HG := Lib.hid hg
    clear hg
    by_cases hz : q = 0
    · subst hz
      go_wp2
      go_ret
      exact ⟨ret_int (by rw [← HG.out, Nat.gcd_zero_right]), hx⟩
    · have h0 : (0 : Int) < (q : Int) := by omega
      have hn : ((q : Int) != 0) = true := by simp; omega
      have hl : p % q < q := Nat.mod_lt _ (by omega)
      go_wp2
      first | refine wp_region_grow2 (by kernel_rfl) (by kernel_rfl) ?_ | refine wp_region_grow (by kernel_rfl) (by kernel_rfl) ?_
      repeat (go_big_quiet_step (fail))
      refine wpQuiet_nil ?_
      rintro _ ⟨xq, rfl⟩
      go_wp2
      go_roundw
      case rel => exact ⟨q, p % q, rfl, by rw [Int.natCast_emod], hq, by omega, by rw [gcd_step]; exact HG.out, hx.gw _⟩
      case measure => simp [intOf]; omega
theorem red_facts (a b : Int) (hb : 0 < b) (h1 : b ≤ 1000000000000) (a0 : -1000000000000 ≤ a) (a1 : a ≤ 1000000000000) : (0 : Int) < (Int.gcd a b : Int) ∧ ((Int.gcd a b : Int) ≤ 1000000000000) ∧
    (-1000000000000 ≤ a.tdiv (Int.gcd a b) ∧ a.tdiv (Int.gcd a b) ≤ 1000000000000) := by
  have hg : 0 < Int.gcd a b := Int.gcd_pos_of_ne_zero_right _ (by omega)
  have hle : (Int.gcd a b : Int) ≤ b := Int.le_of_dvd hb (Int.gcd_dvd_right ..)
  refine ⟨by omega, by omega, ?_⟩
  have := Int.natAbs_tdiv_le_natAbs a (Int.gcd a b)
  omega
theorem reduced_any (a b : Int) (w : World) (a0 : -1000000000000 ≤ a) (a1 : a ≤ 1000000000000) (b0 : 0 < b) (b1 : b ≤ 1000000000000) :
    Calls Try.prog 55 #[.int .i64 a, .int .i64 b] w fun e w' => e = .returned (.tuple #[.int .i64 (redN a b), .int .i64 (redD a b)]) ∧ Ext w w' := by
  obtain ⟨g0, g1, n0, n1⟩ := red_facts a b b0 b1 a0 a1
  unfold redN redD
  have hd : b.tdiv (Int.gcd a b) = b / (Int.gcd a b) := Int.tdiv_eq_ediv_of_nonneg (by omega)
  rw [hd]
  clear hd
  go_enter Try.func55, Try.ntmps55
  go_wp2_with (first | (go_at_call 82; refine (gcd_any _ _ _ (by omega) (by omega) (by omega) (by omega)).mono ?_; rintro e w1 ⟨rfl, hx⟩; (try replace hx := Ext.flat hx); obtain ⟨x, rfl⟩ := hx.to_gw; clear hx))
  first | refine wp_region_grow2 (by kernel_rfl) (by kernel_rfl) ?_ | refine wp_region_grow (by kernel_rfl) (by kernel_rfl) ?_
  repeat (go_big_quiet_step (fail))
  refine wpQuiet_nil ?_
  rintro _ ⟨xq, rfl⟩
  go_wp2
  go_ret2
  exact ⟨rfl, by repeat (with_reducible first | exact Ext.refl _ | refine Ext.setCell ?_ (by first | (simp; done) | (simp; omega)) _ | refine Ext.alloc ?_ _ | refine Ext.gw ?_ _ | refine Ext.drew ?_)⟩
set_option maxHeartbeats 400000 in
theorem l2Reduce_any (a b : Int) (w : World) (a0 : -1000000000000 ≤ a) (a1 : a ≤ 1000000000000) (b0 : 0 < b) (b1 : b ≤ 1000000000000) :
    Calls Try.prog 59 #[.int .i64 a, .int .i64 b] w fun e w' => e = .returned (.tuple #[.int .i64 (redN a b), .int .i64 (redD a b)]) ∧ Ext w w' := by
  obtain ⟨g0, g1, n0, n1⟩ := red_facts a b b0 b1 a0 a1
  unfold redN redD
  have hd : b.tdiv (Int.gcd a b) = b / (Int.gcd a b) := Int.tdiv_eq_ediv_of_nonneg (by omega)
  rw [hd]
  clear hd
  go_enter Try.func59, Try.ntmps59
  go_wp2_with (first | (go_at_call 53; refine (l1Most_any _ _ _).mono ?_; rintro e w1 ⟨rfl, rfl⟩))
  go_loop [6, 7, 8] (fun x y _ => ∃ p q : Nat, x = .int .i64 p ∧ y = .int .i64 q ∧ p ≤ 1000000000000 ∧ q ≤ 1000000000000 ∧ Nat.gcd p q = Int.gcd a b) (fun _ y _ => (intOf y).toNat)
  case atStart => exact ⟨a.natAbs, b.natAbs, congrArg (Value.int .i64) (by omega), congrArg (Value.int .i64) (by omega), by omega, by omega, rfl⟩
  case round =>
    obtain ⟨p, q, rfl, rfl, hp, hq, hg⟩ := hrel
    have HG := Lib.hid hg
    clear hg
    by_cases hz : q = 0
    · subst hz
      obtain rfl : p = Int.gcd a b := by rw [← HG.out, Nat.gcd_zero_right]
      go_wp2
      first | refine wp_region_grow2 (by kernel_rfl) (by kernel_rfl) ?_ | refine wp_region_grow (by kernel_rfl) (by kernel_rfl) ?_
      repeat (go_big_quiet_step (fail))
      refine wpQuiet_nil ?_
      rintro _ ⟨xq, rfl⟩
      go_wp2
      go_ret2
      exact ⟨rfl, by repeat (with_reducible first | exact Ext.refl _ | refine Ext.setCell ?_ (by first | (simp; done) | (simp; omega)) _ | refine Ext.alloc ?_ _ | refine Ext.gw ?_ _ | refine Ext.drew ?_)⟩
    · have h0 : (0 : Int) < (q : Int) := by omega
      have hn : ((q : Int) != 0) = true := by simp; omega
      have hl : p % q < q := Nat.mod_lt _ (by omega)
      go_wp2
      go_round
      case rel => exact ⟨q, p % q, rfl, by rw [Int.natCast_emod], hq, by omega, by rw [gcd_step]; exact HG.out⟩
      case measure => simp [intOf]; omega
end Go.Proofs.Ytgehoihfiboeeaa
