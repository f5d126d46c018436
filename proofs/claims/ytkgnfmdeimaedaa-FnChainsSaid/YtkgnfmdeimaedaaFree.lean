/- FreeCells: the contracts. -/
import Derived.Test.YtkgnfmdeimaedaaPonds
namespace Go.Proofs.Ytkgnfmdeimaedaa
open Go.RowKit
set_option linter.unusedVariables false

def freeTo (m : Nat → Pd) : Nat → Int
  | 0 => 2500
  | k + 1 => freeTo m k - (m k).wide * (m k).high
theorem cells_bd {x y : Int} (x0 : 1 ≤ x) (x1 : x ≤ 20) (y0 : 1 ≤ y) (y1 : y ≤ 20) : 0 ≤ x * y ∧ x * y ≤ 400 := by
  have h1 := Int.mul_le_mul_of_nonneg_right x1 (show 0 ≤ y by omega)
  have h2 := Int.mul_nonneg (show 0 ≤ x by omega) (show 0 ≤ y by omega)
  omega
theorem freeTo_bd {n : Nat} {m : Nat → Pd} (h : pondsP n m) (k : Nat) (hk : k ≤ n) : 2500 - 400 * (k : Int) ≤ freeTo m k ∧ freeTo m k ≤ 2500 := by
  induction k with
  | zero => exact ⟨by simp [freeTo], Int.le_refl _⟩
  | succ k ih =>
    have h1 := ih (by omega)
    obtain ⟨⟨_, _, _, ⟨w0, w1⟩, ⟨h0, h2⟩, _⟩, _⟩ := h.2 k (by omega)
    have h3 := cells_bd w0 w1 h0 h2
    unfold freeTo
    omega
noncomputable def freeV (n : Nat) (m : Nat → Pd) : Int := if pondsB n m = true then freeTo m n else 0
set_option maxHeartbeats 2000000 in
theorem specFree_any (A : Option Addr) (n c : Nat) (m : Nat → Pd) (w : World) (hc : c ≤ maxLen) (hnc : n ≤ c) (hr : Rd w A n 6 (pdF m)) : Calls Try.prog 20 #[.slice A n c] w fun e w' => e = .returned (.tuple #[.int .i64 (freeV n m), .bool (pondsB n m)]) ∧ Ext w w' := by
  have HR := Lib.hid hr
  have HC := Lib.hid hc
  have HN := Lib.hid hnc
  unfold maxLen at hc
  unfold freeV
  cases hv : pondsB n m
  · rw [if_neg (by simp)]
    clear hr
    go_enter Try.func20, Try.ntmps20
    go_wp2_with (first | (go_at_call 57; refine (l3Good_any _ _ _ _ _ HC.out HN.out (by first | exact HR.out | exact HR.out.ext (ext_gw _ _))).mono ?_; rintro e w1 ⟨rfl, hx⟩; (try replace hx := Ext.flat hx); obtain ⟨x, rfl⟩ := hx.to_gw; clear hx))
    go_ret2
    exact ⟨rfl, by repeat (with_reducible first | exact Ext.refl _ | refine Ext.setCell ?_ (by first | (simp; done) | (simp; omega)) _ | refine Ext.alloc ?_ _ | refine Ext.gw ?_ _ | refine Ext.drew ?_)⟩
  · rw [if_pos rfl]
    have HV := Lib.hid (pondsB_iff.1 hv)
    have hn10 := (pondsB_iff.1 hv).1
    go_enter Try.func20, Try.ntmps20
    go_wp2_with (first | (go_at_call 57; refine (l3Good_any _ _ _ _ _ HC.out HN.out (by first | exact HR.out | exact HR.out.ext (ext_gw _ _))).mono ?_; rintro e w1 ⟨rfl, hx⟩; (try replace hx := Ext.flat hx); obtain ⟨x, rfl⟩ := hx.to_gw; clear hx))
    clear hv
    go_loopw [4, 5] (fun s i wr => ∃ k : Nat, i = .int .i64 k ∧ k ≤ n ∧ s = .int .i64 (freeTo m k) ∧ ∃ y, wr = gw w y) (fun _ i _ => n - (intOf i).toNat)
    case atStart => exact ⟨0, rfl, Nat.zero_le _, rfl, _, rfl⟩
    case round =>
      obtain ⟨k, rfl, hk, rfl, y, rfl⟩ := hrel
      have hb := freeTo_bd HV.out k hk
      by_cases hlt : k < n
      · obtain ⟨g, off, rfl, hg, c0, c1, c2, c3, c4, c5⟩ := hr.atPond hlt
        obtain ⟨⟨_, _, _, ⟨w0, w1⟩, ⟨h0, h2⟩, _⟩, _⟩ := HV.out.2 k hlt
        have h3 := cells_bd w0 w1 h0 h2
        have i0 : (0 : Int) ≤ (k : Int) := by omega
        have i1 : (k : Int) < (n : Int) := by omega
        go_wp2_with fail
        first | refine wp_region_grow2 (by kernel_rfl) (by kernel_rfl) ?_ | refine wp_region_grow (by kernel_rfl) (by kernel_rfl) ?_
        repeat (go_big_quiet_step (fail))
        refine wpQuiet_nil ?_
        rintro _ ⟨xq, rfl⟩
        go_wp2
        go_roundw
        case rel => exact ⟨k + 1, by go_num, by omega, rfl, Ext.to_gw (by repeat (with_reducible first | exact Ext.refl _ | refine Ext.setCell ?_ (by first | (simp; done) | (simp; omega)) _ | refine Ext.alloc ?_ _ | refine Ext.gw ?_ _ | refine Ext.drew ?_))⟩
        case measure => simp [intOf]; omega
      · obtain rfl : k = n := by omega
        go_wp2
        go_ret2
        exact ⟨rfl, ext_gw _ _⟩
set_option maxHeartbeats 2000000 in
theorem implFree_any (A : Option Addr) (n c : Nat) (m : Nat → Pd) (w : World) (hc : c ≤ maxLen) (hnc : n ≤ c) (hr : Rd w A n 6 (pdF m)) : Calls Try.prog 21 #[.slice A n c] w fun e w' => e = .returned (.tuple #[.int .i64 (freeV n m), .bool (pondsB n m)]) ∧ Ext w w' := by
  have HR := Lib.hid hr
  have HC := Lib.hid hc
  have HN := Lib.hid hnc
  unfold maxLen at hc
  unfold freeV
  cases hv : pondsB n m
  · rw [if_neg (by simp)]
    clear hr
    go_enter Try.func21, Try.ntmps21
    go_wp2_with (first | (go_at_call 18; refine (arePonds_any _ _ _ _ _ HC.out HN.out (by first | exact HR.out | exact HR.out.ext (ext_gw _ _))).mono ?_; rintro e w1 ⟨rfl, hx⟩; (try replace hx := Ext.flat hx); obtain ⟨x, rfl⟩ := hx.to_gw; clear hx))
    go_ret2
    exact ⟨rfl, by repeat (with_reducible first | exact Ext.refl _ | refine Ext.setCell ?_ (by first | (simp; done) | (simp; omega)) _ | refine Ext.alloc ?_ _ | refine Ext.gw ?_ _ | refine Ext.drew ?_)⟩
  · rw [if_pos rfl]
    have HV := Lib.hid (pondsB_iff.1 hv)
    have hn10 := (pondsB_iff.1 hv).1
    go_enter Try.func21, Try.ntmps21
    go_wp2_with (first | (go_at_call 18; refine (arePonds_any _ _ _ _ _ HC.out HN.out (by first | exact HR.out | exact HR.out.ext (ext_gw _ _))).mono ?_; rintro e w1 ⟨rfl, hx⟩; (try replace hx := Ext.flat hx); obtain ⟨x, rfl⟩ := hx.to_gw; clear hx))
    clear hv
    go_loopw [4, 12] (fun s i wr => ∃ k : Nat, i = .int .i64 k ∧ k ≤ n ∧ s = .int .i64 (freeTo m k) ∧ ∃ y, wr = gw w y) (fun _ i _ => n - (intOf i).toNat)
    case atStart => exact ⟨0, rfl, Nat.zero_le _, rfl, _, rfl⟩
    case round =>
      obtain ⟨k, rfl, hk, rfl, y, rfl⟩ := hrel
      have hb := freeTo_bd HV.out k hk
      by_cases hlt : k < n
      · obtain ⟨g, off, rfl, hg, c0, c1, c2, c3, c4, c5⟩ := hr.atPond hlt
        obtain ⟨⟨_, _, _, ⟨w0, w1⟩, ⟨h0, h2⟩, _⟩, _⟩ := HV.out.2 k hlt
        have h3 := cells_bd w0 w1 h0 h2
        have i0 : (0 : Int) ≤ (k : Int) := by omega
        have i1 : (k : Int) < (n : Int) := by omega
        go_wp2
        go_roundw
        case rel => exact ⟨k + 1, by go_num, by omega, rfl, Ext.to_gw (by repeat (with_reducible first | exact Ext.refl _ | refine Ext.setCell ?_ (by first | (simp; done) | (simp; omega)) _ | refine Ext.alloc ?_ _ | refine Ext.gw ?_ _ | refine Ext.drew ?_))⟩
        case measure => simp [intOf]; omega
      · obtain rfl : k = n := by omega
        go_wp2
        go_ret2
        exact ⟨rfl, ext_gw _ _⟩
end Go.Proofs.Ytkgnfmdeimaedaa
