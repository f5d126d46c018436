/- HoldsCubic: the contracts. -/
import Derived.Test.YtkgnfmdeimaedaaFind
namespace Go.Proofs.Ytkgnfmdeimaedaa
open Go.RowKit
set_option linter.unusedVariables false

theorem cubic_bd {x y z : Int} (x0 : 1 ≤ x) (x1 : x ≤ 20) (y0 : 1 ≤ y) (y1 : y ≤ 20) (z0 : 5 ≤ z) (z1 : z ≤ 200) : 0 ≤ x * y * z ∧ x * y * z ≤ 80000 := by
  obtain ⟨h1, h2⟩ := cells_bd x0 x1 y0 y1
  have h3 := Int.mul_le_mul_of_nonneg_right h2 (show 0 ≤ z by omega)
  have h4 := Int.mul_nonneg h1 (show 0 ≤ z by omega)
  omega
noncomputable def cubV (n : Nat) (m : Nat → Pd) (id : Int) : Int := if fndB n m id = true then (m (findPond n m id).toNat).wide * (m (findPond n m id).toNat).high * (m (findPond n m id).toNat).depth else 0
set_option maxHeartbeats 2000000 in
theorem specHolds_any (A : Option Addr) (n c : Nat) (m : Nat → Pd) (id : Int) (w : World) (hc : c ≤ maxLen) (hnc : n ≤ c) (hr : Rd w A n 6 (pdF m)) : Calls Try.prog 24 #[.slice A n c, .int .i64 id] w fun e w' => e = .returned (.tuple #[.int .i64 (cubV n m id), .bool (fndB n m id)]) ∧ Ext w w' := by
  have HR := Lib.hid hr
  have HC := Lib.hid hc
  have HN := Lib.hid hnc
  unfold maxLen at hc
  unfold cubV
  cases hv : pondsB n m
  · rw [fndB_off hv, if_neg (by simp)]
    have HJ : Hid (findPondV n m id = -1) := Lib.hid (if_neg (by rw [hv]; simp))
    clear hr
    go_enter Try.func24, Try.ntmps24
    go_wp2_with (first | (go_at_call 63; refine (l3Find_is _ _ _ _ _ _ _ HC.out HN.out (by first | exact HR.out | exact HR.out.ext (ext_gw _ _)) HJ.out).mono ?_; rintro e w1 ⟨rfl, hx⟩; (try replace hx := Ext.flat hx); obtain ⟨x, rfl⟩ := hx.to_gw; clear hx))
    go_ret2
    exact ⟨rfl, by repeat (with_reducible first | exact Ext.refl _ | refine Ext.setCell ?_ (by first | (simp; done) | (simp; omega)) _ | refine Ext.alloc ?_ _ | refine Ext.gw ?_ _ | refine Ext.drew ?_)⟩
  · have hvp := pondsB_iff.1 hv
    rcases findPond_bd n m id with hf | ⟨j, hj, hjn, hid⟩
    · have HJ : Hid (findPondV n m id = -1) := Lib.hid (by rw [show findPondV n m id = findPond n m id from if_pos hv]; exact hf)
      rw [fndB_not hf, if_neg (by simp)]
      clear hr hf hvp
      go_enter Try.func24, Try.ntmps24
      go_wp2_with (first | (go_at_call 63; refine (l3Find_is _ _ _ _ _ _ _ HC.out HN.out (by first | exact HR.out | exact HR.out.ext (ext_gw _ _)) HJ.out).mono ?_; rintro e w1 ⟨rfl, hx⟩; (try replace hx := Ext.flat hx); obtain ⟨x, rfl⟩ := hx.to_gw; clear hx))
      go_ret2
      exact ⟨rfl, by repeat (with_reducible first | exact Ext.refl _ | refine Ext.setCell ?_ (by first | (simp; done) | (simp; omega)) _ | refine Ext.alloc ?_ _ | refine Ext.gw ?_ _ | refine Ext.drew ?_)⟩
    · clear hid
      have HJ : Hid (findPondV n m id = (j : Int)) := Lib.hid (by rw [show findPondV n m id = findPond n m id from if_pos hv]; exact hj)
      rw [fndB_yes hv hj, if_pos rfl, hj, Int.toNat_natCast]
      have hn10 := hvp.1
      obtain ⟨g, off, rfl, hg, c0, c1, c2, c3, c4, c5⟩ := hr.atPond hjn
      obtain ⟨⟨_, _, _, ⟨w0, w1⟩, ⟨h0, h2⟩, _, _, d0, d1⟩, _⟩ := hvp.2 j hjn
      have h3 := cells_bd w0 w1 h0 h2
      have h4 := cubic_bd w0 w1 h0 h2 d0 d1
      have j0 : (0 : Int) ≤ (j : Int) := by omega
      have j1 : (j : Int) < (n : Int) := by omega
      clear hj hvp
      go_enter Try.func24, Try.ntmps24
      go_wp2_with (first | (go_at_call 63; refine (l3Find_is _ _ _ _ _ _ _ HC.out HN.out (by first | exact HR.out | exact HR.out.ext (ext_gw _ _)) HJ.out).mono ?_; rintro e w1 ⟨rfl, hx⟩; (try replace hx := Ext.flat hx); obtain ⟨x, rfl⟩ := hx.to_gw; clear hx))
      first | refine wp_region_grow2 (by kernel_rfl) (by kernel_rfl) ?_ | refine wp_region_grow (by kernel_rfl) (by kernel_rfl) ?_
      repeat (go_big_quiet_step (first | fail))
      refine wpQuiet_nil ?_
      rintro _ ⟨xq, rfl⟩
      go_wp2
      go_ret2
      exact ⟨rfl, by repeat (with_reducible first | exact Ext.refl _ | refine Ext.setCell ?_ (by first | (simp; done) | (simp; omega)) _ | refine Ext.alloc ?_ _ | refine Ext.gw ?_ _ | refine Ext.drew ?_)⟩
set_option maxHeartbeats 2000000 in
theorem implHolds_any (A : Option Addr) (n c : Nat) (m : Nat → Pd) (id : Int) (w : World) (hc : c ≤ maxLen) (hnc : n ≤ c) (hr : Rd w A n 6 (pdF m)) : Calls Try.prog 25 #[.slice A n c, .int .i64 id] w fun e w' => e = .returned (.tuple #[.int .i64 (cubV n m id), .bool (fndB n m id)]) ∧ Ext w w' := by
  have HR := Lib.hid hr
  have HC := Lib.hid hc
  have HN := Lib.hid hnc
  unfold maxLen at hc
  unfold cubV
  cases hv : pondsB n m
  · rw [fndB_off hv, if_neg (by simp)]
    have HJ : Hid (findPond n m id = findPond n m id) := Lib.hid rfl
    clear hr
    go_enter Try.func25, Try.ntmps25
    go_wp2_with (first | (go_at_call 64; refine (pondAt_is _ _ _ _ _ _ _ HC.out HN.out (by first | exact HR.out | exact HR.out.ext (ext_gw _ _)) HJ.out).mono ?_; rintro e w1 ⟨rfl, hx⟩; (try replace hx := Ext.flat hx); obtain ⟨x, rfl⟩ := hx.to_gw; clear hx) | (go_at_call 18; refine (arePonds_any _ _ _ _ _ HC.out HN.out (by first | exact HR.out | exact HR.out.ext (ext_gw _ _))).mono ?_; rintro e w1 ⟨rfl, hx⟩; (try replace hx := Ext.flat hx); obtain ⟨x, rfl⟩ := hx.to_gw; clear hx))
    go_ret2
    exact ⟨rfl, by repeat (with_reducible first | exact Ext.refl _ | refine Ext.setCell ?_ (by first | (simp; done) | (simp; omega)) _ | refine Ext.alloc ?_ _ | refine Ext.gw ?_ _ | refine Ext.drew ?_)⟩
  · have hvp := pondsB_iff.1 hv
    rcases findPond_bd n m id with hf | ⟨j, hj, hjn, hid⟩
    · have HJ : Hid (findPond n m id = -1) := Lib.hid (by exact hf)
      rw [fndB_not hf, if_neg (by simp)]
      clear hr hf hvp
      go_enter Try.func25, Try.ntmps25
      go_wp2_with (first | (go_at_call 64; refine (pondAt_is _ _ _ _ _ _ _ HC.out HN.out (by first | exact HR.out | exact HR.out.ext (ext_gw _ _)) HJ.out).mono ?_; rintro e w1 ⟨rfl, hx⟩; (try replace hx := Ext.flat hx); obtain ⟨x, rfl⟩ := hx.to_gw; clear hx) | (go_at_call 18; refine (arePonds_any _ _ _ _ _ HC.out HN.out (by first | exact HR.out | exact HR.out.ext (ext_gw _ _))).mono ?_; rintro e w1 ⟨rfl, hx⟩; (try replace hx := Ext.flat hx); obtain ⟨x, rfl⟩ := hx.to_gw; clear hx))
      go_ret2
      exact ⟨rfl, by repeat (with_reducible first | exact Ext.refl _ | refine Ext.setCell ?_ (by first | (simp; done) | (simp; omega)) _ | refine Ext.alloc ?_ _ | refine Ext.gw ?_ _ | refine Ext.drew ?_)⟩
    · clear hid
      have HJ : Hid (findPond n m id = (j : Int)) := Lib.hid (by exact hj)
      rw [fndB_yes hv hj, if_pos rfl, hj, Int.toNat_natCast]
      have hn10 := hvp.1
      obtain ⟨g, off, rfl, hg, c0, c1, c2, c3, c4, c5⟩ := hr.atPond hjn
      obtain ⟨⟨_, _, _, ⟨w0, w1⟩, ⟨h0, h2⟩, _, _, d0, d1⟩, _⟩ := hvp.2 j hjn
      have h3 := cells_bd w0 w1 h0 h2
      have h4 := cubic_bd w0 w1 h0 h2 d0 d1
      have j0 : (0 : Int) ≤ (j : Int) := by omega
      have j1 : (j : Int) < (n : Int) := by omega
      clear hj hvp
      go_enter Try.func25, Try.ntmps25
      go_wp2_with (first | (go_at_call 64; refine (pondAt_is _ _ _ _ _ _ _ HC.out HN.out (by first | exact HR.out | exact HR.out.ext (ext_gw _ _)) HJ.out).mono ?_; rintro e w1 ⟨rfl, hx⟩; (try replace hx := Ext.flat hx); obtain ⟨x, rfl⟩ := hx.to_gw; clear hx) | (go_at_call 18; refine (arePonds_any _ _ _ _ _ HC.out HN.out (by first | exact HR.out | exact HR.out.ext (ext_gw _ _))).mono ?_; rintro e w1 ⟨rfl, hx⟩; (try replace hx := Ext.flat hx); obtain ⟨x, rfl⟩ := hx.to_gw; clear hx))
      first | refine wp_region_grow2 (by kernel_rfl) (by kernel_rfl) ?_ | refine wp_region_grow (by kernel_rfl) (by kernel_rfl) ?_
      repeat (go_big_quiet_step (first | fail))
      refine wpQuiet_nil ?_
      rintro _ ⟨xq, rfl⟩
      go_wp2
      go_ret2
      exact ⟨rfl, by repeat (with_reducible first | exact Ext.refl _ | refine Ext.setCell ?_ (by first | (simp; done) | (simp; omega)) _ | refine Ext.alloc ?_ _ | refine Ext.gw ?_ _ | refine Ext.drew ?_)⟩
end Go.Proofs.Ytkgnfmdeimaedaa
