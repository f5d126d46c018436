/- What two ponds have in common, and the bank between them: the contracts. -/
import Derived.Test.YtkgnfmdeimaedaaPondS
import Derived.Test.YtkgnfmdeimaedaaInts
namespace Go.Proofs.Ytkgnfmdeimaedaa
open Go.RowKit
set_option linter.unusedVariables false

def commonV (a n b m : Int) : Int := max 0 (min (a + n) (b + m) - max a b)
theorem commonV_comm (a n b m : Int) : commonV a n b m = commonV b m a n := by unfold commonV; omega
theorem commonV_bd {a n b m : Int} (h : (-1000 ≤ a ∧ a ≤ 1000) ∧ (-1000 ≤ n ∧ n ≤ 1000) ∧ (-1000 ≤ b ∧ b ≤ 1000) ∧ (-1000 ≤ m ∧ m ≤ 1000)) : 0 ≤ commonV a n b m ∧ commonV a n b m ≤ 4000 := by unfold commonV; omega
theorem l3Common_any (a n b m : Int) (w : World) (h : (-1000 ≤ a ∧ a ≤ 1000) ∧ (-1000 ≤ n ∧ n ≤ 1000) ∧ (-1000 ≤ b ∧ b ≤ 1000) ∧ (-1000 ≤ m ∧ m ≤ 1000)) :
    Calls Try.prog 81 #[.int .i64 a, .int .i64 n, .int .i64 b, .int .i64 m] w fun e w' => e = .returned (.int .i64 (commonV a n b m)) ∧ w = w' := by
  obtain ⟨⟨a0, a1⟩, ⟨n0, n1⟩, ⟨b0, b1⟩, m0, m1⟩ := h
  unfold commonV
  have h1 : -2000 ≤ min (a + n) (b + m) ∧ min (a + n) (b + m) ≤ 2000 := by omega
  have h2 : -1000 ≤ max a b ∧ max a b ≤ 1000 := by omega
  go_enter Try.func81, Try.ntmps81
  go_wp2_with (first | (go_at_call 69; refine (l1Most_any _ _ _).mono ?_; rintro e w1 ⟨rfl, rfl⟩) | (go_at_call 68; refine (l1Least_any _ _ _).mono ?_; rintro e w1 ⟨rfl, rfl⟩))
  go_ret
  exact ⟨rfl, rfl⟩
theorem common_any (a n b m : Int) (w : World) (h : (-1000 ≤ a ∧ a ≤ 1000) ∧ (-1000 ≤ n ∧ n ≤ 1000) ∧ (-1000 ≤ b ∧ b ≤ 1000) ∧ (-1000 ≤ m ∧ m ≤ 1000)) :
    Calls Try.prog 82 #[.int .i64 a, .int .i64 n, .int .i64 b, .int .i64 m] w fun e w' => e = .returned (.int .i64 (commonV a n b m)) ∧ w = w' := by
  obtain ⟨⟨a0, a1⟩, ⟨n0, n1⟩, ⟨b0, b1⟩, m0, m1⟩ := h
  by_cases h1 : a + n ≤ b + m
  · by_cases h2 : a < b
    · by_cases h3 : 0 ≤ (a + n) - b
      · rw [show commonV a n b m = (a + n) - b by unfold commonV; omega]
        go_enter Try.func82, Try.ntmps82
        go_wp2
        go_ret
        exact ⟨rfl, rfl⟩
      · rw [show commonV a n b m = 0 by unfold commonV; omega]
        go_enter Try.func82, Try.ntmps82
        go_wp2
        go_ret
        exact ⟨rfl, rfl⟩
    · by_cases h3 : 0 ≤ (a + n) - a
      · rw [show commonV a n b m = (a + n) - a by unfold commonV; omega]
        go_enter Try.func82, Try.ntmps82
        go_wp2
        go_ret
        exact ⟨rfl, rfl⟩
      · rw [show commonV a n b m = 0 by unfold commonV; omega]
        go_enter Try.func82, Try.ntmps82
        go_wp2
        go_ret
        exact ⟨rfl, rfl⟩
  · by_cases h2 : a < b
    · by_cases h3 : 0 ≤ (b + m) - b
      · rw [show commonV a n b m = (b + m) - b by unfold commonV; omega]
        go_enter Try.func82, Try.ntmps82
        go_wp2
        go_ret
        exact ⟨rfl, rfl⟩
      · rw [show commonV a n b m = 0 by unfold commonV; omega]
        go_enter Try.func82, Try.ntmps82
        go_wp2
        go_ret
        exact ⟨rfl, rfl⟩
    · by_cases h3 : 0 ≤ (b + m) - a
      · rw [show commonV a n b m = (b + m) - a by unfold commonV; omega]
        go_enter Try.func82, Try.ntmps82
        go_wp2
        go_ret
        exact ⟨rfl, rfl⟩
      · rw [show commonV a n b m = 0 by unfold commonV; omega]
        go_enter Try.func82, Try.ntmps82
        go_wp2
        go_ret
        exact ⟨rfl, rfl⟩
def smallP (x : Pd) : Prop := (-1000 ≤ x.left ∧ x.left ≤ 1000) ∧ (-1000 ≤ x.top ∧ x.top ≤ 1000) ∧ (-1000 ≤ x.wide ∧ x.wide ≤ 1000) ∧ (-1000 ≤ x.high ∧ x.high ≤ 1000)
def colV (x y : Pd) : Int := commonV x.left x.wide y.left y.wide
def rowV (x y : Pd) : Int := commonV x.top x.high y.top y.high
def overB (x y : Pd) : Bool := decide (0 < colV x y) && decide (0 < rowV x y)
theorem overB_comm (x y : Pd) : overB x y = overB y x := by
  unfold overB colV rowV
  rw [commonV_comm x.left, commonV_comm x.top]
set_option maxHeartbeats 1000000 in
theorem overlaps_any (x y : Pd) (w : World) (hx : smallP x) (hy : smallP y) :
    Calls Try.prog 59 #[.agg #[.int .i64 x.id, .int .i64 x.left, .int .i64 x.top, .int .i64 x.wide, .int .i64 x.high, .int .i64 x.depth], .agg #[.int .i64 y.id, .int .i64 y.left, .int .i64 y.top, .int .i64 y.wide, .int .i64 y.high, .int .i64 y.depth]] w fun e w' => e = .returned (.tuple #[.int .i64 (colV x y), .int .i64 (rowV x y)]) ∧ Ext w w' := by
  have H1 : Hid (_) := Lib.hid (show (-1000 ≤ x.left ∧ x.left ≤ 1000) ∧ (-1000 ≤ x.wide ∧ x.wide ≤ 1000) ∧ (-1000 ≤ y.left ∧ y.left ≤ 1000) ∧ (-1000 ≤ y.wide ∧ y.wide ≤ 1000) from ⟨hx.1, hx.2.2.1, hy.1, hy.2.2.1⟩)
  have H2 : Hid (_) := Lib.hid (show (-1000 ≤ x.top ∧ x.top ≤ 1000) ∧ (-1000 ≤ x.high ∧ x.high ≤ 1000) ∧ (-1000 ≤ y.top ∧ y.top ≤ 1000) ∧ (-1000 ≤ y.high ∧ y.high ≤ 1000) from ⟨hx.2.1, hx.2.2.2, hy.2.1, hy.2.2.2⟩)
  clear hx hy
  unfold colV rowV
  go_enter Try.func59, Try.ntmps59
  go_wp2_with fail
  first | refine wp_region_grow2 (by kernel_rfl) (by kernel_rfl) ?_ | refine wp_region_grow (by kernel_rfl) (by kernel_rfl) ?_
  repeat (go_big_quiet_step (first | (go_at_call 82; exact grow_same (common_any _ _ _ _ _ (by first | with_reducible exact H1.out | with_reducible exact H2.out)))))
  refine wpQuiet_nil ?_
  rintro _ ⟨xq, rfl⟩
  go_wp2
  go_ret2
  exact ⟨rfl, by repeat (with_reducible first | exact Ext.refl _ | refine Ext.setCell ?_ (by first | (simp; done) | (simp; omega)) _ | refine Ext.alloc ?_ _ | refine Ext.gw ?_ _ | refine Ext.drew ?_)⟩
def sideB (x y : Pd) : Bool := (x.left + x.wide == y.left) || (y.left + y.wide == x.left)
def endB (x y : Pd) : Bool := (x.top + x.high == y.top) || (y.top + y.high == x.top)
def bankV (x y : Pd) : Int := if sideB x y = true then rowV x y else if endB x y = true then colV x y else 0
theorem bankV_comm (x y : Pd) : bankV x y = bankV y x := by
  unfold bankV sideB endB rowV colV
  rw [commonV_comm x.left, commonV_comm x.top, Bool.or_comm, Bool.or_comm (x.top + x.high == y.top)]
theorem bankV_bd {x y : Pd} (hx : smallP x) (hy : smallP y) : 0 ≤ bankV x y ∧ bankV x y ≤ 4000 := by
  have h1 : 0 ≤ rowV x y ∧ rowV x y ≤ 4000 := commonV_bd ⟨hx.2.1, hx.2.2.2, hy.2.1, hy.2.2.2⟩
  have h2 : 0 ≤ colV x y ∧ colV x y ≤ 4000 := commonV_bd ⟨hx.1, hx.2.2.1, hy.1, hy.2.2.1⟩
  unfold bankV
  split
  · exact h1
  · split
    · exact h2
    · omega
set_option maxHeartbeats 2000000 in
theorem l3Bank_any (x y : Pd) (w : World) (hx : smallP x) (hy : smallP y) :
    Calls Try.prog 65 #[.agg #[.int .i64 x.id, .int .i64 x.left, .int .i64 x.top, .int .i64 x.wide, .int .i64 x.high, .int .i64 x.depth], .agg #[.int .i64 y.id, .int .i64 y.left, .int .i64 y.top, .int .i64 y.wide, .int .i64 y.high, .int .i64 y.depth]] w fun e w' => e = .returned (.int .i64 (bankV x y)) ∧ Ext w w' := by
  have H1 : Hid (_) := Lib.hid (show (-1000 ≤ x.left ∧ x.left ≤ 1000) ∧ (-1000 ≤ x.wide ∧ x.wide ≤ 1000) ∧ (-1000 ≤ y.left ∧ y.left ≤ 1000) ∧ (-1000 ≤ y.wide ∧ y.wide ≤ 1000) from ⟨hx.1, hx.2.2.1, hy.1, hy.2.2.1⟩)
  have H2 : Hid (_) := Lib.hid (show (-1000 ≤ x.top ∧ x.top ≤ 1000) ∧ (-1000 ≤ x.high ∧ x.high ≤ 1000) ∧ (-1000 ≤ y.top ∧ y.top ≤ 1000) ∧ (-1000 ≤ y.high ∧ y.high ≤ 1000) from ⟨hx.2.1, hx.2.2.2, hy.2.1, hy.2.2.2⟩)
  have HX := Lib.hid hx
  have HY := Lib.hid hy
  obtain ⟨⟨l0, l1⟩, ⟨t0, t1⟩, ⟨w0, w1⟩, h0, h1⟩ := hx
  obtain ⟨⟨l2, l3⟩, ⟨t2, t3⟩, ⟨w2, w3⟩, h2, h3⟩ := hy
  cases q0 : (x.left + x.wide == y.left)
  · skip
    cases q1 : (y.left + y.wide == x.left)
    · skip
      cases q2 : (x.top + x.high == y.top)
      · skip
        cases q3 : (y.top + y.high == x.top)
        · skip
          rw [show bankV x y = 0 by simp [bankV, sideB, endB, q0, q1, q2, q3]]
          skip
          go_enter Try.func65, Try.ntmps65
          go_wp2_with (go_at_call 81; refine (l3Common_any _ _ _ _ _ (by first | with_reducible exact H1.out | with_reducible exact H2.out)).mono ?_; rintro e w1 ⟨rfl, rfl⟩)
          go_ret
          exact ⟨rfl, by repeat (with_reducible first | exact Ext.refl _ | refine Ext.setCell ?_ (by first | (simp; done) | (simp; omega)) _ | refine Ext.alloc ?_ _ | refine Ext.gw ?_ _ | refine Ext.drew ?_)⟩
        · skip
          rw [show bankV x y = colV x y by simp [bankV, sideB, endB, q0, q1, q2, q3]]
          unfold colV
          go_enter Try.func65, Try.ntmps65
          go_wp2_with (go_at_call 81; refine (l3Common_any _ _ _ _ _ (by first | with_reducible exact H1.out | with_reducible exact H2.out)).mono ?_; rintro e w1 ⟨rfl, rfl⟩)
          go_ret
          exact ⟨rfl, by repeat (with_reducible first | exact Ext.refl _ | refine Ext.setCell ?_ (by first | (simp; done) | (simp; omega)) _ | refine Ext.alloc ?_ _ | refine Ext.gw ?_ _ | refine Ext.drew ?_)⟩
      · skip
        rw [show bankV x y = colV x y by simp [bankV, sideB, endB, q0, q1, q2]]
        unfold colV
        go_enter Try.func65, Try.ntmps65
        go_wp2_with (go_at_call 81; refine (l3Common_any _ _ _ _ _ (by first | with_reducible exact H1.out | with_reducible exact H2.out)).mono ?_; rintro e w1 ⟨rfl, rfl⟩)
        go_ret
        exact ⟨rfl, by repeat (with_reducible first | exact Ext.refl _ | refine Ext.setCell ?_ (by first | (simp; done) | (simp; omega)) _ | refine Ext.alloc ?_ _ | refine Ext.gw ?_ _ | refine Ext.drew ?_)⟩
    · skip
      rw [show bankV x y = rowV x y by simp [bankV, sideB, q0, q1]]
      unfold rowV
      go_enter Try.func65, Try.ntmps65
      go_wp2_with (go_at_call 81; refine (l3Common_any _ _ _ _ _ (by first | with_reducible exact H1.out | with_reducible exact H2.out)).mono ?_; rintro e w1 ⟨rfl, rfl⟩)
      go_ret
      exact ⟨rfl, by repeat (with_reducible first | exact Ext.refl _ | refine Ext.setCell ?_ (by first | (simp; done) | (simp; omega)) _ | refine Ext.alloc ?_ _ | refine Ext.gw ?_ _ | refine Ext.drew ?_)⟩
  · skip
    rw [show bankV x y = rowV x y by simp [bankV, sideB, q0]]
    unfold rowV
    go_enter Try.func65, Try.ntmps65
    go_wp2_with (go_at_call 81; refine (l3Common_any _ _ _ _ _ (by first | with_reducible exact H1.out | with_reducible exact H2.out)).mono ?_; rintro e w1 ⟨rfl, rfl⟩)
    go_ret
    exact ⟨rfl, by repeat (with_reducible first | exact Ext.refl _ | refine Ext.setCell ?_ (by first | (simp; done) | (simp; omega)) _ | refine Ext.alloc ?_ _ | refine Ext.gw ?_ _ | refine Ext.drew ?_)⟩
set_option maxHeartbeats 2000000 in
theorem bank_any (x y : Pd) (w : World) (hx : smallP x) (hy : smallP y) :
    Calls Try.prog 66 #[.agg #[.int .i64 x.id, .int .i64 x.left, .int .i64 x.top, .int .i64 x.wide, .int .i64 x.high, .int .i64 x.depth], .agg #[.int .i64 y.id, .int .i64 y.left, .int .i64 y.top, .int .i64 y.wide, .int .i64 y.high, .int .i64 y.depth]] w fun e w' => e = .returned (.int .i64 (bankV x y)) ∧ Ext w w' := by
  have H1 : Hid (_) := Lib.hid (show (-1000 ≤ x.left ∧ x.left ≤ 1000) ∧ (-1000 ≤ x.wide ∧ x.wide ≤ 1000) ∧ (-1000 ≤ y.left ∧ y.left ≤ 1000) ∧ (-1000 ≤ y.wide ∧ y.wide ≤ 1000) from ⟨hx.1, hx.2.2.1, hy.1, hy.2.2.1⟩)
  have H2 : Hid (_) := Lib.hid (show (-1000 ≤ x.top ∧ x.top ≤ 1000) ∧ (-1000 ≤ x.high ∧ x.high ≤ 1000) ∧ (-1000 ≤ y.top ∧ y.top ≤ 1000) ∧ (-1000 ≤ y.high ∧ y.high ≤ 1000) from ⟨hx.2.1, hx.2.2.2, hy.2.1, hy.2.2.2⟩)
  have HX := Lib.hid hx
  have HY := Lib.hid hy
  obtain ⟨⟨l0, l1⟩, ⟨t0, t1⟩, ⟨w0, w1⟩, h0, h1⟩ := hx
  obtain ⟨⟨l2, l3⟩, ⟨t2, t3⟩, ⟨w2, w3⟩, h2, h3⟩ := hy
  cases q0 : (x.left + x.wide == y.left)
  · skip
    cases q1 : (y.left + y.wide == x.left)
    · skip
      cases q2 : (x.top + x.high == y.top)
      · skip
        cases q3 : (y.top + y.high == x.top)
        · skip
          rw [show bankV x y = 0 by simp [bankV, sideB, endB, q0, q1, q2, q3]]
          skip
          go_enter Try.func66, Try.ntmps66
          go_wp2_with (first | (go_at_call 59; refine (overlaps_any x y _ HX.out HY.out).mono ?_; rintro e w1 ⟨rfl, hx⟩; obtain ⟨x1, rfl⟩ := hx.to_gw; clear hx))
          go_ret
          exact ⟨rfl, by repeat (with_reducible first | exact Ext.refl _ | refine Ext.setCell ?_ (by first | (simp; done) | (simp; omega)) _ | refine Ext.alloc ?_ _ | refine Ext.gw ?_ _ | refine Ext.drew ?_)⟩
        · skip
          rw [show bankV x y = colV x y by simp [bankV, sideB, endB, q0, q1, q2, q3]]
          skip
          go_enter Try.func66, Try.ntmps66
          go_wp2_with (first | (go_at_call 59; refine (overlaps_any x y _ HX.out HY.out).mono ?_; rintro e w1 ⟨rfl, hx⟩; obtain ⟨x1, rfl⟩ := hx.to_gw; clear hx))
          go_ret
          exact ⟨rfl, by repeat (with_reducible first | exact Ext.refl _ | refine Ext.setCell ?_ (by first | (simp; done) | (simp; omega)) _ | refine Ext.alloc ?_ _ | refine Ext.gw ?_ _ | refine Ext.drew ?_)⟩
      · skip
        rw [show bankV x y = colV x y by simp [bankV, sideB, endB, q0, q1, q2]]
        skip
        go_enter Try.func66, Try.ntmps66
        go_wp2_with (first | (go_at_call 59; refine (overlaps_any x y _ HX.out HY.out).mono ?_; rintro e w1 ⟨rfl, hx⟩; obtain ⟨x1, rfl⟩ := hx.to_gw; clear hx))
        go_ret
        exact ⟨rfl, by repeat (with_reducible first | exact Ext.refl _ | refine Ext.setCell ?_ (by first | (simp; done) | (simp; omega)) _ | refine Ext.alloc ?_ _ | refine Ext.gw ?_ _ | refine Ext.drew ?_)⟩
    · skip
      rw [show bankV x y = rowV x y by simp [bankV, sideB, q0, q1]]
      skip
      go_enter Try.func66, Try.ntmps66
      go_wp2_with (first | (go_at_call 59; refine (overlaps_any x y _ HX.out HY.out).mono ?_; rintro e w1 ⟨rfl, hx⟩; obtain ⟨x1, rfl⟩ := hx.to_gw; clear hx))
      go_ret
      exact ⟨rfl, by repeat (with_reducible first | exact Ext.refl _ | refine Ext.setCell ?_ (by first | (simp; done) | (simp; omega)) _ | refine Ext.alloc ?_ _ | refine Ext.gw ?_ _ | refine Ext.drew ?_)⟩
  · skip
    rw [show bankV x y = rowV x y by simp [bankV, sideB, q0]]
    skip
    go_enter Try.func66, Try.ntmps66
    go_wp2_with (first | (go_at_call 59; refine (overlaps_any x y _ HX.out HY.out).mono ?_; rintro e w1 ⟨rfl, hx⟩; obtain ⟨x1, rfl⟩ := hx.to_gw; clear hx))
    go_ret
    exact ⟨rfl, by repeat (with_reducible first | exact Ext.refl _ | refine Ext.setCell ?_ (by first | (simp; done) | (simp; omega)) _ | refine Ext.alloc ?_ _ | refine Ext.gw ?_ _ | refine Ext.drew ?_)⟩
end Go.Proofs.Ytkgnfmdeimaedaa
