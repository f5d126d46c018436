/- HighestTide: the contracts. -/
import Derived.Test.YtgehoihfiboeeaaTides
namespace Go.Proofs.Ytgehoihfiboeeaa
open Go.RowKit
set_option linter.unusedVariables false

def hiTo (m : Nat → Mk) : Nat → Nat
  | 0 => 0
  | k + 1 => if (m (hiTo m k)).h < (m k).h then k else hiTo m k
theorem hiTo_lt (m : Nat → Mk) {n : Nat} (hn : 0 < n) (k : Nat) (hk : k ≤ n) : hiTo m k < n := by
  induction k with
  | zero => exact hn
  | succ k ih =>
    unfold hiTo
    split
    · omega
    · exact ih (by omega)
noncomputable def hiT (n : Nat) (m : Nat → Mk) : Int := if tideB n m = true then (m (hiTo m n)).t else 0
noncomputable def hiH (n : Nat) (m : Nat → Mk) : Int := if tideB n m = true then (m (hiTo m n)).h else 0
set_option maxHeartbeats 2000000 in
theorem specHigh_any (A : Option Addr) (n c : Nat) (m : Nat → Mk) (w : World) (hc : c ≤ maxLen) (hnc : n ≤ c) (hr : Rd w A n 2 (mkF m)) :
    Calls Try.prog 42 #[.slice A n c] w fun e w' => e = .returned (.tuple #[.int .i64 (hiT n m), .int .i64 (hiH n m), .bool (tideB n m)]) ∧ Ext w w' := by
  have HR := Lib.hid hr
  have HC := Lib.hid hc
  have HN := Lib.hid hnc
  unfold maxLen at hc
  unfold hiT hiH
  cases hv : tideB n m
  · rw [if_neg (by simp), if_neg (by simp)]
    clear hr
    go_enter Try.func42, Try.ntmps42
    go_wp2_with (first | (go_at_call 69; refine (l4Good_any _ _ _ _ _ HC.out HN.out (by first | exact HR.out | exact HR.out.ext (ext_gw _ _))).mono ?_; rintro e w1 ⟨rfl, hx⟩; (try replace hx := Ext.flat hx); obtain ⟨x, rfl⟩ := hx.to_gw; clear hx))
    go_ret3
    exact ⟨rfl, by repeat (with_reducible first | exact Ext.refl _ | refine Ext.setCell ?_ (by first | (simp; done) | (simp; omega)) _ | refine Ext.alloc ?_ _ | refine Ext.gw ?_ _ | refine Ext.drew ?_)⟩
  · rw [if_pos rfl, if_pos rfl]
    obtain ⟨n0, n1⟩ := (tideB_iff.1 hv).1
    obtain ⟨g, off, rfl, hg, _⟩ := hr.atMark (show 0 < n by omega)
    go_enter Try.func42, Try.ntmps42
    go_wp2_with (first | (go_at_call 69; refine (l4Good_any _ _ _ _ _ HC.out HN.out (by first | exact HR.out | exact HR.out.ext (ext_gw _ _))).mono ?_; rintro e w1 ⟨rfl, hx⟩; (try replace hx := Ext.flat hx); obtain ⟨x, rfl⟩ := hx.to_gw; clear hx))
    go_loopw [5, 6] (fun b i wr => ∃ k : Nat, 1 ≤ k ∧ k ≤ n ∧ i = .int .i64 k ∧ b = .int .i64 (hiTo m k) ∧ ∃ y, wr = gw w y) (fun _ i _ => n - (intOf i).toNat)
    case atStart => exact ⟨1, by omega, by omega, rfl, by simp [hiTo], _, rfl⟩
    case round =>
      obtain ⟨k, hk1, hk, rfl, rfl, y, rfl⟩ := hrel
      have hb := hiTo_lt m (show 0 < n by omega) k hk
      have b0 : (0 : Int) ≤ (hiTo m k : Int) := by omega
      have b1 : (hiTo m k : Int) < (n : Int) := by omega
      obtain ⟨g2, off2, hA2, hg2, d0, d1⟩ := hr.atMark hb
      injection hA2 with hA2
      injection hA2 with e1 e2 _
      subst e1 e2
      by_cases hlt : k < n
      · obtain ⟨g2, off2, hA2, hg2, c0, c1⟩ := hr.atMark hlt
        injection hA2 with hA2
        injection hA2 with e1 e2 _
        subst e1 e2
        have i0 : (0 : Int) ≤ (k : Int) := by omega
        have i1 : (k : Int) < (n : Int) := by omega
        by_cases hd : (m (hiTo m k)).h < (m k).h
        · have HE := Lib.hid (show hiTo m (k + 1) = k from if_pos hd)
          have hd2 : decide ((m (hiTo m k)).h < (m k).h) = true := by simp; omega
          go_wp2_with fail
          first | refine wp_region_grow2 (by kernel_rfl) (by kernel_rfl) ?_ | refine wp_region_grow (by kernel_rfl) (by kernel_rfl) ?_
          repeat (go_big_quiet_step (fail))
          refine wpQuiet_nil ?_
          rintro _ ⟨xq, rfl⟩
          go_wp2
          go_roundw
          case rel => exact ⟨k + 1, by omega, by omega, by go_num, by rw [HE.out], _, rfl⟩
          case measure => simp [intOf]; omega
        · have HE := Lib.hid (show hiTo m (k + 1) = hiTo m k from if_neg hd)
          have hd2 : decide ((m (hiTo m k)).h < (m k).h) = false := by simp; omega
          go_wp2_with fail
          first | refine wp_region_grow2 (by kernel_rfl) (by kernel_rfl) ?_ | refine wp_region_grow (by kernel_rfl) (by kernel_rfl) ?_
          repeat (go_big_quiet_step (fail))
          refine wpQuiet_nil ?_
          rintro _ ⟨xq, rfl⟩
          go_wp2
          go_roundw
          case rel => exact ⟨k + 1, by omega, by omega, by go_num, by rw [HE.out], _, rfl⟩
          case measure => simp [intOf]; omega
      · obtain rfl : k = n := by omega
        go_wp2_with fail
        first | refine wp_region_grow2 (by kernel_rfl) (by kernel_rfl) ?_ | refine wp_region_grow (by kernel_rfl) (by kernel_rfl) ?_
        repeat (go_big_quiet_step (fail))
        refine wpQuiet_nil ?_
        rintro _ ⟨xq, rfl⟩
        go_wp2
        go_ret3
        exact ⟨rfl, ext_gw _ _⟩
theorem own_lit2 {e : TypeId} (w : World) (a b : Value) : OwnS (w.alloc (.cells #[a, b] e)) w.heap.size e 2 (.slice (some ⟨w.heap.size, 0, none⟩) 1 1) 1 (fun _ j => if j = 0 then a else b) := by
  refine ⟨_, World.ownsRow_lit w _ 1 (Nat.le_refl _) (by unfold maxLen; omega) rfl, fun i j hi hj => ?_⟩
  obtain rfl : i = 0 := by omega
  match j, hj with
  | 0, _ => rfl
  | 1, _ => rfl
set_option maxHeartbeats 2000000 in
theorem implHigh_any (A : Option Addr) (n c : Nat) (m : Nat → Mk) (w : World) (hc : c ≤ maxLen) (hnc : n ≤ c) (hr : Rd w A n 2 (mkF m)) :
    Calls Try.prog 32 #[.slice A n c] w fun e w' => e = .returned (.tuple #[.int .i64 (hiT n m), .int .i64 (hiH n m), .bool (tideB n m)]) ∧ Ext w w' := by
  have HR := Lib.hid hr
  have HC := Lib.hid hc
  have HN := Lib.hid hnc
  unfold maxLen at hc
  unfold hiT hiH
  cases hv : tideB n m
  · rw [if_neg (by simp), if_neg (by simp)]
    clear hr
    go_enter Try.func32, Try.ntmps32
    go_wp2_with (first | (go_at_call 23; refine (isTide_any _ _ _ _ _ HC.out HN.out (by first | exact HR.out | exact HR.out.ext (ext_gw _ _))).mono ?_; rintro e w1 ⟨rfl, hx⟩; (try replace hx := Ext.flat hx); obtain ⟨x, rfl⟩ := hx.to_gw; clear hx))
    go_ret3
    exact ⟨rfl, by repeat (with_reducible first | exact Ext.refl _ | refine Ext.setCell ?_ (by first | (simp; done) | (simp; omega)) _ | refine Ext.alloc ?_ _ | refine Ext.gw ?_ _ | refine Ext.drew ?_)⟩
  · rw [if_pos rfl, if_pos rfl]
    obtain ⟨n0, n1⟩ := (tideB_iff.1 hv).1
    obtain ⟨g, off, rfl, hg, c0, c1⟩ := hr.atMark (show 0 < n by omega)
    simp only [Nat.zero_mul, Nat.add_zero] at c0 c1
    go_enter Try.func32, Try.ntmps32
    go_wp2_with (first | (go_at_call 23; refine (isTide_any _ _ _ _ _ HC.out HN.out (by first | exact HR.out | exact HR.out.ext (ext_gw _ _))).mono ?_; rintro e w1 ⟨rfl, hx⟩; (try replace hx := Ext.flat hx); obtain ⟨x, rfl⟩ := hx.to_gw; clear hx))
    have hown0 := own_lit2 (e := 77) (gw w x) (.int .i64 (m 0).t) (.int .i64 (m 0).h)
    clear c0 c1
    go_loopw [16] (fun i wr => ∃ k : Nat, k ≤ n ∧ i = .int .i64 k ∧ OwnS wr (gw w x).heap.size 77 2 (.slice (some ⟨(gw w x).heap.size, 0, none⟩) 1 1) 1 (mkF fun _ => m (hiTo m k)) ∧ ∃ y, wr = gw (gw w x) y) (fun i _ => n - (intOf i).toNat)
    case atStart =>
      refine ⟨0, by omega, rfl, hown0.congr (fun i j hi hj => ?_), Ext.to_gw (by repeat (with_reducible first | exact Ext.refl _ | refine Ext.setCell ?_ (by first | (simp; done) | (simp; omega)) _ | refine Ext.alloc ?_ _ | refine Ext.gw ?_ _ | refine Ext.drew ?_))⟩
      match j, hj with
      | 0, _ => rfl
      | 1, _ => rfl
    case round =>
      obtain ⟨k, hk, rfl, hown, y, rfl⟩ := hrel
      clear hown0
      obtain ⟨A0, cap0, hv0, _, _, hform⟩ := hown.form
      injection hv0 with hA _ hc2
      subst hA hc2
      obtain ⟨g0, hg0, _, _, hgl, hcell⟩ := hform (by omega)
      injection hg0 with hg0
      injection hg0 with hg0 _ _
      subst hg0
      obtain ⟨e0, f0⟩ := hcell 0 0 (by omega) (by omega)
      obtain ⟨e1, f1⟩ := hcell 0 1 (by omega) (by omega)
      simp only [Nat.zero_mul, Nat.add_zero, Nat.zero_add] at e0 f0 e1 f1
      replace e0 : _ = some (Value.int .i64 (m (hiTo m k)).t) := e0
      replace e1 : _ = some (Value.int .i64 (m (hiTo m k)).h) := e1
      clear hform hcell
      by_cases hlt : k < n
      · obtain ⟨g2, off2, hA2, hg2, c0, c1⟩ := hr.atMark hlt
        injection hA2 with hA2
        injection hA2 with e2 e3 _
        subst e2 e3
        have i0 : (0 : Int) ≤ (k : Int) := by omega
        have i1 : (k : Int) < (n : Int) := by omega
        by_cases hd : (m (hiTo m k)).h < (m k).h
        · have HE := Lib.hid (show hiTo m (k + 1) = k from if_pos hd)
          go_wp2
          go_roundw
          case rel =>
            have a1 := ((hown.stored (i := 0) (by omega) (j := 0) (by omega) (.int .i64 (m k).t)).stored (i := 0) (by omega) (j := 1) (by omega) (.int .i64 (m k).h)).congr (f' := mkF fun _ => m (hiTo m (k + 1))) (fun i j hi hj => by
              obtain rfl : i = 0 := by omega
              rw [HE.out]
              match j, hj with
              | 0, _ => rfl
              | 1, _ => rfl)
            simp only [Nat.zero_mul, Nat.add_zero, Nat.zero_add] at a1
            exact ⟨k + 1, by omega, by go_num, a1.ext (Ext.alloc (Ext.refl _) _), Ext.to_gw (by repeat (with_reducible first | exact Ext.refl _ | refine Ext.setCell ?_ (by first | (simp; done) | (simp; omega)) _ | refine Ext.alloc ?_ _ | refine Ext.gw ?_ _ | refine Ext.drew ?_))⟩
          case measure => simp [intOf]; omega
        · have HE := Lib.hid (show hiTo m (k + 1) = hiTo m k from if_neg hd)
          go_wp2
          go_roundw
          case rel => exact ⟨k + 1, by omega, by go_num, by rw [HE.out]; exact hown.ext (Ext.alloc (Ext.refl _) _), Ext.to_gw (by repeat (with_reducible first | exact Ext.refl _ | refine Ext.setCell ?_ (by first | (simp; done) | (simp; omega)) _ | refine Ext.alloc ?_ _ | refine Ext.gw ?_ _ | refine Ext.drew ?_))⟩
          case measure => simp [intOf]; omega
      · obtain rfl : k = n := by omega
        go_wp2_with fail
        refine wp_region_grow (by kernel_rfl) (by kernel_rfl) ?_
        repeat (go_big_quiet_step (fail))
        refine wpQuiet_nil ?_
        rintro _ ⟨xq, rfl⟩
        go_wp2
        go_ret3
        exact ⟨rfl, by repeat (with_reducible first | exact Ext.refl _ | refine Ext.setCell ?_ (by first | (simp; done) | (simp; omega)) _ | refine Ext.alloc ?_ _ | refine Ext.gw ?_ _ | refine Ext.drew ?_)⟩
end Go.Proofs.Ytgehoihfiboeeaa
