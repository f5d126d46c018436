/- Tides: what they are, and the contracts of what says whether a list is one. -/
import Derived.Test.YtgehoihfiboeeaaMarkS
import Derived.Test.YtgehoihfiboeeaaInts
namespace Go.Proofs.Ytgehoihfiboeeaa
open Go.RowKit
set_option linter.unusedVariables false

def okT (m : Nat → Mk) (i : Nat) : Prop := (0 ≤ (m i).t ∧ (m i).t ≤ 1440) ∧ (-500 ≤ (m i).h ∧ (m i).h ≤ 500) ∧ (0 < i → (m (i - 1)).t < (m i).t)
def tideP (n : Nat) (m : Nat → Mk) : Prop := (2 ≤ n ∧ n ≤ 12) ∧ (m 0).t = 0 ∧ (m (n - 1)).t = 1440 ∧ ∀ i, i < n → okT m i
open Classical in
noncomputable def tideB (n : Nat) (m : Nat → Mk) : Bool := decide (tideP n m)
open Classical in
theorem tideB_iff {n : Nat} {m : Nat → Mk} : tideB n m = true ↔ tideP n m := by unfold tideB; exact decide_eq_true_iff
theorem tideB_not {n : Nat} {m : Nat → Mk} (h : ¬ tideP n m) : tideB n m = false := Bool.eq_false_iff.2 fun hb => h (tideB_iff.1 hb)
theorem tideB_bad {n i : Nat} {m : Nat → Mk} (hi : i < n) (h : ¬ okT m i) : tideB n m = false := tideB_not fun hb => h (hb.2.2.2 i hi)
theorem tide_mono {n : Nat} {m : Nat → Mk} (h : ∀ i, i < n → 0 < i → (m (i - 1)).t < (m i).t) (i d : Nat) (hd : i + d < n) : (m i).t ≤ (m (i + d)).t := by
  induction d with
  | zero => exact Int.le_refl _
  | succ d ih =>
    have h1 := ih (by omega)
    have h2 := h (i + (d + 1)) hd (by omega)
    rw [show i + (d + 1) - 1 = i + d by omega] at h2
    omega
theorem tide_all {n : Nat} {m : Nat → Mk} (hn : 2 ≤ n ∧ n ≤ 12) (h0 : (m 0).t = 0) (h1 : (m (n - 1)).t = 1440) (hh : ∀ i, i < n → (-500 ≤ (m i).h ∧ (m i).h ≤ 500) ∧ (0 < i → (m (i - 1)).t < (m i).t)) : tideB n m = true := by
  refine tideB_iff.2 ⟨hn, h0, h1, fun i hi => ⟨?_, hh i hi⟩⟩
  have ho := fun i hi => (hh i hi).2
  have h2 := tide_mono ho 0 i (by omega)
  have h3 := tide_mono ho i (n - 1 - i) (by omega)
  rw [Nat.zero_add] at h2
  rw [show i + (n - 1 - i) = n - 1 by omega] at h3
  omega

theorem l2Minute_any (g : Int) (w : World) : Calls Try.prog 75 #[.int .i64 g] w fun e w' => e = .returned (.bool (inB g 0 1440)) ∧ w = w' := by
  go_enter Try.func75, Try.ntmps75
  go_wp2_with (first | (go_at_call 78; refine (l1In_any _ _ _ _).mono ?_; rintro e w1 ⟨rfl, rfl⟩))
  go_ret
  exact ⟨rfl, rfl⟩
theorem l4Height_any (g : Int) (w : World) : Calls Try.prog 79 #[.int .i64 g] w fun e w' => e = .returned (.bool (inB g (-500) 500)) ∧ w = w' := by
  go_enter Try.func79, Try.ntmps79
  go_wp2_with (first | (go_at_call 78; refine (l1In_any _ _ _ _).mono ?_; rintro e w1 ⟨rfl, rfl⟩))
  go_ret
  exact ⟨rfl, rfl⟩
theorem isHeight_any (g : Int) (w : World) : Calls Try.prog 68 #[.int .i64 g] w fun e w' => e = .returned (.bool (inB g (-500) 500)) ∧ w = w' := by
  go_enter Try.func68, Try.ntmps68
  go_wp2_with (first | (go_at_call 67; refine (within_any _ _ _ _).mono ?_; rintro e w1 ⟨rfl, rfl⟩))
  go_ret
  exact ⟨rfl, rfl⟩
theorem isMinute_any (g : Int) (w : World) : Calls Try.prog 73 #[.int .i64 g] w fun e w' => e = .returned (.bool (inB g 0 1440)) ∧ w = w' := by
  go_enter Try.func73, Try.ntmps73
  go_wp2_with (first | (go_at_call 67; refine (within_any _ _ _ _).mono ?_; rintro e w1 ⟨rfl, rfl⟩))
  go_ret
  exact ⟨rfl, rfl⟩

set_option maxHeartbeats 4000000 in
theorem l4Good_any (A : Option Addr) (n c : Nat) (m : Nat → Mk) (w : World) (hc : c ≤ maxLen) (hnc : n ≤ c) (hr : Rd w A n 2 (mkF m)) : Calls Try.prog 69 #[.slice A n c] w fun e w' => e = .returned (.bool (tideB n m)) ∧ Ext w w' := by
  unfold maxLen at *
  go_enter Try.func69, Try.ntmps69
  go_wp2
  go_loopw [3] (fun i wr => ∃ k : Nat, i = .int .i64 k ∧ k ≤ n ∧ (∀ j, j < k → okT m j) ∧ ∃ y, wr = gw w y) (fun i _ => n - (intOf i).toNat)
  case atStart => exact ⟨0, rfl, Nat.zero_le _, fun j hj => absurd hj (Nat.not_lt_zero j), (Ext.refl w).to_gw⟩
  case round =>
    obtain ⟨k, rfl, hk, hok, y, rfl⟩ := hrel
    have HO := Lib.hid hok
    clear hok
    by_cases hlt : k < n
    · cases hB : inB (m k).t 0 1440
      · obtain ⟨g, off, rfl, hg, c0, c1⟩ := hr.atMark hlt
        have i0 : (0 : Int) ≤ (k : Int) := by omega
        have i1 : (k : Int) < (n : Int) := by omega
        have HX := Lib.hid (show tideB n m = false from tideB_bad hlt fun h => by rw [inB_iff.2 h.1] at hB; cases hB)
        go_wp2_with fail
        refine wp_region_grow (by kernel_rfl) (by kernel_rfl) ?_
        repeat (go_big_quiet_step (first | (go_at_call 75; exact grow_same (l2Minute_any _ _)) | (go_at_call 79; exact grow_same (l4Height_any _ _))))
        refine wpQuiet_nil ?_
        rintro _ ⟨xq, rfl⟩
        go_wp2
        go_ret
        exact ⟨ret_bool HX.out.symm, by repeat (with_reducible first | exact Ext.refl _ | refine Ext.setCell ?_ (by first | (simp; done) | (simp; omega)) _ | refine Ext.alloc ?_ _ | refine Ext.gw ?_ _ | refine Ext.drew ?_)⟩
      · have HW := Lib.hid (inB_iff.1 hB)
        cases hB2 : inB (m k).h (-500) 500
        · obtain ⟨g, off, rfl, hg, c0, c1⟩ := hr.atMark hlt
          have i0 : (0 : Int) ≤ (k : Int) := by omega
          have i1 : (k : Int) < (n : Int) := by omega
          have HX := Lib.hid (show tideB n m = false from tideB_bad hlt fun h => by rw [inB_iff.2 h.2.1] at hB2; cases hB2)
          go_wp2_with fail
          refine wp_region_grow (by kernel_rfl) (by kernel_rfl) ?_
          repeat (go_big_quiet_step (first | (go_at_call 75; exact grow_same (l2Minute_any _ _)) | (go_at_call 79; exact grow_same (l4Height_any _ _))))
          refine wpQuiet_nil ?_
          rintro _ ⟨xq, rfl⟩
          go_wp2
          go_ret
          exact ⟨ret_bool HX.out.symm, by repeat (with_reducible first | exact Ext.refl _ | refine Ext.setCell ?_ (by first | (simp; done) | (simp; omega)) _ | refine Ext.alloc ?_ _ | refine Ext.gw ?_ _ | refine Ext.drew ?_)⟩
        · have HW2 := Lib.hid (inB_iff.1 hB2)
          match k, hlt, hk with
          | 0, hlt, hk =>
            obtain ⟨g, off, rfl, hg, c0, c1⟩ := hr.atMark hlt
            simp only [Nat.zero_mul, Nat.add_zero] at c0 c1
            have i1 : (0 : Int) < (n : Int) := by omega
            go_wp2_with fail
            refine wp_region_grow (by kernel_rfl) (by kernel_rfl) ?_
            repeat (go_big_quiet_step (first | (go_at_call 75; exact grow_same (l2Minute_any _ _)) | (go_at_call 79; exact grow_same (l4Height_any _ _))))
            refine wpQuiet_nil ?_
            rintro _ ⟨xq, rfl⟩
            go_wp2
            go_roundw
            case rel =>
              refine ⟨1, by go_num, by omega, fun j hj => ?_, ((by repeat (with_reducible first | exact Ext.refl _ | refine Ext.setCell ?_ (by first | (simp; done) | (simp; omega)) _ | refine Ext.alloc ?_ _ | refine Ext.gw ?_ _ | refine Ext.drew ?_) : Ext w _)).to_gw⟩
              obtain rfl : j = 0 := by omega
              exact ⟨HW.out, HW2.out, fun h => absurd h (Nat.lt_irrefl 0)⟩
            case measure => simp [intOf]; omega
          | j + 1, hlt, hk =>
            obtain ⟨g, off, hA, hg, c0, c1⟩ := hr.atMark hlt
            obtain ⟨g', off', hA', hg', d0, _⟩ := hr.atMark (show j < n by omega)
            subst hA
            injection hA' with hA'
            injection hA' with e1 e2 _
            subst e1 e2
            have i0 : (0 : Int) ≤ (j : Int) := by omega
            have i1 : (j : Int) + 1 < (n : Int) := by omega
            have i2 : (j : Int) < (n : Int) := by omega
            by_cases hd : (m j).t < (m (j + 1)).t
            · have hd2 : decide ((m (j + 1)).t ≤ (m j).t) = false := by simp; omega
              go_wp2_with fail
              refine wp_region_grow (by kernel_rfl) (by kernel_rfl) ?_
              repeat (go_big_quiet_step (first | (go_at_call 75; exact grow_same (l2Minute_any _ _)) | (go_at_call 79; exact grow_same (l4Height_any _ _))))
              refine wpQuiet_nil ?_
              rintro _ ⟨xq, rfl⟩
              go_wp2
              go_roundw
              case rel =>
                refine ⟨j + 1 + 1, by go_num, by omega, fun i hi => ?_, ((by repeat (with_reducible first | exact Ext.refl _ | refine Ext.setCell ?_ (by first | (simp; done) | (simp; omega)) _ | refine Ext.alloc ?_ _ | refine Ext.gw ?_ _ | refine Ext.drew ?_) : Ext w _)).to_gw⟩
                by_cases he : i = j + 1
                · subst he
                  exact ⟨HW.out, HW2.out, fun _ => hd⟩
                · exact HO.out i (by omega)
              case measure => simp [intOf]; omega
            · have HX := Lib.hid (show tideB n m = false from tideB_bad hlt fun h => hd (h.2.2 (by omega)))
              have hd2 : decide ((m (j + 1)).t ≤ (m j).t) = true := by simp; omega
              go_wp2_with fail
              refine wp_region_grow (by kernel_rfl) (by kernel_rfl) ?_
              repeat (go_big_quiet_step (first | (go_at_call 75; exact grow_same (l2Minute_any _ _)) | (go_at_call 79; exact grow_same (l4Height_any _ _))))
              refine wpQuiet_nil ?_
              rintro _ ⟨xq, rfl⟩
              go_wp2
              go_ret
              exact ⟨ret_bool HX.out.symm, by repeat (with_reducible first | exact Ext.refl _ | refine Ext.setCell ?_ (by first | (simp; done) | (simp; omega)) _ | refine Ext.alloc ?_ _ | refine Ext.gw ?_ _ | refine Ext.drew ?_)⟩
    · obtain rfl : k = n := by omega
      clear hlt hk
      cases hn : inB (k : Int) 2 12
      · have HX := Lib.hid (show tideB k m = false from tideB_not fun h => by
          have h1 := h.1
          rw [inB_pos (by omega) (by omega)] at hn
          cases hn)
        go_wp2_with (first | (go_at_call 78; refine (l1In_any _ _ _ _).mono ?_; rintro e w1 ⟨rfl, rfl⟩))
        go_ret
        exact ⟨ret_bool HX.out.symm, ext_gw _ _⟩
      · obtain ⟨n0, n1⟩ := inB_iff.1 hn
        obtain ⟨j, rfl⟩ : ∃ j : Nat, k = j + 1 := ⟨k - 1, by omega⟩
        obtain ⟨g, off, hA, hg, c0, _⟩ := hr.atMark (show 0 < j + 1 by omega)
        obtain ⟨g', off', hA', hg', d0, _⟩ := hr.atMark (show j < j + 1 by omega)
        subst hA
        injection hA' with hA'
        injection hA' with e1 e2 _
        subst e1 e2
        simp only [Nat.zero_mul, Nat.add_zero] at c0
        have i0 : (0 : Int) ≤ (j : Int) := by omega
        cases q0 : ((m 0).t == 0)
        · have HX := Lib.hid (show tideB (j + 1) m = false from tideB_not fun h => by
            rw [h.2.1] at q0
            cases q0)
          go_wp2_with (first | (go_at_call 78; refine (l1In_any _ _ _ _).mono ?_; rintro e w1 ⟨rfl, rfl⟩))
          go_ret
          exact ⟨ret_bool HX.out.symm, ext_gw _ _⟩
        · cases q1 : ((m j).t == 1440)
          · have HX := Lib.hid (show tideB (j + 1) m = false from tideB_not fun h => by
              have h2 := h.2.2.1
              rw [Nat.add_sub_cancel] at h2
              rw [h2] at q1
              cases q1)
            go_wp2_with (first | (go_at_call 78; refine (l1In_any _ _ _ _).mono ?_; rintro e w1 ⟨rfl, rfl⟩))
            go_ret
            exact ⟨ret_bool HX.out.symm, ext_gw _ _⟩
          · have HX := Lib.hid (show tideB (j + 1) m = true from tideB_iff.2 ⟨⟨by omega, by omega⟩, by simpa using q0, by rw [Nat.add_sub_cancel]; simpa using q1, HO.out⟩)
            go_wp2_with (first | (go_at_call 78; refine (l1In_any _ _ _ _).mono ?_; rintro e w1 ⟨rfl, rfl⟩))
            go_ret
            exact ⟨ret_bool HX.out.symm, ext_gw _ _⟩
set_option maxHeartbeats 4000000 in
theorem isTide_any (A : Option Addr) (n c : Nat) (m : Nat → Mk) (w : World) (hc : c ≤ maxLen) (hnc : n ≤ c) (hr : Rd w A n 2 (mkF m)) : Calls Try.prog 23 #[.slice A n c] w fun e w' => e = .returned (.bool (tideB n m)) ∧ Ext w w' := by
  unfold maxLen at *
  cases hn : inB (n : Int) 2 12
  · have HX := Lib.hid (show tideB n m = false from tideB_not fun h => by
      have h1 := h.1
      rw [inB_pos (by omega) (by omega)] at hn
      cases hn)
    go_enter Try.func23, Try.ntmps23
    go_wp2_with (first | (go_at_call 67; refine (within_any _ _ _ _).mono ?_; rintro e w1 ⟨rfl, rfl⟩))
    go_ret
    exact ⟨ret_bool HX.out.symm, by repeat (with_reducible first | exact Ext.refl _ | refine Ext.setCell ?_ (by first | (simp; done) | (simp; omega)) _ | refine Ext.alloc ?_ _ | refine Ext.gw ?_ _ | refine Ext.drew ?_)⟩
  · obtain ⟨n0, n1⟩ := inB_iff.1 hn
    obtain ⟨l, rfl⟩ : ∃ l : Nat, n = l + 1 := ⟨n - 1, by omega⟩
    have hl0 : (0 : Int) ≤ (l : Int) := by omega
    have hr0 := Lib.hid hr
    obtain ⟨g, off, hA, hg, c0, _⟩ := hr.atMark (show 0 < l + 1 by omega)
    obtain ⟨g', off', hA', hg', d0, _⟩ := hr.atMark (show l < l + 1 by omega)
    subst hA
    injection hA' with hA'
    injection hA' with e1 e2 _
    subst e1 e2
    simp only [Nat.zero_mul, Nat.add_zero] at c0
    cases q0 : ((m 0).t != 0)
    · cases q1 : ((m l).t != 1440)
      · have HX0 := Lib.hid (show (m 0).t = 0 by simpa using q0)
        have HX1 := Lib.hid (show (m (l + 1 - 1)).t = 1440 by rw [Nat.add_sub_cancel]; simpa using q1)
        go_enter Try.func23, Try.ntmps23
        go_wp2_with (first | (go_at_call 67; refine (within_any _ _ _ _).mono ?_; rintro e w1 ⟨rfl, rfl⟩))
        clear q0 q1 c0 d0
        go_loopw [3, 28] (fun _ i wr => ∃ k : Nat, i = .int .i64 k ∧ k ≤ l + 1 ∧ (∀ j, j < k → (-500 ≤ (m j).h ∧ (m j).h ≤ 500) ∧ (0 < j → (m (j - 1)).t < (m j).t)) ∧ ∃ y, wr = gw w y) (fun _ i _ => (l + 1) - (intOf i).toNat)
        case atStart => exact ⟨0, rfl, Nat.zero_le _, fun j hj => absurd hj (Nat.not_lt_zero j), (Ext.refl w).to_gw⟩
        case round =>
          obtain ⟨k, rfl, hk, hok, y, rfl⟩ := hrel
          have HO := Lib.hid hok
          clear hok
          by_cases hlt : k < l + 1
          · cases hB2 : inB (m k).h (-500) 500
            · obtain ⟨g2, off2, hA2, hg2, c0, c1⟩ := hr0.out.atMark hlt
              injection hA2 with hA2
              injection hA2 with e1 e2 _
              subst e1 e2
              have i0 : (0 : Int) ≤ (k : Int) := by omega
              have i1 : (k : Int) < (l : Int) + 1 := by omega
              have HX := Lib.hid (show tideB (l + 1) m = false from tideB_bad hlt fun h => by rw [inB_iff.2 h.2.1] at hB2; cases hB2)
              go_wp2_with fail
              refine wp_region_grow (by kernel_rfl) (by kernel_rfl) ?_
              repeat (go_big_quiet_step (first | (go_at_call 68; exact grow_same (isHeight_any _ _))))
              refine wpQuiet_nil ?_
              rintro _ ⟨xq, rfl⟩
              go_wp2
              go_ret
              exact ⟨ret_bool HX.out.symm, by repeat (with_reducible first | exact Ext.refl _ | refine Ext.setCell ?_ (by first | (simp; done) | (simp; omega)) _ | refine Ext.alloc ?_ _ | refine Ext.gw ?_ _ | refine Ext.drew ?_)⟩
            · have HW2 := Lib.hid (inB_iff.1 hB2)
              match k, hlt, hk with
              | 0, hlt, hk =>
                obtain ⟨g2, off2, hA2, hg2, c0, c1⟩ := hr0.out.atMark hlt
                injection hA2 with hA2
                injection hA2 with e1 e2 _
                subst e1 e2
                simp only [Nat.zero_mul, Nat.add_zero] at c0 c1
                go_wp2_with fail
                refine wp_region_grow (by kernel_rfl) (by kernel_rfl) ?_
                repeat (go_big_quiet_step (first | (go_at_call 68; exact grow_same (isHeight_any _ _))))
                refine wpQuiet_nil ?_
                rintro _ ⟨xq, rfl⟩
                go_wp2
                go_roundw
                case rel =>
                  refine ⟨1, by go_num, by omega, fun j hj => ?_, ((by repeat (with_reducible first | exact Ext.refl _ | refine Ext.setCell ?_ (by first | (simp; done) | (simp; omega)) _ | refine Ext.alloc ?_ _ | refine Ext.gw ?_ _ | refine Ext.drew ?_) : Ext w _)).to_gw⟩
                  obtain rfl : j = 0 := by omega
                  exact ⟨HW2.out, fun h => absurd h (Nat.lt_irrefl 0)⟩
                case measure => first | (simp [intOf]; done) | (simp [intOf]; omega)
              | j + 1, hlt, hk =>
                obtain ⟨g2, off2, hA2, hg2, c0, c1⟩ := hr0.out.atMark hlt
                injection hA2 with hA2
                injection hA2 with e1 e2 _
                subst e1 e2
                obtain ⟨g2, off2, hA2, hg2, d0, _⟩ := hr0.out.atMark (show j < l + 1 by omega)
                injection hA2 with hA2
                injection hA2 with e1 e2 _
                subst e1 e2
                have i0 : (0 : Int) ≤ (j : Int) := by omega
                have i1 : (j : Int) + 1 < (l : Int) + 1 := by omega
                have i2 : (j : Int) < (l : Int) + 1 := by omega
                by_cases hd : (m j).t < (m (j + 1)).t
                · have hd2 : decide ((m (j + 1)).t ≤ (m j).t) = false := by simp; omega
                  go_wp2_with fail
                  refine wp_region_grow (by kernel_rfl) (by kernel_rfl) ?_
                  repeat (go_big_quiet_step (first | (go_at_call 68; exact grow_same (isHeight_any _ _))))
                  refine wpQuiet_nil ?_
                  rintro _ ⟨xq, rfl⟩
                  go_wp2
                  go_roundw
                  case rel =>
                    refine ⟨j + 1 + 1, by go_num, by omega, fun i hi => ?_, ((by repeat (with_reducible first | exact Ext.refl _ | refine Ext.setCell ?_ (by first | (simp; done) | (simp; omega)) _ | refine Ext.alloc ?_ _ | refine Ext.gw ?_ _ | refine Ext.drew ?_) : Ext w _)).to_gw⟩
                    by_cases he : i = j + 1
                    · subst he
                      exact ⟨HW2.out, fun _ => hd⟩
                    · exact HO.out i (by omega)
                  case measure => simp [intOf]; omega
                · have HX := Lib.hid (show tideB (l + 1) m = false from tideB_bad hlt fun h => hd (h.2.2 (by omega)))
                  have hd2 : decide ((m (j + 1)).t ≤ (m j).t) = true := by simp; omega
                  go_wp2_with fail
                  refine wp_region_grow (by kernel_rfl) (by kernel_rfl) ?_
                  repeat (go_big_quiet_step (first | (go_at_call 68; exact grow_same (isHeight_any _ _))))
                  refine wpQuiet_nil ?_
                  rintro _ ⟨xq, rfl⟩
                  go_wp2
                  go_ret
                  exact ⟨ret_bool HX.out.symm, by repeat (with_reducible first | exact Ext.refl _ | refine Ext.setCell ?_ (by first | (simp; done) | (simp; omega)) _ | refine Ext.alloc ?_ _ | refine Ext.gw ?_ _ | refine Ext.drew ?_)⟩
          · obtain rfl : k = l + 1 := by omega
            have HX := Lib.hid (show tideB (l + 1) m = true from tide_all ⟨by omega, by omega⟩ HX0.out HX1.out HO.out)
            go_wp2
            go_ret
            exact ⟨ret_bool HX.out.symm, ext_gw _ _⟩
      · have HX := Lib.hid (show tideB (l + 1) m = false from tideB_not fun h => by
          have h2 := h.2.2.1
          rw [Nat.add_sub_cancel] at h2
          rw [h2] at q1
          cases q1)
        go_enter Try.func23, Try.ntmps23
        go_wp2_with (first | (go_at_call 67; refine (within_any _ _ _ _).mono ?_; rintro e w1 ⟨rfl, rfl⟩))
        go_ret
        exact ⟨ret_bool HX.out.symm, by repeat (with_reducible first | exact Ext.refl _ | refine Ext.setCell ?_ (by first | (simp; done) | (simp; omega)) _ | refine Ext.alloc ?_ _ | refine Ext.gw ?_ _ | refine Ext.drew ?_)⟩
    · have HX := Lib.hid (show tideB (l + 1) m = false from tideB_not fun h => by
        rw [h.2.1] at q0
        cases q0)
      go_enter Try.func23, Try.ntmps23
      go_wp2_with (first | (go_at_call 67; refine (within_any _ _ _ _).mono ?_; rintro e w1 ⟨rfl, rfl⟩))
      go_ret
      exact ⟨ret_bool HX.out.symm, by repeat (with_reducible first | exact Ext.refl _ | refine Ext.setCell ?_ (by first | (simp; done) | (simp; omega)) _ | refine Ext.alloc ?_ _ | refine Ext.gw ?_ _ | refine Ext.drew ?_)⟩
theorem specIsTide_any (A : Option Addr) (n c : Nat) (m : Nat → Mk) (w : World) (hc : c ≤ maxLen) (hnc : n ≤ c) (hr : Rd w A n 2 (mkF m)) : Calls Try.prog 24 #[.slice A n c] w fun e w' => e = .returned (.bool (tideB n m)) ∧ Ext w w' := by
  have HR := Lib.hid hr
  have HC := Lib.hid hc
  have HN := Lib.hid hnc
  clear hr hc hnc
  go_enter Try.func24, Try.ntmps24
  go_wp2_with (first | (go_at_call 69; refine (l4Good_any _ _ _ _ _ HC.out HN.out (by first | exact HR.out | exact HR.out.ext (ext_gw _ _))).mono ?_; rintro e w1 ⟨rfl, hx⟩; (try replace hx := Ext.flat hx); obtain ⟨x, rfl⟩ := hx.to_gw; clear hx))
  go_ret
  exact ⟨rfl, by repeat (with_reducible first | exact Ext.refl _ | refine Ext.setCell ?_ (by first | (simp; done) | (simp; omega)) _ | refine Ext.alloc ?_ _ | refine Ext.gw ?_ _ | refine Ext.drew ?_)⟩
end Go.Proofs.Ytgehoihfiboeeaa
