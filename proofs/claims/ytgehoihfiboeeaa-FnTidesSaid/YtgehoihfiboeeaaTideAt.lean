/- TideAt: the height of the sea in a minute: the contracts. -/
import Derived.Test.YtgehoihfiboeeaaTides
import Derived.Test.YtgehoihfiboeeaaGcd
namespace Go.Proofs.Ytgehoihfiboeeaa
open Go.RowKit
set_option linter.unusedVariables false

def segF (m : Nat → Mk) (t : Int) : Nat → Nat → Nat
  | 0, i => i
  | f + 1, i => if (m i).t < t then segF m t f (i + 1) else i
def seg (n : Nat) (m : Nat → Mk) (t : Int) : Nat := segF m t (n - 1) 1
theorem segF_spec {n : Nat} {m : Nat → Mk} {t : Int} (h : tideP n m) (t1 : t ≤ 1440) (f k : Nat) (hf : f = n - 1 - k) (hk : k + 2 ≤ n) (hb : (m k).t ≤ t) :
    ∃ j, segF m t f (k + 1) = j + 1 ∧ j + 2 ≤ n ∧ (m j).t ≤ t ∧ t ≤ (m (j + 1)).t := by
  induction f generalizing k with
  | zero => omega
  | succ f ih =>
    unfold segF
    by_cases hlt : (m (k + 1)).t < t
    · rw [if_pos hlt]
      have hne : k + 2 ≠ n := fun he => by
        have h1 := h.2.2.1
        rw [← he, show k + 2 - 1 = k + 1 by omega] at h1
        omega
      exact ih (k + 1) (by omega) (by omega) (by omega)
    · rw [if_neg hlt]
      exact ⟨k, rfl, hk, hb, by omega⟩
theorem seg_spec {n : Nat} {m : Nat → Mk} {t : Int} (h : tideP n m) (t0 : 0 ≤ t) (t1 : t ≤ 1440) : ∃ j, seg n m t = j + 1 ∧ j + 2 ≤ n ∧ (m j).t ≤ t ∧ t ≤ (m (j + 1)).t :=
  segF_spec h t1 (n - 1) 0 (by omega) (by have := h.1; omega) (by rw [h.2.1]; exact t0)
def numV (m : Nat → Mk) (i : Nat) (t : Int) : Int := (m (i - 1)).h * ((m i).t - t) + (m i).h * (t - (m (i - 1)).t)
def denV (m : Nat → Mk) (i : Nat) : Int := (m i).t - (m (i - 1)).t
def atN (n : Nat) (m : Nat → Mk) (t : Int) : Int := redN (numV m (seg n m t) t) (denV m (seg n m t))
def atD (n : Nat) (m : Nat → Mk) (t : Int) : Int := redD (numV m (seg n m t) t) (denV m (seg n m t))
theorem mulT {x y : Int} (x0 : -1000 ≤ x) (x1 : x ≤ 1000) (y0 : 0 ≤ y) (y1 : y ≤ 1440) : -1440000 ≤ x * y ∧ x * y ≤ 1440000 := by
  have h1 := Int.mul_le_mul_of_nonneg_right x1 y0
  have h2 := Int.mul_le_mul_of_nonneg_right x0 y0
  omega
theorem redD_bd {a b : Int} (h0 : 0 < b) (h1 : b ≤ 1440) : 1 ≤ redD a b ∧ redD a b ≤ 1440 := by
  have hg : 0 < Int.gcd a b := Int.gcd_pos_of_ne_zero_right _ (by omega)
  have hd : (Int.gcd a b : Int) ∣ b := Int.gcd_dvd_right ..
  unfold redD
  rw [Int.tdiv_eq_ediv_of_nonneg (by omega)]
  obtain ⟨q, hq⟩ := hd
  have hgp : (0 : Int) < (Int.gcd a b : Int) := by omega
  have : b / (Int.gcd a b : Int) = q := by
    conv => lhs; lhs; rw [hq]
    exact Int.mul_ediv_cancel_left _ (by omega)
  rw [this]
  have hq1 : 1 ≤ q := by
    rcases Int.lt_or_le q 1 with h | h
    · have h3 := Int.mul_le_mul_of_nonneg_left (show q ≤ 0 by omega) (Int.le_of_lt hgp)
      omega
    · exact h
  have h4 := Int.mul_le_mul_of_nonneg_right (show (1 : Int) ≤ (Int.gcd a b : Int) by omega) (show (0 : Int) ≤ q by omega)
  omega
theorem redN_bd {a b : Int} (h0 : -3000000 ≤ a) (h1 : a ≤ 3000000) : -3000000 ≤ redN a b ∧ redN a b ≤ 3000000 := by
  have := Int.natAbs_tdiv_le_natAbs a (Int.gcd a b)
  unfold redN
  omega
theorem at_facts {n : Nat} {m : Nat → Mk} {j : Nat} {t : Int} (h : tideP n m) (hj : j + 2 ≤ n) (h0 : (m j).t ≤ t) (h1 : t ≤ (m (j + 1)).t) :
    (-1440000 ≤ (m j).h * ((m (j + 1)).t - t) ∧ (m j).h * ((m (j + 1)).t - t) ≤ 1440000) ∧ (-1440000 ≤ (m (j + 1)).h * (t - (m j).t) ∧ (m (j + 1)).h * (t - (m j).t) ≤ 1440000) ∧
    (-1440000 ≤ (m j).h * ((m (j + 1)).t - (m j).t) ∧ (m j).h * ((m (j + 1)).t - (m j).t) ≤ 1440000) ∧ (-1440000 ≤ ((m (j + 1)).h - (m j).h) * (t - (m j).t) ∧ ((m (j + 1)).h - (m j).h) * (t - (m j).t) ≤ 1440000) ∧
    (0 < (m (j + 1)).t - (m j).t ∧ (m (j + 1)).t - (m j).t ≤ 1440) ∧ (m j).h * ((m (j + 1)).t - (m j).t) + ((m (j + 1)).h - (m j).h) * (t - (m j).t) = (m j).h * ((m (j + 1)).t - t) + (m (j + 1)).h * (t - (m j).t) ∧
    (0 ≤ (m j).t ∧ (m (j + 1)).t ≤ 1440) ∧ (-500 ≤ (m j).h ∧ (m j).h ≤ 500) ∧ (-500 ≤ (m (j + 1)).h ∧ (m (j + 1)).h ≤ 500) := by
  obtain ⟨a1, a2, _⟩ := h.2.2.2 j (by omega)
  obtain ⟨b1, b2, b3⟩ := h.2.2.2 (j + 1) (by omega)
  have b4 := b3 (by omega)
  rw [Nat.add_sub_cancel] at b4
  refine ⟨mulT (by omega) (by omega) (by omega) (by omega), mulT (by omega) (by omega) (by omega) (by omega), mulT (by omega) (by omega) (by omega) (by omega), mulT (by omega) (by omega) (by omega) (by omega), by omega, ?_, by omega, a2, b2⟩
  simp only [Int.mul_sub, Int.sub_mul]
  omega
theorem at_bd {n : Nat} {m : Nat → Mk} {t : Int} (h : tideP n m) (t0 : 0 ≤ t) (t1 : t ≤ 1440) : (-3000000 ≤ atN n m t ∧ atN n m t ≤ 3000000) ∧ 1 ≤ atD n m t ∧ atD n m t ≤ 1440 := by
  obtain ⟨j, hj, j1, j2, j3⟩ := seg_spec h t0 t1
  obtain ⟨p1, p2, _, _, p5, _⟩ := at_facts h j1 j2 j3
  unfold atN atD
  rw [hj]
  have e1 : numV m (j + 1) t = (m j).h * ((m (j + 1)).t - t) + (m (j + 1)).h * (t - (m j).t) := rfl
  have e2 : denV m (j + 1) = (m (j + 1)).t - (m j).t := rfl
  rw [e1, e2]
  exact ⟨redN_bd (by omega) (by omega), redD_bd p5.1 p5.2⟩
set_option maxHeartbeats 4000000 in
theorem l4At_any (A : Option Addr) (n c : Nat) (m : Nat → Mk) (t : Int) (w : World) (hc : c ≤ maxLen) (hnc : n ≤ c) (hr : Rd w A n 2 (mkF m)) (h : tideP n m) (t0 : 0 ≤ t) (t1 : t ≤ 1440) :
    Calls Try.prog 76 #[.slice A n c, .int .i64 t] w fun e w' => e = .returned (.tuple #[.int .i64 (atN n m t), .int .i64 (atD n m t)]) ∧ Ext w w' := by
  have HT := Lib.hid h
  unfold maxLen at *
  obtain ⟨n0, n1⟩ := h.1
  have hz := h.2.1
  have HZ := Lib.hid (show (m 0).t ≤ t by omega)
  clear h hz
  obtain ⟨g, off, rfl, hg, _⟩ := hr.atMark (show 0 < n by omega)
  go_enter Try.func76, Try.ntmps76
  go_wp2
  go_loop [6] (fun i => ∃ k : Nat, i = .int .i64 ((k : Int) + 1) ∧ k + 2 ≤ n ∧ (m k).t ≤ t ∧ Hid (segF m t (n - 1 - k) (k + 1) = seg n m t)) (fun i => n - (intOf i).toNat)
  case atStart => exact ⟨0, rfl, by omega, HZ.out, Lib.hid (by simp [seg])⟩
  case round =>
    obtain ⟨k, rfl, hk, hkt, HD⟩ := hrel
    obtain ⟨g2, off2, hA2, hg2, a0, a1⟩ := hr.atMark (show k < n by omega)
    injection hA2 with hA2
    injection hA2 with e1 e2 _
    subst e1 e2
    obtain ⟨g2, off2, hA2, hg2, b0, b1⟩ := hr.atMark (show k + 1 < n by omega)
    injection hA2 with hA2
    injection hA2 with e1 e2 _
    subst e1 e2
    have i0 : (0 : Int) ≤ (k : Int) := by omega
    have i1 : (k : Int) + 1 < (n : Int) := by omega
    have i2 : (k : Int) < (n : Int) := by omega
    by_cases hlt : (m (k + 1)).t < t
    · have hne : k + 2 ≠ n := fun he => by
        have h1 := HT.out.2.2.1
        rw [← he, show k + 2 - 1 = k + 1 by omega] at h1
        omega
      have HS := Lib.hid (show segF m t (n - 1 - (k + 1)) (k + 1 + 1) = seg n m t by
        rw [← HD.out, show n - 1 - k = (n - 1 - (k + 1)) + 1 by omega]
        conv => rhs; unfold segF
        rw [if_pos hlt])
      go_wp2
      go_round
      case rel => exact ⟨k + 1, by go_num, by omega, by omega, HS⟩
      case measure => simp [intOf]; omega
    · have HS := Lib.hid (show seg n m t = k + 1 by
        rw [← HD.out, show n - 1 - k = (n - 1 - k - 1) + 1 by omega]
        unfold segF
        rw [if_neg hlt])
      obtain ⟨p1, p2, p3, p4, p5, p6, p7, p8, p9⟩ := at_facts HT.out hk hkt (by omega)
      have HV := Lib.hid p6
      clear p6
      go_wp2
      go_big_region
      all_goals (go_wp2_with (go_at_call 59; refine (l2Reduce_any _ _ _ (by omega) (by omega) (by omega) (by omega)).mono ?_; rintro e w1 ⟨rfl, hx⟩; obtain ⟨x, rfl⟩ := hx.to_gw; clear hx))
      all_goals go_ret2
      all_goals exact ⟨(by unfold atN atD numV denV; rw [HS.out, Nat.add_sub_cancel]; first | done | rfl), by repeat (with_reducible first | exact Ext.refl _ | refine Ext.setCell ?_ (by first | (simp; done) | (simp; omega)) _ | refine Ext.alloc ?_ _ | refine Ext.gw ?_ _ | refine Ext.drew ?_)⟩
set_option maxHeartbeats 4000000 in
theorem tideAt_any (A : Option Addr) (n c : Nat) (m : Nat → Mk) (t : Int) (w : World) (hc : c ≤ maxLen) (hnc : n ≤ c) (hr : Rd w A n 2 (mkF m)) (h : tideP n m) (t0 : 0 ≤ t) (t1 : t ≤ 1440) :
    Calls Try.prog 74 #[.slice A n c, .int .i64 t] w fun e w' => e = .returned (.tuple #[.int .i64 (atN n m t), .int .i64 (atD n m t)]) ∧ Ext w w' := by
  have HT := Lib.hid h
  unfold maxLen at *
  obtain ⟨n0, n1⟩ := h.1
  have hz := h.2.1
  have HZ := Lib.hid (show (m 0).t ≤ t by omega)
  clear h hz
  obtain ⟨g, off, rfl, hg, _⟩ := hr.atMark (show 0 < n by omega)
  go_enter Try.func74, Try.ntmps74
  go_wp2
  go_loop [6] (fun i => ∃ k : Nat, i = .int .i64 (k : Int) ∧ k + 2 ≤ n ∧ (m k).t ≤ t ∧ Hid (segF m t (n - 1 - k) (k + 1) = seg n m t)) (fun i => n - (intOf i).toNat)
  case atStart => exact ⟨0, rfl, by omega, HZ.out, Lib.hid (by simp [seg])⟩
  case round =>
    obtain ⟨k, rfl, hk, hkt, HD⟩ := hrel
    obtain ⟨g2, off2, hA2, hg2, a0, a1⟩ := hr.atMark (show k < n by omega)
    injection hA2 with hA2
    injection hA2 with e1 e2 _
    subst e1 e2
    obtain ⟨g2, off2, hA2, hg2, b0, b1⟩ := hr.atMark (show k + 1 < n by omega)
    injection hA2 with hA2
    injection hA2 with e1 e2 _
    subst e1 e2
    have i0 : (0 : Int) ≤ (k : Int) := by omega
    have i1 : (k : Int) + 1 < (n : Int) := by omega
    have i2 : (k : Int) < (n : Int) := by omega
    by_cases hlt : (m (k + 1)).t < t
    · have hne : k + 2 ≠ n := fun he => by
        have h1 := HT.out.2.2.1
        rw [← he, show k + 2 - 1 = k + 1 by omega] at h1
        omega
      have HS := Lib.hid (show segF m t (n - 1 - (k + 1)) (k + 1 + 1) = seg n m t by
        rw [← HD.out, show n - 1 - k = (n - 1 - (k + 1)) + 1 by omega]
        conv => rhs; unfold segF
        rw [if_pos hlt])
      go_wp2
      go_round
      case rel => exact ⟨k + 1, by go_num, by omega, by omega, HS⟩
      case measure => simp [intOf]; omega
    · have HS := Lib.hid (show seg n m t = k + 1 by
        rw [← HD.out, show n - 1 - k = (n - 1 - k - 1) + 1 by omega]
        unfold segF
        rw [if_neg hlt])
      obtain ⟨p1, p2, p3, p4, p5, p6, p7, p8, p9⟩ := at_facts HT.out hk hkt (by omega)
      have HV := Lib.hid p6
      clear p6
      go_wp2
      go_big_region
      all_goals (go_wp2_with (go_at_call 55; refine (reduced_any _ _ _ (by omega) (by omega) (by omega) (by omega)).mono ?_; rintro e w1 ⟨rfl, hx⟩; obtain ⟨x, rfl⟩ := hx.to_gw; clear hx))
      all_goals go_ret2
      all_goals exact ⟨(by unfold atN atD numV denV; rw [HS.out, Nat.add_sub_cancel, HV.out]; first | done | rfl), by repeat (with_reducible first | exact Ext.refl _ | refine Ext.setCell ?_ (by first | (simp; done) | (simp; omega)) _ | refine Ext.alloc ?_ _ | refine Ext.gw ?_ _ | refine Ext.drew ?_)⟩
noncomputable def atC (n : Nat) (m : Nat → Mk) (t : Int) : Bool := tideB n m && inB t 0 1440
noncomputable def atRN (n : Nat) (m : Nat → Mk) (t : Int) : Int := if atC n m t = true then atN n m t else 0
noncomputable def atRD (n : Nat) (m : Nat → Mk) (t : Int) : Int := if atC n m t = true then atD n m t else 0
theorem specTideAt_any (A : Option Addr) (n c : Nat) (m : Nat → Mk) (t : Int) (w : World) (hc : c ≤ maxLen) (hnc : n ≤ c) (hr : Rd w A n 2 (mkF m)) :
    Calls Try.prog 31 #[.slice A n c, .int .i64 t] w fun e w' => e = .returned (.tuple #[.int .i64 (atRN n m t), .int .i64 (atRD n m t), .bool (atC n m t)]) ∧ Ext w w' := by
  have HR := Lib.hid hr
  have HC := Lib.hid hc
  have HN := Lib.hid hnc
  clear hr hc hnc
  unfold atRN atRD
  cases hv : tideB n m
  · have ho : atC n m t = false := by unfold atC; rw [hv]; rfl
    rw [ho]
    clear ho
    go_enter Try.func31, Try.ntmps31
    go_wp2_with (first | (go_at_call 69; refine (l4Good_any _ _ _ _ _ HC.out HN.out (by first | exact HR.out | exact HR.out.ext (ext_gw _ _))).mono ?_; rintro e w1 ⟨rfl, hx⟩; (try replace hx := Ext.flat hx); obtain ⟨x, rfl⟩ := hx.to_gw; clear hx) | (go_at_call 75; refine (l2Minute_any _ _).mono ?_; rintro e w1 ⟨rfl, rfl⟩))
    go_ret3
    exact ⟨rfl, by repeat (with_reducible first | exact Ext.refl _ | refine Ext.setCell ?_ (by first | (simp; done) | (simp; omega)) _ | refine Ext.alloc ?_ _ | refine Ext.gw ?_ _ | refine Ext.drew ?_)⟩
  · cases hi : inB t 0 1440
    · have ho : atC n m t = false := by unfold atC; rw [hv, hi]; rfl
      rw [ho]
      clear ho
      go_enter Try.func31, Try.ntmps31
      go_wp2_with (first | (go_at_call 69; refine (l4Good_any _ _ _ _ _ HC.out HN.out (by first | exact HR.out | exact HR.out.ext (ext_gw _ _))).mono ?_; rintro e w1 ⟨rfl, hx⟩; (try replace hx := Ext.flat hx); obtain ⟨x, rfl⟩ := hx.to_gw; clear hx) | (go_at_call 75; refine (l2Minute_any _ _).mono ?_; rintro e w1 ⟨rfl, rfl⟩))
      go_ret3
      exact ⟨rfl, by repeat (with_reducible first | exact Ext.refl _ | refine Ext.setCell ?_ (by first | (simp; done) | (simp; omega)) _ | refine Ext.alloc ?_ _ | refine Ext.gw ?_ _ | refine Ext.drew ?_)⟩
    · have ho : atC n m t = true := by unfold atC; rw [hv, hi]; rfl
      rw [ho, if_pos rfl, if_pos rfl]
      clear ho
      have HV := Lib.hid (tideB_iff.1 hv)
      obtain ⟨t0, t1⟩ := inB_iff.1 hi
      go_enter Try.func31, Try.ntmps31
      go_wp2_with (first | (go_at_call 69; refine (l4Good_any _ _ _ _ _ HC.out HN.out (by first | exact HR.out | exact HR.out.ext (ext_gw _ _))).mono ?_; rintro e w1 ⟨rfl, hx⟩; (try replace hx := Ext.flat hx); obtain ⟨x, rfl⟩ := hx.to_gw; clear hx) | (go_at_call 75; refine (l2Minute_any _ _).mono ?_; rintro e w1 ⟨rfl, rfl⟩) | (go_at_call 76; refine (l4At_any _ _ _ _ _ _ HC.out HN.out (by first | exact HR.out | exact HR.out.ext (ext_gw _ _)) HV.out (by omega) (by omega)).mono ?_; rintro e w1 ⟨rfl, hx⟩; (try replace hx := Ext.flat hx); obtain ⟨x, rfl⟩ := hx.to_gw; clear hx))
      go_ret3
      exact ⟨rfl, by repeat (with_reducible first | exact Ext.refl _ | refine Ext.setCell ?_ (by first | (simp; done) | (simp; omega)) _ | refine Ext.alloc ?_ _ | refine Ext.gw ?_ _ | refine Ext.drew ?_)⟩
theorem implTideAt_any (A : Option Addr) (n c : Nat) (m : Nat → Mk) (t : Int) (w : World) (hc : c ≤ maxLen) (hnc : n ≤ c) (hr : Rd w A n 2 (mkF m)) :
    Calls Try.prog 30 #[.slice A n c, .int .i64 t] w fun e w' => e = .returned (.tuple #[.int .i64 (atRN n m t), .int .i64 (atRD n m t), .bool (atC n m t)]) ∧ Ext w w' := by
  have HR := Lib.hid hr
  have HC := Lib.hid hc
  have HN := Lib.hid hnc
  clear hr hc hnc
  unfold atRN atRD
  cases hv : tideB n m
  · have ho : atC n m t = false := by unfold atC; rw [hv]; rfl
    rw [ho]
    clear ho
    go_enter Try.func30, Try.ntmps30
    go_wp2_with (first | (go_at_call 23; refine (isTide_any _ _ _ _ _ HC.out HN.out (by first | exact HR.out | exact HR.out.ext (ext_gw _ _))).mono ?_; rintro e w1 ⟨rfl, hx⟩; (try replace hx := Ext.flat hx); obtain ⟨x, rfl⟩ := hx.to_gw; clear hx) | (go_at_call 73; refine (isMinute_any _ _).mono ?_; rintro e w1 ⟨rfl, rfl⟩))
    go_ret3
    exact ⟨rfl, by repeat (with_reducible first | exact Ext.refl _ | refine Ext.setCell ?_ (by first | (simp; done) | (simp; omega)) _ | refine Ext.alloc ?_ _ | refine Ext.gw ?_ _ | refine Ext.drew ?_)⟩
  · cases hi : inB t 0 1440
    · have ho : atC n m t = false := by unfold atC; rw [hv, hi]; rfl
      rw [ho]
      clear ho
      go_enter Try.func30, Try.ntmps30
      go_wp2_with (first | (go_at_call 23; refine (isTide_any _ _ _ _ _ HC.out HN.out (by first | exact HR.out | exact HR.out.ext (ext_gw _ _))).mono ?_; rintro e w1 ⟨rfl, hx⟩; (try replace hx := Ext.flat hx); obtain ⟨x, rfl⟩ := hx.to_gw; clear hx) | (go_at_call 73; refine (isMinute_any _ _).mono ?_; rintro e w1 ⟨rfl, rfl⟩))
      go_ret3
      exact ⟨rfl, by repeat (with_reducible first | exact Ext.refl _ | refine Ext.setCell ?_ (by first | (simp; done) | (simp; omega)) _ | refine Ext.alloc ?_ _ | refine Ext.gw ?_ _ | refine Ext.drew ?_)⟩
    · have ho : atC n m t = true := by unfold atC; rw [hv, hi]; rfl
      rw [ho, if_pos rfl, if_pos rfl]
      clear ho
      have HV := Lib.hid (tideB_iff.1 hv)
      obtain ⟨t0, t1⟩ := inB_iff.1 hi
      go_enter Try.func30, Try.ntmps30
      go_wp2_with (first | (go_at_call 23; refine (isTide_any _ _ _ _ _ HC.out HN.out (by first | exact HR.out | exact HR.out.ext (ext_gw _ _))).mono ?_; rintro e w1 ⟨rfl, hx⟩; (try replace hx := Ext.flat hx); obtain ⟨x, rfl⟩ := hx.to_gw; clear hx) | (go_at_call 73; refine (isMinute_any _ _).mono ?_; rintro e w1 ⟨rfl, rfl⟩) | (go_at_call 74; refine (tideAt_any _ _ _ _ _ _ HC.out HN.out (by first | exact HR.out | exact HR.out.ext (ext_gw _ _)) HV.out (by omega) (by omega)).mono ?_; rintro e w1 ⟨rfl, hx⟩; (try replace hx := Ext.flat hx); obtain ⟨x, rfl⟩ := hx.to_gw; clear hx))
      go_ret3
      exact ⟨rfl, by repeat (with_reducible first | exact Ext.refl _ | refine Ext.setCell ?_ (by first | (simp; done) | (simp; omega)) _ | refine Ext.alloc ?_ _ | refine Ext.gw ?_ _ | refine Ext.drew ?_)⟩
end Go.Proofs.Ytgehoihfiboeeaa
