/- DaysToRake: the contracts. -/
import Derived.Test.YtjfeicbffioinaaIdle
namespace Go.Proofs.Ytjfeicbffioinaa
open Go.RowKit
set_option linter.unusedVariables false

noncomputable def daysC (n : Nat) (m : Nat → Wk) (g d l : Int) : Bool := workersB n m && inB g 1 5 && inB d 0 4000 && inB l 1 10000
def daysR (m : Nat → Wk) (g : Int) (n : Nat) : Nat → Int → Int → Int × Bool
  | 0, _, _ => (0, false)
  | f + 1, d, l => if l - rakedV m g (d % 7) 0 n ≤ 0 then (d, true) else daysR m g n f (d + 1) (l - rakedV m g (d % 7) 0 n)
open Classical in
noncomputable def daysV (n : Nat) (m : Nat → Wk) (g d l : Int) : Int × Bool := if daysC n m g d l = true then daysR m g n (4001 - d).toNat d l else (0, false)
set_option maxHeartbeats 2000000 in
theorem implDays_any (A : Option Addr) (n c : Nat) (m : Nat → Wk) (g d l : Int) (w : World) (hc : c ≤ maxLen) (hnc : n ≤ c) (hr : Rd w A n 5 (wkF m)) : Calls Try.prog 27 #[.slice A n c, .int .i64 g, .int .i64 d, .int .i64 l] w fun e w' => e = .returned (.tuple #[.int .i64 (daysV n m g d l).1, .bool (daysV n m g d l).2]) ∧ Ext w w' := by
  have HR := Lib.hid hr
  have HR2 := Lib.hid (hr.ext (Ext.alloc (Ext.refl w) (.cells #[] 3)))
  have HC := Lib.hid hc
  have HN := Lib.hid hnc
  clear hr hc hnc
  by_cases h : daysC n m g d l = true
  · have HX := Lib.hid (show daysV n m g d l = daysR m g n (4001 - d).toNat d l from if_pos h)
    unfold daysC at h
    rw [Bool.and_eq_true, Bool.and_eq_true, Bool.and_eq_true] at h
    obtain ⟨⟨⟨hv, hgg⟩, hdd⟩, hll⟩ := h
    have HV := Lib.hid (workersB_iff.1 hv)
    obtain ⟨d0, d1⟩ := inB_iff.1 hdd
    obtain ⟨l0, l1⟩ := inB_iff.1 hll
    go_enter Try.func27, Try.ntmps27
    go_wp2_with (first | (go_at_call 16; refine (areWorkers_any _ _ _ _ _ HC.out HN.out (by first | exact HR.out | exact HR.out.ext (ext_gw _ _))).mono ?_; rintro e w1 ⟨rfl, hx⟩; (try replace hx := Ext.flat hx); obtain ⟨x, rfl⟩ := hx.to_gw; clear hx) | (go_at_call 46; refine (isGang_any _ _).mono ?_; rintro e w1 ⟨rfl, rfl⟩) | (go_at_call 47; refine (isDay_any _ _).mono ?_; rintro e w1 ⟨rfl, rfl⟩) | (go_at_call 51; refine (within_any _ _ _ _).mono ?_; rintro e w1 ⟨rfl, rfl⟩))
    refine (rakedWeek_any _ _ _ m g _ HC.out HN.out (HR.out.ext (ext_gw _ _)) HV.out).mono ?_
    rintro e w1 ⟨vw, rfl, hweek, hx⟩
    replace hx := Ext.flat hx
    obtain ⟨Aw, cw, rfl, hcw, hncw, hrw⟩ := hweek.rd
    clear hweek
    unfold maxLen at hcw
    go_wp2
    go_loopw [3, 2] (fun lv dv wr => ∃ k : Nat, k ≤ (4001 - d).toNat ∧ dv = .int .i64 (d + k) ∧ wr = w1 ∧ ∃ lk : Int, lv = .int .i64 lk ∧ 1 ≤ lk ∧ lk ≤ 10000 ∧ Hid (daysR m g n ((4001 - d).toNat - k) (d + k) lk = daysR m g n (4001 - d).toNat d l)) (fun _ dv _ => (4001 - intOf dv).toNat)
    case atStart => exact ⟨0, by omega, by simp, rfl, l, rfl, l0, l1, Lib.hid (by simp)⟩
    case round =>
      obtain ⟨k, hk, rfl, rfl, lk, rfl, k0, k1, HD⟩ := hrel
      by_cases hlt : d + (k : Int) ≤ 4000
      · obtain ⟨j, hj⟩ : ∃ j : Nat, (d + (k : Int)) % 7 = (j : Int) := ⟨((d + (k : Int)) % 7).toNat, by omega⟩
        have j0 : (0 : Int) ≤ (j : Int) := by omega
        have j1 : (j : Int) < 7 := by omega
        obtain ⟨gb, off, rfl, hgb, c0⟩ := hrw.at1 (i := j) (by omega)
        have hb := (rakedV_pos g j 0 HV.out).2
        replace c0 : _ = some (Value.int .i64 (rakedV m g j 0 n)) := c0
        by_cases hle : lk - rakedV m g j 0 n ≤ 0
        · have HF := Lib.hid (show daysV n m g d l = (d + (k : Int), true) by
            rw [HX.out, ← HD.out, show (4001 - d).toNat - k = ((4001 - d).toNat - k - 1) + 1 by omega]
            unfold daysR
            rw [hj, if_pos hle])
          go_wp2
          go_ret2
          exact ⟨(by rw [HF.out]; first | done | rfl), hx⟩
        · have HF := Lib.hid (show daysR m g n ((4001 - d).toNat - (k + 1)) (d + ((k + 1 : Nat) : Int)) (lk - rakedV m g j 0 n) = daysR m g n (4001 - d).toNat d l by
            rw [← HD.out, show (4001 - d).toNat - k = ((4001 - d).toNat - (k + 1)) + 1 by omega, Int.natCast_succ, ← Int.add_assoc]
            conv => rhs; unfold daysR
            rw [hj, if_neg hle])
          go_wp2
          go_roundw
          case rel => exact ⟨k + 1, by omega, by go_num, by first | rfl | trivial, _, rfl, by omega, by omega, HF⟩
          case measure => simp [intOf]; omega
      · have HF := Lib.hid (show daysV n m g d l = (0, false) by
          rw [HX.out, ← HD.out, show (4001 - d).toNat - k = 0 by omega]
          rfl)
        go_wp2
        go_ret2
        exact ⟨(by rw [HF.out]; first | done | rfl), hx⟩
  · have hz := Bool.eq_false_iff.2 h
    rw [show daysV n m g d l = (0, false) from if_neg h]
    clear h
    unfold daysC at hz
    cases hq0 : workersB n m
    · clear hz
      go_enter Try.func27, Try.ntmps27
      go_wp2_with (first | (go_at_call 16; refine (areWorkers_any _ _ _ _ _ HC.out HN.out (by first | exact HR.out | exact HR.out.ext (ext_gw _ _))).mono ?_; rintro e w1 ⟨rfl, hx⟩; (try replace hx := Ext.flat hx); obtain ⟨x, rfl⟩ := hx.to_gw; clear hx) | (go_at_call 46; refine (isGang_any _ _).mono ?_; rintro e w1 ⟨rfl, rfl⟩) | (go_at_call 47; refine (isDay_any _ _).mono ?_; rintro e w1 ⟨rfl, rfl⟩) | (go_at_call 51; refine (within_any _ _ _ _).mono ?_; rintro e w1 ⟨rfl, rfl⟩))
      go_ret2
      exact ⟨rfl, by repeat (with_reducible first | exact Ext.refl _ | refine Ext.setCell ?_ (by first | (simp; done) | (simp; omega)) _ | refine Ext.alloc ?_ _ | refine Ext.gw ?_ _ | refine Ext.drew ?_)⟩
    · skip
      cases hq1 : inB g 1 5
      · clear hz
        go_enter Try.func27, Try.ntmps27
        go_wp2_with (first | (go_at_call 16; refine (areWorkers_any _ _ _ _ _ HC.out HN.out (by first | exact HR.out | exact HR.out.ext (ext_gw _ _))).mono ?_; rintro e w1 ⟨rfl, hx⟩; (try replace hx := Ext.flat hx); obtain ⟨x, rfl⟩ := hx.to_gw; clear hx) | (go_at_call 46; refine (isGang_any _ _).mono ?_; rintro e w1 ⟨rfl, rfl⟩) | (go_at_call 47; refine (isDay_any _ _).mono ?_; rintro e w1 ⟨rfl, rfl⟩) | (go_at_call 51; refine (within_any _ _ _ _).mono ?_; rintro e w1 ⟨rfl, rfl⟩))
        go_ret2
        exact ⟨rfl, by repeat (with_reducible first | exact Ext.refl _ | refine Ext.setCell ?_ (by first | (simp; done) | (simp; omega)) _ | refine Ext.alloc ?_ _ | refine Ext.gw ?_ _ | refine Ext.drew ?_)⟩
      · skip
        cases hq2 : inB d 0 4000
        · clear hz
          go_enter Try.func27, Try.ntmps27
          go_wp2_with (first | (go_at_call 16; refine (areWorkers_any _ _ _ _ _ HC.out HN.out (by first | exact HR.out | exact HR.out.ext (ext_gw _ _))).mono ?_; rintro e w1 ⟨rfl, hx⟩; (try replace hx := Ext.flat hx); obtain ⟨x, rfl⟩ := hx.to_gw; clear hx) | (go_at_call 46; refine (isGang_any _ _).mono ?_; rintro e w1 ⟨rfl, rfl⟩) | (go_at_call 47; refine (isDay_any _ _).mono ?_; rintro e w1 ⟨rfl, rfl⟩) | (go_at_call 51; refine (within_any _ _ _ _).mono ?_; rintro e w1 ⟨rfl, rfl⟩))
          go_ret2
          exact ⟨rfl, by repeat (with_reducible first | exact Ext.refl _ | refine Ext.setCell ?_ (by first | (simp; done) | (simp; omega)) _ | refine Ext.alloc ?_ _ | refine Ext.gw ?_ _ | refine Ext.drew ?_)⟩
        · skip
          have hq3 : inB l 1 10000 = false := by simpa [hq0, hq1, hq2] using hz
          clear hz
          go_enter Try.func27, Try.ntmps27
          go_wp2_with (first | (go_at_call 16; refine (areWorkers_any _ _ _ _ _ HC.out HN.out (by first | exact HR.out | exact HR.out.ext (ext_gw _ _))).mono ?_; rintro e w1 ⟨rfl, hx⟩; (try replace hx := Ext.flat hx); obtain ⟨x, rfl⟩ := hx.to_gw; clear hx) | (go_at_call 46; refine (isGang_any _ _).mono ?_; rintro e w1 ⟨rfl, rfl⟩) | (go_at_call 47; refine (isDay_any _ _).mono ?_; rintro e w1 ⟨rfl, rfl⟩) | (go_at_call 51; refine (within_any _ _ _ _).mono ?_; rintro e w1 ⟨rfl, rfl⟩))
          go_ret2
          exact ⟨rfl, by repeat (with_reducible first | exact Ext.refl _ | refine Ext.setCell ?_ (by first | (simp; done) | (simp; omega)) _ | refine Ext.alloc ?_ _ | refine Ext.gw ?_ _ | refine Ext.drew ?_)⟩
set_option maxHeartbeats 2000000 in
theorem specDays_any (A : Option Addr) (n c : Nat) (m : Nat → Wk) (g d l : Int) (w : World) (hc : c ≤ maxLen) (hnc : n ≤ c) (hr : Rd w A n 5 (wkF m)) : Calls Try.prog 26 #[.slice A n c, .int .i64 g, .int .i64 d, .int .i64 l] w fun e w' => e = .returned (.tuple #[.int .i64 (daysV n m g d l).1, .bool (daysV n m g d l).2]) ∧ Ext w w' := by
  have HR := Lib.hid hr
  have HR2 := Lib.hid (hr.ext (Ext.alloc (Ext.refl w) (.cells #[] 3)))
  have HC := Lib.hid hc
  have HN := Lib.hid hnc
  clear hr hc hnc
  by_cases h : daysC n m g d l = true
  · have HX := Lib.hid (show daysV n m g d l = daysR m g n (4001 - d).toNat d l from if_pos h)
    unfold daysC at h
    rw [Bool.and_eq_true, Bool.and_eq_true, Bool.and_eq_true] at h
    obtain ⟨⟨⟨hv, hgg⟩, hdd⟩, hll⟩ := h
    have HV := Lib.hid (workersB_iff.1 hv)
    obtain ⟨d0, d1⟩ := inB_iff.1 hdd
    obtain ⟨l0, l1⟩ := inB_iff.1 hll
    go_enter Try.func26, Try.ntmps26
    go_wp2_with (first | (go_at_call 39; refine (l5Good_any _ _ _ _ _ HC.out HN.out (by first | exact HR.out | exact HR.out.ext (ext_gw _ _))).mono ?_; rintro e w1 ⟨rfl, hx⟩; (try replace hx := Ext.flat hx); obtain ⟨x, rfl⟩ := hx.to_gw; clear hx) | (go_at_call 43; refine (l5Gang_any _ _).mono ?_; rintro e w1 ⟨rfl, rfl⟩) | (go_at_call 44; refine (l2Day_any _ _).mono ?_; rintro e w1 ⟨rfl, rfl⟩) | (go_at_call 50; refine (l1In_any _ _ _ _).mono ?_; rintro e w1 ⟨rfl, rfl⟩))
    go_loopw [10, 2, 11, 12] (fun sv dv _ _ wr => ∃ k : Nat, k ≤ (4001 - d).toNat ∧ dv = .int .i64 (d + k) ∧ (∃ y, wr = gw w y) ∧ ∃ s : Int, sv = .int .i64 s ∧ 0 ≤ s ∧ s < l ∧ Hid (daysR m g n ((4001 - d).toNat - k) (d + k) (l - s) = daysR m g n (4001 - d).toNat d l)) (fun _ dv _ _ _ => (4001 - intOf dv).toNat)
    case atStart => exact ⟨0, by omega, by simp, ⟨_, rfl⟩, 0, rfl, by omega, by omega, Lib.hid (by simp)⟩
    case round =>
      obtain ⟨k, hk, rfl, ⟨y, rfl⟩, s, rfl, k0, k1, HD⟩ := hrel
      by_cases hlt : d + (k : Int) ≤ 4000
      · have hb := (rakedV_pos g ((d + (k : Int)) % 7) 0 HV.out).2
        by_cases hle : l - s - rakedV m g ((d + (k : Int)) % 7) 0 n ≤ 0
        · have HF := Lib.hid (show daysV n m g d l = (d + (k : Int), true) by
            rw [HX.out, ← HD.out, show (4001 - d).toNat - k = ((4001 - d).toNat - k - 1) + 1 by omega]
            unfold daysR
            rw [if_pos hle])
          go_wp2_with fail
          refine (l5Raked_any _ _ _ m g _ 0 _ HC.out HN.out (HR.out.ext (ext_gw _ _)) HV.out).mono ?_
          rintro e w1 ⟨rfl, hx⟩
          obtain ⟨x1, rfl⟩ := (Ext.flat hx).to_gw
          clear hx
          go_wp2
          go_ret2
          exact ⟨(by rw [HF.out]; first | done | rfl), ext_gw _ _⟩
        · have HF := Lib.hid (show daysR m g n ((4001 - d).toNat - (k + 1)) (d + ((k + 1 : Nat) : Int)) (l - (s + rakedV m g ((d + (k : Int)) % 7) 0 n)) = daysR m g n (4001 - d).toNat d l by
            rw [← HD.out, show (4001 - d).toNat - k = ((4001 - d).toNat - (k + 1)) + 1 by omega, Int.natCast_succ, ← Int.add_assoc, ← Int.sub_sub]
            conv => rhs; unfold daysR
            rw [if_neg hle])
          go_wp2_with fail
          refine (l5Raked_any _ _ _ m g _ 0 _ HC.out HN.out (HR.out.ext (ext_gw _ _)) HV.out).mono ?_
          rintro e w1 ⟨rfl, hx⟩
          obtain ⟨x1, rfl⟩ := (Ext.flat hx).to_gw
          clear hx
          go_wp2
          go_roundw
          case rel => exact ⟨k + 1, by omega, by go_num, ⟨_, rfl⟩, _, rfl, by omega, by omega, HF⟩
          case measure => simp [intOf]; omega
      · have HF := Lib.hid (show daysV n m g d l = (0, false) by
          rw [HX.out, ← HD.out, show (4001 - d).toNat - k = 0 by omega]
          rfl)
        go_wp2
        go_ret2
        exact ⟨(by rw [HF.out]; first | done | rfl), ext_gw _ _⟩
  · have hz := Bool.eq_false_iff.2 h
    rw [show daysV n m g d l = (0, false) from if_neg h]
    clear h
    unfold daysC at hz
    cases hq0 : workersB n m
    · clear hz
      go_enter Try.func26, Try.ntmps26
      go_wp2_with (first | (go_at_call 39; refine (l5Good_any _ _ _ _ _ HC.out HN.out (by first | exact HR.out | exact HR.out.ext (ext_gw _ _))).mono ?_; rintro e w1 ⟨rfl, hx⟩; (try replace hx := Ext.flat hx); obtain ⟨x, rfl⟩ := hx.to_gw; clear hx) | (go_at_call 43; refine (l5Gang_any _ _).mono ?_; rintro e w1 ⟨rfl, rfl⟩) | (go_at_call 44; refine (l2Day_any _ _).mono ?_; rintro e w1 ⟨rfl, rfl⟩) | (go_at_call 50; refine (l1In_any _ _ _ _).mono ?_; rintro e w1 ⟨rfl, rfl⟩))
      go_ret2
      exact ⟨rfl, by repeat (with_reducible first | exact Ext.refl _ | refine Ext.setCell ?_ (by first | (simp; done) | (simp; omega)) _ | refine Ext.alloc ?_ _ | refine Ext.gw ?_ _ | refine Ext.drew ?_)⟩
    · skip
      cases hq1 : inB g 1 5
      · clear hz
        go_enter Try.func26, Try.ntmps26
        go_wp2_with (first | (go_at_call 39; refine (l5Good_any _ _ _ _ _ HC.out HN.out (by first | exact HR.out | exact HR.out.ext (ext_gw _ _))).mono ?_; rintro e w1 ⟨rfl, hx⟩; (try replace hx := Ext.flat hx); obtain ⟨x, rfl⟩ := hx.to_gw; clear hx) | (go_at_call 43; refine (l5Gang_any _ _).mono ?_; rintro e w1 ⟨rfl, rfl⟩) | (go_at_call 44; refine (l2Day_any _ _).mono ?_; rintro e w1 ⟨rfl, rfl⟩) | (go_at_call 50; refine (l1In_any _ _ _ _).mono ?_; rintro e w1 ⟨rfl, rfl⟩))
        go_ret2
        exact ⟨rfl, by repeat (with_reducible first | exact Ext.refl _ | refine Ext.setCell ?_ (by first | (simp; done) | (simp; omega)) _ | refine Ext.alloc ?_ _ | refine Ext.gw ?_ _ | refine Ext.drew ?_)⟩
      · skip
        cases hq2 : inB d 0 4000
        · clear hz
          go_enter Try.func26, Try.ntmps26
          go_wp2_with (first | (go_at_call 39; refine (l5Good_any _ _ _ _ _ HC.out HN.out (by first | exact HR.out | exact HR.out.ext (ext_gw _ _))).mono ?_; rintro e w1 ⟨rfl, hx⟩; (try replace hx := Ext.flat hx); obtain ⟨x, rfl⟩ := hx.to_gw; clear hx) | (go_at_call 43; refine (l5Gang_any _ _).mono ?_; rintro e w1 ⟨rfl, rfl⟩) | (go_at_call 44; refine (l2Day_any _ _).mono ?_; rintro e w1 ⟨rfl, rfl⟩) | (go_at_call 50; refine (l1In_any _ _ _ _).mono ?_; rintro e w1 ⟨rfl, rfl⟩))
          go_ret2
          exact ⟨rfl, by repeat (with_reducible first | exact Ext.refl _ | refine Ext.setCell ?_ (by first | (simp; done) | (simp; omega)) _ | refine Ext.alloc ?_ _ | refine Ext.gw ?_ _ | refine Ext.drew ?_)⟩
        · skip
          have hq3 : inB l 1 10000 = false := by simpa [hq0, hq1, hq2] using hz
          clear hz
          go_enter Try.func26, Try.ntmps26
          go_wp2_with (first | (go_at_call 39; refine (l5Good_any _ _ _ _ _ HC.out HN.out (by first | exact HR.out | exact HR.out.ext (ext_gw _ _))).mono ?_; rintro e w1 ⟨rfl, hx⟩; (try replace hx := Ext.flat hx); obtain ⟨x, rfl⟩ := hx.to_gw; clear hx) | (go_at_call 43; refine (l5Gang_any _ _).mono ?_; rintro e w1 ⟨rfl, rfl⟩) | (go_at_call 44; refine (l2Day_any _ _).mono ?_; rintro e w1 ⟨rfl, rfl⟩) | (go_at_call 50; refine (l1In_any _ _ _ _).mono ?_; rintro e w1 ⟨rfl, rfl⟩))
          go_ret2
          exact ⟨rfl, by repeat (with_reducible first | exact Ext.refl _ | refine Ext.setCell ?_ (by first | (simp; done) | (simp; omega)) _ | refine Ext.alloc ?_ _ | refine Ext.gw ?_ _ | refine Ext.drew ?_)⟩
end Go.Proofs.Ytjfeicbffioinaa
