/- AreaAbove: the contracts. -/
import Derived.Test.YtgehoihfiboeeaaTideAt
namespace Go.Proofs.Ytgehoihfiboeeaa
open Go.RowKit
set_option linter.unusedVariables false

def areaTo (n : Nat) (m : Nat → Mk) (h : Int) : Nat → Int
  | 0 => 0
  | k + 1 => areaTo n m h k + (if 0 ≤ atN n m k - h * atD n m k then atN n m k - h * atD n m k else 0) / atD n m k
theorem area_step {n : Nat} {m : Nat → Mk} {h : Int} (hP : tideP n m) (h0 : -500 ≤ h) (h1 : h ≤ 500) (k : Nat) (hk : (k : Int) ≤ 1440) :
    (-3000000 ≤ atN n m k ∧ atN n m k ≤ 3000000) ∧ (1 ≤ atD n m k ∧ atD n m k ≤ 1440) ∧ (-1440000 ≤ h * atD n m k ∧ h * atD n m k ≤ 1440000) := by
  obtain ⟨p1, p2⟩ := at_bd hP (t := (k : Int)) (by omega) hk
  exact ⟨p1, p2, mulT (by omega) (by omega) (by omega) (by omega)⟩
theorem area_bd {n : Nat} {m : Nat → Mk} {h : Int} (hP : tideP n m) (h0 : -500 ≤ h) (h1 : h ≤ 500) (k : Nat) (hk : (k : Int) ≤ 1441) : 0 ≤ areaTo n m h k ∧ areaTo n m h k ≤ 5000000 * (k : Int) := by
  induction k with
  | zero => exact ⟨Int.le_refl _, Int.le_refl _⟩
  | succ k ih =>
    have ih2 := ih (by omega)
    obtain ⟨p1, p2, p3⟩ := area_step hP h0 h1 k (by omega)
    have q0 : 0 ≤ (if 0 ≤ atN n m k - h * atD n m k then atN n m k - h * atD n m k else 0) / atD n m k := Int.ediv_nonneg (by split <;> omega) (by omega)
    have q1 : (if 0 ≤ atN n m k - h * atD n m k then atN n m k - h * atD n m k else 0) / atD n m k ≤ (if 0 ≤ atN n m k - h * atD n m k then atN n m k - h * atD n m k else 0) := Int.ediv_le_self _ (by split <;> omega)
    have q2 : (if 0 ≤ atN n m k - h * atD n m k then atN n m k - h * atD n m k else 0) ≤ 4440000 := by split <;> omega
    unfold areaTo
    omega
noncomputable def areaC (n : Nat) (m : Nat → Mk) (h : Int) : Bool := tideB n m && inB h (-500) 500
noncomputable def areaV (n : Nat) (m : Nat → Mk) (h : Int) : Int := if areaC n m h = true then areaTo n m h 1441 else 0
set_option maxRecDepth 20000 in
set_option maxHeartbeats 4000000 in
theorem specArea_any (A : Option Addr) (n c : Nat) (m : Nat → Mk) (h : Int) (w : World) (hc : c ≤ maxLen) (hnc : n ≤ c) (hr : Rd w A n 2 (mkF m)) :
    Calls Try.prog 40 #[.slice A n c, .int .i64 h] w fun e w' => e = .returned (.tuple #[.int .i64 (areaV n m h), .bool (areaC n m h)]) ∧ Ext w w' := by
  have HR := Lib.hid hr
  have HC := Lib.hid hc
  have HN := Lib.hid hnc
  clear hr hc hnc
  unfold areaV
  cases hv : tideB n m
  · have ho : areaC n m h = false := by unfold areaC; rw [hv]; rfl
    rw [ho]
    clear ho
    go_enter Try.func40, Try.ntmps40
    go_wp2_with (first | (go_at_call 69; refine (l4Good_any _ _ _ _ _ HC.out HN.out (by first | exact HR.out | exact HR.out.ext (ext_gw _ _))).mono ?_; rintro e w1 ⟨rfl, hx⟩; (try replace hx := Ext.flat hx); obtain ⟨x, rfl⟩ := hx.to_gw; clear hx) | (go_at_call 79; refine (l4Height_any _ _).mono ?_; rintro e w1 ⟨rfl, rfl⟩))
    go_ret2
    exact ⟨rfl, by repeat (with_reducible first | exact Ext.refl _ | refine Ext.setCell ?_ (by first | (simp; done) | (simp; omega)) _ | refine Ext.alloc ?_ _ | refine Ext.gw ?_ _ | refine Ext.drew ?_)⟩
  · cases hi : inB h (-500) 500
    · have ho : areaC n m h = false := by unfold areaC; rw [hv, hi]; rfl
      rw [ho]
      clear ho
      go_enter Try.func40, Try.ntmps40
      go_wp2_with (first | (go_at_call 69; refine (l4Good_any _ _ _ _ _ HC.out HN.out (by first | exact HR.out | exact HR.out.ext (ext_gw _ _))).mono ?_; rintro e w1 ⟨rfl, hx⟩; (try replace hx := Ext.flat hx); obtain ⟨x, rfl⟩ := hx.to_gw; clear hx) | (go_at_call 79; refine (l4Height_any _ _).mono ?_; rintro e w1 ⟨rfl, rfl⟩))
      go_ret2
      exact ⟨rfl, by repeat (with_reducible first | exact Ext.refl _ | refine Ext.setCell ?_ (by first | (simp; done) | (simp; omega)) _ | refine Ext.alloc ?_ _ | refine Ext.gw ?_ _ | refine Ext.drew ?_)⟩
    · have ho : areaC n m h = true := by unfold areaC; rw [hv, hi]; rfl
      rw [ho, if_pos rfl]
      clear ho
      have HV := Lib.hid (tideB_iff.1 hv)
      obtain ⟨h0, h1⟩ := inB_iff.1 hi
      go_enter Try.func40, Try.ntmps40
      go_wp2_with (first | (go_at_call 69; refine (l4Good_any _ _ _ _ _ HC.out HN.out (by first | exact HR.out | exact HR.out.ext (ext_gw _ _))).mono ?_; rintro e w1 ⟨rfl, hx⟩; (try replace hx := Ext.flat hx); obtain ⟨x, rfl⟩ := hx.to_gw; clear hx) | (go_at_call 79; refine (l4Height_any _ _).mono ?_; rintro e w1 ⟨rfl, rfl⟩))
      go_loopw [6, 7, 8, 9] (fun s i _ _ wr => ∃ k : Nat, i = .int .i64 k ∧ k ≤ 1441 ∧ s = .int .i64 (areaTo n m h k) ∧ ∃ y, wr = gw w y) (fun _ i _ _ _ => 1441 - (intOf i).toNat)
      case atStart => exact ⟨0, rfl, by omega, rfl, _, rfl⟩
      case round =>
        obtain ⟨k, rfl, hk, rfl, y, rfl⟩ := hrel
        have hbd := area_bd HV.out h0 h1 k (by omega)
        by_cases hlt : (k : Int) ≤ 1440
        · obtain ⟨p1, p2, p3⟩ := area_step HV.out h0 h1 k hlt
          have i0 : (0 : Int) ≤ (k : Int) := by omega
          by_cases hs : 0 ≤ atN n m k - h * atD n m k
          · skip
            have HE := Lib.hid (show areaTo n m h (k + 1) = areaTo n m h k + (atN n m k - h * atD n m k) / atD n m k by show areaTo n m h k + (if 0 ≤ atN n m k - h * atD n m k then atN n m k - h * atD n m k else 0) / atD n m k = _; rw [if_pos hs])
            have hmx : max 0 (atN n m k - h * atD n m k) = atN n m k - h * atD n m k := by omega
            have hq := Int.ediv_nonneg (show 0 ≤ atN n m k - h * atD n m k by omega) (show 0 ≤ atD n m k by omega)
            have hq1 := Int.ediv_le_self (atD n m k) (show 0 ≤ atN n m k - h * atD n m k by omega)
            go_wp2_with (first | (go_at_call 76; refine (l4At_any _ _ _ _ _ _ HC.out HN.out (HR.out.ext (ext_gw _ _)) HV.out (by omega) (by omega)).mono ?_; rintro e w1 ⟨rfl, hx⟩; (try replace hx := Ext.flat hx); obtain ⟨x, rfl⟩ := hx.to_gw; clear hx) | (go_at_call 53; refine (l1Most_any _ _ _).mono ?_; rintro e w1 ⟨rfl, rfl⟩))
            go_roundw
            case rel => exact ⟨k + 1, by go_num, by omega, (by rw [HE.out]; first | done | rfl | simp), _, rfl⟩
            case measure => simp [intOf]; omega
          · skip
            have HE := Lib.hid (show areaTo n m h (k + 1) = areaTo n m h k + (0) / atD n m k by show areaTo n m h k + (if 0 ≤ atN n m k - h * atD n m k then atN n m k - h * atD n m k else 0) / atD n m k = _; rw [if_neg hs])
            have hmx : max 0 (atN n m k - h * atD n m k) = 0 := by omega
            have hq := Int.ediv_nonneg (show 0 ≤ 0 by omega) (show 0 ≤ atD n m k by omega)
            have hq1 := Int.ediv_le_self (atD n m k) (show 0 ≤ 0 by omega)
            go_wp2_with (first | (go_at_call 76; refine (l4At_any _ _ _ _ _ _ HC.out HN.out (HR.out.ext (ext_gw _ _)) HV.out (by omega) (by omega)).mono ?_; rintro e w1 ⟨rfl, hx⟩; (try replace hx := Ext.flat hx); obtain ⟨x, rfl⟩ := hx.to_gw; clear hx) | (go_at_call 53; refine (l1Most_any _ _ _).mono ?_; rintro e w1 ⟨rfl, rfl⟩))
            go_roundw
            case rel => exact ⟨k + 1, by go_num, by omega, (by rw [HE.out]; first | done | rfl | simp), _, rfl⟩
            case measure => simp [intOf]; omega
        · obtain rfl : k = 1441 := by omega
          go_wp2
          go_ret2
          exact ⟨rfl, ext_gw _ _⟩
set_option maxRecDepth 20000 in
set_option maxHeartbeats 4000000 in
theorem implArea_any (A : Option Addr) (n c : Nat) (m : Nat → Mk) (h : Int) (w : World) (hc : c ≤ maxLen) (hnc : n ≤ c) (hr : Rd w A n 2 (mkF m)) :
    Calls Try.prog 39 #[.slice A n c, .int .i64 h] w fun e w' => e = .returned (.tuple #[.int .i64 (areaV n m h), .bool (areaC n m h)]) ∧ Ext w w' := by
  have HR := Lib.hid hr
  have HC := Lib.hid hc
  have HN := Lib.hid hnc
  clear hr hc hnc
  unfold areaV
  cases hv : tideB n m
  · have ho : areaC n m h = false := by unfold areaC; rw [hv]; rfl
    rw [ho]
    clear ho
    go_enter Try.func39, Try.ntmps39
    go_wp2_with (first | (go_at_call 23; refine (isTide_any _ _ _ _ _ HC.out HN.out (by first | exact HR.out | exact HR.out.ext (ext_gw _ _))).mono ?_; rintro e w1 ⟨rfl, hx⟩; (try replace hx := Ext.flat hx); obtain ⟨x, rfl⟩ := hx.to_gw; clear hx) | (go_at_call 68; refine (isHeight_any _ _).mono ?_; rintro e w1 ⟨rfl, rfl⟩))
    go_ret2
    exact ⟨rfl, by repeat (with_reducible first | exact Ext.refl _ | refine Ext.setCell ?_ (by first | (simp; done) | (simp; omega)) _ | refine Ext.alloc ?_ _ | refine Ext.gw ?_ _ | refine Ext.drew ?_)⟩
  · cases hi : inB h (-500) 500
    · have ho : areaC n m h = false := by unfold areaC; rw [hv, hi]; rfl
      rw [ho]
      clear ho
      go_enter Try.func39, Try.ntmps39
      go_wp2_with (first | (go_at_call 23; refine (isTide_any _ _ _ _ _ HC.out HN.out (by first | exact HR.out | exact HR.out.ext (ext_gw _ _))).mono ?_; rintro e w1 ⟨rfl, hx⟩; (try replace hx := Ext.flat hx); obtain ⟨x, rfl⟩ := hx.to_gw; clear hx) | (go_at_call 68; refine (isHeight_any _ _).mono ?_; rintro e w1 ⟨rfl, rfl⟩))
      go_ret2
      exact ⟨rfl, by repeat (with_reducible first | exact Ext.refl _ | refine Ext.setCell ?_ (by first | (simp; done) | (simp; omega)) _ | refine Ext.alloc ?_ _ | refine Ext.gw ?_ _ | refine Ext.drew ?_)⟩
    · have ho : areaC n m h = true := by unfold areaC; rw [hv, hi]; rfl
      rw [ho, if_pos rfl]
      clear ho
      have HV := Lib.hid (tideB_iff.1 hv)
      obtain ⟨h0, h1⟩ := inB_iff.1 hi
      go_enter Try.func39, Try.ntmps39
      go_wp2_with (first | (go_at_call 23; refine (isTide_any _ _ _ _ _ HC.out HN.out (by first | exact HR.out | exact HR.out.ext (ext_gw _ _))).mono ?_; rintro e w1 ⟨rfl, hx⟩; (try replace hx := Ext.flat hx); obtain ⟨x, rfl⟩ := hx.to_gw; clear hx) | (go_at_call 68; refine (isHeight_any _ _).mono ?_; rintro e w1 ⟨rfl, rfl⟩))
      go_loopw [6, 7, 8, 9, 18] (fun s _ _ _ i wr => ∃ k : Nat, i = .int .i64 k ∧ k ≤ 1441 ∧ s = .int .i64 (areaTo n m h k) ∧ ∃ y, wr = gw w y) (fun _ _ _ _ i _ => 1441 - (intOf i).toNat)
      case atStart => exact ⟨0, rfl, by omega, rfl, _, rfl⟩
      case round =>
        obtain ⟨k, rfl, hk, rfl, y, rfl⟩ := hrel
        have hbd := area_bd HV.out h0 h1 k (by omega)
        by_cases hlt : (k : Int) ≤ 1440
        · obtain ⟨p1, p2, p3⟩ := area_step HV.out h0 h1 k hlt
          have i0 : (0 : Int) ≤ (k : Int) := by omega
          by_cases hs : 0 ≤ atN n m k - h * atD n m k
          · skip
            have HE := Lib.hid (show areaTo n m h (k + 1) = areaTo n m h k + (atN n m k - h * atD n m k) / atD n m k by show areaTo n m h k + (if 0 ≤ atN n m k - h * atD n m k then atN n m k - h * atD n m k else 0) / atD n m k = _; rw [if_pos hs])
            have hq := Int.ediv_nonneg (show 0 ≤ atN n m k - h * atD n m k by omega) (show 0 ≤ atD n m k by omega)
            have hq1 := Int.ediv_le_self (atD n m k) (show 0 ≤ atN n m k - h * atD n m k by omega)
            go_wp2_with (first | (go_at_call 74; refine (tideAt_any _ _ _ _ _ _ HC.out HN.out (HR.out.ext (ext_gw _ _)) HV.out (by omega) (by omega)).mono ?_; rintro e w1 ⟨rfl, hx⟩; (try replace hx := Ext.flat hx); obtain ⟨x, rfl⟩ := hx.to_gw; clear hx))
            go_roundw
            case rel => exact ⟨k + 1, by go_num, by omega, (by rw [HE.out]; first | done | rfl | simp), _, rfl⟩
            case measure => simp [intOf]; omega
          · skip
            have HE := Lib.hid (show areaTo n m h (k + 1) = areaTo n m h k + (0) / atD n m k by show areaTo n m h k + (if 0 ≤ atN n m k - h * atD n m k then atN n m k - h * atD n m k else 0) / atD n m k = _; rw [if_neg hs])
            have hq := Int.ediv_nonneg (show 0 ≤ 0 by omega) (show 0 ≤ atD n m k by omega)
            have hq1 := Int.ediv_le_self (atD n m k) (show 0 ≤ 0 by omega)
            go_wp2_with (first | (go_at_call 74; refine (tideAt_any _ _ _ _ _ _ HC.out HN.out (HR.out.ext (ext_gw _ _)) HV.out (by omega) (by omega)).mono ?_; rintro e w1 ⟨rfl, hx⟩; (try replace hx := Ext.flat hx); obtain ⟨x, rfl⟩ := hx.to_gw; clear hx))
            go_roundw
            case rel => exact ⟨k + 1, by go_num, by omega, (by rw [HE.out]; first | done | rfl | simp), _, rfl⟩
            case measure => simp [intOf]; omega
        · obtain rfl : k = 1441 := by omega
          go_wp2
          go_ret2
          exact ⟨rfl, ext_gw _ _⟩
end Go.Proofs.Ytgehoihfiboeeaa
