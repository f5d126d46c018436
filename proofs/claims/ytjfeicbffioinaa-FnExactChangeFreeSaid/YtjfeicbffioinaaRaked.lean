/- What a gang rakes on a weekday: the contracts of the program's raked and of the reference's l5Raked. -/
import Derived.Test.YtjfeicbffioinaaWorkers
namespace Go.Proofs.Ytjfeicbffioinaa
open Go.RowKit
set_option linter.unusedVariables false

def selP (x : Wk) (g d o : Int) : Prop := x.gang = g ∧ x.free ≠ d ∧ x.id ≠ o
instance (x : Wk) (g d o : Int) : Decidable (selP x g d o) := by unfold selP; infer_instance
def cntTo (m : Nat → Wk) (g d o : Int) : Nat → Int
  | 0 => 0
  | k + 1 => if selP (m k) g d o then cntTo m g d o k + 1 else cntTo m g d o k
def sumTo (m : Nat → Wk) (g d o : Int) : Nat → Int
  | 0 => 0
  | k + 1 => if selP (m k) g d o then sumTo m g d o k + (m k).rakes else sumTo m g d o k
def cartTo (m : Nat → Wk) (g d o : Int) : Nat → Bool
  | 0 => false
  | k + 1 => if selP (m k) g d o then cartTo m g d o k || (m k).cart else cartTo m g d o k
def worksB (m : Nat → Wk) (g d o : Int) (n : Nat) : Bool := decide (2 ≤ cntTo m g d o n) && cartTo m g d o n
def rakedV (m : Nat → Wk) (g d o : Int) (n : Nat) : Int := if worksB m g d o n = true then sumTo m g d o n else 0
theorem to_bd {n : Nat} {m : Nat → Wk} (g d o : Int) (h : workersP n m) (k : Nat) (hk : k ≤ n) :
    0 ≤ cntTo m g d o k ∧ cntTo m g d o k ≤ (k : Int) ∧ cntTo m g d o k ≤ sumTo m g d o k ∧ sumTo m g d o k ≤ 50 * (k : Int) := by
  induction k with
  | zero => exact ⟨by simp [cntTo], by simp [cntTo], by simp [cntTo, sumTo], by simp [sumTo]⟩
  | succ k ih =>
    obtain ⟨h1, h2, h3, h4⟩ := ih (by omega)
    obtain ⟨⟨_, _, ⟨r0, r1⟩, _⟩, _⟩ := h.2 k (by omega)
    by_cases hs : selP (m k) g d o
    · simp only [cntTo, sumTo, if_pos hs]
      omega
    · simp only [cntTo, sumTo, if_neg hs]
      omega
theorem rakedV_pos {n : Nat} {m : Nat → Wk} (g d o : Int) (h : workersP n m) : (rakedV m g d o n = 0 ↔ worksB m g d o n = false) ∧ 0 ≤ rakedV m g d o n ∧ rakedV m g d o n ≤ 600 := by
  obtain ⟨h1, h2, h3, h4⟩ := to_bd g d o h n (Nat.le_refl _)
  have := h.1
  unfold rakedV
  cases hw : worksB m g d o n
  · simp
  · have h5 : 2 ≤ cntTo m g d o n := by
      unfold worksB at hw
      rw [Bool.and_eq_true] at hw
      exact of_decide_eq_true hw.1
    simp
    omega

set_option maxHeartbeats 2000000 in
theorem raked_any (A : Option Addr) (n cp : Nat) (m : Nat → Wk) (g d o : Int) (w : World) (hc : cp ≤ maxLen) (hnc : n ≤ cp) (hr : Rd w A n 5 (wkF m)) (hv : workersP n m) :
    Calls Try.prog 48 #[.slice A n cp, .int .i64 g, .int .i64 d, .int .i64 o] w fun e w' => e = .returned (.int .i64 (rakedV m g d o n)) ∧ Ext w w' := by
  unfold maxLen at *
  have HV := Lib.hid hv
  have hn12 := hv.1
  clear hv
  go_enter Try.func48, Try.ntmps48
  go_wp2
  go_loopw [9, 10, 11, 16] (fun c s t i wr => ∃ k : Nat, i = .int .i64 k ∧ k ≤ n ∧ c = .int .i64 (cntTo m g d o k) ∧ s = .int .i64 (sumTo m g d o k) ∧ t = .bool (cartTo m g d o k) ∧ ∃ y, wr = gw w y) (fun _ _ _ i _ => n - (intOf i).toNat)
  case atStart => exact ⟨0, rfl, Nat.zero_le _, rfl, rfl, rfl, (Ext.refl w).to_gw⟩
  case round =>
    obtain ⟨k, rfl, hk, rfl, rfl, rfl, y, rfl⟩ := hrel
    obtain ⟨b1, b2, b3, b4⟩ := to_bd g d o HV.out k hk
    by_cases hlt : k < n
    · obtain ⟨b, off, rfl, hg, c0, c1, c2, c3, c4⟩ := hr.atWorker hlt
      obtain ⟨⟨_, _, ⟨r0, r1⟩, _⟩, _⟩ := HV.out.2 k hlt
      have i0 : (0 : Int) ≤ (k : Int) := by omega
      have i1 : (k : Int) < (n : Int) := by omega
      by_cases hg1 : (m k).gang = g
      · by_cases hg2 : (m k).free = d
        · have hs : ¬ selP (m k) g d o := fun h => h.2.1 hg2
          have q1 : ((m k).gang == g) = true := by simp [hg1]
          have q2 : ((m k).free != d) = false := by simp [hg2]
          clear hg1 hg2
          have HS := Lib.hid hs
          clear hs
          go_wp2
          go_roundw
          case rel =>
            exact ⟨k + 1, by go_num, by omega, by simp only [cntTo, if_neg HS.out], by simp only [sumTo, if_neg HS.out], by simp only [cartTo, if_neg HS.out], ((by repeat (with_reducible first | exact Ext.refl _ | refine Ext.setCell ?_ (by first | (simp; done) | (simp; omega)) _ | refine Ext.alloc ?_ _ | refine Ext.gw ?_ _ | refine Ext.drew ?_) : Ext w _)).to_gw⟩
          case measure => simp [intOf]; omega
        · by_cases hg3 : (m k).id = o
          · have hs : ¬ selP (m k) g d o := fun h => h.2.2 hg3
            have q1 : ((m k).gang == g) = true := by simp [hg1]
            have q2 : ((m k).free != d) = true := by simp [hg2]
            have q3 : ((m k).id != o) = false := by simp [hg3]
            clear hg1 hg2 hg3
            have HS := Lib.hid hs
            clear hs
            go_wp2
            go_roundw
            case rel =>
              exact ⟨k + 1, by go_num, by omega, by simp only [cntTo, if_neg HS.out], by simp only [sumTo, if_neg HS.out], by simp only [cartTo, if_neg HS.out], ((by repeat (with_reducible first | exact Ext.refl _ | refine Ext.setCell ?_ (by first | (simp; done) | (simp; omega)) _ | refine Ext.alloc ?_ _ | refine Ext.gw ?_ _ | refine Ext.drew ?_) : Ext w _)).to_gw⟩
            case measure => simp [intOf]; omega
          · have hs : selP (m k) g d o := ⟨hg1, hg2, hg3⟩
            have q1 : ((m k).gang == g) = true := by simp [hg1]
            have q2 : ((m k).free != d) = true := by simp [hg2]
            have q3 : ((m k).id != o) = true := by simp [hg3]
            clear hg1 hg2 hg3
            have HS := Lib.hid hs
            clear hs
            cases hct : cartTo m g d o k
            all_goals
              go_wp2
              go_roundw
              case rel =>
                exact ⟨k + 1, by go_num, by omega, by simp only [cntTo, if_pos HS.out], by simp only [sumTo, if_pos HS.out], by simp only [cartTo, if_pos HS.out, hct, Bool.true_or, Bool.false_or], ((by repeat (with_reducible first | exact Ext.refl _ | refine Ext.setCell ?_ (by first | (simp; done) | (simp; omega)) _ | refine Ext.alloc ?_ _ | refine Ext.gw ?_ _ | refine Ext.drew ?_) : Ext w _)).to_gw⟩
              case measure => simp [intOf]; omega
      · have hs : ¬ selP (m k) g d o := fun h => hg1 h.1
        have q1 : ((m k).gang == g) = false := by simp [hg1]
        clear hg1
        have HS := Lib.hid hs
        clear hs
        go_wp2
        go_roundw
        case rel =>
          exact ⟨k + 1, by go_num, by omega, by simp only [cntTo, if_neg HS.out], by simp only [sumTo, if_neg HS.out], by simp only [cartTo, if_neg HS.out], ((by repeat (with_reducible first | exact Ext.refl _ | refine Ext.setCell ?_ (by first | (simp; done) | (simp; omega)) _ | refine Ext.alloc ?_ _ | refine Ext.gw ?_ _ | refine Ext.drew ?_) : Ext w _)).to_gw⟩
        case measure => simp [intOf]; omega
    · obtain rfl : k = n := by omega
      by_cases h2 : cntTo m g d o k < 2
      · have hw : worksB m g d o k = false := by unfold worksB; rw [decide_eq_false (by omega)]; rfl
        have hrv : rakedV m g d o k = 0 := by unfold rakedV; rw [hw]; rfl
        have HRV := Lib.hid hrv
        skip
        clear hw hrv
        go_wp2
        go_ret
        exact ⟨(by rw [HRV.out]; first | done | rfl), by repeat (with_reducible first | exact Ext.refl _ | refine Ext.setCell ?_ (by first | (simp; done) | (simp; omega)) _ | refine Ext.alloc ?_ _ | refine Ext.gw ?_ _ | refine Ext.drew ?_)⟩
      · cases hct : cartTo m g d o k
        · have hw : worksB m g d o k = false := by unfold worksB; rw [hct, Bool.and_false]
          have hrv : rakedV m g d o k = 0 := by unfold rakedV; rw [hw]; rfl
          have HRV := Lib.hid hrv
          skip
          clear hw hrv
          go_wp2
          go_ret
          exact ⟨(by rw [HRV.out]; first | done | rfl), by repeat (with_reducible first | exact Ext.refl _ | refine Ext.setCell ?_ (by first | (simp; done) | (simp; omega)) _ | refine Ext.alloc ?_ _ | refine Ext.gw ?_ _ | refine Ext.drew ?_)⟩
        · have hw : worksB m g d o k = true := by unfold worksB; rw [hct, decide_eq_true (by omega)]; rfl
          have hrv : rakedV m g d o k = sumTo m g d o k := by unfold rakedV; rw [hw]; rfl
          have HRV := Lib.hid hrv
          skip
          clear hw hrv
          go_wp2
          go_ret
          exact ⟨(by rw [HRV.out]; first | done | rfl), by repeat (with_reducible first | exact Ext.refl _ | refine Ext.setCell ?_ (by first | (simp; done) | (simp; omega)) _ | refine Ext.alloc ?_ _ | refine Ext.gw ?_ _ | refine Ext.drew ?_)⟩
set_option maxHeartbeats 2000000 in
theorem l5Raked_any (A : Option Addr) (n cp : Nat) (m : Nat → Wk) (g d o : Int) (w : World) (hc : cp ≤ maxLen) (hnc : n ≤ cp) (hr : Rd w A n 5 (wkF m)) (hv : workersP n m) :
    Calls Try.prog 45 #[.slice A n cp, .int .i64 g, .int .i64 d, .int .i64 o] w fun e w' => e = .returned (.tuple #[.int .i64 (rakedV m g d o n), .bool (worksB m g d o n)]) ∧ Ext w w' := by
  unfold maxLen at *
  have HV := Lib.hid hv
  have hn12 := hv.1
  clear hv
  go_enter Try.func45, Try.ntmps45
  go_wp2
  go_loopw [10, 11, 12, 13] (fun c s t i wr => ∃ k : Nat, i = .int .i64 k ∧ k ≤ n ∧ c = .int .i64 (cntTo m g d o k) ∧ s = .int .i64 (sumTo m g d o k) ∧ t = .bool (cartTo m g d o k) ∧ ∃ y, wr = gw w y) (fun _ _ _ i _ => n - (intOf i).toNat)
  case atStart => exact ⟨0, rfl, Nat.zero_le _, rfl, rfl, rfl, (Ext.refl w).to_gw⟩
  case round =>
    obtain ⟨k, rfl, hk, rfl, rfl, rfl, y, rfl⟩ := hrel
    obtain ⟨b1, b2, b3, b4⟩ := to_bd g d o HV.out k hk
    by_cases hlt : k < n
    · obtain ⟨b, off, rfl, hg, c0, c1, c2, c3, c4⟩ := hr.atWorker hlt
      obtain ⟨⟨_, _, ⟨r0, r1⟩, _⟩, _⟩ := HV.out.2 k hlt
      have i0 : (0 : Int) ≤ (k : Int) := by omega
      have i1 : (k : Int) < (n : Int) := by omega
      by_cases hg1 : (m k).gang = g
      · by_cases hg2 : (m k).free = d
        · have hs : ¬ selP (m k) g d o := fun h => h.2.1 hg2
          have q1 : ((m k).gang == g) = true := by simp [hg1]
          have q2 : ((m k).free != d) = false := by simp [hg2]
          clear hg1 hg2
          have HS := Lib.hid hs
          clear hs
          go_wp2
          go_roundw
          case rel =>
            exact ⟨k + 1, by go_num, by omega, by simp only [cntTo, if_neg HS.out], by simp only [sumTo, if_neg HS.out], by simp only [cartTo, if_neg HS.out], ((by repeat (with_reducible first | exact Ext.refl _ | refine Ext.setCell ?_ (by first | (simp; done) | (simp; omega)) _ | refine Ext.alloc ?_ _ | refine Ext.gw ?_ _ | refine Ext.drew ?_) : Ext w _)).to_gw⟩
          case measure => simp [intOf]; omega
        · by_cases hg3 : (m k).id = o
          · have hs : ¬ selP (m k) g d o := fun h => h.2.2 hg3
            have q1 : ((m k).gang == g) = true := by simp [hg1]
            have q2 : ((m k).free != d) = true := by simp [hg2]
            have q3 : ((m k).id != o) = false := by simp [hg3]
            clear hg1 hg2 hg3
            have HS := Lib.hid hs
            clear hs
            go_wp2
            go_roundw
            case rel =>
              exact ⟨k + 1, by go_num, by omega, by simp only [cntTo, if_neg HS.out], by simp only [sumTo, if_neg HS.out], by simp only [cartTo, if_neg HS.out], ((by repeat (with_reducible first | exact Ext.refl _ | refine Ext.setCell ?_ (by first | (simp; done) | (simp; omega)) _ | refine Ext.alloc ?_ _ | refine Ext.gw ?_ _ | refine Ext.drew ?_) : Ext w _)).to_gw⟩
            case measure => simp [intOf]; omega
          · have hs : selP (m k) g d o := ⟨hg1, hg2, hg3⟩
            have q1 : ((m k).gang == g) = true := by simp [hg1]
            have q2 : ((m k).free != d) = true := by simp [hg2]
            have q3 : ((m k).id != o) = true := by simp [hg3]
            clear hg1 hg2 hg3
            have HS := Lib.hid hs
            clear hs
            cases hct : cartTo m g d o k
            all_goals
              go_wp2
              go_roundw
              case rel =>
                exact ⟨k + 1, by go_num, by omega, by simp only [cntTo, if_pos HS.out], by simp only [sumTo, if_pos HS.out], by simp only [cartTo, if_pos HS.out, hct, Bool.true_or, Bool.false_or], ((by repeat (with_reducible first | exact Ext.refl _ | refine Ext.setCell ?_ (by first | (simp; done) | (simp; omega)) _ | refine Ext.alloc ?_ _ | refine Ext.gw ?_ _ | refine Ext.drew ?_) : Ext w _)).to_gw⟩
              case measure => simp [intOf]; omega
      · have hs : ¬ selP (m k) g d o := fun h => hg1 h.1
        have q1 : ((m k).gang == g) = false := by simp [hg1]
        clear hg1
        have HS := Lib.hid hs
        clear hs
        go_wp2
        go_roundw
        case rel =>
          exact ⟨k + 1, by go_num, by omega, by simp only [cntTo, if_neg HS.out], by simp only [sumTo, if_neg HS.out], by simp only [cartTo, if_neg HS.out], ((by repeat (with_reducible first | exact Ext.refl _ | refine Ext.setCell ?_ (by first | (simp; done) | (simp; omega)) _ | refine Ext.alloc ?_ _ | refine Ext.gw ?_ _ | refine Ext.drew ?_) : Ext w _)).to_gw⟩
        case measure => simp [intOf]; omega
    · obtain rfl : k = n := by omega
      by_cases h2 : cntTo m g d o k < 2
      · have hw : worksB m g d o k = false := by unfold worksB; rw [decide_eq_false (by omega)]; rfl
        have hrv : rakedV m g d o k = 0 := by unfold rakedV; rw [hw]; rfl
        have HRV := Lib.hid hrv
        have HWB := Lib.hid hw
        clear hw hrv
        go_wp2
        go_ret2
        exact ⟨(by rw [HRV.out, HWB.out]; first | done | rfl), by repeat (with_reducible first | exact Ext.refl _ | refine Ext.setCell ?_ (by first | (simp; done) | (simp; omega)) _ | refine Ext.alloc ?_ _ | refine Ext.gw ?_ _ | refine Ext.drew ?_)⟩
      · cases hct : cartTo m g d o k
        · have hw : worksB m g d o k = false := by unfold worksB; rw [hct, Bool.and_false]
          have hrv : rakedV m g d o k = 0 := by unfold rakedV; rw [hw]; rfl
          have HRV := Lib.hid hrv
          have HWB := Lib.hid hw
          clear hw hrv
          go_wp2
          go_ret2
          exact ⟨(by rw [HRV.out, HWB.out]; first | done | rfl), by repeat (with_reducible first | exact Ext.refl _ | refine Ext.setCell ?_ (by first | (simp; done) | (simp; omega)) _ | refine Ext.alloc ?_ _ | refine Ext.gw ?_ _ | refine Ext.drew ?_)⟩
        · have hw : worksB m g d o k = true := by unfold worksB; rw [hct, decide_eq_true (by omega)]; rfl
          have hrv : rakedV m g d o k = sumTo m g d o k := by unfold rakedV; rw [hw]; rfl
          have HRV := Lib.hid hrv
          have HWB := Lib.hid hw
          clear hw hrv
          go_wp2
          go_ret2
          exact ⟨(by rw [HRV.out, HWB.out]; first | done | rfl), by repeat (with_reducible first | exact Ext.refl _ | refine Ext.setCell ?_ (by first | (simp; done) | (simp; omega)) _ | refine Ext.alloc ?_ _ | refine Ext.gw ?_ _ | refine Ext.drew ?_)⟩
end Go.Proofs.Ytjfeicbffioinaa
