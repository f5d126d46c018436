/- RakedWeek and rakedWeek: the contracts. -/
import Derived.Test.YtjfeicbffioinaaRakedOn
import Derived.Test.YtjfeicbffioinaaIntS
namespace Go.Proofs.Ytjfeicbffioinaa
open Go.RowKit
set_option linter.unusedVariables false

def weekV (m : Nat → Wk) (g : Int) (n : Nat) : Nat → Int := fun d => rakedV m g d 0 n
noncomputable def ganC (n : Nat) (m : Nat → Wk) (g : Int) : Bool := workersB n m && inB g 1 5
set_option maxHeartbeats 1000000 in
theorem rakedWeek_any (A : Option Addr) (n c : Nat) (m : Nat → Wk) (g : Int) (w : World) (hc : c ≤ maxLen) (hnc : n ≤ c) (hr : Rd w A n 5 (wkF m)) (hv : workersP n m) :
    Calls Try.prog 52 #[.slice A n c, .int .i64 g] w (RetO 3 1 7 (mk1 (weekV m g n)) w) := by
  have HR := Lib.hid hr
  have HC := Lib.hid hc
  have HN := Lib.hid hnc
  have HV := Lib.hid hv
  clear hr hc hnc hv
  go_enter Try.func52, Try.ntmps52
  go_wp2
  go_loopw [5, 6, 7] (fun v _ i wr => ∃ k : Nat, i = .int .i64 k ∧ k ≤ 7 ∧ OwnS wr w.heap.size 3 1 v k (mk1 (weekV m g n)) ∧ ∃ y, wr = gw w y) (fun _ _ i _ => 7 - (intOf i).toNat)
  case atStart => exact ⟨0, rfl, by omega, OwnS.nil, (Ext.refl w).to_gw⟩
  case round =>
    obtain ⟨k, rfl, hk, hown, y, rfl⟩ := hrel
    by_cases hlt : k < 7
    · go_wp2_with fail
      refine (raked_any _ _ _ m g k 0 _ HC.out HN.out (HR.out.ext (ext_gw _ _)) HV.out).mono ?_
      rintro e w1 ⟨rfl, hx⟩
      replace hown := hown.ext hx
      obtain ⟨x, rfl⟩ := (Ext.flat hx).to_gw
      clear hx
      go_wp2_with (at_builtin; refine wpList_append_G w w.heap.size rfl (ext_gw _ _) rfl _ _ elInt rfl rfl hown _ _ rfl rfl (by omega) ?_ ?_ ?_)
      · intro j hj
        match j, hj with
        | 0, _ => rfl
      · intro j hj
        match j, hj with
        | 0, _ => rfl
      · intro v' z hown3
        clear hown
        go_wp2
        go_roundw
        case rel => exact ⟨k + 1, by go_num, by omega, hown3, z, rfl⟩
        case measure => simp [intOf]; omega
    · obtain rfl : k = 7 := by omega
      go_wp2
      go_ret
      exact ⟨_, rfl, hown, ext_gw _ _⟩
set_option maxHeartbeats 1000000 in
theorem implRakedWeek_yes (A : Option Addr) (n c : Nat) (m : Nat → Wk) (g : Int) (w : World) (hc : c ≤ maxLen) (hnc : n ≤ c) (hr : Rd w A n 5 (wkF m)) (h : ganC n m g = true) :
    Calls Try.prog 32 #[.slice A n c, .int .i64 g] w (RetS 3 1 7 (mk1 (weekV m g n)) true w) := by
  have HR := Lib.hid hr
  have HC := Lib.hid hc
  have HN := Lib.hid hnc
  unfold ganC at h
  rw [Bool.and_eq_true] at h
  obtain ⟨hv, hgg⟩ := h
  have HV := Lib.hid (workersB_iff.1 hv)
  clear hr hc hnc
  go_enter Try.func32, Try.ntmps32
  go_wp2_with (first | (go_at_call 16; refine (areWorkers_any _ _ _ _ _ HC.out HN.out (by first | exact HR.out | exact HR.out.ext (ext_gw _ _))).mono ?_; rintro e w1 ⟨rfl, hx⟩; (try replace hx := Ext.flat hx); obtain ⟨x, rfl⟩ := hx.to_gw; clear hx) | (go_at_call 46; refine (isGang_any _ _).mono ?_; rintro e w1 ⟨rfl, rfl⟩))
  refine (rakedWeek_any _ _ _ m g _ HC.out HN.out (HR.out.ext (ext_gw _ _)) HV.out).mono ?_
  rintro e w1 ⟨v, rfl, hown, hx⟩
  go_wp2
  go_ret2
  exact ⟨_, rfl, hown.lower (ext_gw _ _).size_le, Ext.flat hx⟩
theorem implRakedWeek_no (A : Option Addr) (n c : Nat) (m : Nat → Wk) (g : Int) (w : World) (hc : c ≤ maxLen) (hnc : n ≤ c) (hr : Rd w A n 5 (wkF m)) (h : ganC n m g = false) :
    Calls Try.prog 32 #[.slice A n c, .int .i64 g] w (RetS 3 1 0 (mk1 (weekV m g n)) false w) := by
  have HR := Lib.hid hr
  have HC := Lib.hid hc
  have HN := Lib.hid hnc
  unfold ganC at h
  clear hr hc hnc
  cases hv : workersB n m
  · clear h
    go_enter Try.func32, Try.ntmps32
    go_wp2_with (first | (go_at_call 16; refine (areWorkers_any _ _ _ _ _ HC.out HN.out (by first | exact HR.out | exact HR.out.ext (ext_gw _ _))).mono ?_; rintro e w1 ⟨rfl, hx⟩; (try replace hx := Ext.flat hx); obtain ⟨x, rfl⟩ := hx.to_gw; clear hx) | (go_at_call 46; refine (isGang_any _ _).mono ?_; rintro e w1 ⟨rfl, rfl⟩))
    go_ret2
    exact ⟨_, rfl, OwnS.nil, by repeat (with_reducible first | exact Ext.refl _ | refine Ext.setCell ?_ (by first | (simp; done) | (simp; omega)) _ | refine Ext.alloc ?_ _ | refine Ext.gw ?_ _ | refine Ext.drew ?_)⟩
  · rw [hv, Bool.true_and] at h
    go_enter Try.func32, Try.ntmps32
    go_wp2_with (first | (go_at_call 16; refine (areWorkers_any _ _ _ _ _ HC.out HN.out (by first | exact HR.out | exact HR.out.ext (ext_gw _ _))).mono ?_; rintro e w1 ⟨rfl, hx⟩; (try replace hx := Ext.flat hx); obtain ⟨x, rfl⟩ := hx.to_gw; clear hx) | (go_at_call 46; refine (isGang_any _ _).mono ?_; rintro e w1 ⟨rfl, rfl⟩))
    go_ret2
    exact ⟨_, rfl, OwnS.nil, by repeat (with_reducible first | exact Ext.refl _ | refine Ext.setCell ?_ (by first | (simp; done) | (simp; omega)) _ | refine Ext.alloc ?_ _ | refine Ext.gw ?_ _ | refine Ext.drew ?_)⟩
set_option maxHeartbeats 1000000 in
theorem specRakedWeek_yes (A : Option Addr) (n c : Nat) (m : Nat → Wk) (g : Int) (w : World) (hc : c ≤ maxLen) (hnc : n ≤ c) (hr : Rd w A n 5 (wkF m)) (h : ganC n m g = true) :
    Calls Try.prog 31 #[.slice A n c, .int .i64 g] w (RetS 3 1 7 (mk1 (weekV m g n)) true w) := by
  have HR := Lib.hid hr
  have HR2 := Lib.hid (hr.ext (Ext.alloc (Ext.refl w) (.cells #[] 3)))
  have HC := Lib.hid hc
  have HN := Lib.hid hnc
  unfold ganC at h
  rw [Bool.and_eq_true] at h
  obtain ⟨hv, hgg⟩ := h
  have HV := Lib.hid (workersB_iff.1 hv)
  clear hr hc hnc
  go_enter Try.func31, Try.ntmps31
  go_wp2_with (first | (go_at_call 39; refine (l5Good_any _ _ _ _ _ HC.out HN.out (by first | exact HR2.out | exact HR2.out.ext (ext_gw _ _))).mono ?_; rintro e w1 ⟨rfl, hx⟩; (try replace hx := Ext.flat hx); obtain ⟨x, rfl⟩ := hx.to_gw; clear hx) | (go_at_call 43; refine (l5Gang_any _ _).mono ?_; rintro e w1 ⟨rfl, rfl⟩))
  have hx0 := ext_gw (w.alloc (Obj.cells #[] 3)) x
  go_loopw [6, 7, 8, 9] (fun v i _ _ wr => ∃ k : Nat, i = .int .i64 k ∧ k ≤ 7 ∧ OwnS wr w.heap.size 3 1 v k (mk1 (weekV m g n)) ∧ ∃ y, wr = gw w y) (fun _ i _ _ _ => 7 - (intOf i).toNat)
  case atStart => exact ⟨0, rfl, by omega, (own_empty _ _ rfl (Nat.le_refl _)).ext hx0, (Ext.trans (Ext.alloc (Ext.refl _) _) hx0).to_gw⟩
  case round =>
    obtain ⟨k, rfl, hk, hown, y, rfl⟩ := hrel
    clear hx0
    by_cases hlt : k < 7
    · go_wp2_with fail
      refine (l5Raked_any _ _ _ m g k 0 _ HC.out HN.out (HR.out.ext (ext_gw _ _)) HV.out).mono ?_
      rintro e w1 ⟨rfl, hx⟩
      replace hown := hown.ext hx
      obtain ⟨x, rfl⟩ := (Ext.flat hx).to_gw
      clear hx
      go_wp2_with (at_builtin; refine wpList_append_G w w.heap.size rfl (ext_gw _ _) rfl _ _ elInt rfl rfl hown _ _ rfl rfl (by omega) ?_ ?_ ?_)
      · intro j hj
        match j, hj with
        | 0, _ => rfl
      · intro j hj
        match j, hj with
        | 0, _ => rfl
      · intro v' z hown3
        clear hown
        go_wp2
        go_roundw
        case rel => exact ⟨k + 1, by go_num, by omega, hown3, z, rfl⟩
        case measure => simp [intOf]; omega
    · obtain rfl : k = 7 := by omega
      go_wp2
      go_ret2
      exact ⟨_, rfl, hown, ext_gw _ _⟩
theorem specRakedWeek_no (A : Option Addr) (n c : Nat) (m : Nat → Wk) (g : Int) (w : World) (hc : c ≤ maxLen) (hnc : n ≤ c) (hr : Rd w A n 5 (wkF m)) (h : ganC n m g = false) :
    Calls Try.prog 31 #[.slice A n c, .int .i64 g] w (RetS 3 1 0 (mk1 (weekV m g n)) false w) := by
  have HR := Lib.hid hr
  have HR2 := Lib.hid (hr.ext (Ext.alloc (Ext.refl w) (.cells #[] 3)))
  have HC := Lib.hid hc
  have HN := Lib.hid hnc
  unfold ganC at h
  clear hr hc hnc
  cases hv : workersB n m
  · clear h
    go_enter Try.func31, Try.ntmps31
    go_wp2_with (first | (go_at_call 39; refine (l5Good_any _ _ _ _ _ HC.out HN.out (by first | exact HR2.out | exact HR2.out.ext (ext_gw _ _))).mono ?_; rintro e w1 ⟨rfl, hx⟩; (try replace hx := Ext.flat hx); obtain ⟨x, rfl⟩ := hx.to_gw; clear hx) | (go_at_call 43; refine (l5Gang_any _ _).mono ?_; rintro e w1 ⟨rfl, rfl⟩))
    go_ret2
    exact ⟨_, rfl, (own_empty _ _ rfl (Nat.le_refl _)).ext (ext_gw _ _), by repeat (with_reducible first | exact Ext.refl _ | refine Ext.setCell ?_ (by first | (simp; done) | (simp; omega)) _ | refine Ext.alloc ?_ _ | refine Ext.gw ?_ _ | refine Ext.drew ?_)⟩
  · rw [hv, Bool.true_and] at h
    go_enter Try.func31, Try.ntmps31
    go_wp2_with (first | (go_at_call 39; refine (l5Good_any _ _ _ _ _ HC.out HN.out (by first | exact HR2.out | exact HR2.out.ext (ext_gw _ _))).mono ?_; rintro e w1 ⟨rfl, hx⟩; (try replace hx := Ext.flat hx); obtain ⟨x, rfl⟩ := hx.to_gw; clear hx) | (go_at_call 43; refine (l5Gang_any _ _).mono ?_; rintro e w1 ⟨rfl, rfl⟩))
    go_ret2
    exact ⟨_, rfl, (own_empty _ _ rfl (Nat.le_refl _)).ext (ext_gw _ _), by repeat (with_reducible first | exact Ext.refl _ | refine Ext.setCell ?_ (by first | (simp; done) | (simp; omega)) _ | refine Ext.alloc ?_ _ | refine Ext.gw ?_ _ | refine Ext.drew ?_)⟩
end Go.Proofs.Ytjfeicbffioinaa
