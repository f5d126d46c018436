/- RakedOn: the contracts. -/
import Derived.Test.YtjfeicbffioinaaRaked
namespace Go.Proofs.Ytjfeicbffioinaa
open Go.RowKit
set_option linter.unusedVariables false

theorem l5Gang_any (g : Int) (w : World) : Calls Try.prog 43 #[.int .i64 g] w fun e w' => e = .returned (.bool (inB g 1 5)) ∧ w = w' := by
  go_enter Try.func43, Try.ntmps43
  go_wp2_with (first | (go_at_call 50; refine (l1In_any _ _ _ _).mono ?_; rintro e w1 ⟨rfl, rfl⟩))
  go_ret
  exact ⟨rfl, rfl⟩
theorem isGang_any (g : Int) (w : World) : Calls Try.prog 46 #[.int .i64 g] w fun e w' => e = .returned (.bool (inB g 1 5)) ∧ w = w' := by
  go_enter Try.func46, Try.ntmps46
  go_wp2_with (first | (go_at_call 51; refine (within_any _ _ _ _).mono ?_; rintro e w1 ⟨rfl, rfl⟩))
  go_ret
  exact ⟨rfl, rfl⟩
theorem l2Day_any (g : Int) (w : World) : Calls Try.prog 44 #[.int .i64 g] w fun e w' => e = .returned (.bool (inB g 0 4000)) ∧ w = w' := by
  go_enter Try.func44, Try.ntmps44
  go_wp2_with (first | (go_at_call 50; refine (l1In_any _ _ _ _).mono ?_; rintro e w1 ⟨rfl, rfl⟩))
  go_ret
  exact ⟨rfl, rfl⟩
theorem isDay_any (g : Int) (w : World) : Calls Try.prog 47 #[.int .i64 g] w fun e w' => e = .returned (.bool (inB g 0 4000)) ∧ w = w' := by
  go_enter Try.func47, Try.ntmps47
  go_wp2_with (first | (go_at_call 51; refine (within_any _ _ _ _).mono ?_; rintro e w1 ⟨rfl, rfl⟩))
  go_ret
  exact ⟨rfl, rfl⟩
noncomputable def onC (n : Nat) (m : Nat → Wk) (g d : Int) : Bool := workersB n m && inB g 1 5 && inB d 0 4000
noncomputable def onV (n : Nat) (m : Nat → Wk) (g d : Int) : Int := if onC n m g d = true then rakedV m g (d % 7) 0 n else 0
theorem specRakedOn_any (A : Option Addr) (n c : Nat) (m : Nat → Wk) (g d : Int) (w : World) (hc : c ≤ maxLen) (hnc : n ≤ c) (hr : Rd w A n 5 (wkF m)) :
    Calls Try.prog 18 #[.slice A n c, .int .i64 g, .int .i64 d] w fun e w' => e = .returned (.tuple #[.int .i64 (onV n m g d), .bool (onC n m g d)]) ∧ Ext w w' := by
  have HR := Lib.hid hr
  have HC := Lib.hid hc
  have HN := Lib.hid hnc
  clear hr hc hnc
  unfold onV
  cases hv : workersB n m
  · have hon : onC n m g d = false := by unfold onC; rw [hv]; rfl
    rw [hon]
    clear hon
    go_enter Try.func18, Try.ntmps18
    go_wp2_with (first | (go_at_call 39; refine (l5Good_any _ _ _ _ _ HC.out HN.out (by first | exact HR.out | exact HR.out.ext (ext_gw _ _))).mono ?_; rintro e w1 ⟨rfl, hx⟩; (try replace hx := Ext.flat hx); obtain ⟨x, rfl⟩ := hx.to_gw; clear hx) | (go_at_call 43; refine (l5Gang_any _ _).mono ?_; rintro e w1 ⟨rfl, rfl⟩) | (go_at_call 44; refine (l2Day_any _ _).mono ?_; rintro e w1 ⟨rfl, rfl⟩))
    go_ret2
    exact ⟨rfl, by repeat (with_reducible first | exact Ext.refl _ | refine Ext.setCell ?_ (by first | (simp; done) | (simp; omega)) _ | refine Ext.alloc ?_ _ | refine Ext.gw ?_ _ | refine Ext.drew ?_)⟩
  · cases hgg : inB g 1 5
    · have hon : onC n m g d = false := by unfold onC; rw [hv, hgg]; rfl
      rw [hon]
      clear hon
      go_enter Try.func18, Try.ntmps18
      go_wp2_with (first | (go_at_call 39; refine (l5Good_any _ _ _ _ _ HC.out HN.out (by first | exact HR.out | exact HR.out.ext (ext_gw _ _))).mono ?_; rintro e w1 ⟨rfl, hx⟩; (try replace hx := Ext.flat hx); obtain ⟨x, rfl⟩ := hx.to_gw; clear hx) | (go_at_call 43; refine (l5Gang_any _ _).mono ?_; rintro e w1 ⟨rfl, rfl⟩) | (go_at_call 44; refine (l2Day_any _ _).mono ?_; rintro e w1 ⟨rfl, rfl⟩))
      go_ret2
      exact ⟨rfl, by repeat (with_reducible first | exact Ext.refl _ | refine Ext.setCell ?_ (by first | (simp; done) | (simp; omega)) _ | refine Ext.alloc ?_ _ | refine Ext.gw ?_ _ | refine Ext.drew ?_)⟩
    · cases hdd : inB d 0 4000
      · have hon : onC n m g d = false := by unfold onC; rw [hv, hgg, hdd]; rfl
        rw [hon]
        clear hon
        go_enter Try.func18, Try.ntmps18
        go_wp2_with (first | (go_at_call 39; refine (l5Good_any _ _ _ _ _ HC.out HN.out (by first | exact HR.out | exact HR.out.ext (ext_gw _ _))).mono ?_; rintro e w1 ⟨rfl, hx⟩; (try replace hx := Ext.flat hx); obtain ⟨x, rfl⟩ := hx.to_gw; clear hx) | (go_at_call 43; refine (l5Gang_any _ _).mono ?_; rintro e w1 ⟨rfl, rfl⟩) | (go_at_call 44; refine (l2Day_any _ _).mono ?_; rintro e w1 ⟨rfl, rfl⟩))
        go_ret2
        exact ⟨rfl, by repeat (with_reducible first | exact Ext.refl _ | refine Ext.setCell ?_ (by first | (simp; done) | (simp; omega)) _ | refine Ext.alloc ?_ _ | refine Ext.gw ?_ _ | refine Ext.drew ?_)⟩
      · have hon : onC n m g d = true := by unfold onC; rw [hv, hgg, hdd]; rfl
        rw [hon, if_pos rfl]
        clear hon
        have HV := Lib.hid (workersB_iff.1 hv)
        obtain ⟨d0, d1⟩ := inB_iff.1 hdd
        go_enter Try.func18, Try.ntmps18
        go_wp2_with (first | (go_at_call 39; refine (l5Good_any _ _ _ _ _ HC.out HN.out (by first | exact HR.out | exact HR.out.ext (ext_gw _ _))).mono ?_; rintro e w1 ⟨rfl, hx⟩; (try replace hx := Ext.flat hx); obtain ⟨x, rfl⟩ := hx.to_gw; clear hx) | (go_at_call 43; refine (l5Gang_any _ _).mono ?_; rintro e w1 ⟨rfl, rfl⟩) | (go_at_call 44; refine (l2Day_any _ _).mono ?_; rintro e w1 ⟨rfl, rfl⟩) | (go_at_call 45; refine (l5Raked_any _ _ _ _ _ _ _ _ HC.out HN.out (by first | exact HR.out | exact HR.out.ext (ext_gw _ _)) HV.out).mono ?_; rintro e w1 ⟨rfl, hx⟩; (try replace hx := Ext.flat hx); obtain ⟨x, rfl⟩ := hx.to_gw; clear hx))
        go_ret2
        exact ⟨rfl, by repeat (with_reducible first | exact Ext.refl _ | refine Ext.setCell ?_ (by first | (simp; done) | (simp; omega)) _ | refine Ext.alloc ?_ _ | refine Ext.gw ?_ _ | refine Ext.drew ?_)⟩
theorem rakedOn_any (A : Option Addr) (n c : Nat) (m : Nat → Wk) (g d : Int) (w : World) (hc : c ≤ maxLen) (hnc : n ≤ c) (hr : Rd w A n 5 (wkF m)) :
    Calls Try.prog 19 #[.slice A n c, .int .i64 g, .int .i64 d] w fun e w' => e = .returned (.tuple #[.int .i64 (onV n m g d), .bool (onC n m g d)]) ∧ Ext w w' := by
  have HR := Lib.hid hr
  have HC := Lib.hid hc
  have HN := Lib.hid hnc
  clear hr hc hnc
  unfold onV
  cases hv : workersB n m
  · have hon : onC n m g d = false := by unfold onC; rw [hv]; rfl
    rw [hon]
    clear hon
    go_enter Try.func19, Try.ntmps19
    go_wp2_with (first | (go_at_call 16; refine (areWorkers_any _ _ _ _ _ HC.out HN.out (by first | exact HR.out | exact HR.out.ext (ext_gw _ _))).mono ?_; rintro e w1 ⟨rfl, hx⟩; (try replace hx := Ext.flat hx); obtain ⟨x, rfl⟩ := hx.to_gw; clear hx) | (go_at_call 46; refine (isGang_any _ _).mono ?_; rintro e w1 ⟨rfl, rfl⟩) | (go_at_call 47; refine (isDay_any _ _).mono ?_; rintro e w1 ⟨rfl, rfl⟩))
    go_ret2
    exact ⟨rfl, by repeat (with_reducible first | exact Ext.refl _ | refine Ext.setCell ?_ (by first | (simp; done) | (simp; omega)) _ | refine Ext.alloc ?_ _ | refine Ext.gw ?_ _ | refine Ext.drew ?_)⟩
  · cases hgg : inB g 1 5
    · have hon : onC n m g d = false := by unfold onC; rw [hv, hgg]; rfl
      rw [hon]
      clear hon
      go_enter Try.func19, Try.ntmps19
      go_wp2_with (first | (go_at_call 16; refine (areWorkers_any _ _ _ _ _ HC.out HN.out (by first | exact HR.out | exact HR.out.ext (ext_gw _ _))).mono ?_; rintro e w1 ⟨rfl, hx⟩; (try replace hx := Ext.flat hx); obtain ⟨x, rfl⟩ := hx.to_gw; clear hx) | (go_at_call 46; refine (isGang_any _ _).mono ?_; rintro e w1 ⟨rfl, rfl⟩) | (go_at_call 47; refine (isDay_any _ _).mono ?_; rintro e w1 ⟨rfl, rfl⟩))
      go_ret2
      exact ⟨rfl, by repeat (with_reducible first | exact Ext.refl _ | refine Ext.setCell ?_ (by first | (simp; done) | (simp; omega)) _ | refine Ext.alloc ?_ _ | refine Ext.gw ?_ _ | refine Ext.drew ?_)⟩
    · cases hdd : inB d 0 4000
      · have hon : onC n m g d = false := by unfold onC; rw [hv, hgg, hdd]; rfl
        rw [hon]
        clear hon
        go_enter Try.func19, Try.ntmps19
        go_wp2_with (first | (go_at_call 16; refine (areWorkers_any _ _ _ _ _ HC.out HN.out (by first | exact HR.out | exact HR.out.ext (ext_gw _ _))).mono ?_; rintro e w1 ⟨rfl, hx⟩; (try replace hx := Ext.flat hx); obtain ⟨x, rfl⟩ := hx.to_gw; clear hx) | (go_at_call 46; refine (isGang_any _ _).mono ?_; rintro e w1 ⟨rfl, rfl⟩) | (go_at_call 47; refine (isDay_any _ _).mono ?_; rintro e w1 ⟨rfl, rfl⟩))
        go_ret2
        exact ⟨rfl, by repeat (with_reducible first | exact Ext.refl _ | refine Ext.setCell ?_ (by first | (simp; done) | (simp; omega)) _ | refine Ext.alloc ?_ _ | refine Ext.gw ?_ _ | refine Ext.drew ?_)⟩
      · have hon : onC n m g d = true := by unfold onC; rw [hv, hgg, hdd]; rfl
        rw [hon, if_pos rfl]
        clear hon
        have HV := Lib.hid (workersB_iff.1 hv)
        obtain ⟨d0, d1⟩ := inB_iff.1 hdd
        go_enter Try.func19, Try.ntmps19
        go_wp2_with (first | (go_at_call 16; refine (areWorkers_any _ _ _ _ _ HC.out HN.out (by first | exact HR.out | exact HR.out.ext (ext_gw _ _))).mono ?_; rintro e w1 ⟨rfl, hx⟩; (try replace hx := Ext.flat hx); obtain ⟨x, rfl⟩ := hx.to_gw; clear hx) | (go_at_call 46; refine (isGang_any _ _).mono ?_; rintro e w1 ⟨rfl, rfl⟩) | (go_at_call 47; refine (isDay_any _ _).mono ?_; rintro e w1 ⟨rfl, rfl⟩) | (go_at_call 48; refine (raked_any _ _ _ _ _ _ _ _ HC.out HN.out (by first | exact HR.out | exact HR.out.ext (ext_gw _ _)) HV.out).mono ?_; rintro e w1 ⟨rfl, hx⟩; (try replace hx := Ext.flat hx); obtain ⟨x, rfl⟩ := hx.to_gw; clear hx))
        go_ret2
        exact ⟨rfl, by repeat (with_reducible first | exact Ext.refl _ | refine Ext.setCell ?_ (by first | (simp; done) | (simp; omega)) _ | refine Ext.alloc ?_ _ | refine Ext.gw ?_ _ | refine Ext.drew ?_)⟩
end Go.Proofs.Ytjfeicbffioinaa
