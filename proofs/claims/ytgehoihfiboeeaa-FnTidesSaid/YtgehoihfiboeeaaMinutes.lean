/- MinutesIn, MinutesOut: the contracts. -/
import Derived.Test.YtgehoihfiboeeaaSpans
namespace Go.Proofs.Ytgehoihfiboeeaa
open Go.RowKit
set_option linter.unusedVariables false

noncomputable def askB (n : Nat) (m : Nat → Mk) (s p : Int) : Bool := tideB n m && inB s (-500) 500 && inB p (-500) 500
theorem askB_iff {n : Nat} {m : Nat → Mk} {s p : Int} : askB n m s p = true ↔ tideP n m ∧ (-500 ≤ s ∧ s ≤ 500) ∧ (-500 ≤ p ∧ p ≤ 500) := by
  unfold askB
  rw [Bool.and_eq_true, Bool.and_eq_true, tideB_iff, inB_iff, inB_iff]
  exact ⟨fun ⟨⟨a, b⟩, c⟩ => ⟨a, b, c⟩, fun ⟨a, b, c⟩ => ⟨⟨a, b⟩, c⟩⟩
theorem l4Asked_any (A : Option Addr) (n c : Nat) (m : Nat → Mk) (s p : Int) (w : World) (hc : c ≤ maxLen) (hnc : n ≤ c) (hr : Rd w A n 2 (mkF m)) : Calls Try.prog 65 #[.slice A n c, .int .i64 s, .int .i64 p] w fun e w' => e = .returned (.bool (askB n m s p)) ∧ Ext w w' := by
  have HR := Lib.hid hr
  have HC := Lib.hid hc
  have HN := Lib.hid hnc
  clear hr hc hnc
  unfold askB
  cases hv : tideB n m
  · go_enter Try.func65, Try.ntmps65
    go_wp2_with (first | (go_at_call 69; refine (l4Good_any _ _ _ _ _ HC.out HN.out (by first | exact HR.out | exact HR.out.ext (ext_gw _ _))).mono ?_; rintro e w1 ⟨rfl, hx⟩; (try replace hx := Ext.flat hx); obtain ⟨x, rfl⟩ := hx.to_gw; clear hx) | (go_at_call 79; refine (l4Height_any _ _).mono ?_; rintro e w1 ⟨rfl, rfl⟩))
    go_ret
    exact ⟨rfl, by repeat (with_reducible first | exact Ext.refl _ | refine Ext.setCell ?_ (by first | (simp; done) | (simp; omega)) _ | refine Ext.alloc ?_ _ | refine Ext.gw ?_ _ | refine Ext.drew ?_)⟩
  · cases hs : inB s (-500) 500
    · go_enter Try.func65, Try.ntmps65
      go_wp2_with (first | (go_at_call 69; refine (l4Good_any _ _ _ _ _ HC.out HN.out (by first | exact HR.out | exact HR.out.ext (ext_gw _ _))).mono ?_; rintro e w1 ⟨rfl, hx⟩; (try replace hx := Ext.flat hx); obtain ⟨x, rfl⟩ := hx.to_gw; clear hx) | (go_at_call 79; refine (l4Height_any _ _).mono ?_; rintro e w1 ⟨rfl, rfl⟩))
      go_ret
      exact ⟨rfl, by repeat (with_reducible first | exact Ext.refl _ | refine Ext.setCell ?_ (by first | (simp; done) | (simp; omega)) _ | refine Ext.alloc ?_ _ | refine Ext.gw ?_ _ | refine Ext.drew ?_)⟩
    · rw [Bool.true_and, Bool.true_and]
      go_enter Try.func65, Try.ntmps65
      go_wp2_with (first | (go_at_call 69; refine (l4Good_any _ _ _ _ _ HC.out HN.out (by first | exact HR.out | exact HR.out.ext (ext_gw _ _))).mono ?_; rintro e w1 ⟨rfl, hx⟩; (try replace hx := Ext.flat hx); obtain ⟨x, rfl⟩ := hx.to_gw; clear hx) | (go_at_call 79; refine (l4Height_any _ _).mono ?_; rintro e w1 ⟨rfl, rfl⟩))
      go_ret
      exact ⟨rfl, by repeat (with_reducible first | exact Ext.refl _ | refine Ext.setCell ?_ (by first | (simp; done) | (simp; omega)) _ | refine Ext.alloc ?_ _ | refine Ext.gw ?_ _ | refine Ext.drew ?_)⟩
theorem areSluice_any (A : Option Addr) (n c : Nat) (m : Nat → Mk) (s p : Int) (w : World) (hc : c ≤ maxLen) (hnc : n ≤ c) (hr : Rd w A n 2 (mkF m)) : Calls Try.prog 62 #[.slice A n c, .int .i64 s, .int .i64 p] w fun e w' => e = .returned (.bool (askB n m s p)) ∧ Ext w w' := by
  have HR := Lib.hid hr
  have HC := Lib.hid hc
  have HN := Lib.hid hnc
  clear hr hc hnc
  unfold askB
  cases hv : tideB n m
  · go_enter Try.func62, Try.ntmps62
    go_wp2_with (first | (go_at_call 23; refine (isTide_any _ _ _ _ _ HC.out HN.out (by first | exact HR.out | exact HR.out.ext (ext_gw _ _))).mono ?_; rintro e w1 ⟨rfl, hx⟩; (try replace hx := Ext.flat hx); obtain ⟨x, rfl⟩ := hx.to_gw; clear hx) | (go_at_call 68; refine (isHeight_any _ _).mono ?_; rintro e w1 ⟨rfl, rfl⟩))
    go_ret
    exact ⟨rfl, by repeat (with_reducible first | exact Ext.refl _ | refine Ext.setCell ?_ (by first | (simp; done) | (simp; omega)) _ | refine Ext.alloc ?_ _ | refine Ext.gw ?_ _ | refine Ext.drew ?_)⟩
  · cases hs : inB s (-500) 500
    · go_enter Try.func62, Try.ntmps62
      go_wp2_with (first | (go_at_call 23; refine (isTide_any _ _ _ _ _ HC.out HN.out (by first | exact HR.out | exact HR.out.ext (ext_gw _ _))).mono ?_; rintro e w1 ⟨rfl, hx⟩; (try replace hx := Ext.flat hx); obtain ⟨x, rfl⟩ := hx.to_gw; clear hx) | (go_at_call 68; refine (isHeight_any _ _).mono ?_; rintro e w1 ⟨rfl, rfl⟩))
      go_ret
      exact ⟨rfl, by repeat (with_reducible first | exact Ext.refl _ | refine Ext.setCell ?_ (by first | (simp; done) | (simp; omega)) _ | refine Ext.alloc ?_ _ | refine Ext.gw ?_ _ | refine Ext.drew ?_)⟩
    · rw [Bool.true_and, Bool.true_and]
      go_enter Try.func62, Try.ntmps62
      go_wp2_with (first | (go_at_call 23; refine (isTide_any _ _ _ _ _ HC.out HN.out (by first | exact HR.out | exact HR.out.ext (ext_gw _ _))).mono ?_; rintro e w1 ⟨rfl, hx⟩; (try replace hx := Ext.flat hx); obtain ⟨x, rfl⟩ := hx.to_gw; clear hx) | (go_at_call 68; refine (isHeight_any _ _).mono ?_; rintro e w1 ⟨rfl, rfl⟩))
      go_ret
      exact ⟨rfl, by repeat (with_reducible first | exact Ext.refl _ | refine Ext.setCell ?_ (by first | (simp; done) | (simp; omega)) _ | refine Ext.alloc ?_ _ | refine Ext.gw ?_ _ | refine Ext.drew ?_)⟩
set_option maxHeartbeats 2000000 in
theorem specMinutesIn_yes (A : Option Addr) (n c : Nat) (m : Nat → Mk) (s p : Int) (w : World) (hc : c ≤ maxLen) (hnc : n ≤ c) (hr : Rd w A n 2 (mkF m)) (h : askB n m s p = true) : Calls Try.prog 21 #[.slice A n c, .int .i64 s, .int .i64 p] w (RetS 3 1 (spanL (fun t => inP s p (atN n m (t : Int)) (atD n m (t : Int))) 1441).length (mkL (spanL (fun t => inP s p (atN n m (t : Int)) (atD n m (t : Int))) 1441)) true w) := by
  have HR := Lib.hid hr
  have HC := Lib.hid hc
  have HN := Lib.hid hnc
  obtain ⟨hv, ⟨s0, s1⟩, p0, p1⟩ := askB_iff.1 h
  have HV := Lib.hid hv
  clear hr hc hnc hv
  go_enter Try.func21, Try.ntmps21
  go_wp2_with fail
  refine (l4Asked_any _ _ _ m s p _ HC.out HN.out HR.out).mono ?_
  rw [h]
  rintro e w1 ⟨rfl, hx⟩
  obtain ⟨x, rfl⟩ := hx.to_gw
  clear hx
  go_wp2_with fail
  refine (specSpansIn_any _ _ _ m s p _ HC.out HN.out (HR.out.ext (ext_gw _ _)) HV.out s0 s1 p0 p1).mono ?_
  rintro e w2 ⟨v, rfl, hown, hx⟩
  go_wp2
  go_ret2
  exact ⟨_, rfl, hown.lower (ext_gw _ _).size_le, (ext_gw _ _).trans hx⟩
theorem specMinutesIn_no (A : Option Addr) (n c : Nat) (m : Nat → Mk) (s p : Int) (w : World) (hc : c ≤ maxLen) (hnc : n ≤ c) (hr : Rd w A n 2 (mkF m)) (h : askB n m s p = false) : Calls Try.prog 21 #[.slice A n c, .int .i64 s, .int .i64 p] w (RetS 3 1 0 (mkL []) false w) := by
  have HR := Lib.hid hr
  have HC := Lib.hid hc
  have HN := Lib.hid hnc
  clear hr hc hnc
  go_enter Try.func21, Try.ntmps21
  go_wp2_with fail
  refine (l4Asked_any _ _ _ m s p _ HC.out HN.out HR.out).mono ?_
  rw [h]
  rintro e w1 ⟨rfl, hx⟩
  obtain ⟨x, rfl⟩ := hx.to_gw
  clear hx
  go_wp2
  go_ret2
  exact ⟨_, rfl, own_empty _ _ rfl (ext_gw _ _).size_le, by repeat (with_reducible first | exact Ext.refl _ | refine Ext.setCell ?_ (by first | (simp; done) | (simp; omega)) _ | refine Ext.alloc ?_ _ | refine Ext.gw ?_ _ | refine Ext.drew ?_)⟩
set_option maxHeartbeats 2000000 in
theorem implMinutesIn_yes (A : Option Addr) (n c : Nat) (m : Nat → Mk) (s p : Int) (w : World) (hc : c ≤ maxLen) (hnc : n ≤ c) (hr : Rd w A n 2 (mkF m)) (h : askB n m s p = true) : Calls Try.prog 20 #[.slice A n c, .int .i64 s, .int .i64 p] w (RetS 3 1 (spanL (fun t => inP s p (atN n m (t : Int)) (atD n m (t : Int))) 1441).length (mkL (spanL (fun t => inP s p (atN n m (t : Int)) (atD n m (t : Int))) 1441)) true w) := by
  have HR := Lib.hid hr
  have HC := Lib.hid hc
  have HN := Lib.hid hnc
  obtain ⟨hv, ⟨s0, s1⟩, p0, p1⟩ := askB_iff.1 h
  have HV := Lib.hid hv
  have hx0 : Ext w ((w.alloc (.cells #[.int .i64 s] 3)).alloc (.cells #[.int .i64 p] 3)) := by repeat (with_reducible first | exact Ext.refl _ | refine Ext.setCell ?_ (by first | (simp; done) | (simp; omega)) _ | refine Ext.alloc ?_ _ | refine Ext.gw ?_ _ | refine Ext.drew ?_)
  clear hr hc hnc hv
  go_enter Try.func20, Try.ntmps20
  go_wp2_with fail
  refine (areSluice_any _ _ _ m s p _ HC.out HN.out (HR.out.ext hx0)).mono ?_
  rw [h]
  rintro e w1 ⟨rfl, hx⟩
  obtain ⟨x, rfl⟩ := hx.to_gw
  clear hx
  go_wp2_with fail
  refine (implSpansIn_any _ _ _ m s p w.heap.size (w.heap.size + 1) _ HC.out HN.out (HR.out.ext (hx0.trans (ext_gw _ _))) HV.out s0 s1 p0 p1 (gw_lt _ _ _ (by first | (simp; done) | (simp; omega))) (gw_lt _ _ _ (by first | (simp; done) | (simp; omega))) ((gw_cell _ _ _ (by first | (simp; done) | (simp; omega))).trans (by simp [go_sem])) ((gw_cell _ _ _ (by first | (simp; done) | (simp; omega))).trans (by simp [go_sem]))).mono ?_
  rintro e w2 ⟨v, rfl, hown, hx⟩
  go_wp2
  go_ret2
  exact ⟨_, rfl, hown.lower (hx0.trans (ext_gw _ _)).size_le, (hx0.trans (ext_gw _ _)).trans hx⟩
theorem implMinutesIn_no (A : Option Addr) (n c : Nat) (m : Nat → Mk) (s p : Int) (w : World) (hc : c ≤ maxLen) (hnc : n ≤ c) (hr : Rd w A n 2 (mkF m)) (h : askB n m s p = false) : Calls Try.prog 20 #[.slice A n c, .int .i64 s, .int .i64 p] w (RetS 3 1 0 (mkL []) false w) := by
  have HR := Lib.hid hr
  have HC := Lib.hid hc
  have HN := Lib.hid hnc
  have hx0 : Ext w ((w.alloc (.cells #[.int .i64 s] 3)).alloc (.cells #[.int .i64 p] 3)) := by repeat (with_reducible first | exact Ext.refl _ | refine Ext.setCell ?_ (by first | (simp; done) | (simp; omega)) _ | refine Ext.alloc ?_ _ | refine Ext.gw ?_ _ | refine Ext.drew ?_)
  clear hr hc hnc
  go_enter Try.func20, Try.ntmps20
  go_wp2_with fail
  refine (areSluice_any _ _ _ m s p _ HC.out HN.out (HR.out.ext hx0)).mono ?_
  rw [h]
  rintro e w1 ⟨rfl, hx⟩
  obtain ⟨x, rfl⟩ := hx.to_gw
  clear hx
  go_wp2
  go_ret2
  exact ⟨_, rfl, OwnS.nil, by repeat (with_reducible first | exact Ext.refl _ | refine Ext.setCell ?_ (by first | (simp; done) | (simp; omega)) _ | refine Ext.alloc ?_ _ | refine Ext.gw ?_ _ | refine Ext.drew ?_)⟩
set_option maxHeartbeats 2000000 in
theorem specMinutesOut_yes (A : Option Addr) (n c : Nat) (m : Nat → Mk) (s p : Int) (w : World) (hc : c ≤ maxLen) (hnc : n ≤ c) (hr : Rd w A n 2 (mkF m)) (h : askB n m s p = true) : Calls Try.prog 26 #[.slice A n c, .int .i64 s, .int .i64 p] w (RetS 3 1 (spanL (fun t => outP s p (atN n m (t : Int)) (atD n m (t : Int))) 1441).length (mkL (spanL (fun t => outP s p (atN n m (t : Int)) (atD n m (t : Int))) 1441)) true w) := by
  have HR := Lib.hid hr
  have HC := Lib.hid hc
  have HN := Lib.hid hnc
  obtain ⟨hv, ⟨s0, s1⟩, p0, p1⟩ := askB_iff.1 h
  have HV := Lib.hid hv
  clear hr hc hnc hv
  go_enter Try.func26, Try.ntmps26
  go_wp2_with fail
  refine (l4Asked_any _ _ _ m s p _ HC.out HN.out HR.out).mono ?_
  rw [h]
  rintro e w1 ⟨rfl, hx⟩
  obtain ⟨x, rfl⟩ := hx.to_gw
  clear hx
  go_wp2_with fail
  refine (specSpansOut_any _ _ _ m s p _ HC.out HN.out (HR.out.ext (ext_gw _ _)) HV.out s0 s1 p0 p1).mono ?_
  rintro e w2 ⟨v, rfl, hown, hx⟩
  go_wp2
  go_ret2
  exact ⟨_, rfl, hown.lower (ext_gw _ _).size_le, (ext_gw _ _).trans hx⟩
theorem specMinutesOut_no (A : Option Addr) (n c : Nat) (m : Nat → Mk) (s p : Int) (w : World) (hc : c ≤ maxLen) (hnc : n ≤ c) (hr : Rd w A n 2 (mkF m)) (h : askB n m s p = false) : Calls Try.prog 26 #[.slice A n c, .int .i64 s, .int .i64 p] w (RetS 3 1 0 (mkL []) false w) := by
  have HR := Lib.hid hr
  have HC := Lib.hid hc
  have HN := Lib.hid hnc
  clear hr hc hnc
  go_enter Try.func26, Try.ntmps26
  go_wp2_with fail
  refine (l4Asked_any _ _ _ m s p _ HC.out HN.out HR.out).mono ?_
  rw [h]
  rintro e w1 ⟨rfl, hx⟩
  obtain ⟨x, rfl⟩ := hx.to_gw
  clear hx
  go_wp2
  go_ret2
  exact ⟨_, rfl, own_empty _ _ rfl (ext_gw _ _).size_le, by repeat (with_reducible first | exact Ext.refl _ | refine Ext.setCell ?_ (by first | (simp; done) | (simp; omega)) _ | refine Ext.alloc ?_ _ | refine Ext.gw ?_ _ | refine Ext.drew ?_)⟩
set_option maxHeartbeats 2000000 in
theorem implMinutesOut_yes (A : Option Addr) (n c : Nat) (m : Nat → Mk) (s p : Int) (w : World) (hc : c ≤ maxLen) (hnc : n ≤ c) (hr : Rd w A n 2 (mkF m)) (h : askB n m s p = true) : Calls Try.prog 25 #[.slice A n c, .int .i64 s, .int .i64 p] w (RetS 3 1 (spanL (fun t => outP s p (atN n m (t : Int)) (atD n m (t : Int))) 1441).length (mkL (spanL (fun t => outP s p (atN n m (t : Int)) (atD n m (t : Int))) 1441)) true w) := by
  have HR := Lib.hid hr
  have HC := Lib.hid hc
  have HN := Lib.hid hnc
  obtain ⟨hv, ⟨s0, s1⟩, p0, p1⟩ := askB_iff.1 h
  have HV := Lib.hid hv
  have hx0 : Ext w ((w.alloc (.cells #[.int .i64 s] 3)).alloc (.cells #[.int .i64 p] 3)) := by repeat (with_reducible first | exact Ext.refl _ | refine Ext.setCell ?_ (by first | (simp; done) | (simp; omega)) _ | refine Ext.alloc ?_ _ | refine Ext.gw ?_ _ | refine Ext.drew ?_)
  clear hr hc hnc hv
  go_enter Try.func25, Try.ntmps25
  go_wp2_with fail
  refine (areSluice_any _ _ _ m s p _ HC.out HN.out (HR.out.ext hx0)).mono ?_
  rw [h]
  rintro e w1 ⟨rfl, hx⟩
  obtain ⟨x, rfl⟩ := hx.to_gw
  clear hx
  go_wp2_with fail
  refine (implSpansOut_any _ _ _ m s p (w.heap.size + 1) w.heap.size _ HC.out HN.out (HR.out.ext (hx0.trans (ext_gw _ _))) HV.out s0 s1 p0 p1 (gw_lt _ _ _ (by first | (simp; done) | (simp; omega))) (gw_lt _ _ _ (by first | (simp; done) | (simp; omega))) ((gw_cell _ _ _ (by first | (simp; done) | (simp; omega))).trans (by simp [go_sem])) ((gw_cell _ _ _ (by first | (simp; done) | (simp; omega))).trans (by simp [go_sem]))).mono ?_
  rintro e w2 ⟨v, rfl, hown, hx⟩
  go_wp2
  go_ret2
  exact ⟨_, rfl, hown.lower (hx0.trans (ext_gw _ _)).size_le, (hx0.trans (ext_gw _ _)).trans hx⟩
theorem implMinutesOut_no (A : Option Addr) (n c : Nat) (m : Nat → Mk) (s p : Int) (w : World) (hc : c ≤ maxLen) (hnc : n ≤ c) (hr : Rd w A n 2 (mkF m)) (h : askB n m s p = false) : Calls Try.prog 25 #[.slice A n c, .int .i64 s, .int .i64 p] w (RetS 3 1 0 (mkL []) false w) := by
  have HR := Lib.hid hr
  have HC := Lib.hid hc
  have HN := Lib.hid hnc
  have hx0 : Ext w ((w.alloc (.cells #[.int .i64 s] 3)).alloc (.cells #[.int .i64 p] 3)) := by repeat (with_reducible first | exact Ext.refl _ | refine Ext.setCell ?_ (by first | (simp; done) | (simp; omega)) _ | refine Ext.alloc ?_ _ | refine Ext.gw ?_ _ | refine Ext.drew ?_)
  clear hr hc hnc
  go_enter Try.func25, Try.ntmps25
  go_wp2_with fail
  refine (areSluice_any _ _ _ m s p _ HC.out HN.out (HR.out.ext hx0)).mono ?_
  rw [h]
  rintro e w1 ⟨rfl, hx⟩
  obtain ⟨x, rfl⟩ := hx.to_gw
  clear hx
  go_wp2
  go_ret2
  exact ⟨_, rfl, OwnS.nil, by repeat (with_reducible first | exact Ext.refl _ | refine Ext.setCell ?_ (by first | (simp; done) | (simp; omega)) _ | refine Ext.alloc ?_ _ | refine Ext.gw ?_ _ | refine Ext.drew ?_)⟩
end Go.Proofs.Ytgehoihfiboeeaa
