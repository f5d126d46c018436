/- BankOf: the contracts. -/
import Derived.Test.YtkgnfmdeimaedaaFind
namespace Go.Proofs.Ytkgnfmdeimaedaa
open Go.RowKit
set_option linter.unusedVariables false

noncomputable def bkC (n : Nat) (m : Nat → Pd) (a b : Int) : Bool := pondsB n m && decide (0 ≤ findPond n m a ∧ 0 ≤ findPond n m b ∧ findPond n m a ≠ findPond n m b)
noncomputable def bkV (n : Nat) (m : Nat → Pd) (a b : Int) : Int := if bkC n m a b = true then bankV (m (findPond n m a).toNat) (m (findPond n m b).toNat) else 0
theorem bkC_off {n : Nat} {m : Nat → Pd} {a b : Int} (h : pondsB n m = false) : bkC n m a b = false := by unfold bkC; rw [h]; rfl
theorem bkC_not {n : Nat} {m : Nat → Pd} {a b : Int} (h : ¬ (0 ≤ findPond n m a ∧ 0 ≤ findPond n m b ∧ findPond n m a ≠ findPond n m b)) : bkC n m a b = false := by unfold bkC; rw [decide_eq_false h, Bool.and_false]
theorem bkC_yes {n : Nat} {m : Nat → Pd} {a b : Int} (hv : pondsB n m = true) (h : 0 ≤ findPond n m a ∧ 0 ≤ findPond n m b ∧ findPond n m a ≠ findPond n m b) : bkC n m a b = true := by unfold bkC; rw [hv, decide_eq_true h]; rfl
set_option maxHeartbeats 2000000 in
theorem specBankOf_any (A : Option Addr) (n c : Nat) (m : Nat → Pd) (a b : Int) (w : World) (hc : c ≤ maxLen) (hnc : n ≤ c) (hr : Rd w A n 6 (pdF m)) : Calls Try.prog 26 #[.slice A n c, .int .i64 a, .int .i64 b] w fun e w' => e = .returned (.tuple #[.int .i64 (bkV n m a b), .bool (bkC n m a b)]) ∧ Ext w w' := by
  have HR := Lib.hid hr
  have HC := Lib.hid hc
  have HN := Lib.hid hnc
  unfold maxLen at hc
  unfold bkV
  cases hv : pondsB n m
  · rw [bkC_off hv, if_neg (by simp)]
    have HJ : findPondV n m a = -1 := if_neg (by rw [hv]; simp)
    have HK : findPondV n m b = -1 := if_neg (by rw [hv]; simp)
    clear hr
    go_enter Try.func26, Try.ntmps26
    go_wp2_with (first | (go_at_call 63; refine (specPondFind_any _ _ _ _ _ _ HC.out HN.out (by first | exact HR.out | exact HR.out.ext (ext_gw _ _))).mono ?_; rintro e w1 ⟨rfl, hx⟩; (try replace hx := Ext.flat hx); obtain ⟨x, rfl⟩ := hx.to_gw; clear hx))
    go_ret2
    exact ⟨rfl, by repeat (with_reducible first | exact Ext.refl _ | refine Ext.setCell ?_ (by first | (simp; done) | (simp; omega)) _ | refine Ext.alloc ?_ _ | refine Ext.gw ?_ _ | refine Ext.drew ?_)⟩
  · have hvp := pondsB_iff.1 hv
    rcases findPond_bd n m a with hf | ⟨i, hi, hin, hid1⟩
    · rw [bkC_not (fun h => by have := h.1; omega), if_neg (by simp)]
      have HJ : findPondV n m a = -1 := by rw [show findPondV n m a = findPond n m a from if_pos hv]; exact hf
      clear hr hf hvp
      go_enter Try.func26, Try.ntmps26
      go_wp2_with (first | (go_at_call 63; refine (specPondFind_any _ _ _ _ _ _ HC.out HN.out (by first | exact HR.out | exact HR.out.ext (ext_gw _ _))).mono ?_; rintro e w1 ⟨rfl, hx⟩; (try replace hx := Ext.flat hx); obtain ⟨x, rfl⟩ := hx.to_gw; clear hx))
      go_ret2
      exact ⟨rfl, by repeat (with_reducible first | exact Ext.refl _ | refine Ext.setCell ?_ (by first | (simp; done) | (simp; omega)) _ | refine Ext.alloc ?_ _ | refine Ext.gw ?_ _ | refine Ext.drew ?_)⟩
    · clear hid1
      have HJ : findPondV n m a = (i : Int) := by rw [show findPondV n m a = findPond n m a from if_pos hv]; exact hi
      rcases findPond_bd n m b with hf | ⟨k, hk, hkn, hid2⟩
      · rw [bkC_not (fun h => by have := h.2.1; omega), if_neg (by simp)]
        have HK : findPondV n m b = -1 := by rw [show findPondV n m b = findPond n m b from if_pos hv]; exact hf
        clear hr hf hvp hi
        have i0 : (0 : Int) ≤ (i : Int) := by omega
        go_enter Try.func26, Try.ntmps26
        go_wp2_with (first | (go_at_call 63; refine (specPondFind_any _ _ _ _ _ _ HC.out HN.out (by first | exact HR.out | exact HR.out.ext (ext_gw _ _))).mono ?_; rintro e w1 ⟨rfl, hx⟩; (try replace hx := Ext.flat hx); obtain ⟨x, rfl⟩ := hx.to_gw; clear hx))
        go_ret2
        exact ⟨rfl, by repeat (with_reducible first | exact Ext.refl _ | refine Ext.setCell ?_ (by first | (simp; done) | (simp; omega)) _ | refine Ext.alloc ?_ _ | refine Ext.gw ?_ _ | refine Ext.drew ?_)⟩
      · clear hid2
        have HK : findPondV n m b = (k : Int) := by rw [show findPondV n m b = findPond n m b from if_pos hv]; exact hk
        have i0 : (0 : Int) ≤ (i : Int) := by omega
        have k0 : (0 : Int) ≤ (k : Int) := by omega
        by_cases hik : i = k
        · rw [bkC_not (fun h => h.2.2 (by rw [hi, hk, hik])), if_neg (by simp)]
          subst hik
          clear hr hvp hi hk
          go_enter Try.func26, Try.ntmps26
          go_wp2_with (first | (go_at_call 63; refine (specPondFind_any _ _ _ _ _ _ HC.out HN.out (by first | exact HR.out | exact HR.out.ext (ext_gw _ _))).mono ?_; rintro e w1 ⟨rfl, hx⟩; (try replace hx := Ext.flat hx); obtain ⟨x, rfl⟩ := hx.to_gw; clear hx))
          go_ret2
          exact ⟨rfl, by repeat (with_reducible first | exact Ext.refl _ | refine Ext.setCell ?_ (by first | (simp; done) | (simp; omega)) _ | refine Ext.alloc ?_ _ | refine Ext.gw ?_ _ | refine Ext.drew ?_)⟩
        · rw [bkC_yes hv ⟨by omega, by omega, by omega⟩, if_pos rfl, hi, hk, Int.toNat_natCast, Int.toNat_natCast]
          have H1 := Lib.hid (small_at hvp hin)
          have H2 := Lib.hid (small_at hvp hkn)
          have hn10 := hvp.1
          obtain ⟨g, off, rfl, hg, c0, c1, c2, c3, c4, c5⟩ := hr.atPond hin
          obtain ⟨g', off', hA', hg', d0, d1, d2, d3, d4, d5⟩ := hr.atPond hkn
          injection hA' with hA'
          injection hA' with e1 e2 _
          subst e1 e2
          have i1 : (i : Int) < (n : Int) := by omega
          have k1 : (k : Int) < (n : Int) := by omega
          have q1 : ((i : Int) == (k : Int)) = false := by simp; omega
          have q2 : (i == k) = false := by simp; omega
          clear hi hk hvp hik hg'
          go_enter Try.func26, Try.ntmps26
          go_wp2_with (first | (go_at_call 63; refine (specPondFind_any _ _ _ _ _ _ HC.out HN.out (by first | exact HR.out | exact HR.out.ext (ext_gw _ _))).mono ?_; rintro e w1 ⟨rfl, hx⟩; (try replace hx := Ext.flat hx); obtain ⟨x, rfl⟩ := hx.to_gw; clear hx))
          first | refine wp_region_grow2 (by kernel_rfl) (by kernel_rfl) ?_ | refine wp_region_grow (by kernel_rfl) (by kernel_rfl) ?_
          repeat (go_big_quiet_step (first | (go_at_call 65; exact grow_of (l3Bank_any (m i) (m k) _ H1.out H2.out))))
          refine wpQuiet_nil ?_
          rintro _ ⟨xq, rfl⟩
          go_wp2
          go_ret2
          exact ⟨rfl, by repeat (with_reducible first | exact Ext.refl _ | refine Ext.setCell ?_ (by first | (simp; done) | (simp; omega)) _ | refine Ext.alloc ?_ _ | refine Ext.gw ?_ _ | refine Ext.drew ?_)⟩
set_option maxHeartbeats 2000000 in
theorem implBankOf_any (A : Option Addr) (n c : Nat) (m : Nat → Pd) (a b : Int) (w : World) (hc : c ≤ maxLen) (hnc : n ≤ c) (hr : Rd w A n 6 (pdF m)) : Calls Try.prog 27 #[.slice A n c, .int .i64 a, .int .i64 b] w fun e w' => e = .returned (.tuple #[.int .i64 (bkV n m a b), .bool (bkC n m a b)]) ∧ Ext w w' := by
  have HR := Lib.hid hr
  have HC := Lib.hid hc
  have HN := Lib.hid hnc
  unfold maxLen at hc
  unfold bkV
  cases hv : pondsB n m
  · rw [bkC_off hv, if_neg (by simp)]
    skip
    skip
    clear hr
    go_enter Try.func27, Try.ntmps27
    go_wp2_with (first | (go_at_call 64; refine (pondAt_any _ _ _ _ _ _ HC.out HN.out (by first | exact HR.out | exact HR.out.ext (ext_gw _ _))).mono ?_; rintro e w1 ⟨rfl, hx⟩; (try replace hx := Ext.flat hx); obtain ⟨x, rfl⟩ := hx.to_gw; clear hx) | (go_at_call 18; refine (arePonds_any _ _ _ _ _ HC.out HN.out (by first | exact HR.out | exact HR.out.ext (ext_gw _ _))).mono ?_; rintro e w1 ⟨rfl, hx⟩; (try replace hx := Ext.flat hx); obtain ⟨x, rfl⟩ := hx.to_gw; clear hx))
    go_ret2
    exact ⟨rfl, by repeat (with_reducible first | exact Ext.refl _ | refine Ext.setCell ?_ (by first | (simp; done) | (simp; omega)) _ | refine Ext.alloc ?_ _ | refine Ext.gw ?_ _ | refine Ext.drew ?_)⟩
  · have hvp := pondsB_iff.1 hv
    rcases findPond_bd n m a with hf | ⟨i, hi, hin, hid1⟩
    · rw [bkC_not (fun h => by have := h.1; omega), if_neg (by simp)]
      have HJ : findPond n m a = -1 := by exact hf
      clear hr hf hvp
      go_enter Try.func27, Try.ntmps27
      go_wp2_with (first | (go_at_call 64; refine (pondAt_any _ _ _ _ _ _ HC.out HN.out (by first | exact HR.out | exact HR.out.ext (ext_gw _ _))).mono ?_; rintro e w1 ⟨rfl, hx⟩; (try replace hx := Ext.flat hx); obtain ⟨x, rfl⟩ := hx.to_gw; clear hx) | (go_at_call 18; refine (arePonds_any _ _ _ _ _ HC.out HN.out (by first | exact HR.out | exact HR.out.ext (ext_gw _ _))).mono ?_; rintro e w1 ⟨rfl, hx⟩; (try replace hx := Ext.flat hx); obtain ⟨x, rfl⟩ := hx.to_gw; clear hx))
      go_ret2
      exact ⟨rfl, by repeat (with_reducible first | exact Ext.refl _ | refine Ext.setCell ?_ (by first | (simp; done) | (simp; omega)) _ | refine Ext.alloc ?_ _ | refine Ext.gw ?_ _ | refine Ext.drew ?_)⟩
    · clear hid1
      have HJ : findPond n m a = (i : Int) := by exact hi
      rcases findPond_bd n m b with hf | ⟨k, hk, hkn, hid2⟩
      · rw [bkC_not (fun h => by have := h.2.1; omega), if_neg (by simp)]
        have HK : findPond n m b = -1 := by exact hf
        clear hr hf hvp hi
        have i0 : (0 : Int) ≤ (i : Int) := by omega
        go_enter Try.func27, Try.ntmps27
        go_wp2_with (first | (go_at_call 64; refine (pondAt_any _ _ _ _ _ _ HC.out HN.out (by first | exact HR.out | exact HR.out.ext (ext_gw _ _))).mono ?_; rintro e w1 ⟨rfl, hx⟩; (try replace hx := Ext.flat hx); obtain ⟨x, rfl⟩ := hx.to_gw; clear hx) | (go_at_call 18; refine (arePonds_any _ _ _ _ _ HC.out HN.out (by first | exact HR.out | exact HR.out.ext (ext_gw _ _))).mono ?_; rintro e w1 ⟨rfl, hx⟩; (try replace hx := Ext.flat hx); obtain ⟨x, rfl⟩ := hx.to_gw; clear hx))
        go_ret2
        exact ⟨rfl, by repeat (with_reducible first | exact Ext.refl _ | refine Ext.setCell ?_ (by first | (simp; done) | (simp; omega)) _ | refine Ext.alloc ?_ _ | refine Ext.gw ?_ _ | refine Ext.drew ?_)⟩
      · clear hid2
        have HK : findPond n m b = (k : Int) := by exact hk
        have i0 : (0 : Int) ≤ (i : Int) := by omega
        have k0 : (0 : Int) ≤ (k : Int) := by omega
        by_cases hik : i = k
        · rw [bkC_not (fun h => h.2.2 (by rw [hi, hk, hik])), if_neg (by simp)]
          subst hik
          clear hr hvp hi hk
          go_enter Try.func27, Try.ntmps27
          go_wp2_with (first | (go_at_call 64; refine (pondAt_any _ _ _ _ _ _ HC.out HN.out (by first | exact HR.out | exact HR.out.ext (ext_gw _ _))).mono ?_; rintro e w1 ⟨rfl, hx⟩; (try replace hx := Ext.flat hx); obtain ⟨x, rfl⟩ := hx.to_gw; clear hx) | (go_at_call 18; refine (arePonds_any _ _ _ _ _ HC.out HN.out (by first | exact HR.out | exact HR.out.ext (ext_gw _ _))).mono ?_; rintro e w1 ⟨rfl, hx⟩; (try replace hx := Ext.flat hx); obtain ⟨x, rfl⟩ := hx.to_gw; clear hx))
          go_ret2
          exact ⟨rfl, by repeat (with_reducible first | exact Ext.refl _ | refine Ext.setCell ?_ (by first | (simp; done) | (simp; omega)) _ | refine Ext.alloc ?_ _ | refine Ext.gw ?_ _ | refine Ext.drew ?_)⟩
        · rw [bkC_yes hv ⟨by omega, by omega, by omega⟩, if_pos rfl, hi, hk, Int.toNat_natCast, Int.toNat_natCast]
          have H1 := Lib.hid (small_at hvp hin)
          have H2 := Lib.hid (small_at hvp hkn)
          have hn10 := hvp.1
          obtain ⟨g, off, rfl, hg, c0, c1, c2, c3, c4, c5⟩ := hr.atPond hin
          obtain ⟨g', off', hA', hg', d0, d1, d2, d3, d4, d5⟩ := hr.atPond hkn
          injection hA' with hA'
          injection hA' with e1 e2 _
          subst e1 e2
          have i1 : (i : Int) < (n : Int) := by omega
          have k1 : (k : Int) < (n : Int) := by omega
          have q1 : ((i : Int) == (k : Int)) = false := by simp; omega
          have q2 : (i == k) = false := by simp; omega
          clear hi hk hvp hik hg'
          go_enter Try.func27, Try.ntmps27
          go_wp2_with (first | (go_at_call 64; refine (pondAt_any _ _ _ _ _ _ HC.out HN.out (by first | exact HR.out | exact HR.out.ext (ext_gw _ _))).mono ?_; rintro e w1 ⟨rfl, hx⟩; (try replace hx := Ext.flat hx); obtain ⟨x, rfl⟩ := hx.to_gw; clear hx) | (go_at_call 18; refine (arePonds_any _ _ _ _ _ HC.out HN.out (by first | exact HR.out | exact HR.out.ext (ext_gw _ _))).mono ?_; rintro e w1 ⟨rfl, hx⟩; (try replace hx := Ext.flat hx); obtain ⟨x, rfl⟩ := hx.to_gw; clear hx))
          first | refine wp_region_grow2 (by kernel_rfl) (by kernel_rfl) ?_ | refine wp_region_grow (by kernel_rfl) (by kernel_rfl) ?_
          repeat (go_big_quiet_step (first | (go_at_call 66; exact grow_of (bank_any (m i) (m k) _ H1.out H2.out))))
          refine wpQuiet_nil ?_
          rintro _ ⟨xq, rfl⟩
          go_wp2
          go_ret2
          exact ⟨rfl, by repeat (with_reducible first | exact Ext.refl _ | refine Ext.setCell ?_ (by first | (simp; done) | (simp; omega)) _ | refine Ext.alloc ?_ _ | refine Ext.gw ?_ _ | refine Ext.drew ?_)⟩
end Go.Proofs.Ytkgnfmdeimaedaa
