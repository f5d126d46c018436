/- PondAt: the contracts. -/
import Derived.Test.YtkgnfmdeimaedaaFree
namespace Go.Proofs.Ytkgnfmdeimaedaa
open Go.RowKit
set_option linter.unusedVariables false

def hitB (p : Pd) (px py : Int) : Bool := inB px p.left (p.left + p.wide - 1) && inB py p.top (p.top + p.high - 1)
def hitF (m : Nat → Pd) (px py : Int) : Nat → Nat → Int
  | 0, _ => 0
  | f + 1, i => if hitB (m i) px py = true then (m i).id else hitF m px py f (i + 1)
noncomputable def hitC (n : Nat) (m : Nat → Pd) (px py : Int) : Bool := pondsB n m && inB px 0 49 && inB py 0 49
noncomputable def hitV (n : Nat) (m : Nat → Pd) (px py : Int) : Int := if hitC n m px py = true then hitF m px py n 0 else 0
set_option maxHeartbeats 4000000 in
theorem specPondAt_any (A : Option Addr) (n c : Nat) (m : Nat → Pd) (px py : Int) (w : World) (hc : c ≤ maxLen) (hnc : n ≤ c) (hr : Rd w A n 6 (pdF m)) : Calls Try.prog 22 #[.slice A n c, .int .i64 px, .int .i64 py] w fun e w' => e = .returned (.tuple #[.int .i64 (hitV n m px py), .bool (hitC n m px py)]) ∧ Ext w w' := by
  have HR := Lib.hid hr
  have HC := Lib.hid hc
  have HN := Lib.hid hnc
  unfold maxLen at hc
  unfold hitV
  cases hv : pondsB n m
  · have ho : hitC n m px py = false := by unfold hitC; rw [hv]; rfl
    rw [ho, if_neg (by simp)]
    clear hr ho
    go_enter Try.func22, Try.ntmps22
    go_wp2_with (first | (go_at_call 57; refine (l3Good_any _ _ _ _ _ HC.out HN.out (by first | exact HR.out | exact HR.out.ext (ext_gw _ _))).mono ?_; rintro e w1 ⟨rfl, hx⟩; (try replace hx := Ext.flat hx); obtain ⟨x, rfl⟩ := hx.to_gw; clear hx) | (go_at_call 61; refine (l1In_any _ _ _ _).mono ?_; rintro e w1 ⟨rfl, rfl⟩))
    go_ret2
    exact ⟨rfl, by repeat (with_reducible first | exact Ext.refl _ | refine Ext.setCell ?_ (by first | (simp; done) | (simp; omega)) _ | refine Ext.alloc ?_ _ | refine Ext.gw ?_ _ | refine Ext.drew ?_)⟩
  · cases hx : inB px 0 49
    · have ho : hitC n m px py = false := by unfold hitC; rw [hv, hx]; rfl
      rw [ho, if_neg (by simp)]
      clear hr ho
      go_enter Try.func22, Try.ntmps22
      go_wp2_with (first | (go_at_call 57; refine (l3Good_any _ _ _ _ _ HC.out HN.out (by first | exact HR.out | exact HR.out.ext (ext_gw _ _))).mono ?_; rintro e w1 ⟨rfl, hx⟩; (try replace hx := Ext.flat hx); obtain ⟨x, rfl⟩ := hx.to_gw; clear hx) | (go_at_call 61; refine (l1In_any _ _ _ _).mono ?_; rintro e w1 ⟨rfl, rfl⟩))
      go_ret2
      exact ⟨rfl, by repeat (with_reducible first | exact Ext.refl _ | refine Ext.setCell ?_ (by first | (simp; done) | (simp; omega)) _ | refine Ext.alloc ?_ _ | refine Ext.gw ?_ _ | refine Ext.drew ?_)⟩
    · cases hy : inB py 0 49
      · have ho : hitC n m px py = false := by unfold hitC; rw [hv, hx, hy]; rfl
        rw [ho, if_neg (by simp)]
        clear hr ho
        go_enter Try.func22, Try.ntmps22
        go_wp2_with (first | (go_at_call 57; refine (l3Good_any _ _ _ _ _ HC.out HN.out (by first | exact HR.out | exact HR.out.ext (ext_gw _ _))).mono ?_; rintro e w1 ⟨rfl, hx⟩; (try replace hx := Ext.flat hx); obtain ⟨x, rfl⟩ := hx.to_gw; clear hx) | (go_at_call 61; refine (l1In_any _ _ _ _).mono ?_; rintro e w1 ⟨rfl, rfl⟩))
        go_ret2
        exact ⟨rfl, by repeat (with_reducible first | exact Ext.refl _ | refine Ext.setCell ?_ (by first | (simp; done) | (simp; omega)) _ | refine Ext.alloc ?_ _ | refine Ext.gw ?_ _ | refine Ext.drew ?_)⟩
      · have ho : hitC n m px py = true := by unfold hitC; rw [hv, hx, hy]; rfl
        rw [ho, if_pos rfl]
        clear ho
        have HV := Lib.hid (pondsB_iff.1 hv)
        have hn10 := (pondsB_iff.1 hv).1
        go_enter Try.func22, Try.ntmps22
        go_wp2_with (first | (go_at_call 57; refine (l3Good_any _ _ _ _ _ HC.out HN.out (by first | exact HR.out | exact HR.out.ext (ext_gw _ _))).mono ?_; rintro e w1 ⟨rfl, hx⟩; (try replace hx := Ext.flat hx); obtain ⟨x, rfl⟩ := hx.to_gw; clear hx) | (go_at_call 61; refine (l1In_any _ _ _ _).mono ?_; rintro e w1 ⟨rfl, rfl⟩))
        clear hv hx hy
        go_loopw [8] (fun i wr => ∃ k : Nat, i = .int .i64 k ∧ k ≤ n ∧ Hid (hitF m px py (n - k) k = hitF m px py n 0) ∧ ∃ y, wr = gw w y) (fun i _ => n - (intOf i).toNat)
        case atStart => exact ⟨0, rfl, Nat.zero_le _, Lib.hid rfl, _, rfl⟩
        case round =>
          obtain ⟨k, rfl, hk, HD, y3, rfl⟩ := hrel
          by_cases hlt : k < n
          · obtain ⟨g, off, rfl, hg, c0, c1, c2, c3, c4, c5⟩ := hr.atPond hlt
            obtain ⟨⟨_, ⟨l0, l1⟩, ⟨t0, t1⟩, ⟨w0, w1⟩, ⟨h0, h2⟩, _⟩, _⟩ := HV.out.2 k hlt
            have i0 : (0 : Int) ≤ (k : Int) := by omega
            have i1 : (k : Int) < (n : Int) := by omega
            cases q1 : inB px (m k).left ((m k).left + (m k).wide - 1)
            · skip
              have HE := Lib.hid (show hitF m px py (n - (k + 1)) (k + 1) = hitF m px py n 0 by
                rw [← HD.out, show n - k = (n - (k + 1)) + 1 by omega]
                show _ = (if hitB (m k) px py = true then _ else _)
                rw [if_neg (by simp [hitB, q1])])
              go_wp2_with (first | (go_at_call 61; refine (l1In_any _ _ _ _).mono ?_; rintro e w1 ⟨rfl, rfl⟩))
              go_roundw
              case rel => exact ⟨k + 1, by go_num, by omega, HE, Ext.to_gw (by repeat (with_reducible first | exact Ext.refl _ | refine Ext.setCell ?_ (by first | (simp; done) | (simp; omega)) _ | refine Ext.alloc ?_ _ | refine Ext.gw ?_ _ | refine Ext.drew ?_))⟩
              case measure => simp [intOf]; omega
            · cases q2 : inB py (m k).top ((m k).top + (m k).high - 1)
              · skip
                have HE := Lib.hid (show hitF m px py (n - (k + 1)) (k + 1) = hitF m px py n 0 by
                  rw [← HD.out, show n - k = (n - (k + 1)) + 1 by omega]
                  show _ = (if hitB (m k) px py = true then _ else _)
                  rw [if_neg (by simp [hitB, q1, q2])])
                go_wp2_with (first | (go_at_call 61; refine (l1In_any _ _ _ _).mono ?_; rintro e w1 ⟨rfl, rfl⟩))
                go_roundw
                case rel => exact ⟨k + 1, by go_num, by omega, HE, Ext.to_gw (by repeat (with_reducible first | exact Ext.refl _ | refine Ext.setCell ?_ (by first | (simp; done) | (simp; omega)) _ | refine Ext.alloc ?_ _ | refine Ext.gw ?_ _ | refine Ext.drew ?_))⟩
                case measure => simp [intOf]; omega
              · have HF := Lib.hid (show hitF m px py n 0 = (m k).id by
                  rw [← HD.out, show n - k = (n - k - 1) + 1 by omega]
                  show (if hitB (m k) px py = true then _ else _) = _
                  rw [if_pos (by simp [hitB, q1, q2])])
                go_wp2_with (first | (go_at_call 61; refine (l1In_any _ _ _ _).mono ?_; rintro e w1 ⟨rfl, rfl⟩))
                go_ret2
                exact ⟨(by rw [HF.out]; first | done | rfl), by repeat (with_reducible first | exact Ext.refl _ | refine Ext.setCell ?_ (by first | (simp; done) | (simp; omega)) _ | refine Ext.alloc ?_ _ | refine Ext.gw ?_ _ | refine Ext.drew ?_)⟩
          · obtain rfl : k = n := by omega
            have HF := Lib.hid (show hitF m px py k 0 = 0 by rw [← HD.out, Nat.sub_self]; rfl)
            go_wp2
            go_ret2
            exact ⟨(by rw [HF.out]; first | done | rfl), ext_gw _ _⟩
set_option maxHeartbeats 4000000 in
theorem implPondAt_any (A : Option Addr) (n c : Nat) (m : Nat → Pd) (px py : Int) (w : World) (hc : c ≤ maxLen) (hnc : n ≤ c) (hr : Rd w A n 6 (pdF m)) : Calls Try.prog 23 #[.slice A n c, .int .i64 px, .int .i64 py] w fun e w' => e = .returned (.tuple #[.int .i64 (hitV n m px py), .bool (hitC n m px py)]) ∧ Ext w w' := by
  have HR := Lib.hid hr
  have HC := Lib.hid hc
  have HN := Lib.hid hnc
  unfold maxLen at hc
  unfold hitV
  cases hv : pondsB n m
  · have ho : hitC n m px py = false := by unfold hitC; rw [hv]; rfl
    rw [ho, if_neg (by simp)]
    clear hr ho
    go_enter Try.func23, Try.ntmps23
    go_wp2_with (first | (go_at_call 18; refine (arePonds_any _ _ _ _ _ HC.out HN.out (by first | exact HR.out | exact HR.out.ext (ext_gw _ _))).mono ?_; rintro e w1 ⟨rfl, hx⟩; (try replace hx := Ext.flat hx); obtain ⟨x, rfl⟩ := hx.to_gw; clear hx) | (go_at_call 62; refine (within_any _ _ _ _).mono ?_; rintro e w1 ⟨rfl, rfl⟩))
    go_ret2
    exact ⟨rfl, by repeat (with_reducible first | exact Ext.refl _ | refine Ext.setCell ?_ (by first | (simp; done) | (simp; omega)) _ | refine Ext.alloc ?_ _ | refine Ext.gw ?_ _ | refine Ext.drew ?_)⟩
  · cases hx : inB px 0 49
    · have ho : hitC n m px py = false := by unfold hitC; rw [hv, hx]; rfl
      rw [ho, if_neg (by simp)]
      clear hr ho
      go_enter Try.func23, Try.ntmps23
      go_wp2_with (first | (go_at_call 18; refine (arePonds_any _ _ _ _ _ HC.out HN.out (by first | exact HR.out | exact HR.out.ext (ext_gw _ _))).mono ?_; rintro e w1 ⟨rfl, hx⟩; (try replace hx := Ext.flat hx); obtain ⟨x, rfl⟩ := hx.to_gw; clear hx) | (go_at_call 62; refine (within_any _ _ _ _).mono ?_; rintro e w1 ⟨rfl, rfl⟩))
      go_ret2
      exact ⟨rfl, by repeat (with_reducible first | exact Ext.refl _ | refine Ext.setCell ?_ (by first | (simp; done) | (simp; omega)) _ | refine Ext.alloc ?_ _ | refine Ext.gw ?_ _ | refine Ext.drew ?_)⟩
    · cases hy : inB py 0 49
      · have ho : hitC n m px py = false := by unfold hitC; rw [hv, hx, hy]; rfl
        rw [ho, if_neg (by simp)]
        clear hr ho
        go_enter Try.func23, Try.ntmps23
        go_wp2_with (first | (go_at_call 18; refine (arePonds_any _ _ _ _ _ HC.out HN.out (by first | exact HR.out | exact HR.out.ext (ext_gw _ _))).mono ?_; rintro e w1 ⟨rfl, hx⟩; (try replace hx := Ext.flat hx); obtain ⟨x, rfl⟩ := hx.to_gw; clear hx) | (go_at_call 62; refine (within_any _ _ _ _).mono ?_; rintro e w1 ⟨rfl, rfl⟩))
        go_ret2
        exact ⟨rfl, by repeat (with_reducible first | exact Ext.refl _ | refine Ext.setCell ?_ (by first | (simp; done) | (simp; omega)) _ | refine Ext.alloc ?_ _ | refine Ext.gw ?_ _ | refine Ext.drew ?_)⟩
      · have ho : hitC n m px py = true := by unfold hitC; rw [hv, hx, hy]; rfl
        rw [ho, if_pos rfl]
        clear ho
        have HV := Lib.hid (pondsB_iff.1 hv)
        have hn10 := (pondsB_iff.1 hv).1
        go_enter Try.func23, Try.ntmps23
        go_wp2_with (first | (go_at_call 18; refine (arePonds_any _ _ _ _ _ HC.out HN.out (by first | exact HR.out | exact HR.out.ext (ext_gw _ _))).mono ?_; rintro e w1 ⟨rfl, hx⟩; (try replace hx := Ext.flat hx); obtain ⟨x, rfl⟩ := hx.to_gw; clear hx) | (go_at_call 62; refine (within_any _ _ _ _).mono ?_; rintro e w1 ⟨rfl, rfl⟩))
        clear hv hx hy
        go_loopw [25] (fun i wr => ∃ k : Nat, i = .int .i64 k ∧ k ≤ n ∧ Hid (hitF m px py (n - k) k = hitF m px py n 0) ∧ ∃ y, wr = gw w y) (fun i _ => n - (intOf i).toNat)
        case atStart => exact ⟨0, rfl, Nat.zero_le _, Lib.hid rfl, _, rfl⟩
        case round =>
          obtain ⟨k, rfl, hk, HD, y3, rfl⟩ := hrel
          by_cases hlt : k < n
          · obtain ⟨g, off, rfl, hg, c0, c1, c2, c3, c4, c5⟩ := hr.atPond hlt
            obtain ⟨⟨_, ⟨l0, l1⟩, ⟨t0, t1⟩, ⟨w0, w1⟩, ⟨h0, h2⟩, _⟩, _⟩ := HV.out.2 k hlt
            have i0 : (0 : Int) ≤ (k : Int) := by omega
            have i1 : (k : Int) < (n : Int) := by omega
            cases q1 : inB px (m k).left ((m k).left + (m k).wide - 1)
            · skip
              have HE := Lib.hid (show hitF m px py (n - (k + 1)) (k + 1) = hitF m px py n 0 by
                rw [← HD.out, show n - k = (n - (k + 1)) + 1 by omega]
                show _ = (if hitB (m k) px py = true then _ else _)
                rw [if_neg (by simp [hitB, q1])])
              go_wp2_with (first | (go_at_call 62; refine (within_any _ _ _ _).mono ?_; rintro e w1 ⟨rfl, rfl⟩))
              go_roundw
              case rel => exact ⟨k + 1, by go_num, by omega, HE, Ext.to_gw (by repeat (with_reducible first | exact Ext.refl _ | refine Ext.setCell ?_ (by first | (simp; done) | (simp; omega)) _ | refine Ext.alloc ?_ _ | refine Ext.gw ?_ _ | refine Ext.drew ?_))⟩
              case measure => simp [intOf]; omega
            · cases q2 : inB py (m k).top ((m k).top + (m k).high - 1)
              · skip
                have HE := Lib.hid (show hitF m px py (n - (k + 1)) (k + 1) = hitF m px py n 0 by
                  rw [← HD.out, show n - k = (n - (k + 1)) + 1 by omega]
                  show _ = (if hitB (m k) px py = true then _ else _)
                  rw [if_neg (by simp [hitB, q1, q2])])
                go_wp2_with (first | (go_at_call 62; refine (within_any _ _ _ _).mono ?_; rintro e w1 ⟨rfl, rfl⟩))
                go_roundw
                case rel => exact ⟨k + 1, by go_num, by omega, HE, Ext.to_gw (by repeat (with_reducible first | exact Ext.refl _ | refine Ext.setCell ?_ (by first | (simp; done) | (simp; omega)) _ | refine Ext.alloc ?_ _ | refine Ext.gw ?_ _ | refine Ext.drew ?_))⟩
                case measure => simp [intOf]; omega
              · have HF := Lib.hid (show hitF m px py n 0 = (m k).id by
                  rw [← HD.out, show n - k = (n - k - 1) + 1 by omega]
                  show (if hitB (m k) px py = true then _ else _) = _
                  rw [if_pos (by simp [hitB, q1, q2])])
                go_wp2_with (first | (go_at_call 62; refine (within_any _ _ _ _).mono ?_; rintro e w1 ⟨rfl, rfl⟩))
                go_ret2
                exact ⟨(by rw [HF.out]; first | done | rfl), by repeat (with_reducible first | exact Ext.refl _ | refine Ext.setCell ?_ (by first | (simp; done) | (simp; omega)) _ | refine Ext.alloc ?_ _ | refine Ext.gw ?_ _ | refine Ext.drew ?_)⟩
          · obtain rfl : k = n := by omega
            have HF := Lib.hid (show hitF m px py k 0 = 0 by rw [← HD.out, Nat.sub_self]; rfl)
            go_wp2
            go_ret2
            exact ⟨(by rw [HF.out]; first | done | rfl), ext_gw _ _⟩
end Go.Proofs.Ytkgnfmdeimaedaa
