/- OuterBank: the contracts. -/
import Derived.Test.YtkgnfmdeimaedaaFind
namespace Go.Proofs.Ytkgnfmdeimaedaa
open Go.RowKit
set_option linter.unusedVariables false

def outTo (m : Nat → Pd) (j : Nat) : Nat → Int
  | 0 => 2 * ((m j).wide + (m j).high)
  | k + 1 => if k = j then outTo m j k else outTo m j k - bankV (m j) (m k)
theorem outTo_bd {n : Nat} {m : Nat → Pd} (h : pondsP n m) {j : Nat} (hj : j < n) (k : Nat) (hk : k ≤ n) : 4 - 4000 * (k : Int) ≤ outTo m j k ∧ outTo m j k ≤ 80 := by
  induction k with
  | zero =>
    obtain ⟨⟨_, _, _, ⟨w0, w1⟩, ⟨h0, h2⟩, _⟩, _⟩ := h.2 j hj
    unfold outTo
    omega
  | succ k ih =>
    have h1 := ih (by omega)
    have h2 := bankV_bd (small_at h hj) (small_at h (show k < n by omega))
    unfold outTo
    split <;> omega
noncomputable def outV (n : Nat) (m : Nat → Pd) (id : Int) : Int := if fndB n m id = true then outTo m (findPond n m id).toNat n else 0
theorem bank_is' (x y : Pd) (w : World) (hx : smallP x) (hy : smallP y) :
    Calls Try.prog 66 #[.agg #[.int .i64 x.id, .int .i64 x.left, .int .i64 x.top, .int .i64 x.wide, .int .i64 x.high, .int .i64 x.depth], .agg #[.int .i64 y.id, .int .i64 y.left, .int .i64 y.top, .int .i64 y.wide, .int .i64 y.high, .int .i64 y.depth]] w fun e w' => e = .returned (.int .i64 (bankV y x)) ∧ Ext w w' := by
  rw [bankV_comm y x]
  exact bank_any x y w hx hy
set_option maxHeartbeats 4000000 in
theorem specOuter_any (A : Option Addr) (n c : Nat) (m : Nat → Pd) (id : Int) (w : World) (hc : c ≤ maxLen) (hnc : n ≤ c) (hr : Rd w A n 6 (pdF m)) : Calls Try.prog 28 #[.slice A n c, .int .i64 id] w fun e w' => e = .returned (.tuple #[.int .i64 (outV n m id), .bool (fndB n m id)]) ∧ Ext w w' := by
  have HR := Lib.hid hr
  have HC := Lib.hid hc
  have HN := Lib.hid hnc
  unfold maxLen at hc
  unfold outV
  cases hv : pondsB n m
  · rw [fndB_off hv, if_neg (by simp)]
    have HJ : Hid (findPondV n m id = -1) := Lib.hid (if_neg (by rw [hv]; simp))
    clear hr
    go_enter Try.func28, Try.ntmps28
    go_wp2_with (first | (go_at_call 63; refine (l3Find_is _ _ _ _ _ _ _ HC.out HN.out (by first | exact HR.out | exact HR.out.ext (ext_gw _ _)) HJ.out).mono ?_; rintro e w1 ⟨rfl, hx⟩; (try replace hx := Ext.flat hx); obtain ⟨x, rfl⟩ := hx.to_gw; clear hx))
    go_ret2
    exact ⟨rfl, by repeat (with_reducible first | exact Ext.refl _ | refine Ext.setCell ?_ (by first | (simp; done) | (simp; omega)) _ | refine Ext.alloc ?_ _ | refine Ext.gw ?_ _ | refine Ext.drew ?_)⟩
  · have hvp := pondsB_iff.1 hv
    rcases findPond_bd n m id with hf | ⟨j, hj, hjn, hid⟩
    · have HJ : Hid (findPondV n m id = -1) := Lib.hid (by rw [show findPondV n m id = findPond n m id from if_pos hv]; exact hf)
      rw [fndB_not hf, if_neg (by simp)]
      clear hr hf hvp
      go_enter Try.func28, Try.ntmps28
      go_wp2_with (first | (go_at_call 63; refine (l3Find_is _ _ _ _ _ _ _ HC.out HN.out (by first | exact HR.out | exact HR.out.ext (ext_gw _ _)) HJ.out).mono ?_; rintro e w1 ⟨rfl, hx⟩; (try replace hx := Ext.flat hx); obtain ⟨x, rfl⟩ := hx.to_gw; clear hx))
      go_ret2
      exact ⟨rfl, by repeat (with_reducible first | exact Ext.refl _ | refine Ext.setCell ?_ (by first | (simp; done) | (simp; omega)) _ | refine Ext.alloc ?_ _ | refine Ext.gw ?_ _ | refine Ext.drew ?_)⟩
    · clear hid
      have HJ : Hid (findPondV n m id = (j : Int)) := Lib.hid (by rw [show findPondV n m id = findPond n m id from if_pos hv]; exact hj)
      rw [fndB_yes hv hj, if_pos rfl, hj, Int.toNat_natCast]
      have HV := Lib.hid hvp
      have H1 := Lib.hid (small_at hvp hjn)
      have hn10 := hvp.1
      obtain ⟨g, off, rfl, hg, c0, c1, c2, c3, c4, c5⟩ := hr.atPond hjn
      obtain ⟨⟨_, _, _, ⟨w0, w1⟩, ⟨h0, h2⟩, _⟩, _⟩ := hvp.2 j hjn
      have j0 : (0 : Int) ≤ (j : Int) := by omega
      have j1 : (j : Int) < (n : Int) := by omega
      clear hj hvp
      go_enter Try.func28, Try.ntmps28
      go_wp2_with (first | (go_at_call 63; refine (l3Find_is _ _ _ _ _ _ _ HC.out HN.out (by first | exact HR.out | exact HR.out.ext (ext_gw _ _)) HJ.out).mono ?_; rintro e w1 ⟨rfl, hx⟩; (try replace hx := Ext.flat hx); obtain ⟨x, rfl⟩ := hx.to_gw; clear hx))
      first | refine wp_region_grow2 (by kernel_rfl) (by kernel_rfl) ?_ | refine wp_region_grow (by kernel_rfl) (by kernel_rfl) ?_
      repeat (go_big_quiet_step (first | fail))
      refine wpQuiet_nil ?_
      rintro _ ⟨xq, rfl⟩
      go_wp2
      clear hv
      go_loopw [7, 8] (fun s i wr => ∃ k : Nat, i = .int .i64 k ∧ k ≤ n ∧ s = .int .i64 (outTo m j k) ∧ ∃ y, wr = gw w y) (fun _ i _ => n - (intOf i).toNat)
      case atStart => exact ⟨0, rfl, Nat.zero_le _, rfl, Ext.to_gw (by repeat (with_reducible first | exact Ext.refl _ | refine Ext.setCell ?_ (by first | (simp; done) | (simp; omega)) _ | refine Ext.alloc ?_ _ | refine Ext.gw ?_ _ | refine Ext.drew ?_))⟩
      case round =>
        obtain ⟨k, rfl, hk, rfl, y, rfl⟩ := hrel
        have hb := outTo_bd HV.out hjn k hk
        by_cases hlt : k < n
        · obtain ⟨g', off', hA', hg', d0, d1, d2, d3, d4, d5⟩ := hr.atPond hlt
          injection hA' with hA'
          injection hA' with e1 e2 _
          subst e1 e2
          have i0 : (0 : Int) ≤ (k : Int) := by omega
          have i1 : (k : Int) < (n : Int) := by omega
          by_cases hkj : k = j
          · have HE := Lib.hid (show outTo m j (k + 1) = outTo m j k from if_pos hkj)
            subst hkj
            go_wp2
            go_roundw
            case rel => exact ⟨k + 1, by go_num, by omega, by rw [HE.out], Ext.to_gw (by repeat (with_reducible first | exact Ext.refl _ | refine Ext.setCell ?_ (by first | (simp; done) | (simp; omega)) _ | refine Ext.alloc ?_ _ | refine Ext.gw ?_ _ | refine Ext.drew ?_))⟩
            case measure => simp [intOf]; omega
          · have HE := Lib.hid (show outTo m j (k + 1) = outTo m j k - bankV (m j) (m k) from if_neg hkj)
            have H2 := Lib.hid (small_at HV.out hlt)
            have hb2 := bankV_bd H1.out H2.out
            have q1 : ((k : Int) != (j : Int)) = true := by simp; omega
            have q2 : (k != j) = true := by simp; omega
            clear hkj
            go_wp2_with fail
            first | refine wp_region_grow2 (by kernel_rfl) (by kernel_rfl) ?_ | refine wp_region_grow (by kernel_rfl) (by kernel_rfl) ?_
            repeat (go_big_quiet_step (first | (go_at_call 65; exact grow_of (l3Bank_any (m j) (m k) _ H1.out H2.out))))
            refine wpQuiet_nil ?_
            rintro _ ⟨xq, rfl⟩
            go_wp2
            go_roundw
            case rel => exact ⟨k + 1, by go_num, by omega, by rw [HE.out], Ext.to_gw (by repeat (with_reducible first | exact Ext.refl _ | refine Ext.setCell ?_ (by first | (simp; done) | (simp; omega)) _ | refine Ext.alloc ?_ _ | refine Ext.gw ?_ _ | refine Ext.drew ?_))⟩
            case measure => simp [intOf]; omega
        · obtain rfl : k = n := by omega
          go_wp2
          go_ret2
          exact ⟨rfl, ext_gw _ _⟩
set_option maxHeartbeats 4000000 in
theorem implOuter_any (A : Option Addr) (n c : Nat) (m : Nat → Pd) (id : Int) (w : World) (hc : c ≤ maxLen) (hnc : n ≤ c) (hr : Rd w A n 6 (pdF m)) : Calls Try.prog 29 #[.slice A n c, .int .i64 id] w fun e w' => e = .returned (.tuple #[.int .i64 (outV n m id), .bool (fndB n m id)]) ∧ Ext w w' := by
  have HR := Lib.hid hr
  have HC := Lib.hid hc
  have HN := Lib.hid hnc
  unfold maxLen at hc
  unfold outV
  cases hv : pondsB n m
  · rw [fndB_off hv, if_neg (by simp)]
    have HJ : Hid (findPond n m id = findPond n m id) := Lib.hid rfl
    clear hr
    go_enter Try.func29, Try.ntmps29
    go_wp2_with (first | (go_at_call 64; refine (pondAt_is _ _ _ _ _ _ _ HC.out HN.out (by first | exact HR.out | exact HR.out.ext (ext_gw _ _)) HJ.out).mono ?_; rintro e w1 ⟨rfl, hx⟩; (try replace hx := Ext.flat hx); obtain ⟨x, rfl⟩ := hx.to_gw; clear hx) | (go_at_call 18; refine (arePonds_any _ _ _ _ _ HC.out HN.out (by first | exact HR.out | exact HR.out.ext (ext_gw _ _))).mono ?_; rintro e w1 ⟨rfl, hx⟩; (try replace hx := Ext.flat hx); obtain ⟨x, rfl⟩ := hx.to_gw; clear hx))
    go_ret2
    exact ⟨rfl, by repeat (with_reducible first | exact Ext.refl _ | refine Ext.setCell ?_ (by first | (simp; done) | (simp; omega)) _ | refine Ext.alloc ?_ _ | refine Ext.gw ?_ _ | refine Ext.drew ?_)⟩
  · have hvp := pondsB_iff.1 hv
    rcases findPond_bd n m id with hf | ⟨j, hj, hjn, hid⟩
    · have HJ : Hid (findPond n m id = -1) := Lib.hid (by exact hf)
      rw [fndB_not hf, if_neg (by simp)]
      clear hr hf hvp
      go_enter Try.func29, Try.ntmps29
      go_wp2_with (first | (go_at_call 64; refine (pondAt_is _ _ _ _ _ _ _ HC.out HN.out (by first | exact HR.out | exact HR.out.ext (ext_gw _ _)) HJ.out).mono ?_; rintro e w1 ⟨rfl, hx⟩; (try replace hx := Ext.flat hx); obtain ⟨x, rfl⟩ := hx.to_gw; clear hx) | (go_at_call 18; refine (arePonds_any _ _ _ _ _ HC.out HN.out (by first | exact HR.out | exact HR.out.ext (ext_gw _ _))).mono ?_; rintro e w1 ⟨rfl, hx⟩; (try replace hx := Ext.flat hx); obtain ⟨x, rfl⟩ := hx.to_gw; clear hx))
      go_ret2
      exact ⟨rfl, by repeat (with_reducible first | exact Ext.refl _ | refine Ext.setCell ?_ (by first | (simp; done) | (simp; omega)) _ | refine Ext.alloc ?_ _ | refine Ext.gw ?_ _ | refine Ext.drew ?_)⟩
    · clear hid
      have HJ : Hid (findPond n m id = (j : Int)) := Lib.hid (by exact hj)
      rw [fndB_yes hv hj, if_pos rfl, hj, Int.toNat_natCast]
      have HV := Lib.hid hvp
      have H1 := Lib.hid (small_at hvp hjn)
      have hn10 := hvp.1
      obtain ⟨g, off, rfl, hg, c0, c1, c2, c3, c4, c5⟩ := hr.atPond hjn
      obtain ⟨⟨_, _, _, ⟨w0, w1⟩, ⟨h0, h2⟩, _⟩, _⟩ := hvp.2 j hjn
      have j0 : (0 : Int) ≤ (j : Int) := by omega
      have j1 : (j : Int) < (n : Int) := by omega
      clear hj hvp
      go_enter Try.func29, Try.ntmps29
      go_wp2_with (first | (go_at_call 64; refine (pondAt_is _ _ _ _ _ _ _ HC.out HN.out (by first | exact HR.out | exact HR.out.ext (ext_gw _ _)) HJ.out).mono ?_; rintro e w1 ⟨rfl, hx⟩; (try replace hx := Ext.flat hx); obtain ⟨x, rfl⟩ := hx.to_gw; clear hx) | (go_at_call 18; refine (arePonds_any _ _ _ _ _ HC.out HN.out (by first | exact HR.out | exact HR.out.ext (ext_gw _ _))).mono ?_; rintro e w1 ⟨rfl, hx⟩; (try replace hx := Ext.flat hx); obtain ⟨x, rfl⟩ := hx.to_gw; clear hx))
      first | refine wp_region_grow2 (by kernel_rfl) (by kernel_rfl) ?_ | refine wp_region_grow (by kernel_rfl) (by kernel_rfl) ?_
      repeat (go_big_quiet_step (first | fail))
      refine wpQuiet_nil ?_
      rintro _ ⟨xq, rfl⟩
      go_wp2
      clear hv
      go_loopw [7, 34] (fun s i wr => ∃ k : Nat, i = .int .i64 k ∧ k ≤ n ∧ s = .int .i64 (outTo m j k) ∧ ∃ y, wr = gw w y) (fun _ i _ => n - (intOf i).toNat)
      case atStart => exact ⟨0, rfl, Nat.zero_le _, rfl, Ext.to_gw (by repeat (with_reducible first | exact Ext.refl _ | refine Ext.setCell ?_ (by first | (simp; done) | (simp; omega)) _ | refine Ext.alloc ?_ _ | refine Ext.gw ?_ _ | refine Ext.drew ?_))⟩
      case round =>
        obtain ⟨k, rfl, hk, rfl, y, rfl⟩ := hrel
        have hb := outTo_bd HV.out hjn k hk
        by_cases hlt : k < n
        · obtain ⟨g', off', hA', hg', d0, d1, d2, d3, d4, d5⟩ := hr.atPond hlt
          injection hA' with hA'
          injection hA' with e1 e2 _
          subst e1 e2
          have i0 : (0 : Int) ≤ (k : Int) := by omega
          have i1 : (k : Int) < (n : Int) := by omega
          by_cases hkj : k = j
          · have HE := Lib.hid (show outTo m j (k + 1) = outTo m j k from if_pos hkj)
            subst hkj
            go_wp2
            go_roundw
            case rel => exact ⟨k + 1, by go_num, by omega, by rw [HE.out], Ext.to_gw (by repeat (with_reducible first | exact Ext.refl _ | refine Ext.setCell ?_ (by first | (simp; done) | (simp; omega)) _ | refine Ext.alloc ?_ _ | refine Ext.gw ?_ _ | refine Ext.drew ?_))⟩
            case measure => simp [intOf]; omega
          · have HE := Lib.hid (show outTo m j (k + 1) = outTo m j k - bankV (m j) (m k) from if_neg hkj)
            have H2 := Lib.hid (small_at HV.out hlt)
            have hb2 := bankV_bd H1.out H2.out
            have q1 : ((k : Int) != (j : Int)) = true := by simp; omega
            have q2 : (k != j) = true := by simp; omega
            clear hkj
            go_wp2_with fail
            refine wp_region_grow (by kernel_rfl) (by kernel_rfl) ?_
            repeat (go_big_quiet_step (first | (go_at_call 66; exact grow_of (bank_is' (m k) (m j) _ H2.out H1.out))))
            refine wpQuiet_nil ?_
            rintro _ ⟨xq, rfl⟩
            go_wp2
            go_roundw
            case rel => exact ⟨k + 1, by go_num, by omega, by rw [HE.out], Ext.to_gw (by repeat (with_reducible first | exact Ext.refl _ | refine Ext.setCell ?_ (by first | (simp; done) | (simp; omega)) _ | refine Ext.alloc ?_ _ | refine Ext.gw ?_ _ | refine Ext.drew ?_))⟩
            case measure => simp [intOf]; omega
        · obtain rfl : k = n := by omega
          go_wp2
          go_ret2
          exact ⟨rfl, ext_gw _ _⟩
end Go.Proofs.Ytkgnfmdeimaedaa
