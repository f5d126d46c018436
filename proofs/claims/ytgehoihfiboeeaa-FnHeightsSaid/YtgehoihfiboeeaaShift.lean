/- ShiftTide: the contracts. -/
import Derived.Test.YtgehoihfiboeeaaTides
import Derived.Test.YtgehoihfiboeeaaMarkC
namespace Go.Proofs.Ytgehoihfiboeeaa
open Go.RowKit
set_option linter.unusedVariables false

def shiftM (m : Nat → Mk) (b : Int) : Nat → Mk := fun i => { m i with h := (m i).h + b }
def shiftTo (m : Nat → Mk) (b : Int) (k : Nat) : Nat → Mk := fun i => if i < k then shiftM m b i else m i
theorem mkF_at {m m' : Nat → Mk} {i i' : Nat} (h : m i = m' i') (l : Nat) : mkF m i l = mkF m' i' l := by
  match l with
  | 0 => simp [mkF, h]
  | _ + 1 => simp [mkF, h]
theorem shiftTo_step (m : Nat → Mk) (b : Int) (k i l : Nat) (hl : l < 2) : mkF (shiftTo m b (k + 1)) i l = if i = k ∧ l = 1 then .int .i64 ((m k).h + b) else mkF (shiftTo m b k) i l := by
  rcases Nat.lt_trichotomy i k with h | h | h
  · rw [if_neg (by omega)]
    exact mkF_at (by unfold shiftTo; rw [if_pos (by omega), if_pos h]) l
  · subst h
    have e1 : shiftTo m b (i + 1) i = shiftM m b i := if_pos (by omega)
    have e2 : shiftTo m b i i = m i := if_neg (by omega)
    match l, hl with
    | 0, _ => simp [mkF, e1, e2, shiftM]
    | 1, _ => simp [mkF, e1, shiftM]
  · rw [if_neg (by omega)]
    exact mkF_at (by unfold shiftTo; rw [if_neg (by omega), if_neg (by omega)]) l
set_option maxHeartbeats 4000000 in
theorem implShiftTide_yes (A : Option Addr) (n c : Nat) (m : Nat → Mk) (b : Int) (w : World) (hc : c ≤ maxLen) (hnc : n ≤ c) (hr : Rd w A n 2 (mkF m)) (hv : tideB n m = true) (hb : inB b (-1000) 1000 = true) (ht : tideB n (shiftM m b) = true) :
    Calls Try.prog 34 #[.slice A n c, .int .i64 b] w (RetS 77 2 n (mkF (shiftM m b)) true w) := by
  have HR := Lib.hid hr
  have HR2 := Lib.hid (hr.ext (Ext.alloc (Ext.refl w) (.cells #[] 77)))
  have HC := Lib.hid hc
  have HN := Lib.hid hnc
  have HV := Lib.hid (tideB_iff.1 hv)
  obtain ⟨n0, n1⟩ := HV.out.1
  obtain ⟨b0, b1⟩ := inB_iff.1 hb
  obtain ⟨g, off, rfl, hg, _⟩ := hr.atMark (show 0 < n by omega)
  go_enter Try.func34, Try.ntmps34
  go_wp2_with (first | (go_at_call 23; refine (isTide_any _ _ _ _ _ HC.out HN.out (by first | exact HR.out | exact HR.out.ext (ext_gw _ _))).mono ?_; rintro e w1 ⟨rfl, hx⟩; (try replace hx := Ext.flat hx); obtain ⟨x, rfl⟩ := hx.to_gw; clear hx) | (go_at_call 67; refine (within_any _ _ _ _).mono ?_; rintro e w1 ⟨rfl, rfl⟩))
  refine (cloneMark_any g off n c m _ HC.out HN.out (HR.out.ext (by first | exact ext_gw _ _ | exact Ext.refl _)) (by omega) (by omega)).mono ?_
  rintro e w1 ⟨v1, rfl, hown, hx⟩
  replace hown := hown.lower (ext_gw _ _).size_le
  replace hx := Ext.flat hx
  obtain ⟨A1, cap1, rfl, hcap0, hcap1, hform⟩ := hown.form
  obtain ⟨g1, rfl, _, hg1b, _⟩ := hform (by omega)
  clear hform
  unfold maxLen at hcap1
  go_wp2
  go_loopw [7, 20] (fun _ i wr => ∃ k : Nat, i = .int .i64 k ∧ k ≤ n ∧ OwnS wr w.heap.size 77 2 (.slice (some ⟨g1, 0, none⟩) n cap1) n (mkF (shiftTo m b k)) ∧ ∃ y, wr = gw w y) (fun _ i _ => n - (intOf i).toNat)
  case atStart => exact ⟨0, rfl, by omega, hown.congr (fun i l _ _ => mkF_at (by unfold shiftTo; rw [if_neg (by omega)]) l), hx.to_gw⟩
  case round =>
    obtain ⟨k, rfl, hk, hown2, y, rfl⟩ := hrel
    clear hown hx
    by_cases hlt : k < n
    · obtain ⟨_, ⟨p0, p1⟩, _⟩ := HV.out.2.2.2 k hlt
      obtain ⟨A2, cap2, hv2, _, _, hform⟩ := hown2.form
      injection hv2 with hA2 _ hc2
      subst hA2 hc2
      obtain ⟨g2, hg2, _, _, hgl, hcell⟩ := hform (by omega)
      injection hg2 with hg2
      injection hg2 with hg2 _ _
      subst hg2
      obtain ⟨d1, f1⟩ := hcell k 1 hlt (by omega)
      replace d1 : _ = some (Value.int .i64 (m k).h) := d1.trans (by simp [mkF, shiftTo])
      clear hform hcell
      have i0 : (0 : Int) ≤ (k : Int) := by omega
      have i1 : (k : Int) < (n : Int) := by omega
      go_wp2
      go_roundw
      case rel => exact ⟨k + 1, by go_num, by omega, (hown2.stored hlt (j := 1) (by omega) (.int .i64 ((m k).h + b))).congr (fun i l _ hl => shiftTo_step m b k i l hl), ((ext_gw w y).setCell hg1b _).to_gw⟩
      case measure => simp [intOf]; omega
    · obtain rfl : k = n := by omega
      replace hown2 := hown2.congr (f' := mkF (shiftM m b)) (fun i l hi _ => mkF_at (by unfold shiftTo; rw [if_pos hi]) l)
      obtain ⟨A3, c3, hv3, hc3, hnc3, hr3⟩ := hown2.rd
      injection hv3 with hA3 _ hc4
      subst hA3 hc4
      go_wp2_with fail
      refine (isTide_any _ _ _ (shiftM m b) _ hc3 hnc3 hr3).mono ?_
      rintro e w5 ⟨rfl, hx5⟩
      replace hown2 := hown2.ext hx5
      obtain ⟨x5, rfl⟩ := (Ext.flat hx5).to_gw
      clear hx5
      go_wp2
      go_ret2
      exact ⟨_, rfl, hown2, by repeat (with_reducible first | exact Ext.refl _ | refine Ext.setCell ?_ (by first | (simp; done) | (simp; omega)) _ | refine Ext.alloc ?_ _ | refine Ext.gw ?_ _ | refine Ext.drew ?_)⟩
set_option maxHeartbeats 4000000 in
theorem implShiftTide_bad (A : Option Addr) (n c : Nat) (m : Nat → Mk) (b : Int) (w : World) (hc : c ≤ maxLen) (hnc : n ≤ c) (hr : Rd w A n 2 (mkF m)) (hv : tideB n m = true) (hb : inB b (-1000) 1000 = true) (ht : tideB n (shiftM m b) = false) :
    Calls Try.prog 34 #[.slice A n c, .int .i64 b] w (RetS 77 2 0 (mkF (shiftM m b)) false w) := by
  have HR := Lib.hid hr
  have HR2 := Lib.hid (hr.ext (Ext.alloc (Ext.refl w) (.cells #[] 77)))
  have HC := Lib.hid hc
  have HN := Lib.hid hnc
  have HV := Lib.hid (tideB_iff.1 hv)
  obtain ⟨n0, n1⟩ := HV.out.1
  obtain ⟨b0, b1⟩ := inB_iff.1 hb
  obtain ⟨g, off, rfl, hg, _⟩ := hr.atMark (show 0 < n by omega)
  go_enter Try.func34, Try.ntmps34
  go_wp2_with (first | (go_at_call 23; refine (isTide_any _ _ _ _ _ HC.out HN.out (by first | exact HR.out | exact HR.out.ext (ext_gw _ _))).mono ?_; rintro e w1 ⟨rfl, hx⟩; (try replace hx := Ext.flat hx); obtain ⟨x, rfl⟩ := hx.to_gw; clear hx) | (go_at_call 67; refine (within_any _ _ _ _).mono ?_; rintro e w1 ⟨rfl, rfl⟩))
  refine (cloneMark_any g off n c m _ HC.out HN.out (HR.out.ext (by first | exact ext_gw _ _ | exact Ext.refl _)) (by omega) (by omega)).mono ?_
  rintro e w1 ⟨v1, rfl, hown, hx⟩
  replace hown := hown.lower (ext_gw _ _).size_le
  replace hx := Ext.flat hx
  obtain ⟨A1, cap1, rfl, hcap0, hcap1, hform⟩ := hown.form
  obtain ⟨g1, rfl, _, hg1b, _⟩ := hform (by omega)
  clear hform
  unfold maxLen at hcap1
  go_wp2
  go_loopw [7, 20] (fun _ i wr => ∃ k : Nat, i = .int .i64 k ∧ k ≤ n ∧ OwnS wr w.heap.size 77 2 (.slice (some ⟨g1, 0, none⟩) n cap1) n (mkF (shiftTo m b k)) ∧ ∃ y, wr = gw w y) (fun _ i _ => n - (intOf i).toNat)
  case atStart => exact ⟨0, rfl, by omega, hown.congr (fun i l _ _ => mkF_at (by unfold shiftTo; rw [if_neg (by omega)]) l), hx.to_gw⟩
  case round =>
    obtain ⟨k, rfl, hk, hown2, y, rfl⟩ := hrel
    clear hown hx
    by_cases hlt : k < n
    · obtain ⟨_, ⟨p0, p1⟩, _⟩ := HV.out.2.2.2 k hlt
      obtain ⟨A2, cap2, hv2, _, _, hform⟩ := hown2.form
      injection hv2 with hA2 _ hc2
      subst hA2 hc2
      obtain ⟨g2, hg2, _, _, hgl, hcell⟩ := hform (by omega)
      injection hg2 with hg2
      injection hg2 with hg2 _ _
      subst hg2
      obtain ⟨d1, f1⟩ := hcell k 1 hlt (by omega)
      replace d1 : _ = some (Value.int .i64 (m k).h) := d1.trans (by simp [mkF, shiftTo])
      clear hform hcell
      have i0 : (0 : Int) ≤ (k : Int) := by omega
      have i1 : (k : Int) < (n : Int) := by omega
      go_wp2
      go_roundw
      case rel => exact ⟨k + 1, by go_num, by omega, (hown2.stored hlt (j := 1) (by omega) (.int .i64 ((m k).h + b))).congr (fun i l _ hl => shiftTo_step m b k i l hl), ((ext_gw w y).setCell hg1b _).to_gw⟩
      case measure => simp [intOf]; omega
    · obtain rfl : k = n := by omega
      replace hown2 := hown2.congr (f' := mkF (shiftM m b)) (fun i l hi _ => mkF_at (by unfold shiftTo; rw [if_pos hi]) l)
      obtain ⟨A3, c3, hv3, hc3, hnc3, hr3⟩ := hown2.rd
      injection hv3 with hA3 _ hc4
      subst hA3 hc4
      go_wp2_with fail
      refine (isTide_any _ _ _ (shiftM m b) _ hc3 hnc3 hr3).mono ?_
      rintro e w5 ⟨rfl, hx5⟩
      replace hown2 := hown2.ext hx5
      obtain ⟨x5, rfl⟩ := (Ext.flat hx5).to_gw
      clear hx5
      go_wp2
      go_ret2
      exact ⟨_, rfl, OwnS.nil, by repeat (with_reducible first | exact Ext.refl _ | refine Ext.setCell ?_ (by first | (simp; done) | (simp; omega)) _ | refine Ext.alloc ?_ _ | refine Ext.gw ?_ _ | refine Ext.drew ?_)⟩
set_option maxHeartbeats 4000000 in
theorem specShiftTide_yes (A : Option Addr) (n c : Nat) (m : Nat → Mk) (b : Int) (w : World) (hc : c ≤ maxLen) (hnc : n ≤ c) (hr : Rd w A n 2 (mkF m)) (hv : tideB n m = true) (hb : inB b (-1000) 1000 = true) (ht : tideB n (shiftM m b) = true) :
    Calls Try.prog 35 #[.slice A n c, .int .i64 b] w (RetS 77 2 n (mkF (shiftM m b)) true w) := by
  have HR := Lib.hid hr
  have HR2 := Lib.hid (hr.ext (Ext.alloc (Ext.refl w) (.cells #[] 77)))
  have HC := Lib.hid hc
  have HN := Lib.hid hnc
  have HV := Lib.hid (tideB_iff.1 hv)
  obtain ⟨n0, n1⟩ := HV.out.1
  obtain ⟨b0, b1⟩ := inB_iff.1 hb
  obtain ⟨g, off, rfl, hg, _⟩ := hr.atMark (show 0 < n by omega)
  go_enter Try.func35, Try.ntmps35
  go_wp2_with (first | (go_at_call 69; refine (l4Good_any _ _ _ _ _ HC.out HN.out (by first | exact HR2.out | exact HR2.out.ext (ext_gw _ _))).mono ?_; rintro e w1 ⟨rfl, hx⟩; (try replace hx := Ext.flat hx); obtain ⟨x, rfl⟩ := hx.to_gw; clear hx) | (go_at_call 78; refine (l1In_any _ _ _ _).mono ?_; rintro e w1 ⟨rfl, rfl⟩))
  have hx0 := ext_gw (w.alloc (Obj.cells #[] 77)) x
  go_loopw [6, 7] (fun v i wr => ∃ k : Nat, i = .int .i64 k ∧ k ≤ n ∧ OwnS wr w.heap.size 77 2 v k (mkF (shiftM m b)) ∧ ∃ y, wr = gw w y) (fun _ i _ => n - (intOf i).toNat)
  case atStart => exact ⟨0, rfl, by omega, (own_empty _ _ rfl (Nat.le_refl _)).ext hx0, (Ext.trans (Ext.alloc (Ext.refl _) _) hx0).to_gw⟩
  case round =>
    obtain ⟨k, rfl, hk, hown2, y, rfl⟩ := hrel
    clear hx0
    by_cases hlt : k < n
    · obtain ⟨_, ⟨p0, p1⟩, _⟩ := HV.out.2.2.2 k hlt
      obtain ⟨g2, off2, hA2, hg2, c0, c1⟩ := hr.atMark hlt
      injection hA2 with hA2
      injection hA2 with e1 e2 _
      subst e1 e2
      have i0 : (0 : Int) ≤ (k : Int) := by omega
      have i1 : (k : Int) < (n : Int) := by omega
      unfold maxLen at hc
      go_wp2_with fail
      refine wp_region_grow_tail1 14 _ rfl rfl (by kernel_rfl) (by decide) (by kernel_rfl) (fun _ _ _ => rfl) ?_
      simp only [Act.put, Act.eval, List.setIfInBounds_toArray, List.set_cons_zero, List.set_cons_succ, List.take_succ_cons, List.take_zero, List.drop_succ_cons, List.drop_zero]
      repeat (go_big_quiet_step (fail))
      refine wpQuiet_nil ?_
      rintro _ ⟨xq, rfl⟩
      have hown3 := hown2.ext (Ext.trans (Ext.refl _) (ext_gw _ xq))
      go_wp2_with (at_builtin; refine wpList_append_G w w.heap.size rfl (by repeat (with_reducible first | exact Ext.refl _ | refine Ext.setCell ?_ (by first | (simp; done) | (simp; omega)) _ | refine Ext.alloc ?_ _ | refine Ext.gw ?_ _ | refine Ext.drew ?_)) rfl _ _ elMark rfl rfl hown3 _ _ rfl rfl (by omega) ?_ ?_ ?_)
      · intro j hj
        match j, hj with
        | 0, _ => rfl
        | 1, _ => rfl
      · intro j hj
        match j, hj with
        | 0, _ => rfl
        | 1, _ => rfl
      · intro v' z hown4
        clear hown2 hown3
        go_wp2
        go_roundw
        case rel => exact ⟨k + 1, by go_num, by omega, hown4, z, rfl⟩
        case measure => simp [intOf]; omega
    · obtain rfl : k = n := by omega
      obtain ⟨A3, c3, rfl, hc3, hnc3, hr3⟩ := hown2.rd
      go_wp2_with fail
      refine (l4Good_any _ _ _ (shiftM m b) _ hc3 hnc3 hr3).mono ?_
      rintro e w5 ⟨rfl, hx5⟩
      replace hown2 := hown2.ext hx5
      obtain ⟨x5, rfl⟩ := (Ext.flat hx5).to_gw
      clear hx5
      go_wp2
      go_ret2
      exact ⟨_, rfl, hown2, by repeat (with_reducible first | exact Ext.refl _ | refine Ext.setCell ?_ (by first | (simp; done) | (simp; omega)) _ | refine Ext.alloc ?_ _ | refine Ext.gw ?_ _ | refine Ext.drew ?_)⟩
set_option maxHeartbeats 4000000 in
theorem specShiftTide_bad (A : Option Addr) (n c : Nat) (m : Nat → Mk) (b : Int) (w : World) (hc : c ≤ maxLen) (hnc : n ≤ c) (hr : Rd w A n 2 (mkF m)) (hv : tideB n m = true) (hb : inB b (-1000) 1000 = true) (ht : tideB n (shiftM m b) = false) :
    Calls Try.prog 35 #[.slice A n c, .int .i64 b] w (RetS 77 2 0 (mkF (shiftM m b)) false w) := by
  have HR := Lib.hid hr
  have HR2 := Lib.hid (hr.ext (Ext.alloc (Ext.refl w) (.cells #[] 77)))
  have HC := Lib.hid hc
  have HN := Lib.hid hnc
  have HV := Lib.hid (tideB_iff.1 hv)
  obtain ⟨n0, n1⟩ := HV.out.1
  obtain ⟨b0, b1⟩ := inB_iff.1 hb
  obtain ⟨g, off, rfl, hg, _⟩ := hr.atMark (show 0 < n by omega)
  go_enter Try.func35, Try.ntmps35
  go_wp2_with (first | (go_at_call 69; refine (l4Good_any _ _ _ _ _ HC.out HN.out (by first | exact HR2.out | exact HR2.out.ext (ext_gw _ _))).mono ?_; rintro e w1 ⟨rfl, hx⟩; (try replace hx := Ext.flat hx); obtain ⟨x, rfl⟩ := hx.to_gw; clear hx) | (go_at_call 78; refine (l1In_any _ _ _ _).mono ?_; rintro e w1 ⟨rfl, rfl⟩))
  have hx0 := ext_gw (w.alloc (Obj.cells #[] 77)) x
  go_loopw [6, 7] (fun v i wr => ∃ k : Nat, i = .int .i64 k ∧ k ≤ n ∧ OwnS wr w.heap.size 77 2 v k (mkF (shiftM m b)) ∧ ∃ y, wr = gw w y) (fun _ i _ => n - (intOf i).toNat)
  case atStart => exact ⟨0, rfl, by omega, (own_empty _ _ rfl (Nat.le_refl _)).ext hx0, (Ext.trans (Ext.alloc (Ext.refl _) _) hx0).to_gw⟩
  case round =>
    obtain ⟨k, rfl, hk, hown2, y, rfl⟩ := hrel
    clear hx0
    by_cases hlt : k < n
    · obtain ⟨_, ⟨p0, p1⟩, _⟩ := HV.out.2.2.2 k hlt
      obtain ⟨g2, off2, hA2, hg2, c0, c1⟩ := hr.atMark hlt
      injection hA2 with hA2
      injection hA2 with e1 e2 _
      subst e1 e2
      have i0 : (0 : Int) ≤ (k : Int) := by omega
      have i1 : (k : Int) < (n : Int) := by omega
      unfold maxLen at hc
      go_wp2_with fail
      refine wp_region_grow_tail1 14 _ rfl rfl (by kernel_rfl) (by decide) (by kernel_rfl) (fun _ _ _ => rfl) ?_
      simp only [Act.put, Act.eval, List.setIfInBounds_toArray, List.set_cons_zero, List.set_cons_succ, List.take_succ_cons, List.take_zero, List.drop_succ_cons, List.drop_zero]
      repeat (go_big_quiet_step (fail))
      refine wpQuiet_nil ?_
      rintro _ ⟨xq, rfl⟩
      have hown3 := hown2.ext (Ext.trans (Ext.refl _) (ext_gw _ xq))
      go_wp2_with (at_builtin; refine wpList_append_G w w.heap.size rfl (by repeat (with_reducible first | exact Ext.refl _ | refine Ext.setCell ?_ (by first | (simp; done) | (simp; omega)) _ | refine Ext.alloc ?_ _ | refine Ext.gw ?_ _ | refine Ext.drew ?_)) rfl _ _ elMark rfl rfl hown3 _ _ rfl rfl (by omega) ?_ ?_ ?_)
      · intro j hj
        match j, hj with
        | 0, _ => rfl
        | 1, _ => rfl
      · intro j hj
        match j, hj with
        | 0, _ => rfl
        | 1, _ => rfl
      · intro v' z hown4
        clear hown2 hown3
        go_wp2
        go_roundw
        case rel => exact ⟨k + 1, by go_num, by omega, hown4, z, rfl⟩
        case measure => simp [intOf]; omega
    · obtain rfl : k = n := by omega
      obtain ⟨A3, c3, rfl, hc3, hnc3, hr3⟩ := hown2.rd
      go_wp2_with fail
      refine (l4Good_any _ _ _ (shiftM m b) _ hc3 hnc3 hr3).mono ?_
      rintro e w5 ⟨rfl, hx5⟩
      replace hown2 := hown2.ext hx5
      obtain ⟨x5, rfl⟩ := (Ext.flat hx5).to_gw
      clear hx5
      go_wp2
      go_ret2
      exact ⟨_, rfl, own_empty _ _ rfl (ext_gw _ _).size_le, by repeat (with_reducible first | exact Ext.refl _ | refine Ext.setCell ?_ (by first | (simp; done) | (simp; omega)) _ | refine Ext.alloc ?_ _ | refine Ext.gw ?_ _ | refine Ext.drew ?_)⟩
theorem implShiftTide_no (A : Option Addr) (n c : Nat) (m : Nat → Mk) (b : Int) (w : World) (hc : c ≤ maxLen) (hnc : n ≤ c) (hr : Rd w A n 2 (mkF m)) (h : tideB n m = false ∨ inB b (-1000) 1000 = false) :
    Calls Try.prog 34 #[.slice A n c, .int .i64 b] w (RetS 77 2 0 (mkF (shiftM m b)) false w) := by
  have HR := Lib.hid hr
  have HR2 := Lib.hid (hr.ext (Ext.alloc (Ext.refl w) (.cells #[] 77)))
  have HC := Lib.hid hc
  have HN := Lib.hid hnc
  clear hr hc hnc
  cases hv : tideB n m
  · clear h
    go_enter Try.func34, Try.ntmps34
    go_wp2_with (first | (go_at_call 23; refine (isTide_any _ _ _ _ _ HC.out HN.out (by first | exact HR.out | exact HR.out.ext (ext_gw _ _))).mono ?_; rintro e w1 ⟨rfl, hx⟩; (try replace hx := Ext.flat hx); obtain ⟨x, rfl⟩ := hx.to_gw; clear hx) | (go_at_call 67; refine (within_any _ _ _ _).mono ?_; rintro e w1 ⟨rfl, rfl⟩))
    go_ret2
    exact ⟨_, rfl, OwnS.nil, by repeat (with_reducible first | exact Ext.refl _ | refine Ext.setCell ?_ (by first | (simp; done) | (simp; omega)) _ | refine Ext.alloc ?_ _ | refine Ext.gw ?_ _ | refine Ext.drew ?_)⟩
  · have hb : inB b (-1000) 1000 = false := by rcases h with h | h <;> simp_all
    clear h
    go_enter Try.func34, Try.ntmps34
    go_wp2_with (first | (go_at_call 23; refine (isTide_any _ _ _ _ _ HC.out HN.out (by first | exact HR.out | exact HR.out.ext (ext_gw _ _))).mono ?_; rintro e w1 ⟨rfl, hx⟩; (try replace hx := Ext.flat hx); obtain ⟨x, rfl⟩ := hx.to_gw; clear hx) | (go_at_call 67; refine (within_any _ _ _ _).mono ?_; rintro e w1 ⟨rfl, rfl⟩))
    go_ret2
    exact ⟨_, rfl, OwnS.nil, by repeat (with_reducible first | exact Ext.refl _ | refine Ext.setCell ?_ (by first | (simp; done) | (simp; omega)) _ | refine Ext.alloc ?_ _ | refine Ext.gw ?_ _ | refine Ext.drew ?_)⟩
theorem specShiftTide_no (A : Option Addr) (n c : Nat) (m : Nat → Mk) (b : Int) (w : World) (hc : c ≤ maxLen) (hnc : n ≤ c) (hr : Rd w A n 2 (mkF m)) (h : tideB n m = false ∨ inB b (-1000) 1000 = false) :
    Calls Try.prog 35 #[.slice A n c, .int .i64 b] w (RetS 77 2 0 (mkF (shiftM m b)) false w) := by
  have HR := Lib.hid hr
  have HR2 := Lib.hid (hr.ext (Ext.alloc (Ext.refl w) (.cells #[] 77)))
  have HC := Lib.hid hc
  have HN := Lib.hid hnc
  clear hr hc hnc
  cases hv : tideB n m
  · clear h
    go_enter Try.func35, Try.ntmps35
    go_wp2_with (first | (go_at_call 69; refine (l4Good_any _ _ _ _ _ HC.out HN.out (by first | exact HR2.out | exact HR2.out.ext (ext_gw _ _))).mono ?_; rintro e w1 ⟨rfl, hx⟩; (try replace hx := Ext.flat hx); obtain ⟨x, rfl⟩ := hx.to_gw; clear hx) | (go_at_call 78; refine (l1In_any _ _ _ _).mono ?_; rintro e w1 ⟨rfl, rfl⟩))
    go_ret2
    exact ⟨_, rfl, (own_empty _ _ rfl (Nat.le_refl _)).ext (ext_gw _ _), by repeat (with_reducible first | exact Ext.refl _ | refine Ext.setCell ?_ (by first | (simp; done) | (simp; omega)) _ | refine Ext.alloc ?_ _ | refine Ext.gw ?_ _ | refine Ext.drew ?_)⟩
  · have hb : inB b (-1000) 1000 = false := by rcases h with h | h <;> simp_all
    clear h
    go_enter Try.func35, Try.ntmps35
    go_wp2_with (first | (go_at_call 69; refine (l4Good_any _ _ _ _ _ HC.out HN.out (by first | exact HR2.out | exact HR2.out.ext (ext_gw _ _))).mono ?_; rintro e w1 ⟨rfl, hx⟩; (try replace hx := Ext.flat hx); obtain ⟨x, rfl⟩ := hx.to_gw; clear hx) | (go_at_call 78; refine (l1In_any _ _ _ _).mono ?_; rintro e w1 ⟨rfl, rfl⟩))
    go_ret2
    exact ⟨_, rfl, (own_empty _ _ rfl (Nat.le_refl _)).ext (ext_gw _ _), by repeat (with_reducible first | exact Ext.refl _ | refine Ext.setCell ?_ (by first | (simp; done) | (simp; omega)) _ | refine Ext.alloc ?_ _ | refine Ext.gw ?_ _ | refine Ext.drew ?_)⟩
end Go.Proofs.Ytgehoihfiboeeaa
