/- Spans of minutes: the contracts of the walks. -/
import Derived.Test.YtgehoihfiboeeaaFlow
namespace Go.Proofs.Ytgehoihfiboeeaa
open Go.RowKit
set_option linter.unusedVariables false

set_option maxRecDepth 20000 in
set_option maxHeartbeats 4000000 in
theorem specSpansIn_any (A : Option Addr) (n c : Nat) (m : Nat → Mk) (s p : Int) (w : World) (hc : c ≤ maxLen) (hnc : n ≤ c) (hr : Rd w A n 2 (mkF m)) (hv : tideP n m) (s0 : -500 ≤ s) (s1 : s ≤ 500) (p0 : -500 ≤ p) (p1 : p ≤ 500) :
    Calls Try.prog 66 #[.slice A n c, .int .i64 s, .int .i64 p, .int .i64 (1)] w (RetO 3 1 (spanL (fun t => inP s p (atN n m (t : Int)) (atD n m (t : Int))) 1441).length (mkL (spanL (fun t => inP s p (atN n m (t : Int)) (atD n m (t : Int))) 1441)) w) := by
  have HR := Lib.hid hr
  have HC := Lib.hid hc
  have HN := Lib.hid hnc
  have HV := Lib.hid hv
  clear hr hc hnc hv
  go_enter Try.func66, Try.ntmps66
  go_wp2
  go_loopw [9, 10, 11] (fun v i _ wr => ∃ k : Nat, i = .int .i64 k ∧ k ≤ 1441 ∧ (∃ N, Hid (N = (spanL (fun t => inP s p (atN n m (t : Int)) (atD n m (t : Int))) k).length) ∧ OwnS wr w.heap.size 3 1 v N (mkL (spanL (fun t => inP s p (atN n m (t : Int)) (atD n m (t : Int))) k))) ∧ ∃ y, wr = gw w y) (fun _ i _ _ => 1441 - (intOf i).toNat)
  case atStart => exact ⟨0, rfl, by omega, ⟨0, Lib.hid rfl, own_empty _ _ rfl (Nat.le_refl _)⟩, (Ext.alloc (Ext.refl _) _).to_gw⟩
  case round =>
    obtain ⟨k, rfl, hk, ⟨N, HNL, hown⟩, y, rfl⟩ := hrel
    have HL := Lib.hid (span_len (fun t => inP s p (atN n m (t : Int)) (atD n m (t : Int))) k)
    by_cases hlt : k < 1441
    · have i0 : (0 : Int) ≤ (k : Int) := by omega
      have i1 : (k : Int) ≤ 1440 := by omega
      obtain ⟨⟨nn0, nn1⟩, dd0, dd1⟩ := at_bd HV.out i0 i1
      cases hp : inP s p (atN n m (k : Int)) (atD n m (k : Int))
      · have HE := Lib.hid (show spanL (fun t => inP s p (atN n m (t : Int)) (atD n m (t : Int))) (k + 1) = spanL (fun t => inP s p (atN n m (t : Int)) (atD n m (t : Int))) k from if_neg (by show ¬ inP s p (atN n m (k : Int)) (atD n m (k : Int)) = true; rw [hp]; simp))
        have qf : (flowV s p (atN n m k) (atD n m k) != 1) = true := by rw [flow_in s p (atN n m k) (atD n m k), hp]; rfl
        go_wp2_with fail
        refine (l4Flow_any _ _ _ m s p k _ HC.out HN.out (HR.out.ext (ext_gw _ _)) HV.out s0 s1 p0 p1 i0 i1).mono ?_
        rintro e w1 ⟨rfl, hx⟩
        replace hown := hown.ext hx
        obtain ⟨x, rfl⟩ := (Ext.flat hx).to_gw
        clear hx
        go_wp2
        go_roundw
        case rel => exact ⟨k + 1, by go_num, by omega, ⟨N, by rw [HE.out]; exact HNL, by rw [HE.out]; exact hown⟩, Ext.to_gw (by repeat (with_reducible first | exact Ext.refl _ | refine Ext.setCell ?_ (by first | (simp; done) | (simp; omega)) _ | refine Ext.alloc ?_ _ | refine Ext.gw ?_ _ | refine Ext.drew ?_))⟩
        case measure => simp [intOf]; omega
      · have HS := Lib.hid (show spanL (fun t => inP s p (atN n m (t : Int)) (atD n m (t : Int))) (k + 1) = spanStep (spanL (fun t => inP s p (atN n m (t : Int)) (atD n m (t : Int))) k) k from if_pos hp)
        have qf : (flowV s p (atN n m k) (atD n m k) != 1) = false := by rw [flow_in s p (atN n m k) (atD n m k), hp]; rfl
        go_wp2_with fail
        refine (l4Flow_any _ _ _ m s p k _ HC.out HN.out (HR.out.ext (ext_gw _ _)) HV.out s0 s1 p0 p1 i0 i1).mono ?_
        rintro e w1 ⟨rfl, hx⟩
        replace hown := hown.ext hx
        obtain ⟨x, rfl⟩ := (Ext.flat hx).to_gw
        clear hx
        match N, HNL, hown with
        | 0, HNL, hown =>
          have HE := Lib.hid (show spanL (fun t => inP s p (atN n m (t : Int)) (atD n m (t : Int))) (k + 1) = spanL (fun t => inP s p (atN n m (t : Int)) (atD n m (t : Int))) k ++ [(k : Int), (k : Int)] by
            rw [HS.out]
            exact spanStep_nil HNL.out.symm)
          obtain ⟨A2, cap2, hv2, hcl, hcm, _⟩ := hown.form
          subst hv2
          unfold maxLen at hcm
          go_wp2_with (at_builtin; refine wpList_append_2 w w.heap.size rfl (by repeat (with_reducible first | exact Ext.refl _ | refine Ext.setCell ?_ (by first | (simp; done) | (simp; omega)) _ | refine Ext.alloc ?_ _ | refine Ext.gw ?_ _ | refine Ext.drew ?_)) rfl _ _ elInt rfl HNL.out rfl hown (k : Int) (k : Int) _ rfl (by have := HNL.out; have := HL.out; omega) ?_)
          intro v' z hown3
          clear hown
          go_wp2
          go_roundw
          case rel => exact ⟨k + 1, by go_num, by omega, ⟨0 + 2, Lib.hid (by rw [HE.out, List.length_append]; exact congrArg (· + 2) HNL.out), by rw [HE.out]; exact hown3⟩, z, rfl⟩
          case measure => simp [intOf]; omega
        | l + 1, HNL, hown =>
          obtain ⟨A2, cap2, hv2, hcl, hcm, hform⟩ := hown.form
          subst hv2
          obtain ⟨g2, rfl, _, hgb, hgl, hcell⟩ := hform (by omega)
          obtain ⟨d0, f0⟩ := hcell l 0 (by omega) (by omega)
          rw [Nat.add_zero, Nat.mul_one] at d0 f0
          obtain ⟨z, hz⟩ : ∃ z, (spanL (fun t => inP s p (atN n m (t : Int)) (atD n m (t : Int))) k).getD l 0 = z := ⟨_, rfl⟩
          replace d0 : _ = some (Value.int .i64 z) := d0.trans (by rw [← hz]; rfl)
          have HZ := Lib.hid hz
          clear hz
          clear hform hcell
          unfold maxLen at hcm
          have l0 : (0 : Int) ≤ (l : Int) := by omega
          have l1 : (l : Int) < 100000 := by have := HNL.out; have := HL.out; omega
          by_cases hlast : z = (k : Int) - 1
          · have HE := Lib.hid (show spanL (fun t => inP s p (atN n m (t : Int)) (atD n m (t : Int))) (k + 1) = (spanL (fun t => inP s p (atN n m (t : Int)) (atD n m (t : Int))) k).set l k by
              rw [HS.out]
              exact spanStep_last HNL.out HZ.out hlast)
            have q : (z == (k : Int) - 1) = true := beq_iff_eq.2 hlast
            clear hlast
            go_wp2
            go_roundw
            case rel =>
              have a1 := (hown.stored (i := l) (by omega) (j := 0) (by omega) (.int .i64 (k : Int))).congr (f' := mkL ((spanL (fun t => inP s p (atN n m (t : Int)) (atD n m (t : Int))) k).set l k)) (fun i j _ hj => mkL_set _ l k (by have := HNL.out; omega) i j hj)
              rw [Nat.add_zero, Nat.mul_one] at a1
              exact ⟨k + 1, by go_num, by omega, ⟨l + 1, Lib.hid (by rw [HE.out, List.length_set]; exact HNL.out), by rw [HE.out]; exact a1⟩, Ext.to_gw (by repeat (with_reducible first | exact Ext.refl _ | refine Ext.setCell ?_ (by first | (simp; done) | (simp; omega)) _ | refine Ext.alloc ?_ _ | refine Ext.gw ?_ _ | refine Ext.drew ?_))⟩
            case measure => simp [intOf]; omega
          · have HE := Lib.hid (show spanL (fun t => inP s p (atN n m (t : Int)) (atD n m (t : Int))) (k + 1) = spanL (fun t => inP s p (atN n m (t : Int)) (atD n m (t : Int))) k ++ [(k : Int), (k : Int)] by
              rw [HS.out]
              exact spanStep_new HNL.out HZ.out hlast)
            have q : (z == (k : Int) - 1) = false := beq_eq_false_iff_ne.2 hlast
            clear hlast
            go_wp2_with (at_builtin; refine wpList_append_2 w w.heap.size rfl (by repeat (with_reducible first | exact Ext.refl _ | refine Ext.setCell ?_ (by first | (simp; done) | (simp; omega)) _ | refine Ext.alloc ?_ _ | refine Ext.gw ?_ _ | refine Ext.drew ?_)) rfl _ _ elInt rfl HNL.out rfl hown (k : Int) (k : Int) _ rfl (by have := HNL.out; have := HL.out; omega) ?_)
            intro v' z hown3
            clear hown
            go_wp2
            go_roundw
            case rel => exact ⟨k + 1, by go_num, by omega, ⟨l + 1 + 2, Lib.hid (by rw [HE.out, List.length_append]; exact congrArg (· + 2) HNL.out), by rw [HE.out]; exact hown3⟩, z, rfl⟩
            case measure => simp [intOf]; omega
    · obtain rfl : k = 1441 := by omega
      go_wp2
      go_ret
      rw [HNL.out] at hown
      exact ⟨_, rfl, hown, ext_gw _ _⟩
set_option maxRecDepth 20000 in
set_option maxHeartbeats 4000000 in
theorem implSpansIn_any (A : Option Addr) (n c : Nat) (m : Nat → Mk) (s p : Int) (b1 b2 : Nat) (w : World) (hc : c ≤ maxLen) (hnc : n ≤ c) (hr : Rd w A n 2 (mkF m)) (hv : tideP n m) (s0 : -500 ≤ s) (s1 : s ≤ 500) (p0 : -500 ≤ p) (p1 : p ≤ 500) (hb1 : b1 < w.heap.size) (hb2 : b2 < w.heap.size) (hc1 : w.cell? ⟨b1, 0, none⟩ = some (.int .i64 s)) (hc2 : w.cell? ⟨b2, 0, none⟩ = some (.int .i64 p)) :
    Calls Try.prog 63 #[.slice A n c, .func (.func 64) #[] #[.pointer (some ⟨b1, 0, none⟩), .pointer (some ⟨b2, 0, none⟩)]] w (RetO 3 1 (spanL (fun t => inP s p (atN n m (t : Int)) (atD n m (t : Int))) 1441).length (mkL (spanL (fun t => inP s p (atN n m (t : Int)) (atD n m (t : Int))) 1441)) w) := by
  have HR := Lib.hid hr
  have HC := Lib.hid hc
  have HN := Lib.hid hnc
  have HV := Lib.hid hv
  clear hr hc hnc hv
  go_enter Try.func63, Try.ntmps63
  go_wp2
  go_loopw [5, 6, 7, 8] (fun v _ _ i wr => ∃ k : Nat, i = .int .i64 k ∧ k ≤ 1441 ∧ (∃ N, Hid (N = (spanL (fun t => inP s p (atN n m (t : Int)) (atD n m (t : Int))) k).length) ∧ OwnS wr w.heap.size 3 1 v N (mkL (spanL (fun t => inP s p (atN n m (t : Int)) (atD n m (t : Int))) k))) ∧ ∃ y, wr = gw w y) (fun _ _ _ i _ => 1441 - (intOf i).toNat)
  case atStart => exact ⟨0, rfl, by omega, ⟨0, Lib.hid rfl, OwnS.nil⟩, (Ext.refl _).to_gw⟩
  case round =>
    obtain ⟨k, rfl, hk, ⟨N, HNL, hown⟩, y, rfl⟩ := hrel
    have HL := Lib.hid (span_len (fun t => inP s p (atN n m (t : Int)) (atD n m (t : Int))) k)
    by_cases hlt : k < 1441
    · have i0 : (0 : Int) ≤ (k : Int) := by omega
      have i1 : (k : Int) ≤ 1440 := by omega
      obtain ⟨⟨nn0, nn1⟩, dd0, dd1⟩ := at_bd HV.out i0 i1
      cases hp : inP s p (atN n m (k : Int)) (atD n m (k : Int))
      · have HE := Lib.hid (show spanL (fun t => inP s p (atN n m (t : Int)) (atD n m (t : Int))) (k + 1) = spanL (fun t => inP s p (atN n m (t : Int)) (atD n m (t : Int))) k from if_neg (by show ¬ inP s p (atN n m (k : Int)) (atD n m (k : Int)) = true; rw [hp]; simp))
        skip
        go_wp2_with fail
        refine (tideAt_any _ _ _ m k _ HC.out HN.out (HR.out.ext (ext_gw _ _)) HV.out i0 i1).mono ?_
        rintro e w1 ⟨rfl, hx⟩
        replace hown := hown.ext hx
        obtain ⟨x, rfl⟩ := (Ext.flat hx).to_gw
        clear hx
        go_wp2_with fail
        refine (inClo_any s p _ _ b1 b2 _ s0 s1 p0 p1 (by omega) dd1 ((gw_cell _ _ _ hb1).trans hc1) ((gw_cell _ _ _ hb2).trans hc2)).mono ?_
        rintro e w1 ⟨rfl, hw1⟩
        subst hw1
        go_wp2
        go_roundw
        case rel => exact ⟨k + 1, by go_num, by omega, ⟨N, by rw [HE.out]; exact HNL, by rw [HE.out]; exact hown⟩, Ext.to_gw (by repeat (with_reducible first | exact Ext.refl _ | refine Ext.setCell ?_ (by first | (simp; done) | (simp; omega)) _ | refine Ext.alloc ?_ _ | refine Ext.gw ?_ _ | refine Ext.drew ?_))⟩
        case measure => simp [intOf]; omega
      · have HS := Lib.hid (show spanL (fun t => inP s p (atN n m (t : Int)) (atD n m (t : Int))) (k + 1) = spanStep (spanL (fun t => inP s p (atN n m (t : Int)) (atD n m (t : Int))) k) k from if_pos hp)
        skip
        go_wp2_with fail
        refine (tideAt_any _ _ _ m k _ HC.out HN.out (HR.out.ext (ext_gw _ _)) HV.out i0 i1).mono ?_
        rintro e w1 ⟨rfl, hx⟩
        replace hown := hown.ext hx
        obtain ⟨x, rfl⟩ := (Ext.flat hx).to_gw
        clear hx
        go_wp2_with fail
        refine (inClo_any s p _ _ b1 b2 _ s0 s1 p0 p1 (by omega) dd1 ((gw_cell _ _ _ hb1).trans hc1) ((gw_cell _ _ _ hb2).trans hc2)).mono ?_
        rintro e w1 ⟨rfl, hw1⟩
        subst hw1
        match N, HNL, hown with
        | 0, HNL, hown =>
          have HE := Lib.hid (show spanL (fun t => inP s p (atN n m (t : Int)) (atD n m (t : Int))) (k + 1) = spanL (fun t => inP s p (atN n m (t : Int)) (atD n m (t : Int))) k ++ [(k : Int), (k : Int)] by
            rw [HS.out]
            exact spanStep_nil HNL.out.symm)
          obtain ⟨A2, cap2, hv2, hcl, hcm, _⟩ := hown.form
          subst hv2
          unfold maxLen at hcm
          go_wp2_with (at_builtin; refine wpList_append_2 w w.heap.size rfl (by repeat (with_reducible first | exact Ext.refl _ | refine Ext.setCell ?_ (by first | (simp; done) | (simp; omega)) _ | refine Ext.alloc ?_ _ | refine Ext.gw ?_ _ | refine Ext.drew ?_)) rfl _ _ elInt rfl HNL.out rfl hown (k : Int) (k : Int) _ rfl (by have := HNL.out; have := HL.out; omega) ?_)
          intro v' z hown3
          clear hown
          go_wp2
          go_roundw
          case rel => exact ⟨k + 1, by go_num, by omega, ⟨0 + 2, Lib.hid (by rw [HE.out, List.length_append]; exact congrArg (· + 2) HNL.out), by rw [HE.out]; exact hown3⟩, z, rfl⟩
          case measure => simp [intOf]; omega
        | l + 1, HNL, hown =>
          obtain ⟨A2, cap2, hv2, hcl, hcm, hform⟩ := hown.form
          subst hv2
          obtain ⟨g2, rfl, _, hgb, hgl, hcell⟩ := hform (by omega)
          obtain ⟨d0, f0⟩ := hcell l 0 (by omega) (by omega)
          rw [Nat.add_zero, Nat.mul_one] at d0 f0
          obtain ⟨z, hz⟩ : ∃ z, (spanL (fun t => inP s p (atN n m (t : Int)) (atD n m (t : Int))) k).getD l 0 = z := ⟨_, rfl⟩
          replace d0 : _ = some (Value.int .i64 z) := d0.trans (by rw [← hz]; rfl)
          have HZ := Lib.hid hz
          clear hz
          clear hform hcell
          unfold maxLen at hcm
          have l0 : (0 : Int) ≤ (l : Int) := by omega
          have l1 : (l : Int) < 100000 := by have := HNL.out; have := HL.out; omega
          by_cases hlast : z = (k : Int) - 1
          · have HE := Lib.hid (show spanL (fun t => inP s p (atN n m (t : Int)) (atD n m (t : Int))) (k + 1) = (spanL (fun t => inP s p (atN n m (t : Int)) (atD n m (t : Int))) k).set l k by
              rw [HS.out]
              exact spanStep_last HNL.out HZ.out hlast)
            have q : (z == (k : Int) - 1) = true := beq_iff_eq.2 hlast
            clear hlast
            go_wp2
            go_roundw
            case rel =>
              have a1 := (hown.stored (i := l) (by omega) (j := 0) (by omega) (.int .i64 (k : Int))).congr (f' := mkL ((spanL (fun t => inP s p (atN n m (t : Int)) (atD n m (t : Int))) k).set l k)) (fun i j _ hj => mkL_set _ l k (by have := HNL.out; omega) i j hj)
              rw [Nat.add_zero, Nat.mul_one] at a1
              exact ⟨k + 1, by go_num, by omega, ⟨l + 1, Lib.hid (by rw [HE.out, List.length_set]; exact HNL.out), by rw [HE.out]; exact a1⟩, Ext.to_gw (by repeat (with_reducible first | exact Ext.refl _ | refine Ext.setCell ?_ (by first | (simp; done) | (simp; omega)) _ | refine Ext.alloc ?_ _ | refine Ext.gw ?_ _ | refine Ext.drew ?_))⟩
            case measure => simp [intOf]; omega
          · have HE := Lib.hid (show spanL (fun t => inP s p (atN n m (t : Int)) (atD n m (t : Int))) (k + 1) = spanL (fun t => inP s p (atN n m (t : Int)) (atD n m (t : Int))) k ++ [(k : Int), (k : Int)] by
              rw [HS.out]
              exact spanStep_new HNL.out HZ.out hlast)
            have q : (z == (k : Int) - 1) = false := beq_eq_false_iff_ne.2 hlast
            clear hlast
            go_wp2_with (at_builtin; refine wpList_append_2 w w.heap.size rfl (by repeat (with_reducible first | exact Ext.refl _ | refine Ext.setCell ?_ (by first | (simp; done) | (simp; omega)) _ | refine Ext.alloc ?_ _ | refine Ext.gw ?_ _ | refine Ext.drew ?_)) rfl _ _ elInt rfl HNL.out rfl hown (k : Int) (k : Int) _ rfl (by have := HNL.out; have := HL.out; omega) ?_)
            intro v' z hown3
            clear hown
            go_wp2
            go_roundw
            case rel => exact ⟨k + 1, by go_num, by omega, ⟨l + 1 + 2, Lib.hid (by rw [HE.out, List.length_append]; exact congrArg (· + 2) HNL.out), by rw [HE.out]; exact hown3⟩, z, rfl⟩
            case measure => simp [intOf]; omega
    · obtain rfl : k = 1441 := by omega
      go_wp2
      go_ret
      rw [HNL.out] at hown
      exact ⟨_, rfl, hown, ext_gw _ _⟩
set_option maxRecDepth 20000 in
set_option maxHeartbeats 4000000 in
theorem specSpansOut_any (A : Option Addr) (n c : Nat) (m : Nat → Mk) (s p : Int) (w : World) (hc : c ≤ maxLen) (hnc : n ≤ c) (hr : Rd w A n 2 (mkF m)) (hv : tideP n m) (s0 : -500 ≤ s) (s1 : s ≤ 500) (p0 : -500 ≤ p) (p1 : p ≤ 500) :
    Calls Try.prog 66 #[.slice A n c, .int .i64 s, .int .i64 p, .int .i64 (-1)] w (RetO 3 1 (spanL (fun t => outP s p (atN n m (t : Int)) (atD n m (t : Int))) 1441).length (mkL (spanL (fun t => outP s p (atN n m (t : Int)) (atD n m (t : Int))) 1441)) w) := by
  have HR := Lib.hid hr
  have HC := Lib.hid hc
  have HN := Lib.hid hnc
  have HV := Lib.hid hv
  clear hr hc hnc hv
  go_enter Try.func66, Try.ntmps66
  go_wp2
  go_loopw [9, 10, 11] (fun v i _ wr => ∃ k : Nat, i = .int .i64 k ∧ k ≤ 1441 ∧ (∃ N, Hid (N = (spanL (fun t => outP s p (atN n m (t : Int)) (atD n m (t : Int))) k).length) ∧ OwnS wr w.heap.size 3 1 v N (mkL (spanL (fun t => outP s p (atN n m (t : Int)) (atD n m (t : Int))) k))) ∧ ∃ y, wr = gw w y) (fun _ i _ _ => 1441 - (intOf i).toNat)
  case atStart => exact ⟨0, rfl, by omega, ⟨0, Lib.hid rfl, own_empty _ _ rfl (Nat.le_refl _)⟩, (Ext.alloc (Ext.refl _) _).to_gw⟩
  case round =>
    obtain ⟨k, rfl, hk, ⟨N, HNL, hown⟩, y, rfl⟩ := hrel
    have HL := Lib.hid (span_len (fun t => outP s p (atN n m (t : Int)) (atD n m (t : Int))) k)
    by_cases hlt : k < 1441
    · have i0 : (0 : Int) ≤ (k : Int) := by omega
      have i1 : (k : Int) ≤ 1440 := by omega
      obtain ⟨⟨nn0, nn1⟩, dd0, dd1⟩ := at_bd HV.out i0 i1
      cases hp : outP s p (atN n m (k : Int)) (atD n m (k : Int))
      · have HE := Lib.hid (show spanL (fun t => outP s p (atN n m (t : Int)) (atD n m (t : Int))) (k + 1) = spanL (fun t => outP s p (atN n m (t : Int)) (atD n m (t : Int))) k from if_neg (by show ¬ outP s p (atN n m (k : Int)) (atD n m (k : Int)) = true; rw [hp]; simp))
        have qf : (flowV s p (atN n m k) (atD n m k) != -1) = true := by rw [flow_out s p (atN n m k) (atD n m k), hp]; rfl
        go_wp2_with fail
        refine (l4Flow_any _ _ _ m s p k _ HC.out HN.out (HR.out.ext (ext_gw _ _)) HV.out s0 s1 p0 p1 i0 i1).mono ?_
        rintro e w1 ⟨rfl, hx⟩
        replace hown := hown.ext hx
        obtain ⟨x, rfl⟩ := (Ext.flat hx).to_gw
        clear hx
        go_wp2
        go_roundw
        case rel => exact ⟨k + 1, by go_num, by omega, ⟨N, by rw [HE.out]; exact HNL, by rw [HE.out]; exact hown⟩, Ext.to_gw (by repeat (with_reducible first | exact Ext.refl _ | refine Ext.setCell ?_ (by first | (simp; done) | (simp; omega)) _ | refine Ext.alloc ?_ _ | refine Ext.gw ?_ _ | refine Ext.drew ?_))⟩
        case measure => simp [intOf]; omega
      · have HS := Lib.hid (show spanL (fun t => outP s p (atN n m (t : Int)) (atD n m (t : Int))) (k + 1) = spanStep (spanL (fun t => outP s p (atN n m (t : Int)) (atD n m (t : Int))) k) k from if_pos hp)
        have qf : (flowV s p (atN n m k) (atD n m k) != -1) = false := by rw [flow_out s p (atN n m k) (atD n m k), hp]; rfl
        go_wp2_with fail
        refine (l4Flow_any _ _ _ m s p k _ HC.out HN.out (HR.out.ext (ext_gw _ _)) HV.out s0 s1 p0 p1 i0 i1).mono ?_
        rintro e w1 ⟨rfl, hx⟩
        replace hown := hown.ext hx
        obtain ⟨x, rfl⟩ := (Ext.flat hx).to_gw
        clear hx
        match N, HNL, hown with
        | 0, HNL, hown =>
          have HE := Lib.hid (show spanL (fun t => outP s p (atN n m (t : Int)) (atD n m (t : Int))) (k + 1) = spanL (fun t => outP s p (atN n m (t : Int)) (atD n m (t : Int))) k ++ [(k : Int), (k : Int)] by
            rw [HS.out]
            exact spanStep_nil HNL.out.symm)
          obtain ⟨A2, cap2, hv2, hcl, hcm, _⟩ := hown.form
          subst hv2
          unfold maxLen at hcm
          go_wp2_with (at_builtin; refine wpList_append_2 w w.heap.size rfl (by repeat (with_reducible first | exact Ext.refl _ | refine Ext.setCell ?_ (by first | (simp; done) | (simp; omega)) _ | refine Ext.alloc ?_ _ | refine Ext.gw ?_ _ | refine Ext.drew ?_)) rfl _ _ elInt rfl HNL.out rfl hown (k : Int) (k : Int) _ rfl (by have := HNL.out; have := HL.out; omega) ?_)
          intro v' z hown3
          clear hown
          go_wp2
          go_roundw
          case rel => exact ⟨k + 1, by go_num, by omega, ⟨0 + 2, Lib.hid (by rw [HE.out, List.length_append]; exact congrArg (· + 2) HNL.out), by rw [HE.out]; exact hown3⟩, z, rfl⟩
          case measure => simp [intOf]; omega
        | l + 1, HNL, hown =>
          obtain ⟨A2, cap2, hv2, hcl, hcm, hform⟩ := hown.form
          subst hv2
          obtain ⟨g2, rfl, _, hgb, hgl, hcell⟩ := hform (by omega)
          obtain ⟨d0, f0⟩ := hcell l 0 (by omega) (by omega)
          rw [Nat.add_zero, Nat.mul_one] at d0 f0
          obtain ⟨z, hz⟩ : ∃ z, (spanL (fun t => outP s p (atN n m (t : Int)) (atD n m (t : Int))) k).getD l 0 = z := ⟨_, rfl⟩
          replace d0 : _ = some (Value.int .i64 z) := d0.trans (by rw [← hz]; rfl)
          have HZ := Lib.hid hz
          clear hz
          clear hform hcell
          unfold maxLen at hcm
          have l0 : (0 : Int) ≤ (l : Int) := by omega
          have l1 : (l : Int) < 100000 := by have := HNL.out; have := HL.out; omega
          by_cases hlast : z = (k : Int) - 1
          · have HE := Lib.hid (show spanL (fun t => outP s p (atN n m (t : Int)) (atD n m (t : Int))) (k + 1) = (spanL (fun t => outP s p (atN n m (t : Int)) (atD n m (t : Int))) k).set l k by
              rw [HS.out]
              exact spanStep_last HNL.out HZ.out hlast)
            have q : (z == (k : Int) - 1) = true := beq_iff_eq.2 hlast
            clear hlast
            go_wp2
            go_roundw
            case rel =>
              have a1 := (hown.stored (i := l) (by omega) (j := 0) (by omega) (.int .i64 (k : Int))).congr (f' := mkL ((spanL (fun t => outP s p (atN n m (t : Int)) (atD n m (t : Int))) k).set l k)) (fun i j _ hj => mkL_set _ l k (by have := HNL.out; omega) i j hj)
              rw [Nat.add_zero, Nat.mul_one] at a1
              exact ⟨k + 1, by go_num, by omega, ⟨l + 1, Lib.hid (by rw [HE.out, List.length_set]; exact HNL.out), by rw [HE.out]; exact a1⟩, Ext.to_gw (by repeat (with_reducible first | exact Ext.refl _ | refine Ext.setCell ?_ (by first | (simp; done) | (simp; omega)) _ | refine Ext.alloc ?_ _ | refine Ext.gw ?_ _ | refine Ext.drew ?_))⟩
            case measure => simp [intOf]; omega
          · have HE := Lib.hid (show spanL (fun t => outP s p (atN n m (t : Int)) (atD n m (t : Int))) (k + 1) = spanL (fun t => outP s p (atN n m (t : Int)) (atD n m (t : Int))) k ++ [(k : Int), (k : Int)] by
              rw [HS.out]
              exact spanStep_new HNL.out HZ.out hlast)
            have q : (z == (k : Int) - 1) = false := beq_eq_false_iff_ne.2 hlast
            clear hlast
            go_wp2_with (at_builtin; refine wpList_append_2 w w.heap.size rfl (by repeat (with_reducible first | exact Ext.refl _ | refine Ext.setCell ?_ (by first | (simp; done) | (simp; omega)) _ | refine Ext.alloc ?_ _ | refine Ext.gw ?_ _ | refine Ext.drew ?_)) rfl _ _ elInt rfl HNL.out rfl hown (k : Int) (k : Int) _ rfl (by have := HNL.out; have := HL.out; omega) ?_)
            intro v' z hown3
            clear hown
            go_wp2
            go_roundw
            case rel => exact ⟨k + 1, by go_num, by omega, ⟨l + 1 + 2, Lib.hid (by rw [HE.out, List.length_append]; exact congrArg (· + 2) HNL.out), by rw [HE.out]; exact hown3⟩, z, rfl⟩
            case measure => simp [intOf]; omega
    · obtain rfl : k = 1441 := by omega
      go_wp2
      go_ret
      rw [HNL.out] at hown
      exact ⟨_, rfl, hown, ext_gw _ _⟩
set_option maxRecDepth 20000 in
set_option maxHeartbeats 4000000 in
theorem implSpansOut_any (A : Option Addr) (n c : Nat) (m : Nat → Mk) (s p : Int) (b1 b2 : Nat) (w : World) (hc : c ≤ maxLen) (hnc : n ≤ c) (hr : Rd w A n 2 (mkF m)) (hv : tideP n m) (s0 : -500 ≤ s) (s1 : s ≤ 500) (p0 : -500 ≤ p) (p1 : p ≤ 500) (hb1 : b1 < w.heap.size) (hb2 : b2 < w.heap.size) (hc1 : w.cell? ⟨b1, 0, none⟩ = some (.int .i64 p)) (hc2 : w.cell? ⟨b2, 0, none⟩ = some (.int .i64 s)) :
    Calls Try.prog 63 #[.slice A n c, .func (.func 70) #[] #[.pointer (some ⟨b1, 0, none⟩), .pointer (some ⟨b2, 0, none⟩)]] w (RetO 3 1 (spanL (fun t => outP s p (atN n m (t : Int)) (atD n m (t : Int))) 1441).length (mkL (spanL (fun t => outP s p (atN n m (t : Int)) (atD n m (t : Int))) 1441)) w) := by
  have HR := Lib.hid hr
  have HC := Lib.hid hc
  have HN := Lib.hid hnc
  have HV := Lib.hid hv
  clear hr hc hnc hv
  go_enter Try.func63, Try.ntmps63
  go_wp2
  go_loopw [5, 6, 7, 8] (fun v _ _ i wr => ∃ k : Nat, i = .int .i64 k ∧ k ≤ 1441 ∧ (∃ N, Hid (N = (spanL (fun t => outP s p (atN n m (t : Int)) (atD n m (t : Int))) k).length) ∧ OwnS wr w.heap.size 3 1 v N (mkL (spanL (fun t => outP s p (atN n m (t : Int)) (atD n m (t : Int))) k))) ∧ ∃ y, wr = gw w y) (fun _ _ _ i _ => 1441 - (intOf i).toNat)
  case atStart => exact ⟨0, rfl, by omega, ⟨0, Lib.hid rfl, OwnS.nil⟩, (Ext.refl _).to_gw⟩
  case round =>
    obtain ⟨k, rfl, hk, ⟨N, HNL, hown⟩, y, rfl⟩ := hrel
    have HL := Lib.hid (span_len (fun t => outP s p (atN n m (t : Int)) (atD n m (t : Int))) k)
    by_cases hlt : k < 1441
    · have i0 : (0 : Int) ≤ (k : Int) := by omega
      have i1 : (k : Int) ≤ 1440 := by omega
      obtain ⟨⟨nn0, nn1⟩, dd0, dd1⟩ := at_bd HV.out i0 i1
      cases hp : outP s p (atN n m (k : Int)) (atD n m (k : Int))
      · have HE := Lib.hid (show spanL (fun t => outP s p (atN n m (t : Int)) (atD n m (t : Int))) (k + 1) = spanL (fun t => outP s p (atN n m (t : Int)) (atD n m (t : Int))) k from if_neg (by show ¬ outP s p (atN n m (k : Int)) (atD n m (k : Int)) = true; rw [hp]; simp))
        skip
        go_wp2_with fail
        refine (tideAt_any _ _ _ m k _ HC.out HN.out (HR.out.ext (ext_gw _ _)) HV.out i0 i1).mono ?_
        rintro e w1 ⟨rfl, hx⟩
        replace hown := hown.ext hx
        obtain ⟨x, rfl⟩ := (Ext.flat hx).to_gw
        clear hx
        go_wp2_with fail
        refine (outClo_any s p _ _ b1 b2 _ s0 s1 p0 p1 (by omega) dd1 ((gw_cell _ _ _ hb1).trans hc1) ((gw_cell _ _ _ hb2).trans hc2)).mono ?_
        rintro e w1 ⟨rfl, hw1⟩
        subst hw1
        go_wp2
        go_roundw
        case rel => exact ⟨k + 1, by go_num, by omega, ⟨N, by rw [HE.out]; exact HNL, by rw [HE.out]; exact hown⟩, Ext.to_gw (by repeat (with_reducible first | exact Ext.refl _ | refine Ext.setCell ?_ (by first | (simp; done) | (simp; omega)) _ | refine Ext.alloc ?_ _ | refine Ext.gw ?_ _ | refine Ext.drew ?_))⟩
        case measure => simp [intOf]; omega
      · have HS := Lib.hid (show spanL (fun t => outP s p (atN n m (t : Int)) (atD n m (t : Int))) (k + 1) = spanStep (spanL (fun t => outP s p (atN n m (t : Int)) (atD n m (t : Int))) k) k from if_pos hp)
        skip
        go_wp2_with fail
        refine (tideAt_any _ _ _ m k _ HC.out HN.out (HR.out.ext (ext_gw _ _)) HV.out i0 i1).mono ?_
        rintro e w1 ⟨rfl, hx⟩
        replace hown := hown.ext hx
        obtain ⟨x, rfl⟩ := (Ext.flat hx).to_gw
        clear hx
        go_wp2_with fail
        refine (outClo_any s p _ _ b1 b2 _ s0 s1 p0 p1 (by omega) dd1 ((gw_cell _ _ _ hb1).trans hc1) ((gw_cell _ _ _ hb2).trans hc2)).mono ?_
        rintro e w1 ⟨rfl, hw1⟩
        subst hw1
        match N, HNL, hown with
        | 0, HNL, hown =>
          have HE := Lib.hid (show spanL (fun t => outP s p (atN n m (t : Int)) (atD n m (t : Int))) (k + 1) = spanL (fun t => outP s p (atN n m (t : Int)) (atD n m (t : Int))) k ++ [(k : Int), (k : Int)] by
            rw [HS.out]
            exact spanStep_nil HNL.out.symm)
          obtain ⟨A2, cap2, hv2, hcl, hcm, _⟩ := hown.form
          subst hv2
          unfold maxLen at hcm
          go_wp2_with (at_builtin; refine wpList_append_2 w w.heap.size rfl (by repeat (with_reducible first | exact Ext.refl _ | refine Ext.setCell ?_ (by first | (simp; done) | (simp; omega)) _ | refine Ext.alloc ?_ _ | refine Ext.gw ?_ _ | refine Ext.drew ?_)) rfl _ _ elInt rfl HNL.out rfl hown (k : Int) (k : Int) _ rfl (by have := HNL.out; have := HL.out; omega) ?_)
          intro v' z hown3
          clear hown
          go_wp2
          go_roundw
          case rel => exact ⟨k + 1, by go_num, by omega, ⟨0 + 2, Lib.hid (by rw [HE.out, List.length_append]; exact congrArg (· + 2) HNL.out), by rw [HE.out]; exact hown3⟩, z, rfl⟩
          case measure => simp [intOf]; omega
        | l + 1, HNL, hown =>
          obtain ⟨A2, cap2, hv2, hcl, hcm, hform⟩ := hown.form
          subst hv2
          obtain ⟨g2, rfl, _, hgb, hgl, hcell⟩ := hform (by omega)
          obtain ⟨d0, f0⟩ := hcell l 0 (by omega) (by omega)
          rw [Nat.add_zero, Nat.mul_one] at d0 f0
          obtain ⟨z, hz⟩ : ∃ z, (spanL (fun t => outP s p (atN n m (t : Int)) (atD n m (t : Int))) k).getD l 0 = z := ⟨_, rfl⟩
          replace d0 : _ = some (Value.int .i64 z) := d0.trans (by rw [← hz]; rfl)
          have HZ := Lib.hid hz
          clear hz
          clear hform hcell
          unfold maxLen at hcm
          have l0 : (0 : Int) ≤ (l : Int) := by omega
          have l1 : (l : Int) < 100000 := by have := HNL.out; have := HL.out; omega
          by_cases hlast : z = (k : Int) - 1
          · have HE := Lib.hid (show spanL (fun t => outP s p (atN n m (t : Int)) (atD n m (t : Int))) (k + 1) = (spanL (fun t => outP s p (atN n m (t : Int)) (atD n m (t : Int))) k).set l k by
              rw [HS.out]
              exact spanStep_last HNL.out HZ.out hlast)
            have q : (z == (k : Int) - 1) = true := beq_iff_eq.2 hlast
            clear hlast
            go_wp2
            go_roundw
            case rel =>
              have a1 := (hown.stored (i := l) (by omega) (j := 0) (by omega) (.int .i64 (k : Int))).congr (f' := mkL ((spanL (fun t => outP s p (atN n m (t : Int)) (atD n m (t : Int))) k).set l k)) (fun i j _ hj => mkL_set _ l k (by have := HNL.out; omega) i j hj)
              rw [Nat.add_zero, Nat.mul_one] at a1
              exact ⟨k + 1, by go_num, by omega, ⟨l + 1, Lib.hid (by rw [HE.out, List.length_set]; exact HNL.out), by rw [HE.out]; exact a1⟩, Ext.to_gw (by repeat (with_reducible first | exact Ext.refl _ | refine Ext.setCell ?_ (by first | (simp; done) | (simp; omega)) _ | refine Ext.alloc ?_ _ | refine Ext.gw ?_ _ | refine Ext.drew ?_))⟩
            case measure => simp [intOf]; omega
          · have HE := Lib.hid (show spanL (fun t => outP s p (atN n m (t : Int)) (atD n m (t : Int))) (k + 1) = spanL (fun t => outP s p (atN n m (t : Int)) (atD n m (t : Int))) k ++ [(k : Int), (k : Int)] by
              rw [HS.out]
              exact spanStep_new HNL.out HZ.out hlast)
            have q : (z == (k : Int) - 1) = false := beq_eq_false_iff_ne.2 hlast
            clear hlast
            go_wp2_with (at_builtin; refine wpList_append_2 w w.heap.size rfl (by repeat (with_reducible first | exact Ext.refl _ | refine Ext.setCell ?_ (by first | (simp; done) | (simp; omega)) _ | refine Ext.alloc ?_ _ | refine Ext.gw ?_ _ | refine Ext.drew ?_)) rfl _ _ elInt rfl HNL.out rfl hown (k : Int) (k : Int) _ rfl (by have := HNL.out; have := HL.out; omega) ?_)
            intro v' z hown3
            clear hown
            go_wp2
            go_roundw
            case rel => exact ⟨k + 1, by go_num, by omega, ⟨l + 1 + 2, Lib.hid (by rw [HE.out, List.length_append]; exact congrArg (· + 2) HNL.out), by rw [HE.out]; exact hown3⟩, z, rfl⟩
            case measure => simp [intOf]; omega
    · obtain rfl : k = 1441 := by omega
      go_wp2
      go_ret
      rw [HNL.out] at hown
      exact ⟨_, rfl, hown, ext_gw _ _⟩
end Go.Proofs.Ytgehoihfiboeeaa
