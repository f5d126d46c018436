/- The drawn laws' comparing of lists. -/
import Derived.Test.YtgehoihfiboeeaaIntL
import Derived.Test.YtgehoihfiboeeaaMarkS
namespace Go.Proofs.Ytgehoihfiboeeaa
open Go.RowKit
set_option linter.unusedVariables false

theorem vInts_any (v1 v2 : Value) (n : Nat) (p : Nat → Int) (w : World) {b1 b2 e1 e2 : Nat} (h1 : OwnS w b1 e1 1 v1 n (mk1 p)) (h2 : OwnS w b2 e2 1 v2 n (mk1 p)) :
    Calls Try.prog 22 #[v1, v2] w fun e w' => e = .returned (.bool true) ∧ Ext w w' := by
  obtain ⟨A, c, rfl, hc, hnc, hr⟩ := h1.rd
  obtain ⟨A', c', rfl, hc', hnc', hr'⟩ := h2.rd
  clear h1 h2
  unfold maxLen at *
  go_enter Try.func22, Try.ntmps22
  go_wp2
  go_loopw [5] (fun i wr => ∃ k : Nat, i = .int .i64 k ∧ k ≤ n ∧ ∃ y, wr = gw w y) (fun i _ => n - (intOf i).toNat)
  case atStart => exact ⟨0, rfl, Nat.zero_le _, (Ext.refl w).to_gw⟩
  case round =>
    obtain ⟨k, rfl, hk, y, rfl⟩ := hrel
    by_cases hlt : k < n
    · obtain ⟨g, off, rfl, hg, c0⟩ := hr.at1 hlt
      obtain ⟨g', off', rfl, hg', c0'⟩ := hr'.at1 hlt
      have i0 : (0 : Int) ≤ (k : Int) := by omega
      have i1 : (k : Int) < (n : Int) := by omega
      go_wp2_with fail
      first | refine wp_region_grow2 (by kernel_rfl) (by kernel_rfl) ?_ | refine wp_region_grow (by kernel_rfl) (by kernel_rfl) ?_
      repeat (go_big_quiet_step (fail))
      refine wpQuiet_nil ?_
      rintro _ ⟨xq, rfl⟩
      go_wp2
      go_roundw
      case rel => exact ⟨k + 1, by go_num, by omega, _, rfl⟩
      case measure => simp [intOf]; omega
    · go_wp2
      go_ret
      exact ⟨rfl, ext_gw _ _⟩
theorem vMarks_any (v1 v2 : Value) (n : Nat) (p : Nat → Mk) (w : World) {b1 b2 e1 e2 : Nat} (h1 : OwnS w b1 e1 2 v1 n (mkF p)) (h2 : OwnS w b2 e2 2 v2 n (mkF p)) :
    Calls Try.prog 36 #[v1, v2] w fun e w' => e = .returned (.bool true) ∧ Ext w w' := by
  obtain ⟨A, c, rfl, hc, hnc, hr⟩ := h1.rd
  obtain ⟨A', c', rfl, hc', hnc', hr'⟩ := h2.rd
  clear h1 h2
  unfold maxLen at *
  go_enter Try.func36, Try.ntmps36
  go_wp2
  go_loopw [5] (fun i wr => ∃ k : Nat, i = .int .i64 k ∧ k ≤ n ∧ ∃ y, wr = gw w y) (fun i _ => n - (intOf i).toNat)
  case atStart => exact ⟨0, rfl, Nat.zero_le _, (Ext.refl w).to_gw⟩
  case round =>
    obtain ⟨k, rfl, hk, y, rfl⟩ := hrel
    by_cases hlt : k < n
    · obtain ⟨g, off, rfl, hg, c0, c1⟩ := hr.atMark hlt
      obtain ⟨g', off', rfl, hg', c0', c1'⟩ := hr'.atMark hlt
      have i0 : (0 : Int) ≤ (k : Int) := by omega
      have i1 : (k : Int) < (n : Int) := by omega
      go_wp2_with fail
      first | refine wp_region_grow2 (by kernel_rfl) (by kernel_rfl) ?_ | refine wp_region_grow (by kernel_rfl) (by kernel_rfl) ?_
      repeat (go_big_quiet_step (fail))
      refine wpQuiet_nil ?_
      rintro _ ⟨xq, rfl⟩
      go_wp2
      go_roundw
      case rel => exact ⟨k + 1, by go_num, by omega, _, rfl⟩
      case measure => simp [intOf]; omega
    · go_wp2
      go_ret
      exact ⟨rfl, ext_gw _ _⟩
theorem vbig_no (A : Option Addr) (n c : Nat) (w : World) (h : n ≤ 65536) : Calls Try.prog 6 #[.slice A n c] w fun e w' => e = .returned (.bool false) ∧ Ext w w' := by
  go_enter Try.func6, Try.ntmps6
  go_wp2
  go_ret
  exact ⟨by first | rfl | (congr 2; simp; omega), by repeat (with_reducible first | exact Ext.refl _ | refine Ext.setCell ?_ (by first | (simp; done) | (simp; omega)) _ | refine Ext.alloc ?_ _ | refine Ext.gw ?_ _ | refine Ext.drew ?_)⟩
theorem vbig_yes (A : Option Addr) (n c : Nat) (w : World) (h : 65536 < n) : Calls Try.prog 6 #[.slice A n c] w fun e w' => e = .returned (.bool true) ∧ Ext w w' := by
  go_enter Try.func6, Try.ntmps6
  go_wp2
  go_ret
  exact ⟨by first | rfl | (congr 2; simp; omega), by repeat (with_reducible first | exact Ext.refl _ | refine Ext.setCell ?_ (by first | (simp; done) | (simp; omega)) _ | refine Ext.alloc ?_ _ | refine Ext.gw ?_ _ | refine Ext.drew ?_)⟩
end Go.Proofs.Ytgehoihfiboeeaa
