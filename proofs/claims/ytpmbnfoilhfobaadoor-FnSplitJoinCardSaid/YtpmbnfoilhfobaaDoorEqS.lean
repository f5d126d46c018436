/- Slices of texts: the laws' comparing. -/
import Derived.Test.YtpmbnfoilhfobaaDoorPieces
namespace Go.Proofs.YtpmbnfoilhfobaaDoor
open Go.RowKit
set_option linter.unusedVariables false

theorem eqStringS_any (v1 v2 : Value) (n : Nat) (p : List ByteArray) (w : World) {b1 b2 e1 e2 : Nat} (h1 : OwnS w b1 e1 1 v1 n (mkS p)) (h2 : OwnS w b2 e2 1 v2 n (mkS p)) :
    Calls Tryd.prog 32 #[v1, v2] w fun e w' => e = .returned (.bool true) ∧ Ext w w' := by
  obtain ⟨A, c, rfl, hc, hnc, hr⟩ := h1.rd
  obtain ⟨A', c', rfl, hc', hnc', hr'⟩ := h2.rd
  clear h1 h2
  unfold maxLen at *
  go_enter Tryd.func32, Tryd.ntmps32
  go_wp2
  go_loopw [5] (fun i wr => ∃ k : Nat, i = .int .i64 k ∧ k ≤ n ∧ ∃ y, wr = gw w y) (fun i _ => n - (intOf i).toNat)
  case atStart => exact ⟨0, rfl, Nat.zero_le _, (Ext.refl w).to_gw⟩
  case round =>
    obtain ⟨k, rfl, hk, y, rfl⟩ := hrel
    by_cases hlt : k < n
    · obtain ⟨g, off, rfl, hg, c0⟩ := hr.atS hlt
      obtain ⟨g', off', rfl, hg', c0'⟩ := hr'.atS hlt
      have i0 : (0 : Int) ≤ (k : Int) := by omega
      have i1 : (k : Int) < (n : Int) := by omega
      go_wp2_with fail
      first | refine wp_region_grow2 (by kernel_rfl) (by kernel_rfl) ?_ | refine wp_region_grow (by kernel_rfl) (by kernel_rfl) ?_
      repeat (go_big_quiet_step (fail))
      refine wpQuiet_nil ?_
      rintro _ ⟨xq, rfl⟩
      go_wp2
      go_roundw
      case rel => exact ⟨k + 1, by go_num, by omega, _, rfl⟩
      case measure => simp [intOf]; omega
    · go_wp2
      go_ret
      exact ⟨rfl, ext_gw _ _⟩
end Go.Proofs.YtpmbnfoilhfobaaDoor
