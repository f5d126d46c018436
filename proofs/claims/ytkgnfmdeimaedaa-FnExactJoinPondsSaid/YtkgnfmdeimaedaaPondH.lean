/- Slices: the laws' holding of marks. -/
import Derived.Test.YtkgnfmdeimaedaaPondM
namespace Go.Proofs.Ytkgnfmdeimaedaa
open Go.RowKit
set_option linter.unusedVariables false

set_option maxHeartbeats 2000000 in
theorem heldPondS_any (v : Value) (n : Nat) (w : World) {b e : Nat} (h : OwnS w b e 6 v n (pdF marksPond)) (hn : n ≤ 1000000000) :
    Calls Try.prog 38 #[v, .int .i64 1] w fun en w' => en = .returned (.int .i64 (6 * (n : Int) + 1)) ∧ w = w' := by
  obtain ⟨A, c, rfl, hc, hnc, hr⟩ := h.rd
  unfold maxLen at *
  go_enter Try.func38, Try.ntmps38
  go_wp2
  go_loop [1, 5] (fun m i => ∃ k : Nat, i = .int .i64 k ∧ k ≤ n ∧ m = .int .i64 (6 * (k : Int) + 1)) (fun _ i => n - (intOf i).toNat)
  case atStart => exact ⟨0, rfl, Nat.zero_le _, by go_num⟩
  case round =>
    obtain ⟨k, rfl, hk, rfl⟩ := hrel
    by_cases hlt : k < n
    · obtain ⟨g, off, rfl, hg, c0, c1, c2, c3, c4, c5⟩ := hr.atPond hlt
      have i0 : (0 : Int) ≤ (k : Int) := by omega
      have i1 : (k : Int) < (n : Int) := by omega
      replace c0 : _ = some (Value.int .i64 (6 * (k : Int) + 1)) := c0.trans (congrArg (fun x => some (Value.int .i64 x)) (show 6 * (k : Int) + 1 = 6 * (k : Int) + 1 by omega))
      replace c1 : _ = some (Value.int .i64 (6 * (k : Int) + 1 + 1)) := c1.trans (congrArg (fun x => some (Value.int .i64 x)) (show 6 * (k : Int) + 2 = 6 * (k : Int) + 1 + 1 by omega))
      replace c2 : _ = some (Value.int .i64 (6 * (k : Int) + 1 + 1 + 1)) := c2.trans (congrArg (fun x => some (Value.int .i64 x)) (show 6 * (k : Int) + 3 = 6 * (k : Int) + 1 + 1 + 1 by omega))
      replace c3 : _ = some (Value.int .i64 (6 * (k : Int) + 1 + 1 + 1 + 1)) := c3.trans (congrArg (fun x => some (Value.int .i64 x)) (show 6 * (k : Int) + 4 = 6 * (k : Int) + 1 + 1 + 1 + 1 by omega))
      replace c4 : _ = some (Value.int .i64 (6 * (k : Int) + 1 + 1 + 1 + 1 + 1)) := c4.trans (congrArg (fun x => some (Value.int .i64 x)) (show 6 * (k : Int) + 5 = 6 * (k : Int) + 1 + 1 + 1 + 1 + 1 by omega))
      replace c5 : _ = some (Value.int .i64 (6 * (k : Int) + 1 + 1 + 1 + 1 + 1 + 1)) := c5.trans (congrArg (fun x => some (Value.int .i64 x)) (show 6 * (k : Int) + 6 = 6 * (k : Int) + 1 + 1 + 1 + 1 + 1 + 1 by omega))
      go_wp2
      go_round
      case rel => exact ⟨k + 1, by go_num, by omega, by go_num⟩
      case measure => simp [intOf]; omega
    · obtain rfl : k = n := by omega
      go_wp2
      go_ret
      exact ⟨rfl, rfl⟩
end Go.Proofs.Ytkgnfmdeimaedaa
