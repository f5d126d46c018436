/- Strings: less than, and the checksum; the walks of the laws FnExactLessString and FnExactChecksum. -/
import Derived.Test.YtpmbnfoilhfobaaDoorBytes
import Derived.Test.YtpmbnfoilhfobaaDoorRows
namespace Go.Proofs.YtpmbnfoilhfobaaDoor
open Go.RowKit
set_option linter.unusedVariables false


def ckStep (h : Int) (c : UInt8) : Int := (41 * h + (c.toNat : Int) + 1) % 999979
def ck (l : List UInt8) : Int := l.foldl ckStep 7
theorem ckStep_bd (h : Int) (c : UInt8) : 0 ≤ ckStep h c ∧ ckStep h c < 999979 := by unfold ckStep; omega
theorem ck_bd (l : List UInt8) : 0 ≤ ck l ∧ ck l < 999979 := by
  have h : ∀ (l : List UInt8) (a : Int), 0 ≤ a ∧ a < 999979 → 0 ≤ l.foldl ckStep a ∧ l.foldl ckStep a < 999979 := by
    intro l
    induction l with
    | nil => intro a ha; exact ha
    | cons c l ih => intro a _; exact ih _ (ckStep_bd a c)
  exact h l 7 (by omega)
theorem ck_snoc (l : List UInt8) (c : UInt8) : ck (l ++ [c]) = (41 * ck l + (c.toNat : Int) + 1) % 999979 := by
  unfold ck; rw [List.foldl_append]; rfl

set_option maxHeartbeats 400000 in
theorem l1Sum_any (s : ByteArray) (w : World) (hs : s.size ≤ maxLen) : Calls Tryd.prog 77 #[.string s] w fun e w' => e = .returned (.int .i64 (ck s.data.toList)) ∧ w = w' := by
  unfold maxLen at hs
  go_enter Tryd.func77, Tryd.ntmps77
  go_wp2
  go_loop [3, 4] (fun n i => ∃ k : Nat, k ≤ s.size ∧ i = .int .i64 k ∧ n = .int .i64 (ck (s.data.toList.take k))) (fun _ i => s.size - (intOf i).toNat)
  case atStart => exact ⟨0, Nat.zero_le _, rfl, rfl⟩
  case round =>
    obtain ⟨k, hk, rfl, rfl⟩ := hrel
    obtain ⟨d0, d1⟩ := ck_bd (s.data.toList.take k)
    by_cases hlt : k < s.size
    · have hb : (s[k].toNat : Int) < 256 := by have := s[k].toNat_lt; omega
      have HS := Lib.hid (show ck (s.data.toList.take (k + 1)) = (41 * ck (s.data.toList.take k) + (s[k].toNat : Int) + 1) % 999979 by rw [take_snoc s k hlt, ck_snoc])
      go_wp2
      go_round
      case rel => exact ⟨k + 1, by omega, by go_num, by rw [HS.out]⟩
      case measure => simp [intOf]; omega
    · go_wp2
      go_ret
      exact ⟨ret_int (by rw [List.take_of_length_le (by simp; omega)]), rfl⟩
set_option maxHeartbeats 400000 in
theorem checksum_any (s : ByteArray) (w : World) (hs : s.size ≤ maxLen) : Calls Tryd.prog 62 #[.string s] w fun e w' => e = .returned (.int .i64 (ck s.data.toList)) ∧ w = w' := by
  unfold maxLen at hs
  go_enter Tryd.func62, Tryd.ntmps62
  go_wp2
  go_loop [3, 4, 7] (fun n _ i => ∃ k : Nat, k ≤ s.size ∧ i = .int .i64 k ∧ n = .int .i64 (ck (s.data.toList.take k))) (fun _ _ i => s.size - (intOf i).toNat)
  case atStart => exact ⟨0, Nat.zero_le _, rfl, rfl⟩
  case round =>
    obtain ⟨k, hk, rfl, rfl⟩ := hrel
    obtain ⟨d0, d1⟩ := ck_bd (s.data.toList.take k)
    by_cases hlt : k < s.size
    · have hb : (s[k].toNat : Int) < 256 := by have := s[k].toNat_lt; omega
      have HS := Lib.hid (show ck (s.data.toList.take (k + 1)) = (41 * ck (s.data.toList.take k) + (s[k].toNat : Int) + 1) % 999979 by rw [take_snoc s k hlt, ck_snoc])
      go_wp2
      go_round
      case rel => exact ⟨k + 1, by omega, by go_num, by rw [HS.out]⟩
      case measure => simp [intOf]; omega
    · go_wp2
      go_ret
      exact ⟨ret_int (by rw [List.take_of_length_le (by simp; omega)]), rfl⟩
end Go.Proofs.YtpmbnfoilhfobaaDoor
