/- Strings: less than, and the checksum; the walks of the laws FnExactLessString and FnExactChecksum. -/
import Derived.Test.YtkbbbplflfigkaaBase
import Derived.Test.YtkbbbplflfigkaaRows
namespace Go.Proofs.Ytkbbbplflfigkaa
open Go.RowKit

theorem specLess_any (a b : ByteArray) (w : World) : Calls Try.prog 15 #[.string a, .string b] w fun e w' => e = .returned (.bool (Op.bytesLess a.toList b.toList)) ∧ w = w' := by
  go_enter Try.func15, Try.ntmps15
  go_wp2
  go_ret
  exact ⟨rfl, rfl⟩
theorem implLess_any (a b : ByteArray) (w : World) : Calls Try.prog 16 #[.string a, .string b] w fun e w' => e = .returned (.bool (Op.bytesLess a.toList b.toList)) ∧ w = w' := by
  go_enter Try.func16, Try.ntmps16
  go_wp2
  go_ret
  exact ⟨rfl, rfl⟩
theorem FnExactLessString_walk (a b : ByteArray) (_h1 : a.size ≤ maxLen) (_h2 : b.size ≤ maxLen) (w : World) : Calls Try.prog 3 #[.string a, .string b] w fun e w' => e = .returned (.bool true) ∧ Ext w w' := by
  unfold maxLen at *
  go_enter Try.func3, Try.ntmps3
  go_wp2_with (first | (go_at_call 15; refine (specLess_any _ _ _).mono ?_; rintro e w1 ⟨rfl, rfl⟩) | (go_at_call 16; refine (implLess_any _ _ _).mono ?_; rintro e w1 ⟨rfl, rfl⟩))
  all_goals
    go_ret
    exact ⟨rfl, Ext.refl _⟩

def ckStep (h : Int) (c : UInt8) : Int := (41 * h + (c.toNat : Int) + 1) % 999979
def ck (l : List UInt8) : Int := l.foldl ckStep 7
theorem ckStep_bd (h : Int) (c : UInt8) : 0 ≤ ckStep h c ∧ ckStep h c < 999979 := by unfold ckStep; omega
theorem ck_bd (l : List UInt8) : 0 ≤ ck l ∧ ck l < 999979 := by
  have h : ∀ (l : List UInt8) (a : Int), 0 ≤ a ∧ a < 999979 → 0 ≤ l.foldl ckStep a ∧ l.foldl ckStep a < 999979 := by
    intro l
    induction l with
    | nil => intro a ha; exact ha
    | cons c l ih => intro a _; exact ih _ (ckStep_bd a c)
  exact h l 7 (by omega)
theorem take_snoc (s : ByteArray) (k : Nat) (h : k < s.size) : s.data.toList.take (k + 1) = s.data.toList.take k ++ [s[k]] := by
  rw [List.take_succ_eq_append_getElem (by simpa using h)]; rfl
theorem ck_snoc (l : List UInt8) (c : UInt8) : ck (l ++ [c]) = (41 * ck l + (c.toNat : Int) + 1) % 999979 := by
  unfold ck; rw [List.foldl_append]; rfl

set_option maxHeartbeats 400000 in
theorem l1Sum_any (s : ByteArray) (w : World) (hs : s.size ≤ maxLen) : Calls Try.prog 54 #[.string s] w fun e w' => e = .returned (.int .i64 (ck s.data.toList)) ∧ w = w' := by
  unfold maxLen at hs
  go_enter Try.func54, Try.ntmps54
  go_wp2
  go_loop [3, 4] (fun n i => ∃ k : Nat, k ≤ s.size ∧ i = .int .i64 k ∧ n = .int .i64 (ck (s.data.toList.take k))) (fun _ i => s.size - (intOf i).toNat)
  case atStart => exact ⟨0, Nat.zero_le _, rfl, rfl⟩
  case round =>
    obtain ⟨k, hk, rfl, rfl⟩ := hrel
    obtain ⟨d0, d1⟩ := ck_bd (s.data.toList.take k)
    by_cases hlt : k < s.size
    · have hb : (s[k].toNat : Int) < 256 := by have := s[k].toNat_lt; omega
      have HS := Lib.hid (show ck (s.data.toList.take (k + 1)) = (41 * ck (s.data.toList.take k) + (s[k].toNat : Int) + 1) % 999979 by rw [take_snoc s k hlt, ck_snoc])
      go_wp2
      go_round
      case rel => exact ⟨k + 1, by omega, by go_num, by rw [HS.out]⟩
      case measure => simp [intOf]; omega
    · go_wp2
      go_ret
      exact ⟨ret_int (by rw [List.take_of_length_le (by simp; omega)]), rfl⟩
set_option maxHeartbeats 400000 in
theorem checksum_any (s : ByteArray) (w : World) (hs : s.size ≤ maxLen) : Calls Try.prog 55 #[.string s] w fun e w' => e = .returned (.int .i64 (ck s.data.toList)) ∧ w = w' := by
  unfold maxLen at hs
  go_enter Try.func55, Try.ntmps55
  go_wp2
  go_loop [3, 4, 7] (fun n _ i => ∃ k : Nat, k ≤ s.size ∧ i = .int .i64 k ∧ n = .int .i64 (ck (s.data.toList.take k))) (fun _ _ i => s.size - (intOf i).toNat)
  case atStart => exact ⟨0, Nat.zero_le _, rfl, rfl⟩
  case round =>
    obtain ⟨k, hk, rfl, rfl⟩ := hrel
    obtain ⟨d0, d1⟩ := ck_bd (s.data.toList.take k)
    by_cases hlt : k < s.size
    · have hb : (s[k].toNat : Int) < 256 := by have := s[k].toNat_lt; omega
      have HS := Lib.hid (show ck (s.data.toList.take (k + 1)) = (41 * ck (s.data.toList.take k) + (s[k].toNat : Int) + 1) % 999979 by rw [take_snoc s k hlt, ck_snoc])
      go_wp2
      go_round
      case rel => exact ⟨k + 1, by omega, by go_num, by rw [HS.out]⟩
      case measure => simp [intOf]; omega
    · go_wp2
      go_ret
      exact ⟨ret_int (by rw [List.take_of_length_le (by simp; omega)]), rfl⟩
theorem specChecksum_yes (s : ByteArray) (w : World) (hs : s.size ≤ 4000) : Calls Try.prog 26 #[.string s] w fun e w' => e = .returned (.tuple #[.int .i64 (ck s.data.toList), .bool true]) ∧ w = w' := by
  have hm : s.size ≤ maxLen := by unfold maxLen; omega
  go_enter Try.func26, Try.ntmps26
  go_wp2_with (first | (go_at_call 54; refine (l1Sum_any _ _ hm).mono ?_; rintro e w1 ⟨rfl, rfl⟩))
  go_ret2
  exact ⟨rfl, rfl⟩
theorem specChecksum_no (s : ByteArray) (w : World) (hs : 4000 < s.size) : Calls Try.prog 26 #[.string s] w fun e w' => e = .returned (.tuple #[.int .i64 0, .bool false]) ∧ w = w' := by
  go_enter Try.func26, Try.ntmps26
  go_wp2
  go_ret2
  exact ⟨rfl, rfl⟩
theorem implChecksum_yes (s : ByteArray) (w : World) (hs : s.size ≤ 4000) : Calls Try.prog 27 #[.string s] w fun e w' => e = .returned (.tuple #[.int .i64 (ck s.data.toList), .bool true]) ∧ w = w' := by
  have hm : s.size ≤ maxLen := by unfold maxLen; omega
  go_enter Try.func27, Try.ntmps27
  go_wp2_with (first | (go_at_call 55; refine (checksum_any _ _ hm).mono ?_; rintro e w1 ⟨rfl, rfl⟩))
  go_ret2
  exact ⟨rfl, rfl⟩
theorem implChecksum_no (s : ByteArray) (w : World) (hs : 4000 < s.size) : Calls Try.prog 27 #[.string s] w fun e w' => e = .returned (.tuple #[.int .i64 0, .bool false]) ∧ w = w' := by
  go_enter Try.func27, Try.ntmps27
  go_wp2
  go_ret2
  exact ⟨rfl, rfl⟩
theorem FnExactChecksum_walk (s : ByteArray) (_h1 : s.size ≤ maxLen) (w : World) : Calls Try.prog 7 #[.string s] w fun e w' => e = .returned (.bool true) ∧ Ext w w' := by
  unfold maxLen at *
  by_cases hs : s.size ≤ 4000
  · go_enter Try.func7, Try.ntmps7
    go_wp2_with (first | (go_at_call 26; refine (specChecksum_yes _ _ hs).mono ?_; rintro e w1 ⟨rfl, rfl⟩) | (go_at_call 27; refine (implChecksum_yes _ _ hs).mono ?_; rintro e w1 ⟨rfl, rfl⟩))
    all_goals
      go_ret
      exact ⟨rfl, Ext.refl _⟩
  · have hs' : 4000 < s.size := by omega
    clear hs
    go_enter Try.func7, Try.ntmps7
    go_wp2_with (first | (go_at_call 26; refine (specChecksum_no _ _ hs').mono ?_; rintro e w1 ⟨rfl, rfl⟩) | (go_at_call 27; refine (implChecksum_no _ _ hs').mono ?_; rintro e w1 ⟨rfl, rfl⟩))
    all_goals
      go_ret
      exact ⟨rfl, Ext.refl _⟩
end Go.Proofs.Ytkbbbplflfigkaa
