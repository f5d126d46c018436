/- Whether a byte stands in a text: the contracts. -/
import Derived.Test.YtpmbnfoilhfobaaDoorBytes
import Derived.Test.YtpmbnfoilhfobaaDoorRows
import Derived.Test.YtpmbnfoilhfobaaDoorShHas
namespace Go.Proofs.YtpmbnfoilhfobaaDoor
open Go.RowKit
set_option linter.unusedVariables false

def hasB (s : ByteArray) (c : UInt8) : Bool := s.data.toList.contains c
theorem hasB_index (l : List UInt8) (c : UInt8) : decide (0 ≤ Lib.indexByte l c) = l.contains c := by
  induction l with
  | nil => rfl
  | cons b l ih =>
    unfold Lib.indexByte
    rw [List.contains_cons]
    by_cases h : b = c
    · subst h; simp
    · have h2 : (b == c) = false := by simp [h]
      have h3 : (c == b) = false := by simp [Ne.symm h]
      rw [h2, h3, Bool.false_or, ← ih, if_neg (by simp)]
      by_cases h4 : Lib.indexByte l c = -1
      · rw [h4]; rfl
      · have h5 := Lib.indexByte_ge l c
        rw [if_neg (by simpa using h4)]
        have : (0 ≤ Lib.indexByte l c + 1) = True := eq_true (by omega)
        have h6 : (0 ≤ Lib.indexByte l c) = True := eq_true (by omega)
        simp [this, h6]
theorem contains_any (s : ByteArray) (c : UInt8) (w : World) : Calls Tryd.prog 61 #[.string s, .string ⟨#[c]⟩] w fun e w' => e = .returned (.bool (hasB s c)) ∧ w = w' :=
  (Tryd.strings_Contains_one s c w).mono fun e w' ⟨he, hw⟩ => ⟨by rw [he, hasB_index]; rfl, hw.symm⟩
theorem l1Stands_any (s : ByteArray) (c : UInt8) (w : World) (hs : s.size ≤ maxLen) : Calls Tryd.prog 63 #[.string s, .int .u8 (c.toNat : Int)] w fun e w' => e = .returned (.bool (hasB s c)) ∧ w = w' := by
  unfold maxLen at hs
  go_enter Tryd.func63, Tryd.ntmps63
  go_wp2
  go_loop [5] (fun i => ∃ k : Nat, k ≤ s.size ∧ i = .int .i64 k ∧ Hid (c ∉ s.data.toList.take k)) (fun i => s.size - (intOf i).toNat)
  case atStart => exact ⟨0, Nat.zero_le _, rfl, Lib.hid (by simp)⟩
  case round =>
    obtain ⟨k, hk, rfl, HD⟩ := hrel
    by_cases hlt : k < s.size
    · by_cases he : s[k] = c
      · have HX := Lib.hid (show hasB s c = true from by
          unfold hasB
          rw [List.contains_iff_mem, ← he]
          exact List.getElem_mem (by simpa using hlt))
        have q : ((s[k].toNat : Int) == (c.toNat : Int)) = true := by rw [he]; simp
        have q2 : (s[k].toNat == c.toNat) = true := by rw [he]; simp
        clear he
        go_wp2
        go_ret
        exact ⟨ret_bool (by rw [HX.out]), rfl⟩
      · have HD2 := Lib.hid (show c ∉ s.data.toList.take (k + 1) from by
          rw [take_snoc s k hlt, List.mem_append, List.mem_singleton]
          rintro (h | h)
          · exact HD.out h
          · exact he h.symm)
        have q2 : (s[k].toNat == c.toNat) = false := by simpa using fun h => he (UInt8.toNat_inj.1 h)
        have q : ((s[k].toNat : Int) == (c.toNat : Int)) = false := by rw [← q2]; rw [Bool.eq_iff_iff]; simp; omega
        clear he
        go_wp2
        go_round
        case rel => exact ⟨k + 1, by omega, by go_num, HD2⟩
        case measure => simp [intOf]; omega
    · have HX := Lib.hid (show hasB s c = false from by
        have h := HD.out
        rw [List.take_of_length_le (by simp; omega)] at h
        unfold hasB
        rw [Bool.eq_false_iff]
        intro h2
        exact h (List.contains_iff_mem.1 h2))
      go_wp2
      go_ret
      exact ⟨ret_bool (by rw [HX.out]), rfl⟩
end Go.Proofs.YtpmbnfoilhfobaaDoor
