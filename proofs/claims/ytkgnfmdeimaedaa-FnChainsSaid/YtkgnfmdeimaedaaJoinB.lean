/- JoinPonds: reference and program side by side. -/
import Derived.Test.YtkgnfmdeimaedaaJoinI
namespace Go.Proofs.Ytkgnfmdeimaedaa
open Go.RowKit
set_option linter.unusedVariables false

theorem join_both (n : Nat) (m : Nat → Pd) (a b : Int) : ∃ (N : Nat) (p : Nat → Pd) (ok : Bool), N ≤ 1000 ∧
    (∀ A c w, c ≤ maxLen → n ≤ c → Rd w A n 6 (pdF m) → Calls Try.prog 39 #[.slice A n c, .int .i64 a, .int .i64 b] w (RetS 51 6 N (pdF p) ok w)) ∧
    (∀ A c w, c ≤ maxLen → n ≤ c → Rd w A n 6 (pdF m) → Calls Try.prog 40 #[.slice A n c, .int .i64 a, .int .i64 b] w (RetS 51 6 N (pdF p) ok w)) ∧
    (ok = true → ∃ i k : Nat, pondsB n m = true ∧ findPond n m a = (i : Int) ∧ findPond n m b = (k : Int) ∧ i < n ∧ k < n ∧ i ≠ k ∧ fitB (m i) (m k) = true ∧ pondsB (n - 1) (joinM m i k a) = true ∧ N = n - 1 ∧ p = joinM m i k a) ∧
    (∀ i k : Nat, pondsB n m = true → findPond n m a = (i : Int) → findPond n m b = (k : Int) → i < n → k < n → i ≠ k → fitB (m i) (m k) = true → pondsB (n - 1) (joinM m i k a) = true → ok = true ∧ N = n - 1 ∧ p = joinM m i k a) := by
  cases h : bkC n m a b
  · refine ⟨0, m, false, by omega, fun A c w h1 h2 h3 => specJoin_no A n c m a b w h1 h2 h3 h, fun A c w h1 h2 h3 => implJoin_no A n c m a b w h1 h2 h3 h, (fun hh => by cases hh), fun i k hv hi hk _ _ hik _ _ => ?_⟩
    rw [bkC_yes hv ⟨by omega, by omega, by omega⟩] at h
    cases h
  · have h2 := h
    unfold bkC at h2
    rw [Bool.and_eq_true] at h2
    obtain ⟨hv, hd⟩ := h2
    obtain ⟨ha, hb, hab⟩ := of_decide_eq_true hd
    rcases findPond_bd n m a with h1 | ⟨i, hi, hin, _⟩
    · omega
    rcases findPond_bd n m b with h1 | ⟨k, hk, hkn, _⟩
    · omega
    have hik : i ≠ k := fun he => hab (by rw [hi, hk, he])
    have hn10 := (pondsB_iff.1 hv).1
    refine ⟨_, joinM m i k a, _, ?_, fun A c w h1 h2 h3 => specJoin_go A n c m a b w h1 h2 h3 hv i k hi hk hin hkn hik _ _ rfl rfl, fun A c w h1 h2 h3 => implJoin_go A n c m a b w h1 h2 h3 hv i k hi hk hin hkn hik _ _ rfl rfl, fun hok => ?_, fun i' k' _ hi' hk' _ _ _ hf hp => ?_⟩
    · split <;> omega
    · have h3 := hok
      rw [Bool.and_eq_true] at h3
      exact ⟨i, k, hv, hi, hk, hin, hkn, hik, h3.1, h3.2, if_pos hok, rfl⟩
    · obtain rfl : i' = i := by omega
      obtain rfl : k' = k := by omega
      have h3 : (fitB (m i') (m k') && pondsB (n - 1) (joinM m i' k' a)) = true := by rw [hf, hp]; rfl
      exact ⟨h3, if_pos h3, rfl⟩
end Go.Proofs.Ytkgnfmdeimaedaa
