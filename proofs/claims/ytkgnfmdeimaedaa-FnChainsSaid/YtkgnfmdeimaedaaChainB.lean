/- Chain: reference and program side by side. -/
import Derived.Test.YtkgnfmdeimaedaaChainI
namespace Go.Proofs.Ytkgnfmdeimaedaa
open Go.RowKit
set_option linter.unusedVariables false

/-! ### How far: there is such a function -/
section
variable {n : Nat} {adj : Nat → Nat → Prop} {g : Nat}
theorem Lev.row {r i : Nat} (hin : i < n) (k : Nat) (hk : k ≤ n) : ∀ f : Nat → Int, Lev n adj g (r + 1) r i 0 f → f i = (r : Int) → ∃ f', Lev n adj g (r + 1) r i k f' ∧ f' i = (r : Int) := by
  induction k with
  | zero => intro f h hf; exact ⟨f, h, hf⟩
  | succ k ih =>
    intro f h hf
    obtain ⟨f1, h1, hf1⟩ := ih (by omega) f h hf
    by_cases hc : 0 ≤ f1 k ∨ ¬ adj i k
    · exact ⟨f1, h1.keep hc, hf1⟩
    · have h2 : f1 k < 0 := by
        rcases Int.lt_or_le (f1 k) 0 with h | h
        · exact h
        · exact absurd (.inl h) hc
      have h3 : adj i k := Classical.not_not.1 fun h => hc (.inr h)
      refine ⟨_, h1.mark hin (by omega) hf1 h2 h3, ?_⟩
      have hik : i ≠ k := fun hh => by rw [hh] at hf1; omega
      show (if i = k then (r : Int) + 1 else f1 i) = r
      rw [if_neg hik]
      exact hf1
theorem Lev.rows {r : Nat} (i : Nat) (hi : i ≤ n) : ∀ f : Nat → Int, Lev n adj g (r + 1) r 0 0 f → ∃ f', Lev n adj g (r + 1) r i 0 f' := by
  induction i with
  | zero => intro f h; exact ⟨f, h⟩
  | succ i ih =>
    intro f h
    obtain ⟨f1, h1⟩ := ih (by omega) f h
    by_cases hf : f1 i = (r : Int)
    · obtain ⟨f2, h2, _⟩ := Lev.row (by omega) n (Nat.le_refl _) f1 h1 hf
      exact ⟨f2, h2.skip (by omega) (fun _ => Nat.le_refl _)⟩
    · exact ⟨f1, h1.skip (by omega) (fun hh => absurd hh hf)⟩
theorem Lev.some (hg : g < n) (r : Nat) : ∃ f, Lev n adj g r r 0 0 f := by
  induction r with
  | zero => exact ⟨fun t => if t = g then 0 else -1, Lev.start hg (if_pos rfl) (fun i _ hne => if_neg hne)⟩
  | succ r ih =>
    obtain ⟨f, h⟩ := ih
    obtain ⟨f1, h1⟩ := Lev.rows n (Nat.le_refl _) f h.open
    exact ⟨f1, h1.shut⟩
theorem far_is (hg : g < n) : Far n adj g (farV n adj g) := by
  obtain ⟨f, h⟩ := Lev.some (adj := adj) hg n
  exact h.far.is
end
theorem chC_off {n : Nat} {m : Nat → Pd} {a b : Int} (h : chC n m a b = true) : pondsB n m = true ∧ ∃ i k : Nat, findPond n m a = (i : Int) ∧ findPond n m b = (k : Int) ∧ i < n ∧ k < n ∧ (m i).id = a ∧ (m k).id = b := by
  unfold chC at h
  rw [Bool.and_eq_true] at h
  obtain ⟨hv, hd⟩ := h
  obtain ⟨ha, hb⟩ := of_decide_eq_true hd
  rcases findPond_bd n m a with h1 | ⟨i, hi, hin, hida⟩
  · omega
  rcases findPond_bd n m b with h1 | ⟨k, hk, hkn, hidb⟩
  · omega
  exact ⟨hv, i, k, hi, hk, hin, hkn, hida, hidb⟩
theorem chain_both (n : Nat) (m : Nat → Pd) (a b : Int) : ∃ (N : Nat) (p : Nat → Int) (ok : Bool), N ≤ 1000 ∧
    (∀ A c w, c ≤ maxLen → n ≤ c → Rd w A n 6 (pdF m) → Calls Try.prog 41 #[.slice A n c, .int .i64 a, .int .i64 b] w (RetS 3 1 N (mk1 p) ok w)) ∧
    (∀ A c w, c ≤ maxLen → n ≤ c → Rd w A n 6 (pdF m) → Calls Try.prog 42 #[.slice A n c, .int .i64 a, .int .i64 b] w (RetS 3 1 N (mk1 p) ok w)) ∧
    ((chC n m a b = false ∧ N = 0 ∧ ok = false) ∨ ∃ i k : Nat, pondsB n m = true ∧ findPond n m a = (i : Int) ∧ findPond n m b = (k : Int) ∧ i < n ∧ k < n ∧ (m i).id = a ∧ (m k).id = b ∧
      ok = decide (0 ≤ farV n (adjM m) k i) ∧ (N = if ok = true then (farV n (adjM m) k i).toNat + 1 else 0) ∧ p = fun t => (m (wayN n (adjM m) (farV n (adjM m) k) i t)).id) := by
  cases h : chC n m a b
  · exact ⟨0, fun i => ([] : List Int).getD i 0, false, by omega, fun A c w h1 h2 h3 => specChain_no A n c m a b w h1 h2 h3 h, fun A c w h1 h2 h3 => implChain_no A n c m a b w h1 h2 h3 h, .inl ⟨rfl, rfl, rfl⟩⟩
  · obtain ⟨hv, i, k, hi, hk, hin, hkn, hida, hidb⟩ := chC_off h
    have hF := far_is (adj := adjM m) hkn
    have hlt := hF.near.lt hin
    have hn10 := (pondsB_iff.1 hv).1
    refine ⟨_, _, _, ?_, fun A c w h1 h2 h3 => specChain_go A n c m a b w h1 h2 h3 hv i k hi hk hin hkn hida _ rfl _ _ rfl rfl, fun A c w h1 h2 h3 => implChain_go A n c m a b w h1 h2 h3 hv i k hi hk hin hkn hida _ rfl _ _ rfl rfl, .inr ⟨i, k, hv, hi, hk, hin, hkn, hida, hidb, rfl, rfl, rfl⟩⟩
    split <;> omega
end Go.Proofs.Ytkgnfmdeimaedaa
