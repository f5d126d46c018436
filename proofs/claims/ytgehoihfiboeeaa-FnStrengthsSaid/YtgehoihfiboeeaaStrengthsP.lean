/- What FnStrengths says of strengths, in plain numbers. -/
import Derived.Test.YtgehoihfiboeeaaAdd
import Derived.Test.YtgehoihfiboeeaaStrength
namespace Go.Proofs.Ytgehoihfiboeeaa
open Go.RowKit
set_option linter.unusedVariables false

theorem red_way (a M : Int) (ha : 0 ≤ a) (hM : 0 < M) : ∃ g : Int, 0 < g ∧ redN a M * g = a ∧ redD a M * g = M ∧ (0 ≤ redN a M ∧ redN a M ≤ a) ∧ (0 < redD a M ∧ redD a M ≤ M) := by
  have hg : 0 < (Int.gcd a M : Int) := by
    have : Int.gcd a M ≠ 0 := fun h => by have := (Int.gcd_eq_zero_iff.1 h).2; omega
    omega
  have d1 : (Int.gcd a M : Int) ∣ a := Int.gcd_dvd_left ..
  have d2 : (Int.gcd a M : Int) ∣ M := Int.gcd_dvd_right ..
  unfold redN redD
  generalize (Int.gcd a M : Int) = g at *
  have e1 := Int.tdiv_mul_cancel d1
  have e2 := Int.tdiv_mul_cancel d2
  have p0 : 0 ≤ a.tdiv g := Int.tdiv_nonneg ha (by omega)
  have q0 : 0 ≤ M.tdiv g := Int.tdiv_nonneg (by omega) (by omega)
  generalize a.tdiv g = p at *
  generalize M.tdiv g = q at *
  have p1 : p * 1 ≤ p * g := Int.mul_le_mul_of_nonneg_left (by omega) p0
  have q1 : q * 1 ≤ q * g := Int.mul_le_mul_of_nonneg_left (by omega) q0
  have q2 : q ≠ 0 := fun h => by rw [h] at e2; omega
  exact ⟨g, hg, e1, e2, ⟨p0, by omega⟩, ⟨by omega, by omega⟩⟩
/-- Which of two strengths is the greater does not hang on their being reduced. -/
theorem red_le (a M n d : Int) (ha : 0 ≤ a) (hM : 0 < M) : n * redD a M ≤ redN a M * d ↔ n * M ≤ a * d := by
  obtain ⟨g, hg, e1, e2, _⟩ := red_way a M ha hM
  have h1 : n * redD a M * g = n * M := by rw [Int.mul_assoc, e2]
  have h2 : redN a M * d * g = a * d := by rw [Int.mul_assoc, Int.mul_comm d g, ← Int.mul_assoc, e1]
  rw [← h1, ← h2]
  exact ⟨fun h => Int.mul_le_mul_of_nonneg_right h (by omega), fun h => Int.le_of_mul_le_mul_right h hg⟩
theorem red_le' (a M n d : Int) (ha : 0 ≤ a) (hM : 0 < M) : redN a M * d ≤ n * redD a M ↔ a * d ≤ n * M := by
  obtain ⟨g, hg, e1, e2, _⟩ := red_way a M ha hM
  have h1 : n * redD a M * g = n * M := by rw [Int.mul_assoc, e2]
  have h2 : redN a M * d * g = a * d := by rw [Int.mul_assoc, Int.mul_comm d g, ← Int.mul_assoc, e1]
  rw [← h1, ← h2]
  exact ⟨fun h => Int.mul_le_mul_of_nonneg_right h (by omega), fun h => Int.le_of_mul_le_mul_right h hg⟩
theorem bnd_mul {x y X Y : Int} (h0 : 0 ≤ x) (h1 : x ≤ X) (h2 : 0 ≤ y) (h3 : y ≤ Y) : 0 ≤ x * y ∧ x * y ≤ X * Y :=
  ⟨Int.mul_nonneg h0 h2, Int.mul_le_mul h1 h3 h2 (by omega)⟩
/-- What the walk wants of one strength against n of d. -/
def StrOk (a b n d : Int) : Prop := strengthP a b ∧ (0 ≤ redN b (a + b) * d ∧ redN b (a + b) * d ≤ 1000000000) ∧ (0 ≤ n * redD b (a + b) ∧ n * redD b (a + b) ≤ 2000000000)
theorem strOk (a b n d : Int) (h : strengthP a b) (n0 : 1 ≤ n) (nd : n ≤ d) (d1 : d ≤ 1000) : StrOk a b n d := by
  obtain ⟨⟨⟨a0, a1⟩, b0, b1⟩, hz⟩ := h
  obtain ⟨g, hg, e1, e2, ⟨p0, p1⟩, q0, q1⟩ := red_way b (a + b) b0 (by omega)
  have h1 := bnd_mul (X := 1000000) (Y := 1000) p0 (by omega) (show 0 ≤ d by omega) d1
  have h2 := bnd_mul (X := 1000) (Y := 2000000) (show 0 ≤ n by omega) (by omega) (show 0 ≤ redD b (a + b) by omega) (by omega)
  exact ⟨⟨⟨⟨a0, a1⟩, b0, b1⟩, hz⟩, ⟨h1.1, by omega⟩, ⟨h2.1, by omega⟩⟩
theorem lose_law (a b n d : Int) (h : waterP a b n d) (hz : b ≠ 0) : (0 ≤ loseV a b n d ∧ loseV a b n d ≤ a) ∧ StrOk (a - loseV a b n d) b n d ∧ n * redD b (a - loseV a b n d + b) ≤ redN b (a - loseV a b n d + b) * d ∧
    (0 < loseV a b n d → StrOk (a - loseV a b n d + 1) b n d ∧ redN b (a - loseV a b n d + 1 + b) * d < n * redD b (a - loseV a b n d + 1 + b)) := by
  obtain ⟨⟨⟨a0, a1⟩, b0, b1⟩, ⟨n0, nd⟩, d1⟩ := h
  have hbd : n * b ≤ b * d := by rw [Int.mul_comm]; exact Int.mul_le_mul_of_nonneg_left nd b0
  have hd1 := Int.mul_ediv_add_emod (b * d) n
  have hd2 := Int.emod_nonneg (b * d) (show n ≠ 0 by omega)
  have hd3 := Int.emod_lt_of_pos (b * d) (show 0 < n by omega)
  have hq : b ≤ b * d / n := Int.le_ediv_of_mul_le (by omega) (by rw [Int.mul_comm]; exact hbd)
  have hL : loseV a b n d = max 0 (a + b - b * d / n) := rfl
  generalize loseV a b n d = L at *
  have r0 : 0 ≤ L ∧ L ≤ a := by omega
  have s1 : strengthP (a - L) b := ⟨⟨by omega, by omega⟩, by omega⟩
  refine ⟨r0, strOk _ _ _ _ s1 n0 nd d1, ?_, fun hp => ?_⟩
  · rw [red_le _ _ _ _ b0 (by omega)]
    have h1 : a - L + b ≤ b * d / n := by omega
    have h2 := Int.mul_le_mul_of_nonneg_left h1 (show 0 ≤ n by omega)
    omega
  · have s2 : strengthP (a - L + 1) b := ⟨⟨by omega, by omega⟩, by omega⟩
    refine ⟨strOk _ _ _ _ s2 n0 nd d1, ?_⟩
    have h3 : ¬ n * redD b (a - L + 1 + b) ≤ redN b (a - L + 1 + b) * d := by
      rw [red_le _ _ _ _ b0 (by omega)]
      have h1 : a - L + 1 + b = b * d / n + 1 := by omega
      rw [h1, Int.mul_add]
      omega
    omega
theorem add_law (a b n d : Int) (h : waterP a b n d) (hz : a + b ≠ 0) (hm : a + addV a b n d ≤ 1000000) : 0 ≤ addV a b n d ∧ StrOk (a + addV a b n d) b n d ∧ redN b (a + addV a b n d + b) * d ≤ n * redD b (a + addV a b n d + b) ∧
    (0 < addV a b n d → strengthP (a + addV a b n d - 1) b → StrOk (a + addV a b n d - 1) b n d ∧ n * redD b (a + addV a b n d - 1 + b) < redN b (a + addV a b n d - 1 + b) * d) := by
  obtain ⟨⟨⟨a0, a1⟩, b0, b1⟩, ⟨n0, nd⟩, d1⟩ := h
  have hd1 := Int.mul_ediv_add_emod (b * d + n - 1) n
  have hd2 := Int.emod_nonneg (b * d + n - 1) (show n ≠ 0 by omega)
  have hd3 := Int.emod_lt_of_pos (b * d + n - 1) (show 0 < n by omega)
  have hL : addV a b n d = max 0 ((b * d + n - 1) / n - (a + b)) := rfl
  generalize addV a b n d = L at *
  have s1 : strengthP (a + L) b := ⟨⟨by omega, by omega⟩, by omega⟩
  refine ⟨by omega, strOk _ _ _ _ s1 n0 nd d1, ?_, fun hp s2 => ?_⟩
  · rw [red_le' _ _ _ _ b0 (by omega)]
    have h1 : (b * d + n - 1) / n ≤ a + L + b := by omega
    have h2 := Int.mul_le_mul_of_nonneg_left h1 (show 0 ≤ n by omega)
    omega
  · refine ⟨strOk _ _ _ _ s2 n0 nd d1, ?_⟩
    have h3 : ¬ redN b (a + L - 1 + b) * d ≤ n * redD b (a + L - 1 + b) := by
      have h4 := s2.1
      rw [red_le' _ _ _ _ b0 (by have := s2.2; omega)]
      have h1 : a + L - 1 + b = (b * d + n - 1) / n - 1 := by omega
      rw [h1, Int.mul_sub]
      omega
    omega
/-- Both answers in one word. -/
theorem lose_both (a b n d : Int) : ∃ (L : Int) (ok : Bool), (∀ w, Calls Try.prog 8 #[.agg #[.int .i64 a, .int .i64 b], .int .i64 n, .int .i64 d] w fun e w' => e = .returned (.tuple #[.int .i64 L, .bool ok]) ∧ Ext w w') ∧
    (∀ w, Calls Try.prog 9 #[.agg #[.int .i64 a, .int .i64 b], .int .i64 n, .int .i64 d] w fun e w' => e = .returned (.tuple #[.int .i64 L, .bool ok]) ∧ Ext w w') ∧ (ok = true → L = loseV a b n d ∧ waterP a b n d ∧ b ≠ 0) := by
  by_cases h : waterP a b n d ∧ b ≠ 0
  · exact ⟨_, _, fun w => implLose_yes a b n d w h.1 h.2, fun w => specLose_yes a b n d w h.1 h.2, fun _ => ⟨rfl, h⟩⟩
  · exact ⟨_, _, fun w => implLose_no a b n d w h, fun w => specLose_no a b n d w h, fun h => by cases h⟩
theorem add_both (a b n d : Int) : ∃ (L : Int) (ok : Bool), (∀ w, Calls Try.prog 12 #[.agg #[.int .i64 a, .int .i64 b], .int .i64 n, .int .i64 d] w fun e w' => e = .returned (.tuple #[.int .i64 L, .bool ok]) ∧ Ext w w') ∧
    (∀ w, Calls Try.prog 13 #[.agg #[.int .i64 a, .int .i64 b], .int .i64 n, .int .i64 d] w fun e w' => e = .returned (.tuple #[.int .i64 L, .bool ok]) ∧ Ext w w') ∧ (ok = true → L = addV a b n d ∧ waterP a b n d ∧ a + b ≠ 0 ∧ a + addV a b n d ≤ 1000000) := by
  by_cases h : waterP a b n d ∧ a + b ≠ 0
  · by_cases hm : a + addV a b n d ≤ 1000000
    · exact ⟨_, _, fun w => implAdd_yes a b n d w h.1 h.2 hm, fun w => specAdd_yes a b n d w h.1 h.2 hm, fun _ => ⟨rfl, h.1, h.2, hm⟩⟩
    · exact ⟨_, _, fun w => implAdd_far a b n d w h.1 h.2 (by omega), fun w => specAdd_far a b n d w h.1 h.2 (by omega), fun h => by cases h⟩
  · exact ⟨_, _, fun w => implAdd_no a b n d w h, fun w => specAdd_no a b n d w h, fun h => by cases h⟩
theorem str_both (a b : Int) : ∃ (p q : Int) (ok : Bool), (∀ w, Calls Try.prog 10 #[.agg #[.int .i64 a, .int .i64 b]] w fun e w' => e = .returned (.tuple #[.int .i64 p, .int .i64 q, .bool ok]) ∧ Ext w w') ∧
    (∀ w, Calls Try.prog 18 #[.agg #[.int .i64 a, .int .i64 b]] w fun e w' => e = .returned (.tuple #[.int .i64 p, .int .i64 q, .bool ok]) ∧ Ext w w') := by
  by_cases h : strengthP a b
  · exact ⟨_, _, _, fun w => implStrength_yes a b w h, fun w => specStrength_yes a b w h⟩
  · exact ⟨_, _, _, fun w => implStrength_no a b w h, fun w => specStrength_no a b w h⟩
end Go.Proofs.Ytgehoihfiboeeaa
