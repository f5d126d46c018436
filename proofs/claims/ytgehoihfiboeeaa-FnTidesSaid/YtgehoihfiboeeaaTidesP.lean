/- What FnTides says of tides, in plain numbers. -/
import Derived.Test.YtgehoihfiboeeaaFirst
import Derived.Test.YtgehoihfiboeeaaHigh
namespace Go.Proofs.Ytgehoihfiboeeaa
open Go.RowKit
set_option linter.unusedVariables false

def SpanOk (p : Nat → Bool) (k : Nat) (l : List Int) : Prop :=
  (∃ h, l.length = 2 * h) ∧ ∀ i, 2 * i + 1 < l.length → 0 ≤ l.getD (2 * i) 0 ∧ l.getD (2 * i) 0 ≤ l.getD (2 * i + 1) 0 ∧ l.getD (2 * i + 1) 0 < (k : Int) ∧
    ∀ t : Nat, l.getD (2 * i) 0 ≤ (t : Int) → (t : Int) ≤ l.getD (2 * i + 1) 0 → p t = true
theorem getD_set_ne (l : List Int) (i j : Nat) (x : Int) (h : i ≠ j) : (l.set i x).getD j 0 = l.getD j 0 := by
  rw [List.getD_eq_getElem?_getD, List.getD_eq_getElem?_getD, List.getElem?_set_ne h]
theorem getD_set_eq (l : List Int) (i : Nat) (x : Int) (h : i < l.length) : (l.set i x).getD i 0 = x := by
  rw [List.getD_eq_getElem?_getD, List.getElem?_set_self h]
  rfl
theorem getD_app_l (l m : List Int) (i : Nat) (h : i < l.length) : (l ++ m).getD i 0 = l.getD i 0 := by
  rw [List.getD_eq_getElem?_getD, List.getD_eq_getElem?_getD, List.getElem?_append_left h]
theorem getD_app_r (l m : List Int) (i : Nat) : (l ++ m).getD (l.length + i) 0 = m.getD i 0 := by
  rw [List.getD_eq_getElem?_getD, List.getD_eq_getElem?_getD, List.getElem?_append_right (by omega), show l.length + i - l.length = i by omega]
theorem spanL_ok (p : Nat → Bool) (k : Nat) : SpanOk p k (spanL p k) := by
  induction k with
  | zero => exact ⟨⟨0, rfl⟩, fun i hi => absurd hi (Nat.not_lt_zero _)⟩
  | succ k ih =>
    unfold spanL
    by_cases hp : p k = true
    · rw [if_pos hp]
      generalize spanL p k = l at *
      obtain ⟨⟨h, hh⟩, ih⟩ := ih
      unfold spanStep
      by_cases hc : 0 < l.length ∧ l.getD (l.length - 1) 0 = (k : Int) - 1
      · rw [if_pos hc]
        refine ⟨⟨h, by rw [List.length_set]; exact hh⟩, fun i hi => ?_⟩
        rw [List.length_set] at hi
        obtain ⟨b0, b1, b2, b3⟩ := ih i hi
        by_cases hl : 2 * i + 1 = l.length - 1
        · have h1 := hc.2
          rw [← hl] at h1
          rw [getD_set_ne _ _ _ _ (by omega), hl, getD_set_eq _ _ _ (by omega)]
          refine ⟨b0, by omega, by omega, fun t t0 t1 => ?_⟩
          by_cases ht : t = k
          · rw [ht]; exact hp
          · exact b3 t t0 (by omega)
        · rw [getD_set_ne _ _ _ _ (by omega), getD_set_ne _ _ _ _ (by omega)]
          exact ⟨b0, b1, by omega, b3⟩
      · rw [if_neg hc]
        refine ⟨⟨h + 1, by rw [List.length_append]; show l.length + 2 = _; omega⟩, fun i hi => ?_⟩
        rw [List.length_append] at hi
        replace hi : 2 * i + 1 < l.length + 2 := hi
        by_cases hl : 2 * i + 1 < l.length
        · obtain ⟨b0, b1, b2, b3⟩ := ih i hl
          rw [getD_app_l _ _ _ (by omega), getD_app_l _ _ _ (by omega)]
          exact ⟨b0, b1, by omega, b3⟩
        · have e1 := getD_app_r l [(k : Int), (k : Int)] 0
          have e2 := getD_app_r l [(k : Int), (k : Int)] 1
          rw [show l.length + 0 = 2 * i by omega] at e1
          rw [show l.length + 1 = 2 * i + 1 by omega] at e2
          rw [e1, e2]
          refine ⟨by show (0 : Int) ≤ (k : Int); omega, by show (k : Int) ≤ (k : Int); omega, by show (k : Int) < _; omega, fun t t0 t1 => ?_⟩
          replace t0 : (k : Int) ≤ (t : Int) := t0
          replace t1 : (t : Int) ≤ (k : Int) := t1
          obtain rfl : t = k := by omega
          exact hp
    · rw [if_neg hp]
      obtain ⟨h, ih⟩ := ih
      exact ⟨h, fun i hi => by obtain ⟨b0, b1, b2, b3⟩ := ih i hi; exact ⟨b0, b1, by omega, b3⟩⟩
/-- Spans of two classes of minutes that share none are apart. -/
theorem span_apart {p q : Nat → Bool} {k k' : Nat} {l l' : List Int} (h : SpanOk p k l) (h' : SpanOk q k' l') (hpq : ∀ t : Nat, t < k → p t = true → q t = true → False) {i j : Nat} (hi : 2 * i + 1 < l.length) (hj : 2 * j + 1 < l'.length)
    (h1 : l.getD (2 * i) 0 ≤ l'.getD (2 * j + 1) 0) (h2 : l'.getD (2 * j) 0 ≤ l.getD (2 * i + 1) 0) : False := by
  obtain ⟨a0, a1, a2, a3⟩ := h.2 i hi
  obtain ⟨b0, b1, _, b3⟩ := h'.2 j hj
  by_cases hc : l.getD (2 * i) 0 ≤ l'.getD (2 * j) 0
  · have e : ((l'.getD (2 * j) 0).toNat : Int) = l'.getD (2 * j) 0 := by omega
    have h3 : (((l'.getD (2 * j) 0).toNat : Nat) : Int) < (k : Int) := by rw [e]; omega
    exact hpq _ (Int.ofNat_lt.1 h3) (a3 _ (by rw [e]; omega) (by rw [e]; omega)) (b3 _ (by rw [e]; omega) (by rw [e]; omega))
  · have e : ((l.getD (2 * i) 0).toNat : Int) = l.getD (2 * i) 0 := by omega
    have h3 : (((l.getD (2 * i) 0).toNat : Nat) : Int) < (k : Int) := by rw [e]; omega
    exact hpq _ (Int.ofNat_lt.1 h3) (a3 _ (by rw [e]; omega) (by rw [e]; omega)) (b3 _ (by rw [e]; omega) (by rw [e]; omega))
theorem in_out (s p num den : Int) (hd : 0 < den) : inP s p num den = true → outP s p num den = true → False := by
  intro h1 h2
  unfold inP at h1
  unfold outP at h2
  rw [Bool.and_eq_true] at h2
  have a1 := of_decide_eq_true h1
  have a2 := of_decide_eq_true h2.1
  have a3 := of_decide_eq_true h2.2
  unfold mxV at a1
  rw [if_pos a2] at a1
  omega
theorem hiTo_max (m : Nat → Mk) (k : Nat) : ∀ i, i < k → (m i).h ≤ (m (hiTo m k)).h := by
  induction k with
  | zero => intro i hi; omega
  | succ k ih =>
    intro i hi
    unfold hiTo
    by_cases hc : (m (hiTo m k)).h < (m k).h
    · rw [if_pos hc]
      by_cases hk : i = k
      · rw [hk]; exact Int.le_refl _
      · have := ih i (by omega); omega
    · rw [if_neg hc]
      by_cases hk : i = k
      · rw [hk]; omega
      · exact ih i (by omega)
theorem red_le {a b c : Int} (hb : 0 < b) (h : a ≤ c * b) : redN a b ≤ c * redD a b := by
  have hg : 0 < Int.gcd a b := Int.gcd_pos_of_ne_zero_right _ (by omega)
  obtain ⟨x, hx⟩ : (Int.gcd a b : Int) ∣ a := Int.gcd_dvd_left ..
  obtain ⟨y, hy⟩ : (Int.gcd a b : Int) ∣ b := Int.gcd_dvd_right ..
  unfold redN redD
  have hgp : (0 : Int) < (Int.gcd a b : Int) := by omega
  have e1 : a.tdiv (Int.gcd a b : Int) = x := by
    conv => lhs; arg 1; rw [hx]
    exact Int.mul_tdiv_cancel_left _ (by omega)
  have e2 : b.tdiv (Int.gcd a b : Int) = y := by
    conv => lhs; arg 1; rw [hy]
    exact Int.mul_tdiv_cancel_left _ (by omega)
  rw [e1, e2]
  generalize (Int.gcd a b : Int) = g at *
  subst hx hy
  refine Int.le_of_mul_le_mul_left ?_ hgp
  calc g * x ≤ c * (g * y) := h
    _ = g * (c * y) := by rw [← Int.mul_assoc, ← Int.mul_assoc, Int.mul_comm c g]
theorem at_le_hi {n : Nat} {m : Nat → Mk} {t : Int} (hc : atC n m t = true) : tideB n m = true ∧ atRN n m t ≤ hiH n m * atRD n m t := by
  have hc2 := hc
  unfold atC at hc2
  rw [Bool.and_eq_true] at hc2
  obtain ⟨hT, hI⟩ := hc2
  refine ⟨hT, ?_⟩
  have h := tideB_iff.1 hT
  obtain ⟨t0, t1⟩ := inB_iff.1 hI
  unfold atRN atRD hiH
  rw [if_pos hc, if_pos hc, if_pos hT]
  obtain ⟨j, hj, j1, j2, j3⟩ := seg_spec h t0 t1
  obtain ⟨_, _, _, _, p5, _⟩ := at_facts h j1 j2 j3
  unfold atN atD
  rw [hj]
  have e1 : numV m (j + 1) t = (m j).h * ((m (j + 1)).t - t) + (m (j + 1)).h * (t - (m j).t) := rfl
  have e2 : denV m (j + 1) = (m (j + 1)).t - (m j).t := rfl
  rw [e1, e2]
  refine red_le p5.1 ?_
  have q1 := hiTo_max m n j (by omega)
  have q2 := hiTo_max m n (j + 1) (by omega)
  generalize (m (hiTo m n)).h = c at *
  have r1 := Int.mul_le_mul_of_nonneg_right q1 (show 0 ≤ (m (j + 1)).t - t by omega)
  have r2 := Int.mul_le_mul_of_nonneg_right q2 (show 0 ≤ t - (m j).t by omega)
  have r3 : c * ((m (j + 1)).t - t) + c * (t - (m j).t) = c * ((m (j + 1)).t - (m j).t) := by
    rw [← Int.mul_add]
    congr 1
    omega
  omega
theorem at_law {n : Nat} {m : Nat → Mk} {t : Int} (hc : atC n m t = true) : tideB n m = true ∧ atRN n m t ≤ hiH n m * atRD n m t ∧ (-500 ≤ hiH n m ∧ hiH n m ≤ 500) ∧ (1 ≤ atRD n m t ∧ atRD n m t ≤ 1440) ∧ (-720000 ≤ hiH n m * atRD n m t ∧ hiH n m * atRD n m t ≤ 720000) := by
  obtain ⟨hT, hle⟩ := at_le_hi hc
  have hh : -500 ≤ hiH n m ∧ hiH n m ≤ 500 := by
    unfold hiH
    rw [if_pos hT]
    obtain ⟨⟨h2, _⟩, _, _, h3⟩ := tideB_iff.1 hT
    exact (h3 _ (hiTo_lt m (by omega) n (Nat.le_refl _))).2.1
  have hd : 1 ≤ atRD n m t ∧ atRD n m t ≤ 1440 := by
    have hc2 := hc
    unfold atC at hc2
    rw [Bool.and_eq_true] at hc2
    unfold atRD
    rw [if_pos hc]
    obtain ⟨t0, t1⟩ := inB_iff.1 hc2.2
    exact (at_bd (tideB_iff.1 hT) t0 t1).2
  exact ⟨hT, hle, hh, hd, (mulS hh.1 hh.2 (by omega) hd.2).1⟩
/-- Spans of two lists: each is one, and none of the first meets one of the second. -/
def ApartL (l l' : List Int) : Prop := (∀ i, 2 * i + 1 < l.length → l.getD (2 * i) 0 ≤ l.getD (2 * i + 1) 0) ∧
  ∀ i j, 2 * i + 1 < l.length → 2 * j + 1 < l'.length → l.getD (2 * i) 0 ≤ l'.getD (2 * j + 1) 0 → l'.getD (2 * j) 0 ≤ l.getD (2 * i + 1) 0 → False
theorem apart_nil : ApartL [] [] := ⟨fun i h => absurd h (Nat.not_lt_zero _), fun i j h => absurd h (Nat.not_lt_zero _)⟩
theorem spans_apart {n : Nat} {m : Nat → Mk} {s p : Int} (h : askB n m s p = true) : ApartL (spanL (fun t => inP s p (atN n m (t : Int)) (atD n m (t : Int))) 1441) (spanL (fun t => outP s p (atN n m (t : Int)) (atD n m (t : Int))) 1441) := by
  have h1 := spanL_ok (fun t => inP s p (atN n m (t : Int)) (atD n m (t : Int))) 1441
  have h2 := spanL_ok (fun t => outP s p (atN n m (t : Int)) (atD n m (t : Int))) 1441
  refine ⟨fun i hi => (h1.2 i hi).2.1, fun i j hi hj => span_apart h1 h2 (fun t ht => in_out _ _ _ _ ?_) hi hj⟩
  have := (at_bd (t := (t : Int)) (askB_iff.1 h).1 (by omega) (by omega)).2
  omega
end Go.Proofs.Ytgehoihfiboeeaa
