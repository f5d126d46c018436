/- When two ponds make one: the plain law. -/
import Derived.Test.YtkgnfmdeimaedaaBankOf
import Derived.Test.YtkgnfmdeimaedaaDel
namespace Go.Proofs.Ytkgnfmdeimaedaa
open Go.RowKit
set_option linter.unusedVariables false

def boxW (x y : Pd) : Int := max (x.left + x.wide) (y.left + y.wide) - min x.left y.left
def boxH (x y : Pd) : Int := max (x.top + x.high) (y.top + y.high) - min x.top y.top
def boxJ (a : Int) (x y : Pd) : Pd := ⟨a, min x.left y.left, min x.top y.top, boxW x y, boxH x y, min x.depth y.depth⟩
def fitB (x y : Pd) : Bool := decide (boxW x y * boxH x y = x.wide * x.high + y.wide * y.high)
def stackP (x y : Pd) : Prop := x.left = y.left ∧ x.wide = y.wide ∧ bankV x y = x.wide
def rowP (x y : Pd) : Prop := x.top = y.top ∧ x.high = y.high ∧ bankV x y = x.high
theorem three_zero {a b c : Int} (ha : 0 ≤ a) (hb : 0 ≤ b) (hc : 0 ≤ c) (h : a + b + c = 0) : a = 0 ∧ b = 0 ∧ c = 0 := by omega
theorem area_split {W H w1 h1 w2 h2 : Int} (hW : 1 ≤ W) (g1 : 1 ≤ h1) (g2 : 1 ≤ h2) (f1 : w1 ≤ W) (f2 : w2 ≤ W) (hH : h1 + h2 ≤ H) (h : W * H = w1 * h1 + w2 * h2) : H = h1 + h2 ∧ W = w1 ∧ W = w2 := by
  have e : W * (H - (h1 + h2)) + (W - w1) * h1 + (W - w2) * h2 = 0 := by
    rw [Int.mul_sub, Int.mul_add, Int.sub_mul, Int.sub_mul, h]
    omega
  obtain ⟨e1, e2, e3⟩ := three_zero (Int.mul_nonneg (by omega) (by omega)) (Int.mul_nonneg (by omega) (by omega)) (Int.mul_nonneg (by omega) (by omega)) e
  have d1 := (Int.mul_eq_zero.1 e1).resolve_left (by omega)
  have d2 := (Int.mul_eq_zero.1 e2).resolve_right (by omega)
  have d3 := (Int.mul_eq_zero.1 e3).resolve_right (by omega)
  omega
structure PosP (x y : Pd) : Prop where
  xw : 1 ≤ x.wide
  xh : 1 ≤ x.high
  yw : 1 ≤ y.wide
  yh : 1 ≤ y.high
  apart : overB x y = false
theorem stack_box {x y : Pd} (h : PosP x y) (hs : stackP x y) : boxW x y = x.wide ∧ boxH x y = x.high + y.high ∧ (x.top + x.high = y.top ∨ y.top + y.high = x.top) := by
  obtain ⟨h1, h2, h3, h4, _⟩ := h
  obtain ⟨e1, e2, e3⟩ := hs
  have hn : sideB x y = false := by
    unfold sideB
    rw [Bool.or_eq_false_iff, beq_eq_false_iff_ne, beq_eq_false_iff_ne]
    omega
  unfold bankV at e3
  rw [hn, if_neg (by simp)] at e3
  have he : endB x y = true := by
    cases he : endB x y
    · rw [he, if_neg (by simp)] at e3; omega
    · rfl
  unfold endB at he
  rw [Bool.or_eq_true, beq_iff_eq, beq_iff_eq] at he
  unfold boxW boxH
  omega
theorem row_box {x y : Pd} (h : PosP x y) (hs : rowP x y) : boxW x y = x.wide + y.wide ∧ boxH x y = x.high ∧ (x.left + x.wide = y.left ∨ y.left + y.wide = x.left) := by
  obtain ⟨h1, h2, h3, h4, _⟩ := h
  obtain ⟨e1, e2, e3⟩ := hs
  have he : sideB x y = true := by
    cases hn : sideB x y
    · unfold bankV at e3
      rw [hn, if_neg (by simp)] at e3
      have hne : endB x y = false := by
        unfold endB
        rw [Bool.or_eq_false_iff, beq_eq_false_iff_ne, beq_eq_false_iff_ne]
        omega
      rw [hne, if_neg (by simp)] at e3
      omega
    · rfl
  unfold sideB at he
  rw [Bool.or_eq_true, beq_iff_eq, beq_iff_eq] at he
  unfold boxW boxH
  omega
theorem fit_iff {x y : Pd} (h : PosP x y) : fitB x y = true ↔ stackP x y ∨ rowP x y := by
  constructor
  · intro hf
    have hf := of_decide_eq_true hf
    obtain ⟨h1, h2, h3, h4, h5⟩ := h
    have b1 : x.wide ≤ boxW x y ∧ y.wide ≤ boxW x y := by unfold boxW; omega
    have b2 : x.high ≤ boxH x y ∧ y.high ≤ boxH x y := by unfold boxH; omega
    by_cases hc : 0 < colV x y
    · have hr : rowV x y ≤ 0 := by
        unfold overB at h5
        rw [decide_eq_true hc, Bool.true_and] at h5
        have := of_decide_eq_false h5
        omega
      have b3 : x.high + y.high ≤ boxH x y := by unfold rowV commonV at hr; unfold boxH; omega
      obtain ⟨c1, c2, c3⟩ := area_split (by omega) h2 h4 b1.1 b1.2 b3 hf
      refine .inl ?_
      unfold boxW at c2 c3
      unfold boxH at c1
      have e1 : x.left = y.left := by omega
      have e2 : x.wide = y.wide := by omega
      refine ⟨e1, e2, ?_⟩
      have hn : sideB x y = false := by
        unfold sideB
        rw [Bool.or_eq_false_iff, beq_eq_false_iff_ne, beq_eq_false_iff_ne]
        omega
      have he : endB x y = true := by
        unfold rowV commonV at hr
        unfold endB
        rw [Bool.or_eq_true, beq_iff_eq, beq_iff_eq]
        omega
      unfold bankV
      rw [hn, if_neg (by simp), he, if_pos rfl]
      unfold colV commonV
      omega
    · have b3 : x.wide + y.wide ≤ boxW x y := by unfold colV commonV at hc; unfold boxW; omega
      rw [Int.mul_comm, Int.mul_comm x.wide, Int.mul_comm y.wide] at hf
      obtain ⟨c1, c2, c3⟩ := area_split (by omega) h1 h3 b2.1 b2.2 b3 hf
      refine .inr ?_
      unfold boxH at c2 c3
      unfold boxW at c1
      have e1 : x.top = y.top := by omega
      have e2 : x.high = y.high := by omega
      refine ⟨e1, e2, ?_⟩
      have hn : sideB x y = true := by
        unfold colV commonV at hc
        unfold sideB
        rw [Bool.or_eq_true, beq_iff_eq, beq_iff_eq]
        omega
      unfold bankV
      rw [hn, if_pos rfl]
      unfold rowV commonV
      omega
  · rintro (hs | hs)
    · obtain ⟨e1, e2, _⟩ := stack_box h hs
      refine decide_eq_true ?_
      rw [e1, e2, ← hs.2.1, Int.mul_add]
    · obtain ⟨e1, e2, _⟩ := row_box h hs
      refine decide_eq_true ?_
      rw [e1, e2, ← hs.2.1, Int.add_mul]
theorem pos_at {n : Nat} {m : Nat → Pd} (h : pondsP n m) {i k : Nat} (hi : i < n) (hk : k < n) (hik : i ≠ k) : PosP (m i) (m k) := by
  obtain ⟨⟨_, _, _, ⟨w0, _⟩, ⟨h0, _⟩, _⟩, _, o1⟩ := h.2 i hi
  obtain ⟨⟨_, _, _, ⟨w1, _⟩, ⟨h1, _⟩, _⟩, _, o2⟩ := h.2 k hk
  refine ⟨w0, h0, w1, h1, ?_⟩
  rcases Nat.lt_or_ge i k with hl | hl
  · exact o2 i hl
  · rw [overB_comm]; exact o1 k (by omega)
def setM (m : Nat → Pd) (i : Nat) (x : Pd) : Nat → Pd := fun t => if t = i then x else m t
/-- The list with the joined pond at i and none at k. -/
def joinM (m : Nat → Pd) (i k : Nat) (a : Int) : Nat → Pd := delM (setM m i (boxJ a (m i) (m k))) k
end Go.Proofs.Ytkgnfmdeimaedaa
