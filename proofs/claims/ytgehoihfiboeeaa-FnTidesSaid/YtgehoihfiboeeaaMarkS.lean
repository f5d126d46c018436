/- Slices of marks: what they read as, and the contracts of the laws' helpers on them. -/
import Derived.Test.YtgehoihfiboeeaaOwn
import Derived.Test.YtgehoihfiboeeaaRows
import Derived.Test.YtgehoihfiboeeaaMarkOne
namespace Go.Proofs.Ytgehoihfiboeeaa
open Go.RowKit
set_option linter.unusedVariables false

structure Mk where
  t : Int
  h : Int
def mkF (m : Nat → Mk) : Nat → Nat → Value := fun i j => match j with
  | 0 => .int .i64 (m i).t
  | _ => .int .i64 (m i).h
def mkFV (x : Mk) : Value := .agg #[.int .i64 x.t, .int .i64 x.h]
theorem elMark : ElemOk Try.prog 37 77 (.agg #[.int .i64 0, .int .i64 0]) 2 16 := ⟨Try.underlying37, info_parts (by kernel_rfl), rfl, by decide, by decide⟩
theorem Rd.atMark {w : World} {A : Option Addr} {n i : Nat} {m : Nat → Mk} (h : Rd w A n 2 (mkF m)) (hi : i < n) :
    ∃ g off, A = some ⟨g, off, none⟩ ∧ g < w.heap.size ∧ w.cell? ⟨g, off + i * 2, none⟩ = some (.int .i64 (m i).t) ∧ w.cell? ⟨g, off + i * 2 + 1, none⟩ = some (.int .i64 (m i).h) := by
  obtain ⟨g, off, hA, hg, hc⟩ := h (by omega)
  exact ⟨g, off, hA, hg, hc i 0 hi (by omega), hc i 1 hi (by omega)⟩
theorem mkF_one (m : Nat → Mk) (i j : Nat) (hj : j < 2) : (mkF m i j).oneCell' = true := by
  match j, hj with
  | 0, _ => rfl
  | 1, _ => rfl
/-- What came in reads as such a list. -/
theorem mkF_of {n : Nat} {f : Nat → Nat → Value} (h : ∀ i j k, i < n → [true, true][j]? = some k → FieldIs k (f i j)) : ∃ m : Nat → Mk, ∀ i j, i < n → j < 2 → mkF m i j = f i j := by
  have hx : ∀ i, ∃ x : Mk, i < n → ∀ j, j < 2 → mkF (fun _ => x) i j = f i j := by
    intro i
    by_cases hi : i < n
    · obtain ⟨x, hx⟩ : ∃ x : Mk, ∀ j, j < 2 → mkF (fun _ => x) i j = f i j := by
        have h1 := fun j k hk => h i j k hi hk
        clear h
        obtain ⟨q0, e0, _⟩ := h1 0 true rfl
        obtain ⟨q1, e1, _⟩ := h1 1 true rfl
        refine ⟨⟨q0, q1⟩, fun j hj => ?_⟩
        match j, hj with
        | 0, _ => exact e0.symm
        | 1, _ => exact e1.symm
      exact ⟨x, fun _ => hx⟩
    · exact ⟨⟨0, 0⟩, fun h => absurd h hi⟩
  exact ⟨fun i => (hx i).choose, fun i j hi hj => (hx i).choose_spec hi j hj⟩

end Go.Proofs.Ytgehoihfiboeeaa
