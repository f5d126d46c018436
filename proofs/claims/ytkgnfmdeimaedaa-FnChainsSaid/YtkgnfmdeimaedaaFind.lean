/- Where a pond is, and what is asked of it: HoldsCubic, BankOf: the contracts. -/
import Derived.Test.YtkgnfmdeimaedaaPondAt
import Derived.Test.YtkgnfmdeimaedaaFree
namespace Go.Proofs.Ytkgnfmdeimaedaa
open Go.RowKit
set_option linter.unusedVariables false

theorem pondAt_is (A : Option Addr) (n c : Nat) (m : Nat → Pd) (id : Int) (w : World) (v : Int) (hc : c ≤ maxLen) (hnc : n ≤ c) (hr : Rd w A n 6 (pdF m)) (hv : findPond n m id = v) :
    Calls Try.prog 64 #[.slice A n c, .int .i64 id] w fun e w' => e = .returned (.int .i64 v) ∧ Ext w w' := by
  rw [← hv]
  exact pondAt_any A n c m id w hc hnc hr
theorem l3Find_is (A : Option Addr) (n c : Nat) (m : Nat → Pd) (id : Int) (w : World) (v : Int) (hc : c ≤ maxLen) (hnc : n ≤ c) (hr : Rd w A n 6 (pdF m)) (hv : findPondV n m id = v) :
    Calls Try.prog 63 #[.slice A n c, .int .i64 id] w fun e w' => e = .returned (.int .i64 v) ∧ Ext w w' := by
  rw [← hv]
  exact specPondFind_any A n c m id w hc hnc hr
theorem small_at {n : Nat} {m : Nat → Pd} (h : pondsP n m) {j : Nat} (hj : j < n) : smallP (m j) := small_of (h.2 j hj).1
noncomputable def fndB (n : Nat) (m : Nat → Pd) (id : Int) : Bool := pondsB n m && decide (0 ≤ findPond n m id)
theorem fndB_off {n : Nat} {m : Nat → Pd} {id : Int} (h : pondsB n m = false) : fndB n m id = false := by unfold fndB; rw [h]; rfl
theorem fndB_not {n : Nat} {m : Nat → Pd} {id : Int} (h : findPond n m id = -1) : fndB n m id = false := by unfold fndB; rw [h]; simp
theorem fndB_yes {n j : Nat} {m : Nat → Pd} {id : Int} (hv : pondsB n m = true) (h : findPond n m id = (j : Int)) : fndB n m id = true := by unfold fndB; rw [hv, h]; simp
theorem fndB_cases (n : Nat) (m : Nat → Pd) (id : Int) : fndB n m id = false ∨ (fndB n m id = true ∧ pondsB n m = true ∧ ∃ j : Nat, findPond n m id = (j : Int) ∧ j < n ∧ (m j).id = id) := by
  cases hv : pondsB n m
  · exact .inl (fndB_off hv)
  · rcases findPond_bd n m id with h | ⟨j, h, h1, h2⟩
    · exact .inl (fndB_not h)
    · exact .inr ⟨fndB_yes hv h, rfl, j, h, h1, h2⟩
end Go.Proofs.Ytkgnfmdeimaedaa
