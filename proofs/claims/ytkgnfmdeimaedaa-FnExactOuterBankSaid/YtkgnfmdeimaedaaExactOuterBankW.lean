/- The walk of the law FnExactOuterBank. -/
import Derived.Test.YtkgnfmdeimaedaaOuter
namespace Go.Proofs.Ytkgnfmdeimaedaa
open Go.RowKit
set_option linter.unusedVariables false

set_option maxHeartbeats 2000000 in
theorem FnExactOuterBank_walk (w : World) (A : Option Addr) (n c : Nat) (f : Nat → Nat → Value) (ii : Int) (hl : n ≤ maxLen) (hr : Rd w A n 6 f) (hk : ∀ i j k, i < n → [true, true, true, true, true, true][j]? = some k → FieldIs k (f i j)) :
    Calls Try.prog 8 #[.slice A n c, .int .i64 ii] w fun e w' => e = .returned (.bool true) ∧ Ext w w' := by
  obtain ⟨m, hm⟩ := pdF_of hk
  replace hr : Rd w A n 6 (pdF m) := hr.congr hm
  clear hk hm
  unfold maxLen at hl
  by_cases hn : n ≤ 1048576
  · go_enter Try.func8, Try.ntmps8
    go_wp2_with fail
    refine (szPondS_yes A n c _ hn).mono ?_
    rintro e w1 ⟨rfl, rfl⟩
    go_wp2_with fail
    refine (toPondS_any A n c m _ hn hr).mono ?_
    rintro e w1 ⟨v0, rfl, h0, hx⟩
    obtain ⟨A0, c0, rfl, hc0, hnc0, hr0⟩ := h0.rd
    clear h0
    go_wp2_with fail
    refine (specOuter_any A0 n c0 m ii _ hc0 hnc0 hr0).mono ?_
    rintro e w2 ⟨rfl, hx2⟩
    replace hx := hx.trans hx2
    clear hx2 hc0 hnc0 hr0
    go_wp2_with fail
    refine (toPondS_any A n c m _ hn (hr.ext hx)).mono ?_
    rintro e w3 ⟨v1, rfl, h1, hx2⟩
    replace hx := hx.trans hx2
    clear hx2
    obtain ⟨A1, c1, rfl, hc1, hnc1, hr1⟩ := h1.rd
    go_wp2_with fail
    refine (implOuter_any A1 n c1 m ii _ hc1 hnc1 hr1).mono ?_
    rintro e w4 ⟨rfl, hx2⟩
    replace hx := hx.trans hx2
    replace h1 := h1.ext hx2
    clear hx2 hc1 hnc1 hr1
    go_wp2_with fail
    refine (toPondS_any A n c m _ hn (hr.ext hx)).mono ?_
    rintro e w5 ⟨v2, rfl, h2, hx2⟩
    replace hx := hx.trans hx2
    replace h1 := h1.ext hx2
    clear hx2
    go_wp2_with fail
    refine (eqPondS_any _ _ n m _ h1 h2).mono ?_
    rintro e w6 ⟨rfl, hx2⟩
    replace hx := hx.trans hx2
    clear hx2 h1 h2
    go_wp2
    go_ret
    exact ⟨rfl, hx⟩
  · go_enter Try.func8, Try.ntmps8
    go_wp2_with fail
    refine (szPondS_no A n c _ (by omega) hl).mono ?_
    rintro e w1 ⟨rfl, rfl⟩
    go_wp2
    go_ret
    exact ⟨rfl, Ext.refl _⟩
end Go.Proofs.Ytkgnfmdeimaedaa
