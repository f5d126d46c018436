/- The walk of the law FnExactChain. -/
import Derived.Test.YtkgnfmdeimaedaaChainB
import Derived.Test.YtkgnfmdeimaedaaPondM
namespace Go.Proofs.Ytkgnfmdeimaedaa
open Go.RowKit
set_option linter.unusedVariables false

set_option maxHeartbeats 4000000 in
theorem FnExactChain_law (n : Nat) (m : Nat → Pd) (aa bb : Int) (N : Nat) (p : Nat → Int) (ok : Bool) (hN : N ≤ 1000000000) (hs : Hid (∀ A c w, c ≤ maxLen → n ≤ c → Rd w A n 6 (pdF m) → Calls Try.prog 41 #[.slice A n c, .int .i64 aa, .int .i64 bb] w (RetS 3 1 N (mk1 p) ok w))) (hi : Hid (∀ A c w, c ≤ maxLen → n ≤ c → Rd w A n 6 (pdF m) → Calls Try.prog 42 #[.slice A n c, .int .i64 aa, .int .i64 bb] w (RetS 3 1 N (mk1 p) ok w)))
    (A : Option Addr) (c : Nat) (w : World) (hn : n ≤ 1048576) (hr : Rd w A n 6 (pdF m)) :
    Calls Try.prog 12 #[.slice A n c, .int .i64 aa, .int .i64 bb] w fun e w' => e = .returned (.bool true) ∧ Ext w w' := by
  have hx := Ext.refl w
  go_enter Try.func12, Try.ntmps12
  go_wp2_with fail
  refine (szPondS_yes A n c _ hn).mono ?_
  rintro e w1 ⟨rfl, rfl⟩
  go_wp2_with fail
  refine (toPondS_any A n c m _ hn (hr.ext hx)).mono ?_
  rintro e wt ⟨v0, rfl, h0, hx2⟩
  replace hx := hx.trans hx2
  clear hx2
  obtain ⟨A0, c0, rfl, hc0, hnc0, hr0⟩ := h0.rd
  clear h0
  go_wp2_with fail
  refine (hs.out A0 c0 _ hc0 hnc0 hr0).mono ?_
  rintro e w2 ⟨u0, rfl, g0, hx2⟩
  replace hx := hx.trans hx2
  clear hx2 hc0 hnc0 hr0
  go_wp2_with fail
  refine (toPondS_any A n c m _ hn (hr.ext hx)).mono ?_
  rintro e wt ⟨v1, rfl, h1, hx2⟩
  have ap0x := g0.apart h1 (Nat.le_refl _)
  have hb1 := hx.size_le
  replace g0 := g0.ext hx2
  replace hx := hx.trans hx2
  clear hx2
  obtain ⟨A1, c1, rfl, hc1, hnc1, hr1⟩ := h1.rd
  go_wp2_with fail
  refine (hi.out A1 c1 _ hc1 hnc1 hr1).mono ?_
  rintro e w4 ⟨u1, rfl, g1, hx2⟩
  have ap01 := g0.apart g1 (Nat.le_refl _)
  have ap1x := h1.apart' g1 (Nat.le_refl _)
  have hb3 := hx.size_le
  clear hc1 hnc1 hr1
  replace g0 := g0.ext hx2
  replace h1 := h1.ext hx2
  replace hx := hx.trans hx2
  clear hx2
  go_wp2_with fail
  refine (eqIntS_any _ _ N p _ g1 g0).mono ?_
  rintro e w5 ⟨rfl, hx2⟩
  replace g0 := g0.ext hx2
  replace g1 := g1.ext hx2
  replace h1 := h1.ext hx2
  replace hx := hx.trans hx2
  clear hx2
  go_wp2_with fail
  refine (toPondS_any A n c m _ hn (hr.ext hx)).mono ?_
  rintro e wt ⟨v2, rfl, h2, hx2⟩
  replace g0 := g0.ext hx2
  replace g1 := g1.ext hx2
  replace h1 := h1.ext hx2
  replace hx := hx.trans hx2
  clear hx2
  go_wp2_with fail
  refine (eqPondS_any _ _ n m _ h1 h2).mono ?_
  rintro e w6 ⟨rfl, hx2⟩
  clear h2
  replace g0 := g0.ext hx2
  replace g1 := g1.ext hx2
  replace h1 := h1.ext hx2
  replace hx := hx.trans hx2
  clear hx2
  go_wp2_with fail
  refine (markPondS_any _ n _ _ h1 (by omega)).mono ?_
  rintro e w7 ⟨rfl, hm1, hg⟩
  replace g0 := g0.kept hg ap0x
  replace g1 := g1.kept hg ap1x
  replace hx := h1.ext_of hx hb1 hg
  clear h1 hm1 hg ap0x ap1x hb1
  go_wp2_with fail
  refine (eqIntS_any _ _ N p _ g1 g0).mono ?_
  rintro e w8 ⟨rfl, hx2⟩
  replace g0 := g0.ext hx2
  replace g1 := g1.ext hx2
  replace hx := hx.trans hx2
  clear hx2
  go_wp2_with fail
  refine (markIntS_any _ N _ _ g1 hN).mono ?_
  rintro e w9 ⟨rfl, hm, hg⟩
  replace g0 := g0.kept hg ap01
  replace hx := g1.ext_of hx hb3 hg
  clear g1 hg ap01 hb3
  go_wp2_with fail
  refine (heldIntS_any _ N _ hm hN).mono ?_
  rintro e wh ⟨rfl, hh⟩
  subst hh
  go_wp2_with fail
  refine (toPondS_any A n c m _ hn (hr.ext hx)).mono ?_
  rintro e wt ⟨v3, rfl, h3, hx2⟩
  replace g0 := g0.ext hx2
  replace hm := hm.ext hx2
  replace hx := hx.trans hx2
  clear hx2
  obtain ⟨A3, c3, rfl, hc3, hnc3, hr3⟩ := h3.rd
  clear h3
  go_wp2_with fail
  refine (hi.out A3 c3 _ hc3 hnc3 hr3).mono ?_
  rintro e wa ⟨u2, rfl, g2, hx2⟩
  clear hc3 hnc3 hr3
  replace g0 := g0.ext hx2
  replace hm := hm.ext hx2
  replace hx := hx.trans hx2
  clear hx2
  go_wp2_with fail
  refine (eqIntS_any _ _ N p _ g2 g0).mono ?_
  rintro e wb ⟨rfl, hx2⟩
  clear g0 g2
  replace hm := hm.ext hx2
  replace hx := hx.trans hx2
  clear hx2
  go_wp2_with fail
  refine (heldIntS_any _ N _ hm hN).mono ?_
  rintro e wk ⟨rfl, hh⟩
  subst hh
  go_wp2
  go_ret
  exact ⟨rfl, hx⟩
theorem FnExactChain_walk (w : World) (A : Option Addr) (n c : Nat) (f : Nat → Nat → Value) (aa bb : Int) (hl : n ≤ maxLen) (hr : Rd w A n 6 f) (hk : ∀ i j k, i < n → [true, true, true, true, true, true][j]? = some k → FieldIs k (f i j)) :
    Calls Try.prog 12 #[.slice A n c, .int .i64 aa, .int .i64 bb] w fun e w' => e = .returned (.bool true) ∧ Ext w w' := by
  obtain ⟨m, hm⟩ := pdF_of hk
  replace hr : Rd w A n 6 (pdF m) := hr.congr hm
  clear hk hm
  unfold maxLen at hl
  by_cases hn : n ≤ 1048576
  · obtain ⟨N, p, ok, hN, hs, hi, _⟩ := chain_both n m aa bb
    exact FnExactChain_law n m aa bb N p ok (by omega) (Lib.hid hs) (Lib.hid hi) A c w hn hr
  · go_enter Try.func12, Try.ntmps12
    go_wp2_with fail
    refine (szPondS_no A n c _ (by omega) hl).mono ?_
    rintro e w1 ⟨rfl, rfl⟩
    go_wp2
    go_ret
    exact ⟨rfl, Ext.refl _⟩
end Go.Proofs.Ytkgnfmdeimaedaa
