/- The walk of the law FnChains. -/
import Derived.Test.YtkgnfmdeimaedaaChainsP
import Derived.Test.YtkgnfmdeimaedaaPondDr
import Derived.Test.YtkgnfmdeimaedaaRInts
import Derived.Deep.Cut
import Derived.Deep.CutBlock
namespace Go.Proofs.Ytkgnfmdeimaedaa
open Go.RowKit
set_option linter.unusedVariables false

theorem free_named {P : Program} {f : FuncId} {args : Array Value} {w : World} {x y : Int} {a b : Bool} (h1 : x = y) (h2 : a = b) (h : Calls P f args w fun e w' => e = .returned (.tuple #[.int .i64 x, .bool a]) ∧ Ext w w') :
    Calls P f args w fun e w' => e = .returned (.tuple #[.int .i64 y, .bool b]) ∧ Ext w w' := by
  subst h1 h2
  exact h
theorem bool_named {P : Program} {f : FuncId} {args : Array Value} {w : World} {a b : Bool} (h2 : a = b) (h : Calls P f args w fun e w' => e = .returned (.bool a) ∧ Ext w w') :
    Calls P f args w fun e w' => e = .returned (.bool b) ∧ Ext w w' := by
  subst h2
  exact h
theorem rPonds_rd (A A' : Option Addr) (n c c' : Nat) (p : Nat → Pd) (w : World) (hc : c ≤ maxLen) (hc' : c' ≤ maxLen) (hnc : n ≤ c) (hnc' : n ≤ c') (hr : Rd w A n 6 (pdF p)) (hr' : Rd w A' n 6 (pdF p)) :
    Calls Try.prog 55 #[.slice A n c, .slice A' n c'] w fun e w' => e = .returned (.bool true) ∧ Ext w w' := by
  unfold maxLen at *
  go_enter Try.func55, Try.ntmps55
  go_wp2
  go_loopw [5] (fun i wr => ∃ k : Nat, i = .int .i64 k ∧ k ≤ n ∧ ∃ y, wr = gw w y) (fun i _ => n - (intOf i).toNat)
  case atStart => exact ⟨0, rfl, Nat.zero_le _, (Ext.refl w).to_gw⟩
  case round =>
    obtain ⟨k, rfl, hk, y, rfl⟩ := hrel
    by_cases hlt : k < n
    · obtain ⟨g, off, rfl, hg, c0, c1, c2, c3, c4, c5⟩ := hr.atPond hlt
      obtain ⟨g', off', rfl, hg', d0, d1, d2, d3, d4, d5⟩ := hr'.atPond hlt
      have i0 : (0 : Int) ≤ (k : Int) := by omega
      have i1 : (k : Int) < (n : Int) := by omega
      go_wp2_with fail
      first | refine wp_region_grow2 (by kernel_rfl) (by kernel_rfl) ?_ | refine wp_region_grow (by kernel_rfl) (by kernel_rfl) ?_
      repeat (go_big_quiet_step (fail))
      refine wpQuiet_nil ?_
      rintro _ ⟨xq, rfl⟩
      go_wp2
      go_roundw
      case rel => exact ⟨k + 1, by go_num, by omega, _, rfl⟩
      case measure => simp [intOf]; omega
    · go_wp2
      go_ret
      exact ⟨rfl, ext_gw _ _⟩
set_option maxRecDepth 100000 in
set_option maxHeartbeats 4000000 in
theorem FnChains_any (w : World) (A : Option Addr) (len c : Nat) (h : Code w A len) : Calls Try.prog 14 #[.slice A len c] w fun e w' => e = .returned (.bool true) ∧ Ext w w' := by
  by_cases hbig : len ≤ 65536
  · have HC := Lib.hid h
    clear h
    go_enter Try.func14, Try.ntmps14
    go_wp2_with fail
    refine (rbig_no A len c _ hbig).mono ?_
    rintro e w1 ⟨rfl, hx⟩
    clear hbig
    go_wp2_with fail
    refine (drawChain_any _ A len c (HC.out.ext hx)).mono ?_
    rintro e w2 ⟨A1, n, c1, p, x, y, rfl, hcm, hnc, hn100, hr, hx2⟩
    replace hx := hx.trans hx2
    clear hx2
    obtain ⟨N, q, ok, N2, q2, ok2, hN, hN2, h1, h2, h3, h4, h5⟩ := chain_law n p x y
    have H1 := Lib.hid h1
    have H2 := Lib.hid h2
    have H3 := Lib.hid h3
    have H4 := Lib.hid h4
    have H5 := Lib.hid h5
    clear h1 h2 h3 h4 h5
    go_wp2_with fail
    refine (H1.out A1 c1 _ hcm hnc hr).mono ?_
    rintro e w3 ⟨v0, rfl, o0, hx2⟩
    replace hr := hr.ext hx2
    replace hx := hx.trans hx2
    clear hx2
    dsimp only
    go_wp2_with fail
    refine (H2.out A1 c1 _ hcm hnc hr).mono ?_
    rintro e w4 ⟨v1, rfl, o1, hx2⟩
    replace hr := hr.ext hx2
    replace o0 := o0.ext hx2
    replace hx := hx.trans hx2
    clear hx2 H1 H2
    dsimp only
    go_wp2_with fail
    refine (rInts_any _ _ N q _ o0 o1).mono ?_
    rintro e w7 ⟨rfl, hx2⟩
    replace hr := hr.ext hx2
    replace o0 := o0.ext hx2
    replace hx := hx.trans hx2
    clear hx2 o1
    obtain ⟨A2, c2, rfl, hcm2, hnc2, hr2⟩ := o0.rd
    clear o0
    dsimp only
    unfold maxLen at hcm2
    go_wp2_with fail
    go_loopw [10] (fun s10 wr => ∃ t : Nat, s10 = .int .i64 ((t : Int) + 1) ∧ (t < N ∨ N = 0 ∧ t = 0) ∧ ∃ z, wr = gw w7 z) (fun s10 _ => N - (intOf s10).toNat)
    case atStart => exact ⟨0, rfl, by omega, (Ext.refl _).to_gw⟩
    case round =>
      obtain ⟨t, rfl, htN, z, rfl⟩ := hrel
      by_cases hlt : t + 1 < N
      · obtain ⟨bk, bk0, bk1, hbk⟩ := H5.out t hlt
        have HBK := Lib.hid hbk
        obtain ⟨g, off, rfl, hg, d0⟩ := hr2.at1 (show t < N by omega)
        obtain ⟨g', off', hA', hg', d1⟩ := hr2.at1 hlt
        injection hA' with hA'
        injection hA' with e1 e2 _
        subst e1 e2
        have i0 : (0 : Int) ≤ (t : Int) := by omega
        have i1 : (t : Int) + 1 < (N : Int) := by omega
        have i2 : (t : Int) < (N : Int) := by omega
        have HCM := Lib.hid hcm
        have HRZ := Lib.hid hr
        clear hbk htN
        go_wp2_with fail
        refine wp_region_grow2 (by kernel_rfl) (by kernel_rfl) ?_
        repeat (go_big_quiet_step (first | (go_at_call 27; exact grow_of (HBK.out A1 c1 _ HCM.out hnc (HRZ.out.ext (ext_gw _ _))))))
        refine wpQuiet_nil ?_
        rintro _ ⟨xq, rfl⟩
        go_wp2
        go_roundw
        case rel => exact ⟨t + 1, by go_num, .inl hlt, _, rfl⟩
        case measure => simp [intOf]; omega
      · have i1 : (N : Int) ≤ (t : Int) + 1 := by omega
        clear htN hlt
        go_wp2_with fail
        refine (H3.out A1 c1 _ hcm hnc (hr.ext (ext_gw _ _))).mono ?_
        rintro e w8 ⟨v3, rfl, o3, hx2⟩
        replace hr := (hr.ext (ext_gw w7 z)).ext hx2
        replace hx := (hx.gw z).trans hx2
        clear hx2 H3 H5
        obtain ⟨A3, c3, rfl, hcm3, hnc3, hr3⟩ := o3.rd
        clear o3 hr3 hr2
        dsimp only
        go_upto_region 15 with fail
        go_cut [118] from 107 (fun s wx => s = .bool false ∧ Rd wx A1 n 6 (pdF p) ∧ Ext w wx)
        case first =>
          cases ok
          · go_wp2
            go_meet
            case rel => exact ⟨rfl, hr, hx⟩
          · obtain ⟨rfl, rfl⟩ := H4.out rfl
            go_wp2
            go_meet
            case rel => exact ⟨rfl, hr, hx⟩
        case rest =>
          clear hr hx H4 hN hN2 hcm2 hnc2 hcm3 hnc3
          obtain ⟨rfl, hr, hx⟩ := hcut
          obtain ⟨fv, hfv⟩ : ∃ z, freeV n p = z := ⟨_, rfl⟩
          obtain ⟨fb, hfb⟩ : ∃ z, pondsB n p = z := ⟨_, rfl⟩
          have HFV := Lib.hid hfv
          have HFB := Lib.hid hfb
          clear hfv hfb
          go_wp2_with fail
          refine (free_named HFV.out HFB.out (implFree_any A1 n c1 p _ hcm hnc hr)).mono ?_
          rintro e w9 ⟨rfl, hx2⟩
          replace hr := hr.ext hx2
          replace hx := hx.trans hx2
          clear hx2
          dsimp only
          go_wp2_with fail
          refine (free_named HFV.out HFB.out (specFree_any A1 n c1 p _ hcm hnc hr)).mono ?_
          rintro e w10 ⟨rfl, hx2⟩
          replace hr := hr.ext hx2
          replace hx := hx.trans hx2
          clear hx2
          dsimp only
          go_wp2_with fail
          refine (bool_named HFB.out (arePonds_any A1 n c1 p _ hcm hnc hr)).mono ?_
          rintro e w11 ⟨rfl, hx2⟩
          replace hx := hx.trans hx2
          clear hx2 hr hcm hnc HFV HFB hn100
          dsimp only
          go_wp2_with fail
          refine (drawJoin_any _ A len c (HC.out.ext hx)).mono ?_
          rintro e w12 ⟨A4, n4, c4, p4, x4, y4, rfl, hcm, hnc, _, hr, hx2⟩
          replace hx := hx.trans hx2
          clear hx2
          obtain ⟨N4, q4, ok4, hN4, h1, h2, h3⟩ := join_law n4 p4 x4 y4
          have H1 := Lib.hid h1
          have H2 := Lib.hid h2
          have H3 := Lib.hid h3
          clear h1 h2 h3
          dsimp only
          go_wp2_with fail
          refine (H1.out A4 c4 _ hcm hnc hr).mono ?_
          rintro e w13 ⟨v4, rfl, o4, hx2⟩
          replace hr := hr.ext hx2
          replace hx := hx.trans hx2
          clear hx2
          dsimp only
          go_wp2_with fail
          refine (H2.out A4 c4 _ hcm hnc hr).mono ?_
          rintro e w14 ⟨v5, rfl, o5, hx2⟩
          replace hr := hr.ext hx2
          replace o4 := o4.ext hx2
          replace hx := hx.trans hx2
          clear hx2 H1 H2
          dsimp only
          go_wp2_with fail
          refine (rPonds_any _ _ N4 q4 _ o4 o5).mono ?_
          rintro e w15 ⟨rfl, hx2⟩
          replace hr := hr.ext hx2
          replace o4 := o4.ext hx2
          replace hx := hx.trans hx2
          clear hx2 o5
          obtain ⟨A5, c5, rfl, hcm5, hnc5, hr5⟩ := o4.rd
          clear o4
          dsimp only
          go_upto_if 172 with fail
          go_cut [] from 173 (fun wx => Ext w wx)
          case first =>
            cases ok4
            · go_wp2
              go_meet
              case rel => exact hx
            · obtain ⟨fr, h1, h2⟩ := H3.out rfl
              have H1 := Lib.hid h1
              have H2 := Lib.hid h2
              clear h1 h2
              go_wp2_with fail
              refine (H1.out A4 c4 _ hcm hnc hr).mono ?_
              rintro e w16 ⟨rfl, hx2⟩
              replace hr5 := hr5.ext hx2
              replace hx := hx.trans hx2
              clear hx2
              dsimp only
              go_wp2_with fail
              refine (H2.out A5 c5 _ hcm5 hnc5 hr5).mono ?_
              rintro e w17 ⟨rfl, hx2⟩
              replace hx := hx.trans hx2
              clear hx2
              dsimp only
              go_wp2
              go_meet
              case rel => exact hx
          case rest =>
            clear hx hr hr5 H3 hN4 hcm hnc hcm5 hnc5
            have hx := hcut
            go_wp2_with fail
            refine (drawCut_any _ A len c (HC.out.ext hx)).mono ?_
            rintro e w18 ⟨A6, n6, c6, p6, x6, y6, rfl, hcm, hnc, _, hr, hx2⟩
            replace hx := hx.trans hx2
            clear hx2
            obtain ⟨N6, q6, nid, ok6, hN6, h1, h2, h3⟩ := cut_law n6 p6 x6 y6
            have H1 := Lib.hid h1
            have H2 := Lib.hid h2
            have H3 := Lib.hid h3
            clear h1 h2 h3
            dsimp only
            go_wp2_with fail
            refine (H1.out A6 c6 _ hcm hnc hr).mono ?_
            rintro e w19 ⟨v6, rfl, o6, hx2⟩
            replace hr := hr.ext hx2
            replace hx := hx.trans hx2
            clear hx2
            dsimp only
            go_wp2_with fail
            refine (H2.out A6 c6 _ hcm hnc hr).mono ?_
            rintro e w20 ⟨v7, rfl, o7, hx2⟩
            replace hr := hr.ext hx2
            replace o6 := o6.ext hx2
            replace hx := hx.trans hx2
            clear hx2 H1 H2
            dsimp only
            go_wp2_with fail
            refine (rPonds_any _ _ N6 q6 _ o6 o7).mono ?_
            rintro e w21 ⟨rfl, hx2⟩
            replace hr := hr.ext hx2
            replace o6 := o6.ext hx2
            replace hx := hx.trans hx2
            clear hx2 o7
            obtain ⟨A7, c7, rfl, hcm7, hnc7, hr7⟩ := o6.rd
            clear o6
            dsimp only
            cases ok6
            · go_wp2
              go_ret
              exact ⟨rfl, hx⟩
            · obtain ⟨bk, bk0, bk1, h1, h2⟩ := H3.out rfl
              have H1 := Lib.hid h1
              have H2 := Lib.hid h2
              clear h1 h2 H3
              go_wp2_with fail
              refine (H1.out A7 c7 _ hcm7 hnc7 hr7).mono ?_
              rintro e w22 ⟨rfl, hx2⟩
              replace hr := hr.ext hx2
              replace hr7 := hr7.ext hx2
              replace hx := hx.trans hx2
              clear hx2
              dsimp only
              go_wp2_with fail
              refine (H2.out A7 c7 _ hcm7 hnc7 hr7).mono ?_
              rintro e w23 ⟨v8, rfl, o8, hx2⟩
              replace hr := hr.ext hx2
              replace hx := hx.trans hx2
              clear hx2 H1 H2
              obtain ⟨A8, c8, rfl, hcm8, hnc8, hr8⟩ := o8.rd
              clear o8
              dsimp only
              go_wp2_with fail
              refine (rPonds_rd A8 A6 n6 c8 c6 p6 _ hcm8 hcm hnc8 hnc hr8 hr).mono ?_
              rintro e w24 ⟨rfl, hx2⟩
              replace hx := hx.trans hx2
              clear hx2
              dsimp only
              go_wp2
              go_ret
              exact ⟨rfl, hx⟩
  · go_enter Try.func14, Try.ntmps14
    go_wp2_with fail
    refine (rbig_yes A len c _ (by omega)).mono ?_
    rintro e w1 ⟨rfl, hx⟩
    go_wp2
    go_ret
    exact ⟨rfl, hx⟩
theorem FnChains_walk (w : World) (A : Option Addr) (len c : Nat) (z : Nat → Int) (hl : len ≤ maxLen) (hr : Rd w A len 1 (fun i _ => .int .u8 (z i))) (hz : ∀ i, i < len → 0 ≤ z i ∧ z i ≤ 255) :
    Calls Try.prog 14 #[.slice A len c] w fun e w' => e = .returned (.bool true) ∧ Ext w w' := FnChains_any w A len c ⟨z, hr, hz, hl⟩
end Go.Proofs.Ytkgnfmdeimaedaa
