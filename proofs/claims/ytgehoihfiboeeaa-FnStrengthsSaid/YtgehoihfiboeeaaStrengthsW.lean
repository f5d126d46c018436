/- The walk of the law FnStrengths. -/
import Derived.Test.YtgehoihfiboeeaaStrengthsP
import Derived.Test.YtgehoihfiboeeaaStronger
import Derived.Test.YtgehoihfiboeeaaDrawB
import Derived.Deep.Cut
namespace Go.Proofs.Ytgehoihfiboeeaa
open Go.RowKit
set_option linter.unusedVariables false

theorem strong_both (a b c d : Int) : ∃ (s t ok : Bool), (∀ w, Calls Try.prog 15 #[.agg #[.int .i64 a, .int .i64 b], .agg #[.int .i64 c, .int .i64 d]] w fun e w' => e = .returned (.tuple #[.bool s, .bool ok]) ∧ Ext w w') ∧
    (∀ w, Calls Try.prog 15 #[.agg #[.int .i64 c, .int .i64 d], .agg #[.int .i64 a, .int .i64 b]] w fun e w' => e = .returned (.tuple #[.bool t, .bool ok]) ∧ Ext w w') ∧
    (∀ w, Calls Try.prog 16 #[.agg #[.int .i64 a, .int .i64 b], .agg #[.int .i64 c, .int .i64 d]] w fun e w' => e = .returned (.tuple #[.bool s, .bool ok]) ∧ Ext w w') ∧ (s && t) = false := by
  by_cases h : strongP a b c d
  · have h' : strongP c d a b := ⟨h.2.1, h.1, h.2.2.2, h.2.2.1⟩
    refine ⟨_, _, _, fun w => implStronger_yes a b c d w h, fun w => implStronger_yes c d a b w h', fun w => specStronger_yes a b c d w h, ?_⟩
    unfold strongB
    by_cases h1 : d * a < b * c
    · have h2 : ¬ b * c < d * a := by omega
      rw [decide_eq_false h2, Bool.and_false]
    · rw [decide_eq_false h1, Bool.false_and]
  · have h' : ¬ strongP c d a b := fun k => h ⟨k.2.1, k.1, k.2.2.2, k.2.2.1⟩
    exact ⟨_, _, _, fun w => implStronger_no a b c d w h, fun w => implStronger_no c d a b w h', fun w => specStronger_no a b c d w h, rfl⟩
theorem vBig_no (A : Option Addr) (n c : Nat) (w : World) (h : n ≤ 65536) : Calls Try.prog 6 #[.slice A n c] w fun e w' => e = .returned (.bool false) ∧ Ext w w' := by
  go_enter Try.func6, Try.ntmps6
  go_wp2
  go_ret
  exact ⟨by first | rfl | (congr 2; simp; omega), by repeat (with_reducible first | exact Ext.refl _ | refine Ext.setCell ?_ (by first | (simp; done) | (simp; omega)) _ | refine Ext.alloc ?_ _ | refine Ext.gw ?_ _ | refine Ext.drew ?_)⟩
theorem vBig_yes (A : Option Addr) (n c : Nat) (w : World) (h : 65536 < n) : Calls Try.prog 6 #[.slice A n c] w fun e w' => e = .returned (.bool true) ∧ Ext w w' := by
  go_enter Try.func6, Try.ntmps6
  go_wp2
  go_ret
  exact ⟨by first | rfl | (congr 2; simp; omega), by repeat (with_reducible first | exact Ext.refl _ | refine Ext.setCell ?_ (by first | (simp; done) | (simp; omega)) _ | refine Ext.alloc ?_ _ | refine Ext.gw ?_ _ | refine Ext.drew ?_)⟩
set_option maxRecDepth 100000 in
set_option maxHeartbeats 4000000 in
theorem FnStrengths_any (w : World) (A : Option Addr) (len c : Nat) (h : Code w A len) : Calls Try.prog 3 #[.slice A len c] w fun e w' => e = .returned (.bool true) ∧ Ext w w' := by
  by_cases hbig : len ≤ 65536
  · have HC := Lib.hid h
    clear h
    go_enter Try.func3, Try.ntmps3
    go_wp2_with fail
    refine (vBig_no A len c _ hbig).mono ?_
    rintro e w1 ⟨rfl, hx⟩
    obtain ⟨y1, rfl⟩ := hx.to_gw
    clear hx hbig
    go_wp2_with fail
    refine (drawLose_any _ A len c (HC.out.ext (ext_gw _ _))).mono ?_
    rintro e w2 ⟨a, b, n, d, rfl, hx⟩
    replace hx := Ext.flat hx
    obtain ⟨y2, rfl⟩ := hx.to_gw
    clear hx
    obtain ⟨L, ok, hI, hS, hL⟩ := lose_both a b n d
    have HI := Lib.hid hI
    have HS := Lib.hid hS
    have HL := Lib.hid hL
    clear hI hS hL
    go_upto_if 74 with (first | (go_at_call 8; refine (HI.out _).mono ?_; rintro e w1 ⟨rfl, hx⟩; (try replace hx := Ext.flat hx); obtain ⟨x, rfl⟩ := hx.to_gw; clear hx) | (go_at_call 9; refine (HS.out _).mono ?_; rintro e w1 ⟨rfl, hx⟩; (try replace hx := Ext.flat hx); obtain ⟨x, rfl⟩ := hx.to_gw; clear hx))
    go_cut [] from 10 (fun wx => ∃ y, wx = gw w y)
    case first =>
      as_aux_lemma =>
        cases ok
        · go_wp2
          go_meet
          case rel => exact Ext.to_gw (by repeat (with_reducible first | exact Ext.refl _ | refine Ext.setCell ?_ (by first | (simp; done) | (simp; omega)) _ | refine Ext.alloc ?_ _ | refine Ext.gw ?_ _ | refine Ext.drew ?_))
        · obtain ⟨hl, hW, hz⟩ := HL.out rfl
          have ha : (0 ≤ a ∧ a ≤ 1000000) ∧ (0 ≤ b ∧ b ≤ 1000000) := hW.1
          have hn : (1 ≤ n ∧ n ≤ d) ∧ d ≤ 1000 := hW.2
          obtain ⟨l0, s1, hge, hpos⟩ := lose_law a b n d hW hz
          rw [← hl] at l0 s1 hge hpos
          obtain ⟨s1, b1, b2⟩ := s1
          have HK := Lib.hid fun w => implStrength_yes (a - L) b w s1
          clear hl hW hz HI HS HL
          generalize redN b (a - L + b) = p at *
          generalize redD b (a - L + b) = q at *
          by_cases hp : 0 < L
          · obtain ⟨⟨s2, b3, b4⟩, hlt⟩ := hpos hp
            have HK2 := Lib.hid fun w => implStrength_yes (a - L + 1) b w s2
            clear hpos s1 s2
            generalize redN b (a - L + 1 + b) = u at *
            generalize redD b (a - L + 1 + b) = v at *
            go_wp2_with fail
            refine (HK.out _).mono ?_
            rintro e w1 ⟨rfl, hx⟩
            (try replace hx := Ext.flat hx)
            obtain ⟨x, rfl⟩ := hx.to_gw
            clear hx
            go_wp2_with fail
            refine (HK2.out _).mono ?_
            rintro e w1 ⟨rfl, hx⟩
            (try replace hx := Ext.flat hx)
            obtain ⟨x, rfl⟩ := hx.to_gw
            clear hx
            go_wp2
            go_meet
            case rel => exact Ext.to_gw (by repeat (with_reducible first | exact Ext.refl _ | refine Ext.setCell ?_ (by first | (simp; done) | (simp; omega)) _ | refine Ext.alloc ?_ _ | refine Ext.gw ?_ _ | refine Ext.drew ?_))
          · clear hpos s1
            go_wp2_with fail
            refine (HK.out _).mono ?_
            rintro e w1 ⟨rfl, hx⟩
            (try replace hx := Ext.flat hx)
            obtain ⟨x, rfl⟩ := hx.to_gw
            clear hx
            go_wp2
            go_meet
            case rel => exact Ext.to_gw (by repeat (with_reducible first | exact Ext.refl _ | refine Ext.setCell ?_ (by first | (simp; done) | (simp; omega)) _ | refine Ext.alloc ?_ _ | refine Ext.gw ?_ _ | refine Ext.drew ?_))
    case rest =>
      as_aux_lemma =>
        clear HI HS HL
        obtain ⟨y3, rfl⟩ := hcut
        go_wp2_with fail
        refine (drawAdd_any _ A len c (HC.out.ext (ext_gw _ _))).mono ?_
        rintro e w2 ⟨a, b, n, d, rfl, hx⟩
        replace hx := Ext.flat hx
        obtain ⟨y4, rfl⟩ := hx.to_gw
        clear hx
        obtain ⟨L, ok, hI, hS, hL⟩ := add_both a b n d
        have HI := Lib.hid hI
        have HS := Lib.hid hS
        have HL := Lib.hid hL
        clear hI hS hL
        go_upto_if 152 with (first | (go_at_call 12; refine (HI.out _).mono ?_; rintro e w1 ⟨rfl, hx⟩; (try replace hx := Ext.flat hx); obtain ⟨x, rfl⟩ := hx.to_gw; clear hx) | (go_at_call 13; refine (HS.out _).mono ?_; rintro e w1 ⟨rfl, hx⟩; (try replace hx := Ext.flat hx); obtain ⟨x, rfl⟩ := hx.to_gw; clear hx))
        go_cut [] from 23 (fun wx => ∃ y, wx = gw w y)
        case first =>
          as_aux_lemma =>
            cases ok
            · go_wp2
              go_meet
              case rel => exact Ext.to_gw (by repeat (with_reducible first | exact Ext.refl _ | refine Ext.setCell ?_ (by first | (simp; done) | (simp; omega)) _ | refine Ext.alloc ?_ _ | refine Ext.gw ?_ _ | refine Ext.drew ?_))
            · obtain ⟨hl, hW, hz, hm⟩ := HL.out rfl
              have ha : (0 ≤ a ∧ a ≤ 1000000) ∧ (0 ≤ b ∧ b ≤ 1000000) := hW.1
              have hn : (1 ≤ n ∧ n ≤ d) ∧ d ≤ 1000 := hW.2
              obtain ⟨l0, s1, hge, hpos⟩ := add_law a b n d hW hz hm
              rw [← hl] at l0 s1 hge hpos hm
              obtain ⟨s1, b1, b2⟩ := s1
              have HK := Lib.hid fun w => implStrength_yes (a + L) b w s1
              clear hl hW hz HI HS HL
              generalize redN b (a + L + b) = p at *
              generalize redD b (a + L + b) = q at *
              by_cases hp : 0 < L
              · by_cases s2 : strengthP (a + L - 1) b
                · obtain ⟨⟨_, b3, b4⟩, hlt⟩ := hpos hp s2
                  have HK2 := Lib.hid fun w => implStrength_yes (a + L - 1) b w s2
                  clear hpos s1 s2
                  generalize redN b (a + L - 1 + b) = u at *
                  generalize redD b (a + L - 1 + b) = v at *
                  go_wp2_with fail
                  refine (HK.out _).mono ?_
                  rintro e w1 ⟨rfl, hx⟩
                  (try replace hx := Ext.flat hx)
                  obtain ⟨x, rfl⟩ := hx.to_gw
                  clear hx
                  go_wp2_with fail
                  refine (HK2.out _).mono ?_
                  rintro e w1 ⟨rfl, hx⟩
                  (try replace hx := Ext.flat hx)
                  obtain ⟨x, rfl⟩ := hx.to_gw
                  clear hx
                  go_wp2
                  go_meet
                  case rel => exact Ext.to_gw (by repeat (with_reducible first | exact Ext.refl _ | refine Ext.setCell ?_ (by first | (simp; done) | (simp; omega)) _ | refine Ext.alloc ?_ _ | refine Ext.gw ?_ _ | refine Ext.drew ?_))
                · have HK2 := Lib.hid fun w => implStrength_no (a + L - 1) b w s2
                  clear hpos s1 s2
                  go_wp2_with fail
                  refine (HK.out _).mono ?_
                  rintro e w1 ⟨rfl, hx⟩
                  (try replace hx := Ext.flat hx)
                  obtain ⟨x, rfl⟩ := hx.to_gw
                  clear hx
                  go_wp2_with fail
                  refine (HK2.out _).mono ?_
                  rintro e w1 ⟨rfl, hx⟩
                  (try replace hx := Ext.flat hx)
                  obtain ⟨x, rfl⟩ := hx.to_gw
                  clear hx
                  go_wp2
                  go_meet
                  case rel => exact Ext.to_gw (by repeat (with_reducible first | exact Ext.refl _ | refine Ext.setCell ?_ (by first | (simp; done) | (simp; omega)) _ | refine Ext.alloc ?_ _ | refine Ext.gw ?_ _ | refine Ext.drew ?_))
              · clear hpos s1
                go_wp2_with fail
                refine (HK.out _).mono ?_
                rintro e w1 ⟨rfl, hx⟩
                (try replace hx := Ext.flat hx)
                obtain ⟨x, rfl⟩ := hx.to_gw
                clear hx
                go_wp2
                go_meet
                case rel => exact Ext.to_gw (by repeat (with_reducible first | exact Ext.refl _ | refine Ext.setCell ?_ (by first | (simp; done) | (simp; omega)) _ | refine Ext.alloc ?_ _ | refine Ext.gw ?_ _ | refine Ext.drew ?_))
        case rest =>
          as_aux_lemma =>
            clear HI HS HL
            obtain ⟨y5, rfl⟩ := hcut
            go_wp2_with fail
            refine (drawStronger_any _ A len c (HC.out.ext (ext_gw _ _))).mono ?_
            rintro e w2 ⟨a, b, n, d, rfl, hx⟩
            replace hx := Ext.flat hx
            obtain ⟨y6, rfl⟩ := hx.to_gw
            clear hx
            obtain ⟨s, t, ok, hI, hJ, hS, hst⟩ := strong_both a b n d
            have HI := Lib.hid hI
            have HJ := Lib.hid hJ
            have HS := Lib.hid hS
            have HST := Lib.hid hst
            clear hI hJ hS hst
            go_wp2_with fail
            refine (HI.out _).mono ?_
            rintro e w1 ⟨rfl, hx⟩
            (try replace hx := Ext.flat hx)
            obtain ⟨x, rfl⟩ := hx.to_gw
            clear hx
            go_wp2_with fail
            refine (HJ.out _).mono ?_
            rintro e w1 ⟨rfl, hx⟩
            (try replace hx := Ext.flat hx)
            obtain ⟨x, rfl⟩ := hx.to_gw
            clear hx
            go_upto_region 33 with (go_at_call 16; refine (HS.out _).mono ?_; rintro e w1 ⟨rfl, hx⟩; (try replace hx := Ext.flat hx); obtain ⟨x, rfl⟩ := hx.to_gw; clear hx)
            go_cut [242] from 224 (fun s242 wx => s242 = .bool false ∧ ∃ y, wx = gw w y)
            case first =>
              as_aux_lemma =>
                have hst := HST.out
                cases s <;> cases t <;> cases ok <;> first | (cases hst; done) | (clear hst; go_wp2; go_meet; case rel => exact ⟨rfl, Ext.to_gw (by repeat (with_reducible first | exact Ext.refl _ | refine Ext.setCell ?_ (by first | (simp; done) | (simp; omega)) _ | refine Ext.alloc ?_ _ | refine Ext.gw ?_ _ | refine Ext.drew ?_))⟩)
            case rest =>
              as_aux_lemma =>
                clear HI HJ HS HST
                obtain ⟨rfl, y7, rfl⟩ := hcut
                go_wp2_with fail
                refine (drawStrength_any _ A len c (HC.out.ext (ext_gw _ _))).mono ?_
                rintro e w2 ⟨a, b, rfl, hx⟩
                replace hx := Ext.flat hx
                obtain ⟨y8, rfl⟩ := hx.to_gw
                clear hx
                obtain ⟨p, q, ok, hI, hS⟩ := str_both a b
                have HI := Lib.hid hI
                have HS := Lib.hid hS
                clear hI hS
                cases ok
                all_goals
                  go_wp2_with (first | (go_at_call 10; refine (HI.out _).mono ?_; rintro e w1 ⟨rfl, hx⟩; (try replace hx := Ext.flat hx); obtain ⟨x, rfl⟩ := hx.to_gw; clear hx) | (go_at_call 18; refine (HS.out _).mono ?_; rintro e w1 ⟨rfl, hx⟩; (try replace hx := Ext.flat hx); obtain ⟨x, rfl⟩ := hx.to_gw; clear hx))
                  go_ret
                  exact ⟨rfl, by repeat (with_reducible first | exact Ext.refl _ | refine Ext.setCell ?_ (by first | (simp; done) | (simp; omega)) _ | refine Ext.alloc ?_ _ | refine Ext.gw ?_ _ | refine Ext.drew ?_)⟩
  · go_enter Try.func3, Try.ntmps3
    go_wp2_with fail
    refine (vBig_yes A len c _ (by omega)).mono ?_
    rintro e w1 ⟨rfl, hx⟩
    go_wp2
    go_ret
    exact ⟨rfl, hx⟩
theorem FnStrengths_walk (w : World) (A : Option Addr) (len c : Nat) (z : Nat → Int) (hl : len ≤ maxLen) (hr : Rd w A len 1 (fun i _ => .int .u8 (z i))) (hz : ∀ i, i < len → 0 ≤ z i ∧ z i ≤ 255) :
    Calls Try.prog 3 #[.slice A len c] w fun e w' => e = .returned (.bool true) ∧ Ext w w' := FnStrengths_any w A len c ⟨z, hr, hz, hl⟩
end Go.Proofs.Ytgehoihfiboeeaa
