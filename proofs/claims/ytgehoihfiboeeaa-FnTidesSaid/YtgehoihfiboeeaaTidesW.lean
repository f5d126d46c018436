/- The walk of the law FnTides. -/
import Derived.Test.YtgehoihfiboeeaaTidesP
import Derived.Test.YtgehoihfiboeeaaTideD
import Derived.Test.YtgehoihfiboeeaaVInts
import Derived.Deep.Cut
namespace Go.Proofs.Ytgehoihfiboeeaa
open Go.RowKit
set_option linter.unusedVariables false

theorem sluice_both (n : Nat) (m : Nat → Mk) (s p : Int) : ∃ (N M : Nat) (li lo : List Int) (v : Int) (ok fine : Bool),
    (∀ A c w, c ≤ maxLen → n ≤ c → Rd w A n 2 (mkF m) → Calls Try.prog 20 #[.slice A n c, .int .i64 s, .int .i64 p] w (RetS 3 1 N (mkL li) ok w)) ∧
    (∀ A c w, c ≤ maxLen → n ≤ c → Rd w A n 2 (mkF m) → Calls Try.prog 21 #[.slice A n c, .int .i64 s, .int .i64 p] w (RetS 3 1 N (mkL li) ok w)) ∧
    (∀ A c w, c ≤ maxLen → n ≤ c → Rd w A n 2 (mkF m) → Calls Try.prog 25 #[.slice A n c, .int .i64 s, .int .i64 p] w (RetS 3 1 M (mkL lo) ok w)) ∧
    (∀ A c w, c ≤ maxLen → n ≤ c → Rd w A n 2 (mkF m) → Calls Try.prog 26 #[.slice A n c, .int .i64 s, .int .i64 p] w (RetS 3 1 M (mkL lo) ok w)) ∧
    (∀ A c w, c ≤ maxLen → n ≤ c → Rd w A n 2 (mkF m) → Calls Try.prog 27 #[.slice A n c, .int .i64 s, .int .i64 p] w fun e w' => e = .returned (.tuple #[.int .i64 v, .bool fine]) ∧ Ext w w') ∧
    (∀ A c w, c ≤ maxLen → n ≤ c → Rd w A n 2 (mkF m) → Calls Try.prog 28 #[.slice A n c, .int .i64 s, .int .i64 p] w fun e w' => e = .returned (.tuple #[.int .i64 v, .bool fine]) ∧ Ext w w') ∧
    N = li.length ∧ M = lo.length ∧ fine = (ok && decide (0 < N)) ∧ ApartL li lo ∧ N ≤ 3000 ∧ M ≤ 3000 := by
  cases hv : askB n m s p
  · refine ⟨0, 0, [], [], firstV n m s p, false, firstC n m s p, fun A c w h1 h2 h3 => implMinutesIn_no A n c m s p w h1 h2 h3 hv, fun A c w h1 h2 h3 => specMinutesIn_no A n c m s p w h1 h2 h3 hv, fun A c w h1 h2 h3 => implMinutesOut_no A n c m s p w h1 h2 h3 hv, fun A c w h1 h2 h3 => specMinutesOut_no A n c m s p w h1 h2 h3 hv,
      fun A c w h1 h2 h3 => implFirst_any A n c m s p w h1 h2 h3, fun A c w h1 h2 h3 => specFirst_any A n c m s p w h1 h2 h3, rfl, rfl, ?_, apart_nil, by omega, by omega⟩
    unfold firstC
    rw [hv]
    rfl
  · refine ⟨_, _, _, _, firstV n m s p, true, firstC n m s p, fun A c w h1 h2 h3 => implMinutesIn_yes A n c m s p w h1 h2 h3 hv, fun A c w h1 h2 h3 => specMinutesIn_yes A n c m s p w h1 h2 h3 hv, fun A c w h1 h2 h3 => implMinutesOut_yes A n c m s p w h1 h2 h3 hv, fun A c w h1 h2 h3 => specMinutesOut_yes A n c m s p w h1 h2 h3 hv,
      fun A c w h1 h2 h3 => implFirst_any A n c m s p w h1 h2 h3, fun A c w h1 h2 h3 => specFirst_any A n c m s p w h1 h2 h3, rfl, rfl, ?_, spans_apart hv, Nat.le_trans (span_len _ 1441) (by omega), Nat.le_trans (span_len _ 1441) (by omega)⟩
    unfold firstC
    rw [hv]
    generalize (spanL _ 1441).length = N
    cases N <;> simp
set_option maxRecDepth 100000 in
set_option maxHeartbeats 2000000 in
theorem FnTides_any (w : World) (A : Option Addr) (len c : Nat) (h : Code w A len) : Calls Try.prog 4 #[.slice A len c] w fun e w' => e = .returned (.bool true) ∧ Ext w w' := by
  by_cases hbig : len ≤ 65536
  · have HC := Lib.hid h
    clear h
    go_enter Try.func4, Try.ntmps4
    go_wp2_with fail
    refine (vbig_no A len c _ hbig).mono ?_
    rintro e w1 ⟨rfl, hx⟩
    clear hbig
    go_wp2_with fail
    refine (drawMinutes_any _ A len c (HC.out.ext hx)).mono ?_
    rintro e w2 ⟨A1, n, c1, m, s, p, rfl, hcm, hnc, _, hr, hx2⟩
    replace hx := hx.trans hx2
    clear hx2
    obtain ⟨N, M, li, lo, v, ok, fine, h1, h2, h3, h4, h5, h6, hN, hM, hfine, hap, hN3, hM3⟩ := sluice_both n m s p
    have H1 := Lib.hid h1
    have H2 := Lib.hid h2
    have H3 := Lib.hid h3
    have H4 := Lib.hid h4
    have H5 := Lib.hid h5
    have H6 := Lib.hid h6
    have HN := Lib.hid hN
    have HM := Lib.hid hM
    have HF := Lib.hid hfine
    have HA := Lib.hid hap
    clear h1 h2 h3 h4 h5 h6 hN hM hfine hap
    go_wp2_with fail
    refine (H1.out A1 c1 _ hcm hnc hr).mono ?_
    rintro e w3 ⟨v0, rfl, o0, hx2⟩
    replace hr := hr.ext hx2
    replace hx := hx.trans hx2
    clear hx2
    go_wp2_with fail
    refine (H2.out A1 c1 _ hcm hnc hr).mono ?_
    rintro e w4 ⟨v1, rfl, o1, hx2⟩
    replace hr := hr.ext hx2
    replace o0 := o0.ext hx2
    replace hx := hx.trans hx2
    clear hx2 H1 H2
    go_wp2_with fail
    refine (vInts_any _ _ N (fun i => li.getD i 0) _ o0 o1).mono ?_
    rintro e w5 ⟨rfl, hx2⟩
    replace hr := hr.ext hx2
    replace o0 := o0.ext hx2
    replace hx := hx.trans hx2
    clear hx2 o1
    go_wp2_with fail
    refine (isTide_any A1 n c1 m _ hcm hnc hr).mono ?_
    rintro e w6 ⟨rfl, hx2⟩
    replace hr := hr.ext hx2
    replace o0 := o0.ext hx2
    replace hx := hx.trans hx2
    clear hx2
    go_wp2_with fail
    refine (specIsTide_any A1 n c1 m _ hcm hnc hr).mono ?_
    rintro e w7 ⟨rfl, hx2⟩
    replace hr := hr.ext hx2
    replace o0 := o0.ext hx2
    replace hx := hx.trans hx2
    clear hx2
    generalize tideB n m = tb at *
    go_wp2_with fail
    refine (H3.out A1 c1 _ hcm hnc hr).mono ?_
    rintro e w8 ⟨v2, rfl, o2, hx2⟩
    replace hr := hr.ext hx2
    replace o0 := o0.ext hx2
    replace hx := hx.trans hx2
    clear hx2
    go_wp2_with fail
    refine (H4.out A1 c1 _ hcm hnc hr).mono ?_
    rintro e w9 ⟨v3, rfl, o3, hx2⟩
    replace hr := hr.ext hx2
    replace o0 := o0.ext hx2
    replace o2 := o2.ext hx2
    replace hx := hx.trans hx2
    clear hx2 H3 H4
    go_wp2_with fail
    refine (vInts_any _ _ M (fun i => lo.getD i 0) _ o2 o3).mono ?_
    rintro e w10 ⟨rfl, hx2⟩
    replace hr := hr.ext hx2
    replace o0 := o0.ext hx2
    replace o2 := o2.ext hx2
    replace hx := hx.trans hx2
    clear hx2 o3
    go_wp2_with fail
    refine (H5.out A1 c1 _ hcm hnc hr).mono ?_
    rintro e w11 ⟨rfl, hx2⟩
    replace hr := hr.ext hx2
    replace o0 := o0.ext hx2
    replace o2 := o2.ext hx2
    replace hx := hx.trans hx2
    clear hx2
    go_wp2_with fail
    refine (H6.out A1 c1 _ hcm hnc hr).mono ?_
    rintro e w12 ⟨rfl, hx2⟩
    replace o0 := o0.ext hx2
    replace o2 := o2.ext hx2
    replace hx := hx.trans hx2
    clear hx2 H5 H6 hr
    obtain ⟨A2, c2, rfl, hcm2, hnc2, hr2⟩ := o0.rd
    obtain ⟨A3, c3, rfl, hcm3, hnc3, hr3⟩ := o2.rd
    clear o0 o2
    unfold maxLen at hcm2 hcm3
    go_upto_region 14 with fail
    go_cut [128] from 111 (fun s wx => s = .bool false ∧ wx = w12)
    case first =>
      as_aux_lemma =>
        have hf := HF.out
        cases ok
        · obtain rfl : fine = false := hf
          go_wp2
          go_meet
          case rel => exact ⟨rfl, rfl⟩
        · by_cases hn : 0 < N
          · have hn2 : (0 : Int) < (N : Int) := by omega
            obtain rfl : fine = true := by rw [hf, decide_eq_true hn]; rfl
            clear hf
            go_wp2
            go_meet
            case rel => exact ⟨rfl, rfl⟩
          · obtain rfl : N = 0 := by omega
            obtain rfl : fine = false := by rw [hf]; rfl
            clear hf
            go_wp2
            go_meet
            case rel => exact ⟨rfl, rfl⟩
    case rest =>
      as_aux_lemma =>
        obtain ⟨rfl, rfl⟩ := hcut
        clear HF
        go_wp2_with fail
        go_loopw [18, 19] (fun i _ wr => ∃ j : Nat, i = .int .i64 ((j : Int) + 1) ∧ j ≤ N + 1 ∧ Hid (∃ a, j = 2 * a) ∧ ∃ y, wr = gw wc y) (fun i _ _ => N + 3 - (intOf i).toNat)
        case atStart => exact ⟨0, rfl, Nat.zero_le _, Lib.hid ⟨0, rfl⟩, (Ext.refl _).to_gw⟩
        case round =>
          obtain ⟨j, rfl, hj, HJ, y, rfl⟩ := hrel
          by_cases hlt : j + 1 < N
          · obtain ⟨g, off, hA2, hg, d0⟩ := Rd.at1 (p := fun i => li.getD i 0) hr2 (show j < N by omega)
            obtain ⟨g', off', hA', hg', d1⟩ := Rd.at1 (p := fun i => li.getD i 0) hr2 (show j + 1 < N by omega)
            subst hA2
            injection hA' with hA'
            injection hA' with e1 e2 _
            subst e1 e2
            have hle : li.getD j 0 ≤ li.getD (j + 1) 0 := by
              obtain ⟨a, ha⟩ := HJ.out
              have h3 := HA.out.1 a (by have := HN.out; omega)
              rw [← ha] at h3
              exact h3
            have hao : ∀ b, 2 * b + 1 < M → li.getD j 0 ≤ lo.getD (2 * b + 1) 0 → lo.getD (2 * b) 0 ≤ li.getD (j + 1) 0 → False := by
              intro b hb
              obtain ⟨a, ha⟩ := HJ.out
              have h3 := HA.out.2 a b (by have := HN.out; omega) (by have := HM.out; omega)
              rw [← ha] at h3
              exact h3
            replace d0 : wc.cell? ⟨g, off + j, none⟩ = some (.int .i64 (li.getD j 0)) := d0
            replace d1 : wc.cell? ⟨g, off + (j + 1), none⟩ = some (.int .i64 (li.getD (j + 1) 0)) := d1
            obtain ⟨x, hxx⟩ : ∃ x, li.getD j 0 = x := ⟨_, rfl⟩
            obtain ⟨u, huu⟩ : ∃ u, li.getD (j + 1) 0 = u := ⟨_, rfl⟩
            rw [hxx] at d0 hle hao
            rw [huu] at d1 hle hao
            have HAO := Lib.hid hao
            have i0 : (0 : Int) ≤ (j : Int) := by omega
            have i1 : (j : Int) + 1 < (N : Int) := by omega
            have i2 : (j : Int) < (N : Int) := by omega
            clear hxx huu hao hx hg'
            go_wp2_with fail
            first | refine wp_region_grow2 (by kernel_rfl) (by kernel_rfl) ?_ | refine wp_region_grow (by kernel_rfl) (by kernel_rfl) ?_
            repeat (go_big_quiet_step (fail))
            refine wpQuiet_nil ?_
            rintro _ ⟨xq, rfl⟩
            go_wp2
            go_loopw [19] (fun i wr => ∃ q : Nat, i = .int .i64 ((q : Int) + 1) ∧ q ≤ M + 1 ∧ Hid (∃ b, q = 2 * b) ∧ ∃ y, wr = gw wc y) (fun i _ => M + 3 - (intOf i).toNat)
            case atStart => exact ⟨0, rfl, Nat.zero_le _, Lib.hid ⟨0, rfl⟩, _, rfl⟩
            case round =>
              obtain ⟨q, rfl, hq, HQ, y2, rfl⟩ := hrel
              by_cases hlq : q + 1 < M
              · obtain ⟨g2, off2, hA3, hg2, f0⟩ := Rd.at1 (p := fun i => lo.getD i 0) hr3 (show q < M by omega)
                obtain ⟨g', off', hA', hg', f1⟩ := Rd.at1 (p := fun i => lo.getD i 0) hr3 (show q + 1 < M by omega)
                subst hA3
                injection hA' with hA'
                injection hA' with e1 e2 _
                subst e1 e2
                have hao : x ≤ lo.getD (q + 1) 0 → lo.getD q 0 ≤ u → False := by
                  obtain ⟨b, hb⟩ := HQ.out
                  have h3 := HAO.out b (by omega)
                  rw [← hb] at h3
                  exact h3
                replace f0 : wc.cell? ⟨g2, off2 + q, none⟩ = some (.int .i64 (lo.getD q 0)) := f0
                replace f1 : wc.cell? ⟨g2, off2 + (q + 1), none⟩ = some (.int .i64 (lo.getD (q + 1) 0)) := f1
                obtain ⟨z0, hz0⟩ : ∃ x, lo.getD q 0 = x := ⟨_, rfl⟩
                obtain ⟨z1, hz1⟩ : ∃ u, lo.getD (q + 1) 0 = u := ⟨_, rfl⟩
                rw [hz0] at f0 hao
                rw [hz1] at f1 hao
                have HAP := Lib.hid hao
                have q0 : (0 : Int) ≤ (q : Int) := by omega
                have q1 : (q : Int) + 1 < (M : Int) := by omega
                have q2 : (q : Int) < (M : Int) := by omega
                clear hz0 hz1 hao hg'
                by_cases k1 : x ≤ z1
                · have k2 : u < z0 := by
                    rcases Int.lt_or_le u z0 with h | h
                    · exact h
                    · exact (HAP.out k1 h).elim
                  go_wp2_with fail
                  first | refine wp_region_grow2 (by kernel_rfl) (by kernel_rfl) ?_ | refine wp_region_grow (by kernel_rfl) (by kernel_rfl) ?_
                  repeat (go_big_quiet_step (fail))
                  refine wpQuiet_nil ?_
                  rintro _ ⟨xq, rfl⟩
                  go_wp2
                  go_roundw
                  case rel => exact ⟨q + 2, by first | go_num | (congr 1; omega), by omega, Lib.hid (by obtain ⟨b, hb⟩ := HQ.out; exact ⟨b + 1, by omega⟩), _, rfl⟩
                  case measure => simp [intOf]; omega
                · have k2 : decide (x ≤ z1) = false := decide_eq_false k1
                  have k3 : z1 < x := by omega
                  go_wp2_with fail
                  first | refine wp_region_grow2 (by kernel_rfl) (by kernel_rfl) ?_ | refine wp_region_grow (by kernel_rfl) (by kernel_rfl) ?_
                  repeat (go_big_quiet_step (fail))
                  refine wpQuiet_nil ?_
                  rintro _ ⟨xq, rfl⟩
                  go_wp2
                  go_roundw
                  case rel => exact ⟨q + 2, by first | go_num | (congr 1; omega), by omega, Lib.hid (by obtain ⟨b, hb⟩ := HQ.out; exact ⟨b + 1, by omega⟩), _, rfl⟩
                  case measure => simp [intOf]; omega
              · go_wp2
                go_roundw
                case rel => exact ⟨j + 2, by first | go_num | (congr 1; omega), by omega, Lib.hid (by obtain ⟨b, hb⟩ := HJ.out; exact ⟨b + 1, by omega⟩), _, rfl⟩
                case measure => simp [intOf]; omega
          · clear hr2 hr3 HN HM HA
            have hx3 : Ext w (gw wc y) := hx.gw y
            go_wp2_with fail
            refine (drawTideAt_any _ A len c (HC.out.ext hx3)).mono ?_
            rintro e w13 ⟨A4, n4, c4, m4, t4, rfl, hcm4, hnc4, _, hr4, hx2⟩
            replace hx3 := hx3.trans hx2
            clear hx2 hx
            go_wp2_with fail
            refine (implTideAt_any A4 n4 c4 m4 t4 _ hcm4 hnc4 hr4).mono ?_
            rintro e w14 ⟨rfl, hx2⟩
            replace hr4 := hr4.ext hx2
            replace hx3 := hx3.trans hx2
            clear hx2
            go_wp2_with fail
            refine (specTideAt_any A4 n4 c4 m4 t4 _ hcm4 hnc4 hr4).mono ?_
            rintro e w15 ⟨rfl, hx2⟩
            replace hr4 := hr4.ext hx2
            replace hx3 := hx3.trans hx2
            clear hx2
            have HL := Lib.hid (fun h => at_law (n := n4) (m := m4) (t := t4) h)
            have HH := Lib.hid (fun w hr => implHigh_any A4 n4 c4 m4 w hcm4 hnc4 hr)
            generalize atRN n4 m4 t4 = a4 at *
            generalize atRD n4 m4 t4 = d4 at *
            generalize hiH n4 m4 = H4 at *
            generalize hiT n4 m4 = T4 at *
            generalize tideB n4 m4 = tb4 at *
            generalize atC n4 m4 t4 = k4 at *
            cases k4
            · clear HL HH
              go_wp2
              go_ret
              exact ⟨rfl, hx3⟩
            · obtain ⟨rfl, hle, ⟨b0, b1⟩, ⟨b2, b3⟩, b4, b5⟩ := HL.out rfl
              clear HL
              go_wp2_with fail
              refine (HH.out _ hr4).mono ?_
              rintro e w16 ⟨rfl, hx2⟩
              replace hx3 := hx3.trans hx2
              clear hx2 HH hr4
              go_wp2
              go_ret
              exact ⟨rfl, hx3⟩
  · go_enter Try.func4, Try.ntmps4
    go_wp2_with fail
    refine (vbig_yes A len c _ (by omega)).mono ?_
    rintro e w1 ⟨rfl, hx⟩
    go_wp2
    go_ret
    exact ⟨rfl, hx⟩
theorem FnTides_walk (w : World) (A : Option Addr) (len c : Nat) (z : Nat → Int) (hl : len ≤ maxLen) (hr : Rd w A len 1 (fun i _ => .int .u8 (z i))) (hz : ∀ i, i < len → 0 ≤ z i ∧ z i ≤ 255) :
    Calls Try.prog 4 #[.slice A len c] w fun e w' => e = .returned (.bool true) ∧ Ext w w' := FnTides_any w A len c ⟨z, hr, hz, hl⟩
end Go.Proofs.Ytgehoihfiboeeaa
