/- The walk of the law FnHeights. -/
import Derived.Test.YtgehoihfiboeeaaHeightsP
import Derived.Test.YtgehoihfiboeeaaTideD
import Derived.Test.YtgehoihfiboeeaaVInts
import Derived.Deep.Cut
namespace Go.Proofs.Ytgehoihfiboeeaa
open Go.RowKit
set_option linter.unusedVariables false

theorem shift_both (n : Nat) (m : Nat → Mk) (b : Int) : ∃ (N : Nat) (q : Nat → Mk) (ok : Bool),
    (∀ A c w, c ≤ maxLen → n ≤ c → Rd w A n 2 (mkF m) → Calls Try.prog 34 #[.slice A n c, .int .i64 b] w (RetS 77 2 N (mkF q) ok w)) ∧
    (∀ A c w, c ≤ maxLen → n ≤ c → Rd w A n 2 (mkF m) → Calls Try.prog 35 #[.slice A n c, .int .i64 b] w (RetS 77 2 N (mkF q) ok w)) ∧
    (ok = true → N = n ∧ q = shiftM m b ∧ tideB n m = true ∧ tideB n (shiftM m b) = true ∧ inB b (-1000) 1000 = true) := by
  cases hv : tideB n m
  · exact ⟨_, _, _, fun A c w h1 h2 h3 => implShiftTide_no A n c m b w h1 h2 h3 (.inl hv), fun A c w h1 h2 h3 => specShiftTide_no A n c m b w h1 h2 h3 (.inl hv), fun h => by cases h⟩
  · cases hb : inB b (-1000) 1000
    · exact ⟨_, _, _, fun A c w h1 h2 h3 => implShiftTide_no A n c m b w h1 h2 h3 (.inr hb), fun A c w h1 h2 h3 => specShiftTide_no A n c m b w h1 h2 h3 (.inr hb), fun h => by cases h⟩
    · cases ht : tideB n (shiftM m b)
      · exact ⟨_, _, _, fun A c w h1 h2 h3 => implShiftTide_bad A n c m b w h1 h2 h3 hv hb ht, fun A c w h1 h2 h3 => specShiftTide_bad A n c m b w h1 h2 h3 hv hb ht, fun h => by cases h⟩
      · exact ⟨_, _, _, fun A c w h1 h2 h3 => implShiftTide_yes A n c m b w h1 h2 h3 hv hb ht, fun A c w h1 h2 h3 => specShiftTide_yes A n c m b w h1 h2 h3 hv hb ht, fun _ => ⟨rfl, rfl, rfl, rfl, rfl⟩⟩
theorem turns_both (n : Nat) (m : Nat → Mk) : ∃ (N : Nat) (p : Nat → Int) (ok : Bool),
    (∀ A c w, c ≤ maxLen → n ≤ c → Rd w A n 2 (mkF m) → Calls Try.prog 37 #[.slice A n c] w (RetS 3 1 N (mk1 p) ok w)) ∧
    (∀ A c w, c ≤ maxLen → n ≤ c → Rd w A n 2 (mkF m) → Calls Try.prog 44 #[.slice A n c] w (RetS 3 1 N (mk1 p) ok w)) := by
  cases hv : tideB n m
  · exact ⟨_, _, _, fun A c w h1 h2 h3 => implTurnsOf_no A n c m w h1 h2 h3 hv, fun A c w h1 h2 h3 => specTurnsOf_no A n c m w h1 h2 h3 hv⟩
  · exact ⟨_, _, _, fun A c w h1 h2 h3 => implTurnsOf_yes A n c m w h1 h2 h3 hv, fun A c w h1 h2 h3 => specTurnsOf_yes A n c m w h1 h2 h3 hv⟩
set_option maxRecDepth 100000 in
set_option maxHeartbeats 2000000 in
theorem FnHeights_any (w : World) (A : Option Addr) (len c : Nat) (h : Code w A len) : Calls Try.prog 5 #[.slice A len c] w fun e w' => e = .returned (.bool true) ∧ Ext w w' := by
  by_cases hbig : len ≤ 65536
  · have HC := Lib.hid h
    clear h
    go_enter Try.func5, Try.ntmps5
    go_wp2_with fail
    refine (vbig_no A len c _ hbig).mono ?_
    rintro e w1 ⟨rfl, hx⟩
    clear hbig
    go_wp2_with fail
    refine (drawShift_any _ A len c (HC.out.ext hx)).mono ?_
    rintro e w2 ⟨A1, n, c1, p, b, rfl, hcm, hnc, _, hr, hx2⟩
    replace hx := hx.trans hx2
    clear hx2
    obtain ⟨N, q, ok, hI, hS, hok⟩ := shift_both n p b
    have HI := Lib.hid hI
    have HS := Lib.hid hS
    have HOK := Lib.hid hok
    clear hI hS hok
    go_wp2_with fail
    refine (HI.out A1 c1 _ hcm hnc hr).mono ?_
    rintro e w3 ⟨v0, rfl, o0, hx2⟩
    replace hr := hr.ext hx2
    replace hx := hx.trans hx2
    clear hx2
    go_wp2_with fail
    refine (HS.out A1 c1 _ hcm hnc hr).mono ?_
    rintro e w4 ⟨v1, rfl, o1, hx2⟩
    replace hr := hr.ext hx2
    replace o0 := o0.ext hx2
    replace hx := hx.trans hx2
    clear hx2 HI HS
    go_wp2_with fail
    refine (vMarks_any _ _ N q _ o0 o1).mono ?_
    rintro e w5 ⟨rfl, hx2⟩
    replace hr := hr.ext hx2
    replace o0 := o0.ext hx2
    replace hx := hx.trans hx2
    clear hx2 o1
    go_upto_if 67 with fail
    go_cut [] from 9 (fun wx => Ext w wx)
    case first =>
      as_aux_lemma =>
        cases ok
        · go_wp2
          go_meet
          case rel => exact hx
        · obtain ⟨rfl, rfl, hv, ht, hin⟩ := HOK.out rfl
          have HB := Lib.hid (inB_iff.1 hin)
          have HB2 := Lib.hid (hiH_bd hv)
          have HH1 := Lib.hid (fun A c w h1 h2 h3 => by have h := implHigh_any A N c p w h1 h2 h3; rw [hv] at h; exact h)
          have HH2 := Lib.hid (fun A c w h1 h2 h3 => by have h := implHigh_any A N c (shiftM p b) w h1 h2 h3; rw [ht, (hi_shift hv ht).1, (hi_shift hv ht).2] at h; exact h)
          have HT := Lib.hid (hi_shift hv ht)
          clear hin
          have HV := Lib.hid hv
          have HV2 := Lib.hid ht
          obtain ⟨A2, c2, rfl, hcm2, hnc2, hr2⟩ := o0.rd
          clear o0
          go_wp2_with fail
          refine (implTurnsOf_yes A1 N c1 p _ hcm hnc hr HV.out).mono ?_
          rintro e w6 ⟨v2, rfl, o2, hx2⟩
          replace hr := hr.ext hx2
          replace hr2 := hr2.ext hx2
          replace hx := hx.trans hx2
          clear hx2
          go_wp2_with fail
          refine (implTurnsOf_yes A2 N c2 (shiftM p b) _ hcm2 hnc2 hr2 HV2.out).mono ?_
          rintro e w7 ⟨v3, rfl, o3, hx2⟩
          rw [turnTo_shift] at o3
          replace hr := hr.ext hx2
          replace hr2 := hr2.ext hx2
          replace o2 := o2.ext hx2
          replace hx := hx.trans hx2
          clear hx2
          go_wp2_with fail
          refine (HH1.out A1 c1 _ hcm hnc hr).mono ?_
          rintro e w8 ⟨rfl, hx2⟩
          replace hr2 := hr2.ext hx2
          replace o2 := o2.ext hx2
          replace o3 := o3.ext hx2
          replace hx := hx.trans hx2
          clear hx2
          go_wp2_with fail
          refine (HH2.out A2 c2 _ hcm2 hnc2 hr2).mono ?_
          rintro e w9 ⟨rfl, hx2⟩
          replace o2 := o2.ext hx2
          replace o3 := o3.ext hx2
          replace hx := hx.trans hx2
          clear hx2 hr hr2 HT HV HV2
          obtain ⟨hb0, hb1⟩ := HB.out
          obtain ⟨hb2, hb3⟩ := HB2.out
          generalize hiT N p = T at *
          generalize hiH N p = H at *
          go_wp2_with fail
          refine (vInts_any _ _ _ _ _ o2 o3).mono ?_
          rintro e w10 ⟨rfl, hx2⟩
          replace hx := hx.trans hx2
          clear hx2 o2 o3
          go_wp2_with fail
          go_meet
          case rel => exact hx
    case rest =>
      as_aux_lemma =>
        clear hx hr o0 HOK
        replace hx := hcut
        go_wp2_with fail
        refine (drawArea_any _ A len c (HC.out.ext hx)).mono ?_
        rintro e w2 ⟨A1, n, c1, p, b, rfl, hcm, hnc, _, hr, hx2⟩
        replace hx := hx.trans hx2
        clear hx2 hcut
        go_wp2_with fail
        refine (implArea_any A1 n c1 p b _ hcm hnc hr).mono ?_
        rintro e w3 ⟨rfl, hx2⟩
        replace hr := hr.ext hx2
        replace hx := hx.trans hx2
        clear hx2
        go_wp2_with fail
        refine (specArea_any A1 n c1 p b _ hcm hnc hr).mono ?_
        rintro e w4 ⟨rfl, hx2⟩
        replace hr := hr.ext hx2
        replace hx := hx.trans hx2
        clear hx2
        have HM := Lib.hid (fun h h1 => area_mono (n := n) (m := p) (h := b) h h1)
        have HH := Lib.hid (fun w hr => implArea_any A1 n c1 p (b + 1) w hcm hnc hr)
        have HIB := Lib.hid (show areaC n p b = true → -500 ≤ b ∧ b ≤ 500 from fun h => by unfold areaC at h; rw [Bool.and_eq_true] at h; exact inB_iff.1 h.2)
        generalize areaV n p b = V at *
        generalize areaC n p b = ok at *
        go_upto_region 20 with fail
        go_cut [151] from 147 (fun s wx => s = .bool (ok && decide (b < 500)) ∧ Ext w wx ∧ Rd wx A1 n 2 (mkF p))
        case first =>
          as_aux_lemma =>
            clear HM HH
            cases ok
            · clear HIB
              go_wp2
              go_meet
              case rel => exact ⟨rfl, hx, hr⟩
            · obtain ⟨b0, b1⟩ := HIB.out rfl
              clear HIB
              by_cases hb : b < 500
              · go_wp2
                go_meet
                case rel => exact ⟨by simp [hb], hx, hr⟩
              · go_wp2
                go_meet
                case rel => exact ⟨by simp [hb], hx, hr⟩
        case rest =>
        obtain ⟨rfl, hx3, hr3⟩ := hcut
        clear hx hr
        go_upto_if 151 with fail
        go_cut [] from 25 (fun wx => Ext w wx)
        case first =>
          as_aux_lemma =>
            cases ok
            · clear HM HH HIB hr3
              rw [Bool.false_and]
              go_wp2
              go_meet
              case rel => exact hx3
            · obtain ⟨b0, b1⟩ := HIB.out rfl
              by_cases hb : b < 500
              · have HH2 := Lib.hid (fun w hr => by have h := HH.out w hr; rw [(HM.out rfl hb).1] at h; exact h)
                have hle := (HM.out rfl hb).2
                have hb2 : (true && decide (b < 500)) = true := by simp [hb]
                clear HM HH HIB
                generalize areaV n p (b + 1) = V' at *
                rw [hb2]
                clear hb2
                go_wp2_with fail
                refine (HH2.out _ hr3).mono ?_
                rintro e w5 ⟨rfl, hx2⟩
                replace hx3 := hx3.trans hx2
                clear hx2 HH2 hr3
                go_wp2
                go_meet
                case rel => exact hx3
              · have hb2 : (true && decide (b < 500)) = false := by simp [hb]
                clear HM HH HIB hr3
                rw [hb2]
                clear hb2
                go_wp2
                go_meet
                case rel => exact hx3
        case rest =>
          as_aux_lemma =>
            clear hx3 hr3 HM HH HIB
            have hx := hcut
            clear hcut
            go_wp2_with fail
            refine (drawHighest_any _ A len c (HC.out.ext hx)).mono ?_
            rintro e w2 ⟨A2, n2, c2, p2, rfl, hcm2, hnc2, _, hr, hx2⟩
            replace hx := hx.trans hx2
            clear hx2
            go_wp2_with fail
            refine (implHigh_any A2 n2 c2 p2 _ hcm2 hnc2 hr).mono ?_
            rintro e w3 ⟨rfl, hx2⟩
            replace hr := hr.ext hx2
            replace hx := hx.trans hx2
            clear hx2
            go_wp2_with fail
            refine (specHigh_any A2 n2 c2 p2 _ hcm2 hnc2 hr).mono ?_
            rintro e w4 ⟨rfl, hx2⟩
            replace hx := hx.trans hx2
            clear hx2 hr
            generalize hiT n2 p2 = T at *
            generalize hiH n2 p2 = H at *
            generalize tideB n2 p2 = okb at *
            go_wp2_with fail
            refine (drawTurns_any _ A len c (HC.out.ext hx)).mono ?_
            rintro e w5 ⟨A3, n3, c3, p3, rfl, hcm3, hnc3, _, hr, hx2⟩
            replace hx := hx.trans hx2
            clear hx2 HC
            obtain ⟨N3, q3, ok3, hI, hS⟩ := turns_both n3 p3
            have HI := Lib.hid hI
            have HS := Lib.hid hS
            clear hI hS
            go_wp2_with fail
            refine (HI.out A3 c3 _ hcm3 hnc3 hr).mono ?_
            rintro e w6 ⟨v0, rfl, o0, hx2⟩
            replace hr := hr.ext hx2
            replace hx := hx.trans hx2
            clear hx2
            go_wp2_with fail
            refine (HS.out A3 c3 _ hcm3 hnc3 hr).mono ?_
            rintro e w7 ⟨v1, rfl, o1, hx2⟩
            replace o0 := o0.ext hx2
            replace hx := hx.trans hx2
            clear hx2 HI HS hr
            go_wp2_with fail
            refine (vInts_any _ _ _ _ _ o0 o1).mono ?_
            rintro e w8 ⟨rfl, hx2⟩
            replace hx := hx.trans hx2
            clear hx2 o0 o1
            go_wp2_with fail
            go_ret
            exact ⟨rfl, hx⟩
  · go_enter Try.func5, Try.ntmps5
    go_wp2_with fail
    refine (vbig_yes A len c _ (by omega)).mono ?_
    rintro e w1 ⟨rfl, hx⟩
    go_wp2
    go_ret
    exact ⟨rfl, hx⟩
theorem FnHeights_walk (w : World) (A : Option Addr) (len c : Nat) (z : Nat → Int) (hl : len ≤ maxLen) (hr : Rd w A len 1 (fun i _ => .int .u8 (z i))) (hz : ∀ i, i < len → 0 ≤ z i ∧ z i ≤ 255) :
    Calls Try.prog 5 #[.slice A len c] w fun e w' => e = .returned (.bool true) ∧ Ext w w' := FnHeights_any w A len c ⟨z, hr, hz, hl⟩
end Go.Proofs.Ytgehoihfiboeeaa
