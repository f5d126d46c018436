/- The walk of the law FnPonds. -/
import Derived.Test.YtkgnfmdeimaedaaPondsP
import Derived.Test.YtkgnfmdeimaedaaPondDr
import Derived.Test.YtkgnfmdeimaedaaRInts
import Derived.Test.YtkgnfmdeimaedaaHolds
import Derived.Test.YtkgnfmdeimaedaaHit
import Derived.Deep.Cut
import Derived.Deep.CutBlock
namespace Go.Proofs.Ytkgnfmdeimaedaa
open Go.RowKit
set_option linter.unusedVariables false

theorem outer_both (n : Nat) (m : Nat → Pd) (id : Int) : ∃ (N : Nat) (l : List Int) (ov : Int) (ok : Bool),
    (∀ A c w, c ≤ maxLen → n ≤ c → Rd w A n 6 (pdF m) → Calls Try.prog 29 #[.slice A n c, .int .i64 id] w fun e w' => e = .returned (.tuple #[.int .i64 ov, .bool ok]) ∧ Ext w w') ∧
    (∀ A c w, c ≤ maxLen → n ≤ c → Rd w A n 6 (pdF m) → Calls Try.prog 28 #[.slice A n c, .int .i64 id] w fun e w' => e = .returned (.tuple #[.int .i64 ov, .bool ok]) ∧ Ext w w') ∧
    (∀ A c w, c ≤ maxLen → n ≤ c → Rd w A n 6 (pdF m) → Calls Try.prog 31 #[.slice A n c, .int .i64 id] w (RetS 3 1 N (mkL l) ok w)) ∧
    (∀ A c w, c ≤ maxLen → n ≤ c → Rd w A n 6 (pdF m) → Calls Try.prog 30 #[.slice A n c, .int .i64 id] w (RetS 3 1 N (mkL l) ok w)) ∧
    N = l.length ∧ N ≤ 1000000 ∧ 0 ≤ ov ∧ (ok = true → ∃ j, pondsB n m = true ∧ j < n ∧ (m j).id = id ∧ ov = outTo m j n ∧ l = nearTo m j n) := by
  rcases fndB_cases n m id with h | ⟨h, hp, j, hj, hjn, hid⟩
  · refine ⟨0, [], outV n m id, false, fun A c w h1 h2 h3 => ?_, fun A c w h1 h2 h3 => ?_, fun A c w h1 h2 h3 => implNeigh_no A n c m id w h1 h2 h3 h, fun A c w h1 h2 h3 => specNeigh_no A n c m id w h1 h2 h3 h, rfl, by omega, ?_, fun hh => by cases hh⟩
    · rw [← h]; exact implOuter_any A n c m id w h1 h2 h3
    · rw [← h]; exact specOuter_any A n c m id w h1 h2 h3
    · unfold outV; rw [h]; exact Int.le_refl _
  · have hpp := pondsB_iff.1 hp
    have hv : outV n m id = outTo m j n := by unfold outV; rw [if_pos h, hj, Int.toNat_natCast]
    refine ⟨(nearTo m j n).length, nearTo m j n, outV n m id, true, fun A c w h1 h2 h3 => ?_, fun A c w h1 h2 h3 => ?_, fun A c w h1 h2 h3 => implNeigh_yes A n c m id w h1 h2 h3 h j hjn hj, fun A c w h1 h2 h3 => specNeigh_yes A n c m id w h1 h2 h3 h j hjn hj, rfl, ?_, ?_, fun _ => ⟨j, hp, hjn, hid, hv, rfl⟩⟩
    · rw [← h]; exact implOuter_any A n c m id w h1 h2 h3
    · rw [← h]; exact specOuter_any A n c m id w h1 h2 h3
    · have h1 := near_len m j n
      have h2 := hpp.1
      omega
    · rw [hv]; exact outTo_nonneg hpp hjn
theorem bank_named {P : Program} {f : FuncId} {args : Array Value} {w : World} {x y : Int} {a b : Bool} (h1 : x = y) (h2 : a = b) (h : Calls P f args w fun e w' => e = .returned (.tuple #[.int .i64 x, .bool a]) ∧ Ext w w') :
    Calls P f args w fun e w' => e = .returned (.tuple #[.int .i64 y, .bool b]) ∧ Ext w w' := by
  subst h1 h2
  exact h
theorem bank_round {n : Nat} {m : Nat → Pd} {id : Int} (h : pondsB n m = true) {j k : Nat} (hj : j < n) (hk : k < n) (hid : (m j).id = id) (hkj : k ≠ j) {N : Nat} {l : List Int} (hN : N = l.length) (hN2 : N ≤ 1000000) (hl : l = nearTo m j n) :
    ∃ bk ik : Int, (m k).id = ik ∧ (ik == id) = false ∧ 0 ≤ bk ∧ bk ≤ 4000 ∧ outTo m j (k + 1) = outTo m j k - bk ∧
    (∀ A c w, c ≤ maxLen → n ≤ c → Rd w A n 6 (pdF m) → Calls Try.prog 27 #[.slice A n c, .int .i64 id, .int .i64 ik] w fun e w' => e = .returned (.tuple #[.int .i64 bk, .bool true]) ∧ Ext w w') ∧
    (∀ A c w, c ≤ maxLen → n ≤ c → Rd w A n 6 (pdF m) → Calls Try.prog 27 #[.slice A n c, .int .i64 ik, .int .i64 id] w fun e w' => e = .returned (.tuple #[.int .i64 bk, .bool true]) ∧ Ext w w') ∧
    (∀ A c w, Rd w A N 1 (mkL l) → Calls Try.prog 46 #[.slice A N c, .int .i64 ik] w fun e w' => e = .returned (.bool (decide (0 < bk))) ∧ Ext w w') := by
  have hpp := pondsB_iff.1 h
  obtain ⟨b1, b2, b3, b4⟩ := bk_both h hj hk hid hkj
  have hbb := bankV_bd (small_at hpp hj) (small_at hpp hk)
  have hm := near_mem hpp j hk hkj n (Nat.le_refl _)
  refine ⟨bankV (m j) (m k), (m k).id, rfl, ?_, hbb.1, hbb.2, if_neg hkj, fun A c w h1 h2 h3 => ?_, fun A c w h1 h2 h3 => ?_, fun A c w h3 => ?_⟩
  · rw [beq_eq_false_iff_ne]
    intro he
    exact hkj (ids_one hpp hk hj (by rw [he, hid]))
  · have h4 := implBankOf_any A n c m id (m k).id w h1 h2 h3
    rw [b1, b3] at h4
    exact h4
  · have h4 := implBankOf_any A n c m (m k).id id w h1 h2 h3
    rw [b2, b4] at h4
    exact h4
  · have h4 := rHas_any A N c l (m k).id w hN hN2 h3
    rw [show decide ((m k).id ∈ l) = decide (0 < bankV (m j) (m k)) by rw [hl]; exact decide_eq_decide.2 (hm.trans ⟨fun h => h.2, fun h => ⟨hk, h⟩⟩)] at h4
    exact h4
set_option maxRecDepth 100000 in
set_option maxHeartbeats 2000000 in
theorem FnPonds_any (w : World) (A : Option Addr) (len c : Nat) (h : Code w A len) : Calls Try.prog 13 #[.slice A len c] w fun e w' => e = .returned (.bool true) ∧ Ext w w' := by
  by_cases hbig : len ≤ 65536
  · have HC := Lib.hid h
    clear h
    go_enter Try.func13, Try.ntmps13
    go_wp2_with fail
    refine (rbig_no A len c _ hbig).mono ?_
    rintro e w1 ⟨rfl, hx⟩
    clear hbig
    go_wp2_with fail
    refine (drawOuter_any _ A len c (HC.out.ext hx)).mono ?_
    rintro e w2 ⟨A1, n, c1, p, id, rfl, hcm, hnc, hn100, hr, hx2⟩
    replace hx := hx.trans hx2
    clear hx2
    obtain ⟨N, l, ov, ok, h1, h2, h3, h4, hN, hN2, ov0, hfacts⟩ := outer_both n p id
    have H1 := Lib.hid h1
    have H2 := Lib.hid h2
    have H3 := Lib.hid h3
    have H4 := Lib.hid h4
    have HN := Lib.hid hN
    have HF := Lib.hid hfacts
    clear h1 h2 h3 h4 hN hfacts
    go_wp2_with fail
    refine (H1.out A1 c1 _ hcm hnc hr).mono ?_
    rintro e w3 ⟨rfl, hx2⟩
    replace hr := hr.ext hx2
    replace hx := hx.trans hx2
    clear hx2
    go_wp2_with fail
    refine (H2.out A1 c1 _ hcm hnc hr).mono ?_
    rintro e w4 ⟨rfl, hx2⟩
    replace hr := hr.ext hx2
    replace hx := hx.trans hx2
    clear hx2 H1 H2
    go_wp2_with fail
    refine (H3.out A1 c1 _ hcm hnc hr).mono ?_
    rintro e w5 ⟨v0, rfl, o0, hx2⟩
    replace hr := hr.ext hx2
    replace hx := hx.trans hx2
    clear hx2
    go_wp2_with fail
    refine (H4.out A1 c1 _ hcm hnc hr).mono ?_
    rintro e w6 ⟨v1, rfl, o1, hx2⟩
    replace hr := hr.ext hx2
    replace o0 := o0.ext hx2
    replace hx := hx.trans hx2
    clear hx2 H3 H4
    go_wp2_with fail
    refine (rInts_any _ _ N (fun i => l.getD i 0) _ o0 o1).mono ?_
    rintro e w7 ⟨rfl, hx2⟩
    replace hr := hr.ext hx2
    replace o0 := o0.ext hx2
    replace hx := hx.trans hx2
    clear hx2 o1
    obtain ⟨A2, c2, rfl, hcm2, hnc2, hr2⟩ := o0.rd
    clear o0
    go_upto_block 0 with fail
    go_cut [5, 13] from 13 (fun s5 s13 wx => ∃ u v, s5 = .int .i64 u ∧ s13 = .int .i64 v ∧ (ok = true → u = v) ∧ Ext w wx)
    case first =>
      as_aux_lemma =>
        cases ok
        · clear HF
          go_wp2_with fail
          go_loopw [5, 13, 14, 15, 16, 17, 18] (fun s5 s13 s14 _ _ _ _ wr => s5 = .int .i64 ov ∧ s13 = .int .i64 0 ∧ s14 = .int .i64 0 ∧ Ext w wr) (fun _ _ _ _ _ _ _ _ => 0)
          case atStart => exact ⟨rfl, rfl, rfl, hx⟩
          case round =>
            obtain ⟨rfl, rfl, rfl, hx3⟩ := hrel
            by_cases hn0 : n = 0
            · subst hn0
              go_wp2_with fail
              go_meet
              case rel => exact ⟨ov, 0, rfl, rfl, fun h => Bool.noConfusion h, hx3⟩
            · have i1 : (0 : Int) < (n : Int) := by omega
              have i2 : decide ((0 : Int) < (n : Int)) = true := decide_eq_true i1
              go_wp2_with fail
              go_meet
              case rel => exact ⟨ov, 0, rfl, rfl, fun h => Bool.noConfusion h, hx3⟩
        · obtain ⟨j, hp, hjn, hid, hov, hl⟩ := HF.out rfl
          clear HF
          have hpp := pondsB_iff.1 hp
          obtain ⟨⟨_, _, _, ⟨w0, w1'⟩, ⟨h0, h2⟩, _⟩, _⟩ := hpp.2 j hjn
          obtain ⟨rd, hrd⟩ : ∃ rd, 2 * ((p j).wide + (p j).high) = rd := ⟨_, rfl⟩
          have hrb : 4 ≤ rd ∧ rd ≤ 80 := by omega
          have hovb := outTo_bd hpp hjn n (Nat.le_refl _)
          rw [← hov] at hovb
          have hn10 := hpp.1
          have HRD := Lib.hid hrd
          have HOV := Lib.hid hov
          have HV := Lib.hid hpp
          have HP := Lib.hid hp
          have HID := Lib.hid hid
          have HL := Lib.hid hl
          clear hov hpp hp hid hl hrd
          go_wp2_with fail
          go_loopw [5, 13, 14, 15, 16, 17, 18] (fun s5 s13 s14 _ _ _ _ wr => ∃ (k : Nat) (x y : Int), s14 = .int .i64 k ∧ k ≤ n ∧ s5 = .int .i64 x ∧ s13 = .int .i64 y ∧ Hid (x = ov + rd - outTo p j k) ∧ Hid (y = if j < k then rd else 0) ∧ ∃ z, wr = gw w7 z) (fun _ _ s14 _ _ _ _ _ => n - (intOf s14).toNat)
          case atStart => exact ⟨0, ov, 0, rfl, Nat.zero_le _, rfl, rfl, Lib.hid (by show ov = ov + rd - 2 * ((p j).wide + (p j).high); have := HRD.out; omega), Lib.hid (by rw [if_neg (Nat.not_lt_zero j)]), (Ext.refl _).to_gw⟩
          case round =>
            obtain ⟨k, x, y, rfl, hk, rfl, rfl, HX, HY, z, rfl⟩ := hrel
            by_cases hlt : k < n
            · obtain ⟨g, off, rfl, hg, d0, d1, d2, d3, d4, d5⟩ := hr.atPond hlt
              have i0 : (0 : Int) ≤ (k : Int) := by omega
              have i1 : (k : Int) < (n : Int) := by omega
              have hb := outTo_bd HV.out hjn k hk
              have hxb : -200000 ≤ x ∧ x ≤ 200000 := by have := HX.out; omega
              clear hb
              by_cases hkj : k = j
              · have HE := Lib.hid (show outTo p j (k + 1) = outTo p j k from if_pos hkj)
                subst hkj
                have q1 : ((p k).id == id) = true := by simpa using HID.out
                go_wp2_with fail
                first | refine wp_region_grow2 (by kernel_rfl) (by kernel_rfl) ?_ | refine wp_region_grow (by kernel_rfl) (by kernel_rfl) ?_
                repeat (go_big_quiet_step (fail))
                refine wpQuiet_nil ?_
                rintro _ ⟨xq, rfl⟩
                go_wp2
                go_roundw
                case rel => exact ⟨k + 1, x, rd, by go_num, by omega, rfl, by rw [HRD.out], Lib.hid (by rw [HE.out]; exact HX.out), Lib.hid (by rw [if_pos (Nat.lt_succ_self k)]), _, rfl⟩
                case measure => simp [intOf]; omega
              · obtain ⟨bk, ik, e1, q1, bb0, bb1, he, k1, k2, k3⟩ := bank_round HP.out hjn hlt HID.out hkj HN.out hN2 HL.out
                rw [e1] at d0
                have HE := Lib.hid he
                have K1 := Lib.hid k1
                have K2 := Lib.hid k2
                have K3 := Lib.hid k3
                clear d1 d2 d3 d4 d5 e1 he k1 k2 k3
                go_wp2_with fail
                refine (K1.out _ c1 _ hcm hnc (hr.ext (ext_gw w7 z))).mono ?_
                rintro e w8 ⟨rfl, hx2⟩
                replace hx2 := Ext.flat hx2
                obtain ⟨z2, rfl⟩ := hx2.to_gw
                clear hx2
                dsimp only
                go_wp2_with fail
                refine (K2.out _ c1 _ hcm hnc (hr.ext (ext_gw w7 z2))).mono ?_
                rintro e w8 ⟨rfl, hx2⟩
                replace hx2 := Ext.flat hx2
                obtain ⟨z3, rfl⟩ := hx2.to_gw
                clear hx2
                dsimp only
                by_cases hbk : 0 < bk
                · have q3 : decide (0 < bk) = true := decide_eq_true hbk
                  go_wp2_with fail
                  refine (K3.out A2 c2 _ (hr2.ext (ext_gw w7 z3))).mono ?_
                  rintro e w8 ⟨rfl, hx2⟩
                  replace hx2 := Ext.flat hx2
                  obtain ⟨z4, rfl⟩ := hx2.to_gw
                  clear hx2
                  rw [q3]
                  dsimp only
                  go_wp2
                  go_roundw
                  case rel => exact ⟨k + 1, x + bk, y, by go_num, by omega, rfl, rfl, Lib.hid (by have := HX.out; have := HE.out; omega), Lib.hid (by rw [HY.out]; by_cases h : j < k; rw [if_pos h, if_pos (by omega)]; rw [if_neg h, if_neg (by omega)]), _, rfl⟩
                  case measure => simp [intOf]; omega
                · have q3 : decide (0 < bk) = false := decide_eq_false hbk
                  have q4 : bk ≤ 0 := by omega
                  go_wp2_with fail
                  refine (K3.out A2 c2 _ (hr2.ext (ext_gw w7 z3))).mono ?_
                  rintro e w8 ⟨rfl, hx2⟩
                  replace hx2 := Ext.flat hx2
                  obtain ⟨z4, rfl⟩ := hx2.to_gw
                  clear hx2
                  rw [q3]
                  dsimp only
                  go_wp2
                  go_roundw
                  case rel => exact ⟨k + 1, x + bk, y, by go_num, by omega, rfl, rfl, Lib.hid (by have := HX.out; have := HE.out; omega), Lib.hid (by rw [HY.out]; by_cases h : j < k; rw [if_pos h, if_pos (by omega)]; rw [if_neg h, if_neg (by omega)]), _, rfl⟩
                  case measure => simp [intOf]; omega
            · obtain rfl : k = n := by omega
              go_wp2
              go_meet
              case rel => exact ⟨x, y, rfl, rfl, fun _ => by have h1 := HX.out; have h2 := HY.out; rw [if_pos hjn] at h2; rw [h1, h2, ← HOV.out]; omega, hx.gw z⟩
    case rest =>
      as_aux_lemma =>
        obtain ⟨u, v, rfl, rfl, huv, hx⟩ := hcut
        clear HF hr hr2 HN hn100 ov0 hN2 hcm hnc hcm2 hnc2
        have HUV := Lib.hid huv
        clear huv
        go_upto_region 23 with fail
        go_cut [178] from 173 (fun s wx => s = .bool false ∧ wx = wc)
        case first =>
          as_aux_lemma =>
            cases ok
            · go_wp2
              go_meet
              case rel => exact ⟨rfl, rfl⟩
            · obtain rfl := HUV.out rfl
              go_wp2
              go_meet
              case rel => exact ⟨rfl, rfl⟩
        case rest =>
          as_aux_lemma =>
            obtain ⟨rfl, rfl⟩ := hcut
            clear HUV
            go_wp2_with fail
            refine (drawBank_any _ A len c (HC.out.ext hx)).mono ?_
            rintro e w8 ⟨A4, n4, c4, p4, x4, y4, rfl, hcm4, hnc4, _, hr4, hx2⟩
            replace hx := hx.trans hx2
            clear hx2
            dsimp only
            go_wp2_with fail
            refine (implBankOf_any A4 n4 c4 p4 x4 y4 _ hcm4 hnc4 hr4).mono ?_
            rintro e w9 ⟨rfl, hx2⟩
            replace hr4 := hr4.ext hx2
            replace hx := hx.trans hx2
            clear hx2
            generalize hv4 : bkV n4 p4 x4 y4 = v4
            generalize hb4 : bkC n4 p4 x4 y4 = b4
            dsimp only
            go_wp2_with fail
            refine (bank_named hv4 hb4 (specBankOf_any A4 n4 c4 p4 x4 y4 _ hcm4 hnc4 hr4)).mono ?_
            rintro e w10 ⟨rfl, hx2⟩
            replace hx := hx.trans hx2
            clear hx2 hr4 hcm4 hnc4 hv4 hb4
            dsimp only
            go_wp2_with fail
            refine (drawHolds_any _ A len c (HC.out.ext hx)).mono ?_
            rintro e w11 ⟨A5, n5, c5, p5, x5, rfl, hcm5, hnc5, _, hr5, hx2⟩
            replace hx := hx.trans hx2
            clear hx2
            dsimp only
            go_wp2_with fail
            refine (implHolds_any A5 n5 c5 p5 x5 _ hcm5 hnc5 hr5).mono ?_
            rintro e w12 ⟨rfl, hx2⟩
            replace hr5 := hr5.ext hx2
            replace hx := hx.trans hx2
            clear hx2
            generalize hv5 : cubV n5 p5 x5 = v5
            generalize hb5 : fndB n5 p5 x5 = b5
            dsimp only
            go_wp2_with fail
            refine (bank_named hv5 hb5 (specHolds_any A5 n5 c5 p5 x5 _ hcm5 hnc5 hr5)).mono ?_
            rintro e w13 ⟨rfl, hx2⟩
            replace hx := hx.trans hx2
            clear hx2 hr5 hcm5 hnc5 hv5 hb5
            dsimp only
            go_wp2_with fail
            refine (drawPondAt_any _ A len c (HC.out.ext hx)).mono ?_
            rintro e w14 ⟨A6, n6, c6, p6, x6, y6, rfl, hcm6, hnc6, _, hr6, hx2⟩
            replace hx := hx.trans hx2
            clear hx2
            dsimp only
            go_wp2_with fail
            refine (implPondAt_any A6 n6 c6 p6 x6 y6 _ hcm6 hnc6 hr6).mono ?_
            rintro e w15 ⟨rfl, hx2⟩
            replace hr6 := hr6.ext hx2
            replace hx := hx.trans hx2
            clear hx2
            generalize hv6 : hitV n6 p6 x6 y6 = v6
            generalize hb6 : hitC n6 p6 x6 y6 = b6
            dsimp only
            go_wp2_with fail
            refine (bank_named hv6 hb6 (specPondAt_any A6 n6 c6 p6 x6 y6 _ hcm6 hnc6 hr6)).mono ?_
            rintro e w16 ⟨rfl, hx2⟩
            replace hx := hx.trans hx2
            clear hx2 hr6 hcm6 hnc6 hv6 hb6
            dsimp only
            go_wp2_with fail
            refine (drawIsPond_any _ A len c (HC.out.ext hx)).mono ?_
            rintro e w17 ⟨x7, rfl, hx2⟩
            replace hx := hx.trans hx2
            clear hx2
            dsimp only
            go_wp2_with fail
            first | refine wp_region_grow2 (by kernel_rfl) (by kernel_rfl) ?_ | refine wp_region_grow (by kernel_rfl) (by kernel_rfl) ?_
            repeat (go_big_quiet_step (first | (go_at_call 51; exact grow_of (isPond_any _ _ _ _ _ _ _)) | (go_at_call 52; exact grow_of (specIsPond_any _ _ _ _ _ _ _))))
            refine wpQuiet_nil ?_
            rintro _ ⟨xq, rfl⟩
            go_wp2
            go_ret
            exact ⟨by simp, (hx.alloc _).gw xq⟩
  · go_enter Try.func13, Try.ntmps13
    go_wp2_with fail
    refine (rbig_yes A len c _ (by omega)).mono ?_
    rintro e w1 ⟨rfl, hx⟩
    go_wp2
    go_ret
    exact ⟨rfl, hx⟩
theorem FnPonds_walk (w : World) (A : Option Addr) (len c : Nat) (z : Nat → Int) (hl : len ≤ maxLen) (hr : Rd w A len 1 (fun i _ => .int .u8 (z i))) (hz : ∀ i, i < len → 0 ≤ z i ∧ z i ≤ 255) :
    Calls Try.prog 13 #[.slice A len c] w fun e w' => e = .returned (.bool true) ∧ Ext w w' := FnPonds_any w A len c ⟨z, hr, hz, hl⟩
end Go.Proofs.Ytkgnfmdeimaedaa
