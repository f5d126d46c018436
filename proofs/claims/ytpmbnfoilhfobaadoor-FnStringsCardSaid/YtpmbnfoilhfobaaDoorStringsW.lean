/- The walk of the law FnStrings. -/
import Derived.Test.YtpmbnfoilhfobaaDoorStringsP
import Derived.Test.YtpmbnfoilhfobaaDoorDrawS
import Derived.Test.YtpmbnfoilhfobaaDoorParse
import Derived.Deep.Cut
import Derived.Deep.CutBlock
namespace Go.Proofs.YtpmbnfoilhfobaaDoor
open Go.RowKit
set_option linter.unusedVariables false

theorem vBigS_no (A : Option Addr) (n c : Nat) (w : World) (h : n ≤ 65536) : Calls Tryd.prog 17 #[.slice A n c] w fun e w' => e = .returned (.bool false) ∧ Ext w w' := by
  go_enter Tryd.func17, Tryd.ntmps17
  go_wp2
  go_ret
  exact ⟨ret_bool (decide_eq_false (by omega)), Ext.refl _⟩
theorem vBigS_yes (A : Option Addr) (n c : Nat) (w : World) (h : 65536 < n) : Calls Tryd.prog 17 #[.slice A n c] w fun e w' => e = .returned (.bool true) ∧ Ext w w' := by
  go_enter Tryd.func17, Tryd.ntmps17
  go_wp2
  go_ret
  exact ⟨ret_bool (decide_eq_true (by omega)), Ext.refl _⟩
theorem vAt_is {w : World} {A : Option Addr} {n : Nat} (h : Code w A n) (hn : n ≤ 65536) (i : Nat) (hi : i ≤ 1000) : ∃ v : Int, 0 ≤ v ∧ v ≤ 255 ∧ ∀ c W, Ext w W → Calls Tryd.prog 26 #[.slice A n c, .int .i64 (i : Int)] W fun e w' => e = .returned (.int .i64 v) ∧ W = w' := by
  obtain ⟨z, hr, hz, _⟩ := h
  by_cases hlt : i < n
  · obtain ⟨z0, z1⟩ := hz i hlt
    refine ⟨z i, z0, z1, fun c W hx => ?_⟩
    obtain ⟨g, off, rfl, hg, hc⟩ := (hr.ext hx) (by omega)
    have d0 := hc i 0 hlt (by omega)
    rw [Nat.add_zero, Nat.mul_one] at d0
    replace d0 : W.cell? ⟨g, off + i, none⟩ = some (.int .u8 (z i)) := d0
    have i0 : (0 : Int) ≤ (i : Int) := by omega
    have i1 : (i : Int) < (n : Int) := by omega
    obtain ⟨zi, hzi⟩ : ∃ q, z i = q := ⟨_, rfl⟩
    rw [hzi] at d0 z0 z1 ⊢
    have e1 : wrap64 zi = zi := by simp [wrap64]; omega
    clear hc hzi
    go_enter Tryd.func26, Tryd.ntmps26
    go_wp2
    go_ret
    exact ⟨ret_int (by first | rfl | exact e1), rfl⟩
  · refine ⟨((i : Int) * 7 + (n : Int)) % 256, ?_, ?_, fun c W hx => ?_⟩
    · omega
    · omega
    · have i0 : (0 : Int) ≤ (i : Int) := by omega
      have i1 : (n : Int) ≤ (i : Int) := by omega
      go_enter Tryd.func26, Tryd.ntmps26
      go_wp2
      go_ret
      exact ⟨rfl, rfl⟩
theorem bytes_cell (W : World) (y : ByteArray) (cap fz : Nat) (e : TypeId) (hf : fz = (bytesRow y cap).size) (j : Nat) (hj : j < y.size) :
    (W.drew.alloc (.cells (bytesRow y cap) e (fz, fz + 1))).cell? ⟨W.heap.size, j, none⟩ = some (.int .u8 (y[j].toNat : Int)) ∧ (W.drew.alloc (.cells (bytesRow y cap) e (fz, fz + 1))).frozen? ⟨W.heap.size, j, none⟩ = false := by
  have hb : (W.drew.alloc (.cells (bytesRow y cap) e (fz, fz + 1))).heap[W.heap.size]? = some (.cells (bytesRow y cap) e (fz, fz + 1)) := by
    show (W.heap.push _)[W.heap.size]? = _
    simp
  have hsz : j < (bytesRow y cap).size := by
    unfold bytesRow
    have : y.data.size = y.size := rfl
    simp
    omega
  have hrow : (bytesRow y cap)[j]? = some (.int .u8 (y[j].toNat : Int)) := by
    unfold bytesRow
    have h2 : j < y.data.size := hj
    rw [Array.getElem?_append_left (by simpa using h2), Array.getElem?_map, Array.getElem?_eq_getElem h2]
    rfl
  constructor
  · unfold World.cell?
    simp only [hb]
    exact hrow
  · unfold World.frozen?
    simp only [hb]
    simp
    omega
set_option maxRecDepth 100000 in
set_option maxHeartbeats 4000000 in
theorem FnStrings_any (w : World) (A : Option Addr) (len c : Nat) (h : Code w A len) (ht : TabW w) (he1 : ErrW "strconv.ErrSyntax" w) (he2 : ErrW "strconv.ErrRange" w) : Calls Tryd.prog 5 #[.slice A len c] w fun e w' => e = .returned (.bool true) ∧ Ext w w' := by
  by_cases hbig : len ≤ 65536
  · obtain ⟨v9, a90, a91, h9⟩ := vAt_is h hbig 9 (by omega)
    obtain ⟨v10, b90, b91, h10⟩ := vAt_is h hbig 10 (by omega)
    have H9 := Lib.hid h9
    have H10 := Lib.hid h10
    have HC := Lib.hid h
    have HT := Lib.hid ht
    have HE1 := Lib.hid he1
    have HE2 := Lib.hid he2
    clear h ht he1 he2 h9 h10
    go_enter Tryd.func5, Tryd.ntmps5
    go_wp2_with fail
    refine (vBigS_no A len c _ hbig).mono ?_
    rintro e w1 ⟨rfl, hx⟩
    go_wp2_with fail
    refine (drawFormat_any _ A len c (HC.out.ext hx)).mono ?_
    rintro e w2 ⟨n, rfl, n0, n1, hx2⟩
    replace hx := hx.trans hx2
    clear hx2
    obtain ⟨fs, hfs⟩ : ∃ s, fmtS n = s := ⟨_, rfl⟩
    obtain ⟨fb, hfb⟩ : ∃ b, inB n (-999999) 999999 = b := ⟨_, rfl⟩
    have HF1 := Lib.hid (fun w ht => implFormat_any n w ht)
    have HF2 := Lib.hid (fun w => specFormat_any n w)
    have hfz := fmt_size n
    have HFB := Lib.hid (fun h => fmt_back (n := n) h)
    rw [hfs, hfb] at HF1 HF2
    rw [hfs] at hfz
    rw [hfs, hfb] at HFB
    clear hfs hfb
    obtain ⟨r1, hr1⟩ : ∃ r, rdV fs = r := ⟨_, rfl⟩
    obtain ⟨r2, hr2⟩ : ∃ r, rdC fs = r := ⟨_, rfl⟩
    have HP0 := Lib.hid (fun w ht h1 h2 => implParse_any fs w (by omega) ht h1 h2)
    rw [hr1, hr2] at HP0 HFB
    clear hr1 hr2
    go_wp2_with fail
    refine (HF1.out _ (HT.out.ext hx)).mono ?_
    rintro e w3 ⟨rfl, hx2⟩
    replace hx := hx.trans hx2
    clear hx2 HF1
    dsimp only
    go_wp2_with fail
    refine (HF2.out _).mono ?_
    rintro e w4 ⟨rfl, hx2⟩
    replace hx := hx.trans hx2
    clear hx2 HF2
    dsimp only
    go_wp2_with fail
    refine (drawParse_any _ A len c (HC.out.ext hx)).mono ?_
    rintro e w5 ⟨t, rfl, htz, hx2⟩
    replace hx := hx.trans hx2
    clear hx2
    obtain ⟨t1, ht1⟩ : ∃ r, rdV t = r := ⟨_, rfl⟩
    obtain ⟨t2, ht2⟩ : ∃ r, rdC t = r := ⟨_, rfl⟩
    have HP1 := Lib.hid (fun w ht h1 h2 => implParse_any t w (by omega) ht h1 h2)
    have HP2 := Lib.hid (fun w => specParse_any t w (by omega))
    rw [ht1, ht2] at HP1 HP2
    clear ht1 ht2
    dsimp only
    go_wp2_with fail
    refine (HP1.out _ (HT.out.ext hx) (HE1.out.ext hx) (HE2.out.ext hx)).mono ?_
    rintro e w6 ⟨rfl, hx2⟩
    replace hx := hx.trans hx2
    clear hx2 HP1
    dsimp only
    go_wp2_with fail
    refine (HP2.out _).mono ?_
    rintro e w7 ⟨rfl, hx2⟩
    replace hx := hx.trans hx2
    clear hx2 HP2
    dsimp only
    go_wp2_with fail
    refine (drawApp_any _ A len c (HC.out.ext hx)).mono ?_
    rintro e w8 ⟨x, rfl, hxz, hx2⟩
    replace hx := hx.trans hx2
    clear hx2
    obtain ⟨y, hy⟩ : ∃ r, appS x = r := ⟨_, rfl⟩
    obtain ⟨sb, hsb⟩ : ∃ r, appC x = r := ⟨_, rfl⟩
    have HA1 := Lib.hid (fun w ht => implApp_any x w (by omega) ht)
    have HA2 := Lib.hid (fun w => specApp_any x w (by omega))
    rw [hy, hsb] at HA1 HA2
    have HY := Lib.hid hy
    have HSB := Lib.hid hsb
    clear hy hsb
    dsimp only
    go_wp2_with fail
    refine (HA1.out _ (HT.out.ext hx)).mono ?_
    rintro e w9 ⟨rfl, hx2⟩
    replace hx := hx.trans hx2
    clear hx2 HA1
    dsimp only
    go_wp2_with fail
    refine (HA2.out _).mono ?_
    rintro e w10 ⟨rfl, hx2⟩
    replace hx := hx.trans hx2
    clear hx2 HA2
    dsimp only
    go_wp2_with fail
    refine (HP0.out _ (HT.out.ext hx) (HE1.out.ext hx) (HE2.out.ext hx)).mono ?_
    rintro e w11 ⟨rfl, hx2⟩
    replace hx := hx.trans hx2
    clear hx2 HP0
    dsimp only
    go_upto_region 15 with fail
    go_cut [106] from 97 (fun s wx => s = .bool false ∧ Ext w wx)
    case first =>
      cases fb
      · go_wp2
        go_meet
        case rel => exact ⟨rfl, hx⟩
      · obtain ⟨rfl, rfl⟩ := HFB.out rfl
        go_wp2
        go_meet
        case rel => exact ⟨rfl, hx⟩
    case rest =>
      clear hx HFB
      obtain ⟨rfl, hx⟩ := hcut
      cases sb
      · obtain rfl : y = ⟨#[]⟩ := by rw [← HY.out]; unfold appS; rw [HSB.out]; rfl
        go_wp2
        go_ret
        exact ⟨rfl, hx⟩
      · obtain ⟨hno, hsz, hys⟩ := app_facts HSB.out
        have HYS := Lib.hid (HY.out.symm.trans hys)
        have hvs := ver_seal HSB.out
        rw [← HYS.out] at hvs hsz
        have hy0 : 0 < y.size := by rw [HYS.out, sealB_size]; omega
        have HV := Lib.hid (fun w ht => implVer_any y w (by omega) ht)
        rw [hvs.1, hvs.2] at HV
        have HNO := Lib.hid hno
        clear hno hys hvs
        go_wp2_with fail
        refine (HV.out _ (HT.out.ext hx)).mono ?_
        rintro e w12 ⟨rfl, hx2⟩
        replace hx := hx.trans hx2
        clear hx2 HV
        dsimp only
        go_upto_region 20 with fail
        go_cut [22] from 117 (fun s22 wx => ∃ g cap, s22 = .slice (some ⟨g, 0, none⟩) y.size cap ∧ g < wx.heap.size ∧ w.heap.size ≤ g ∧ Hid (∀ j (hj : j < y.size), wx.cell? ⟨g, j, none⟩ = some (.int .u8 (y[j].toNat : Int)) ∧ wx.frozen? ⟨g, j, none⟩ = false) ∧ Ext w wx ∧ cap ≤ 9223372036854775807 ∧ y.size ≤ cap)
        case first =>
          have hcv : ∀ W, (convert 9 30 (.string y)).run Tryd.prog W = .ok (.slice (some ⟨W.heap.size, 0, none⟩) y.size (grownCap W y.size 0 5))
            (W.drew.alloc (.cells (bytesRow y (grownCap W y.size 0 5)) 5 ((bytesRow y (grownCap W y.size 0 5)).size, (bytesRow y (grownCap W y.size 0 5)).size + 1))) :=
            fun W => run_bytes_of_string W 9 30 5 y Tryd.underlying9 Tryd.underlying30 Tryd.underlying5
          go_wp2
          go_meet
          case rel =>
            exact ⟨_, _, rfl, by simp, hx.size_le, Lib.hid (fun j hj => bytes_cell _ y _ _ _ rfl j hj), hx.drew.alloc _, (by have := grownCap_le_maxLen w12 y.size 0 5 (by unfold maxLen; omega); unfold maxLen at this; omega), grownCap_ge _ _ _ _⟩
        case rest =>
          clear hx
          obtain ⟨g, cap, rfl, hg, hgw, HCELL, hx, hcap, hcap2⟩ := hcut
          obtain ⟨k, hk⟩ : ∃ k : Nat, v9 % (y.size : Int) = (k : Int) := ⟨(v9 % (y.size : Int)).toNat, by have := Int.emod_nonneg v9 (show (y.size : Int) ≠ 0 by omega); omega⟩
          have hkn : k < y.size := by have := Int.emod_lt_of_pos v9 (show (0 : Int) < (y.size : Int) by omega); omega
          obtain ⟨u, hu⟩ : ∃ u : Nat, 1 + v10 % 255 = (u : Int) := ⟨(1 + v10 % 255).toNat, by omega⟩
          have hu1 : 1 ≤ u := by omega
          have hu2 : u < 256 := by omega
          obtain ⟨d0, f0⟩ := HCELL.out k hkn
          obtain ⟨a, ha⟩ : ∃ a, y[k] = a := ⟨_, rfl⟩
          rw [ha] at d0
          have ha1 := a.toNat_lt
          obtain ⟨cc, hcc⟩ : ∃ cc : UInt8, UInt8.ofNat (a.toNat ^^^ u) = cc := ⟨_, rfl⟩
          have hcn : cc.toNat = a.toNat ^^^ u := by
            rw [← hcc, UInt8.toNat_ofNat']
            exact Nat.mod_eq_of_lt (Nat.xor_lt_two_pow (n := 8) (by omega) (by omega))
          have hxor : bits .xor .u8 (a.toNat : Int) (u : Int) = (cc.toNat : Int) := by rw [u8_xor_nat _ _ (by omega) hu2, hcn]
          have HNE := Lib.hid (show a ≠ cc from fun hh => xor_ne (a := a.toNat) (v := u) (by omega) (by rw [← hcn, ← hh]))
          have HA := Lib.hid ha
          clear ha hcc hcn
          have k0 : (0 : Int) ≤ (k : Int) := by omega
          have k1 : (k : Int) < (y.size : Int) := by omega
          go_wp2_with fail
          refine (H9.out c _ hx).mono ?_
          rintro e w13 ⟨rfl, rfl⟩
          dsimp only
          go_wp2_with fail
          refine wp_region_grow_tail 13 (by kernel_rfl) (by kernel_rfl) ?_
          simp only [List.take_succ_cons, List.take_zero, List.drop_succ_cons, List.drop_zero]
          repeat (go_big_quiet_step (first | (go_at_call 26; exact grow_same (H10.out c _ (hx.gw _)))))
          refine wpQuiet_nil ?_
          rintro _ ⟨xq, rfl⟩
          have hkl : k < (sealB x).data.toList.length := by rw [← HYS.out]; simpa using hkn
          obtain ⟨s', hs'⟩ : ∃ s' : ByteArray, (⟨(y.data.toList.set k cc).toArray⟩ : ByteArray) = s' := ⟨_, rfl⟩
          have hsz' : s'.size = y.size := by
            rw [← hs']
            show (y.data.toList.set k cc).toArray.size = y.size
            simp
          have hcv2 : (convert 30 9 (.slice (some ⟨g, 0, none⟩) y.size cap)).run Tryd.prog ((gw wc xq).setCell ⟨g, k, none⟩ (.int .u8 (cc.toNat : Int))) = .ok (.string s') ((gw wc xq).setCell ⟨g, k, none⟩ (.int .u8 (cc.toNat : Int))) := by
            have hl : (y.data.toList.set k cc).length = y.size := by simp
            have h1 := run_convert_bytes_back (P := Tryd.prog) ((gw wc xq).setCell ⟨g, k, none⟩ (.int .u8 (cc.toNat : Int))) 30 9 5 ⟨g, 0, none⟩ cap (y.data.toList.set k cc) Tryd.underlying30 Tryd.underlying5 Tryd.underlying9 (fun j hj => by
              have e1 : (⟨g, 0, none⟩ : Addr).add j = ⟨g, j, none⟩ := by unfold Addr.add; split <;> simp_all
              have hjy : j < y.size := by rw [hl] at hj; exact hj
              rw [e1, List.getElem_set]
              by_cases hjk : k = j
              · subst hjk
                rw [if_pos rfl]
                exact World.cell?_setCell_same _ _ _ ((gw_cell wc xq ⟨g, k, none⟩ hg).trans d0)
              · rw [if_neg hjk, World.cell?_setCell_other _ _ _ _ (fun hh => hjk (by injection hh)), gw_cell wc xq ⟨g, j, none⟩ hg, (HCELL.out j hjy).1]
                simp
                rfl)
            rw [hl, hs'] at h1
            exact h1
          have HV0 := Lib.hid (ver_spoilt (s' := s') (c := cc) HNO.out hkl (fun hh => HNE.out (by
            rw [← HA.out, ← hh]
            have hq : ∀ q : ByteArray, q = sealB x → ∀ (h1 : k < q.size) (h2 : k < (sealB x).data.toList.length), q[k] = (sealB x).data.toList[k] := by
              rintro q rfl h1 h2
              simp
              rfl
            exact hq y HYS.out hkn hkl)) (by rw [← hs', ← HYS.out]))
          obtain ⟨z1, hz1⟩ : ∃ z, verS s' = z := ⟨_, rfl⟩
          have HV2 := Lib.hid (fun w ht => implVer_any s' w (by omega) ht)
          rw [HV0.out, hz1] at HV2
          clear hs' hz1 hkl
          go_wp2_with fail
          refine (HV2.out _ (HT.out.ext ((hx.gw xq).setCell hgw _))).mono ?_
          rintro e w14 ⟨rfl, hx2⟩
          replace hx := ((hx.gw xq).setCell (p := ⟨g, k, none⟩) hgw (.int .u8 (cc.toNat : Int))).trans hx2
          clear hx2 hcv2
          dsimp only
          go_wp2
          go_ret
          exact ⟨rfl, hx⟩
  · go_enter Tryd.func5, Tryd.ntmps5
    go_wp2_with fail
    refine (vBigS_yes A len c _ (by omega)).mono ?_
    rintro e w1 ⟨rfl, hx⟩
    go_wp2
    go_ret
    exact ⟨rfl, hx⟩
theorem FnStrings_walk (w : World) (A : Option Addr) (len c : Nat) (z : Nat → Int) (hl : len ≤ maxLen) (hr : Rd w A len 1 (fun i _ => .int .u8 (z i))) (hz : ∀ i, i < len → 0 ≤ z i ∧ z i ≤ 255) (ht : TabW w) (he1 : ErrW "strconv.ErrSyntax" w) (he2 : ErrW "strconv.ErrRange" w) :
    Calls Tryd.prog 5 #[.slice A len c] w fun e w' => e = .returned (.bool true) ∧ Ext w w' := FnStrings_any w A len c ⟨z, hr, hz, hl⟩ ht he1 he2
end Go.Proofs.YtpmbnfoilhfobaaDoor
