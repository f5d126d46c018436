/- ParseInt: the contracts and the walk of its law. -/
import Derived.Test.YtpmbnfoilhfobaaDoorDig
import Derived.Test.YtpmbnfoilhfobaaDoorSums
namespace Go.Proofs.YtpmbnfoilhfobaaDoor
open Go.RowKit
set_option linter.unusedVariables false

set_option maxRecDepth 100000 in
set_option maxHeartbeats 2000000 in
theorem l1Read_any (s : ByteArray) (w : World) (hs : s.size ≤ 1048576) : Calls Tryd.prog 43 #[.string s] w fun e w' => e = .returned (.tuple #[.int .i64 (rdV s), .bool (rdC s)]) ∧ Ext w w' := by
  by_cases hneg : 1 < s.size ∧ ∃ r, s.data.toList = 45 :: r
  · obtain ⟨h1s, r, hr⟩ := hneg
    have h0s : 0 < s.size := by omega
    have q0 : (s[0].toNat : Int) = 45 := by
      have : s[0] = 45 := by
        have h2 : s.data.toList[0]'(by simpa using h0s) = 45 := by simp [hr]
        simp only [Array.getElem_toList] at h2
        exact h2
      rw [this]; rfl
    obtain ⟨t, hte⟩ : ∃ t, s.extract 1 s.size = t := ⟨_, rfl⟩
    have HT := Lib.hid (show t.data.toList = r by
      rw [← hte]
      simp only [ByteArray.data_extract, Array.toList_extract, List.extract_eq_take_drop, hr, List.drop_succ_cons, List.drop_zero]
      exact List.take_of_length_le (by have h4 := congrArg List.length hr; simp at h4; omega))
    have HS := Lib.hid (show s.data.toList = 45 :: t.data.toList by rw [HT.out]; exact hr)
    have hts : t.size + 1 = s.size := by
      have h3 := congrArg List.length HS.out
      simp at h3
      omega
    have hlt2 : t.size < s.size := by omega
    clear hr HT hts
    go_enter Tryd.func43, Tryd.ntmps43
    go_wp2_with (go_at_call 56; fail)
    clear hte q0 h1s
    by_cases h16 : 1 ≤ t.size ∧ t.size ≤ 6
    · obtain ⟨h1, h6⟩ := h16
      have hin : inB (t.size : Int) 1 6 = true := inB_pos (by omega) (by omega)
      go_wp2_with (go_at_call 56; refine (l1In_any _ _ _ _).mono ?_; rintro e w1 ⟨rfl, rfl⟩)
      clear hin
      go_loop [5, 6] (fun n i => ∃ k : Nat, k ≤ t.size ∧ i = .int .i64 k ∧ n = .int .i64 (dval (t.data.toList.take k)) ∧ Hid (∀ c ∈ t.data.toList.take k, isD c)) (fun _ i => t.size - (intOf i).toNat)
      case atStart => exact ⟨0, Nat.zero_le _, rfl, rfl, Lib.hid (fun c hc => by simp at hc)⟩
      case round =>
        obtain ⟨k, hk, rfl, rfl, HD⟩ := hrel
        by_cases hlt : k < t.size
        · have hb := dval_small (t.data.toList.take k) HD.out (by rw [List.length_take]; omega)
          have hb3 : (t[k].toNat : Int) < 256 := by have := t[k].toNat_lt; omega
          by_cases hd : 48 ≤ (t[k].toNat : Int) ∧ (t[k].toNat : Int) ≤ 57
          · have HD2 := Lib.hid (show ∀ c ∈ t.data.toList.take (k + 1), isD c from by
              intro c hc
              rw [take_snoc t k hlt, List.mem_append, List.mem_singleton] at hc
              rcases hc with h | h
              · exact HD.out c h
              · rw [h]; exact hd)
            have HE := Lib.hid (show dval (t.data.toList.take (k + 1)) = 10 * dval (t.data.toList.take k) + ((t[k].toNat : Int) - 48) by rw [take_snoc t k hlt, dval_snoc])
            obtain ⟨e1, e2⟩ := hd
            go_wp2
            go_round
            case rel => exact ⟨k + 1, by omega, by go_num, by rw [HE.out], HD2⟩
            case measure => simp [intOf]; omega
          · have HX := Lib.hid (rd_no (s := s) (by
              rintro ⟨m, hm⟩
              have h1 := (says_signed hm HS.out).2
              exact hd (dec_isD _ _ (by rw [← h1]; exact List.getElem_mem (by simpa using hlt)))))
            by_cases hd1 : (t[k].toNat : Int) < 48
            · clear hd
              go_wp2
              go_ret2
              exact ⟨by rw [HX.out.1, HX.out.2]; first | done | rfl, Ext.refl _⟩
            · have hd2 : 57 < (t[k].toNat : Int) := by omega
              have hd3 : 48 ≤ (t[k].toNat : Int) := by omega
              clear hd hd1
              go_wp2
              go_ret2
              exact ⟨by rw [HX.out.1, HX.out.2]; first | done | rfl, Ext.refl _⟩
        · have hall : ∀ c ∈ t.data.toList, isD c := by
            have h := HD.out
            rwa [List.take_of_length_le (by first | (simp; done) | (simp; omega))] at h
          have hv := dval_small t.data.toList hall (by simpa using h6)
          have HV := Lib.hid hv
          have hz := iB_size (n := -(dval t.data.toList)) (by omega) (by omega)
          have HW := Lib.hid (show t.data.toList.take k = t.data.toList from List.take_of_length_le (by first | (simp; done) | (simp; omega)))
          rw [HW.out]
          have HNUM := Lib.hid (fun w => l1Num_any (-(dval t.data.toList)) w (by omega) (by omega))
          by_cases he : iB (-(dval t.data.toList)) = s
          · have HX := Lib.hid (rd_yes (s := s) (n := -(dval t.data.toList)) ⟨by omega, he⟩)
            have q := bs_eq he
            clear he hall
            go_wp2_with (go_at_call 57; refine (HNUM.out _).mono ?_; rintro e w1 ⟨rfl, hx⟩; obtain ⟨x, rfl⟩ := hx.to_gw; clear hx)
            go_ret2
            exact ⟨by rw [HX.out.1, HX.out.2]; first | done | rfl, by repeat (with_reducible first | exact Ext.refl _ | refine Ext.setCell ?_ (by first | (simp; done) | (simp; omega)) _ | refine Ext.alloc ?_ _ | refine Ext.gw ?_ _ | refine Ext.drew ?_)⟩
          · have HX := Lib.hid (rd_no (s := s) (by
              rintro ⟨m, hm⟩
              have h1 := says_signed hm HS.out
              apply he
              have h2 : m = -(dval t.data.toList) := by
                have h3 := h1.2; rw [h3, dec_dval]; have := h1.1; omega
              rw [← h2]
              exact hm.2))
            have q := bs_ne he
            clear he hall
            go_wp2_with (go_at_call 57; refine (HNUM.out _).mono ?_; rintro e w1 ⟨rfl, hx⟩; obtain ⟨x, rfl⟩ := hx.to_gw; clear hx)
            go_ret2
            exact ⟨by rw [HX.out.1, HX.out.2]; first | done | rfl, by repeat (with_reducible first | exact Ext.refl _ | refine Ext.setCell ?_ (by first | (simp; done) | (simp; omega)) _ | refine Ext.alloc ?_ _ | refine Ext.gw ?_ _ | refine Ext.drew ?_)⟩
    · have hin : inB (t.size : Int) 1 6 = false := inB_neg (by omega)
      have HX := Lib.hid (rd_no (s := s) (by
        rintro ⟨m, hm⟩
        have h1 := (says_signed hm HS.out).2
        have h2 := dec_len m.natAbs (by have := hm.1; omega)
        rw [← h1] at h2
        simp at h2
        omega))
      clear h16
      go_wp2_with (go_at_call 56; refine (l1In_any _ _ _ _).mono ?_; rintro e w1 ⟨rfl, rfl⟩)
      go_ret2
      exact ⟨by rw [HX.out.1, HX.out.2]; first | done | rfl, Ext.refl _⟩
  · have HS := Lib.hid (show ∀ r, s.data.toList = 45 :: r → r = [] from fun r hr => by
      have h1 : ¬ 1 < s.size := fun h => hneg ⟨h, r, hr⟩
      have h2 := congrArg List.length hr
      simp at h2
      exact List.length_eq_zero_iff.1 (by omega))
    by_cases h1s : 1 < s.size
    · have h0s : 0 < s.size := by omega
      have hne : s[0] ≠ 45 := fun h => hneg ⟨h1s, s.data.toList.tail, by
        have h2 : s.data.toList[0]'(by simpa using h0s) = 45 := by
          simp only [Array.getElem_toList]
          exact h
        have key : ∀ (L : List UInt8) (hL : 0 < L.length), L = L[0] :: L.tail := by
          intro L hL
          cases L with
          | nil => exact absurd hL (by decide)
          | cons c r => rfl
        have h3 := key s.data.toList (by simpa using h0s)
        rw [h2] at h3
        exact h3⟩
      have q0 : ((s[0].toNat : Int) == 45) = false := by
        rw [Bool.eq_false_iff]
        intro h
        exact hne (UInt8.toNat_inj.1 (by have := eq_of_beq h; show s[0].toNat = 45; omega))
      clear hne hneg
      go_enter Tryd.func43, Tryd.ntmps43
      go_wp2_with (go_at_call 56; fail)
      clear q0
      by_cases h16 : 1 ≤ s.size ∧ s.size ≤ 6
      · obtain ⟨h1, h6⟩ := h16
        have hin : inB (s.size : Int) 1 6 = true := inB_pos (by omega) (by omega)
        go_wp2_with (go_at_call 56; refine (l1In_any _ _ _ _).mono ?_; rintro e w1 ⟨rfl, rfl⟩)
        clear hin
        go_loop [5, 6] (fun n i => ∃ k : Nat, k ≤ s.size ∧ i = .int .i64 k ∧ n = .int .i64 (dval (s.data.toList.take k)) ∧ Hid (∀ c ∈ s.data.toList.take k, isD c)) (fun _ i => s.size - (intOf i).toNat)
        case atStart => exact ⟨0, Nat.zero_le _, rfl, rfl, Lib.hid (fun c hc => by simp at hc)⟩
        case round =>
          obtain ⟨k, hk, rfl, rfl, HD⟩ := hrel
          by_cases hlt : k < s.size
          · have hb := dval_small (s.data.toList.take k) HD.out (by rw [List.length_take]; omega)
            have hb3 : (s[k].toNat : Int) < 256 := by have := s[k].toNat_lt; omega
            by_cases hd : 48 ≤ (s[k].toNat : Int) ∧ (s[k].toNat : Int) ≤ 57
            · have HD2 := Lib.hid (show ∀ c ∈ s.data.toList.take (k + 1), isD c from by
                intro c hc
                rw [take_snoc s k hlt, List.mem_append, List.mem_singleton] at hc
                rcases hc with h | h
                · exact HD.out c h
                · rw [h]; exact hd)
              have HE := Lib.hid (show dval (s.data.toList.take (k + 1)) = 10 * dval (s.data.toList.take k) + ((s[k].toNat : Int) - 48) by rw [take_snoc s k hlt, dval_snoc])
              obtain ⟨e1, e2⟩ := hd
              go_wp2
              go_round
              case rel => exact ⟨k + 1, by omega, by go_num, by rw [HE.out], HD2⟩
              case measure => simp [intOf]; omega
            · have HX := Lib.hid (rd_no (s := s) (by
                rintro ⟨m, hm⟩
                have h1 := (says_plain hm HS.out).2
                exact hd (dec_isD _ _ (by rw [← h1]; exact List.getElem_mem (by simpa using hlt)))))
              by_cases hd1 : (s[k].toNat : Int) < 48
              · clear hd
                go_wp2
                go_ret2
                exact ⟨by rw [HX.out.1, HX.out.2]; first | done | rfl, Ext.refl _⟩
              · have hd2 : 57 < (s[k].toNat : Int) := by omega
                have hd3 : 48 ≤ (s[k].toNat : Int) := by omega
                clear hd hd1
                go_wp2
                go_ret2
                exact ⟨by rw [HX.out.1, HX.out.2]; first | done | rfl, Ext.refl _⟩
          · have hall : ∀ c ∈ s.data.toList, isD c := by
              have h := HD.out
              rwa [List.take_of_length_le (by first | (simp; done) | (simp; omega))] at h
            have hv := dval_small s.data.toList hall (by simpa using h6)
            have HV := Lib.hid hv
            have hz := iB_size (n := (dval s.data.toList)) (by omega) (by omega)
            have HW := Lib.hid (show s.data.toList.take k = s.data.toList from List.take_of_length_le (by first | (simp; done) | (simp; omega)))
            rw [HW.out]
            have HNUM := Lib.hid (fun w => l1Num_any ((dval s.data.toList)) w (by omega) (by omega))
            by_cases he : iB ((dval s.data.toList)) = s
            · have HX := Lib.hid (rd_yes (s := s) (n := (dval s.data.toList)) ⟨by omega, he⟩)
              have q := bs_eq he
              clear he hall
              go_wp2_with (go_at_call 57; refine (HNUM.out _).mono ?_; rintro e w1 ⟨rfl, hx⟩; obtain ⟨x, rfl⟩ := hx.to_gw; clear hx)
              go_ret2
              exact ⟨by rw [HX.out.1, HX.out.2]; first | done | rfl, by repeat (with_reducible first | exact Ext.refl _ | refine Ext.setCell ?_ (by first | (simp; done) | (simp; omega)) _ | refine Ext.alloc ?_ _ | refine Ext.gw ?_ _ | refine Ext.drew ?_)⟩
            · have HX := Lib.hid (rd_no (s := s) (by
                rintro ⟨m, hm⟩
                have h1 := says_plain hm HS.out
                apply he
                have h2 : m = (dval s.data.toList) := by
                  rw [h1.2, dec_dval]; have := h1.1; omega
                rw [← h2]
                exact hm.2))
              have q := bs_ne he
              clear he hall
              go_wp2_with (go_at_call 57; refine (HNUM.out _).mono ?_; rintro e w1 ⟨rfl, hx⟩; obtain ⟨x, rfl⟩ := hx.to_gw; clear hx)
              go_ret2
              exact ⟨by rw [HX.out.1, HX.out.2]; first | done | rfl, by repeat (with_reducible first | exact Ext.refl _ | refine Ext.setCell ?_ (by first | (simp; done) | (simp; omega)) _ | refine Ext.alloc ?_ _ | refine Ext.gw ?_ _ | refine Ext.drew ?_)⟩
      · have hin : inB (s.size : Int) 1 6 = false := inB_neg (by omega)
        have HX := Lib.hid (rd_no (s := s) (by
          rintro ⟨m, hm⟩
          have h1 := (says_plain hm HS.out).2
          have h2 := dec_len m.toNat (by have := hm.1; omega)
          rw [← h1] at h2
          simp at h2
          omega))
        clear h16
        go_wp2_with (go_at_call 56; refine (l1In_any _ _ _ _).mono ?_; rintro e w1 ⟨rfl, rfl⟩)
        go_ret2
        exact ⟨by rw [HX.out.1, HX.out.2]; first | done | rfl, Ext.refl _⟩
    · have hsz : s.size ≤ 1 := by omega
      clear h1s hneg
      go_enter Tryd.func43, Tryd.ntmps43
      go_wp2_with (go_at_call 56; fail)
      by_cases h16 : 1 ≤ s.size ∧ s.size ≤ 6
      · obtain ⟨h1, h6⟩ := h16
        have hin : inB (s.size : Int) 1 6 = true := inB_pos (by omega) (by omega)
        go_wp2_with (go_at_call 56; refine (l1In_any _ _ _ _).mono ?_; rintro e w1 ⟨rfl, rfl⟩)
        clear hin
        go_loop [5, 6] (fun n i => ∃ k : Nat, k ≤ s.size ∧ i = .int .i64 k ∧ n = .int .i64 (dval (s.data.toList.take k)) ∧ Hid (∀ c ∈ s.data.toList.take k, isD c)) (fun _ i => s.size - (intOf i).toNat)
        case atStart => exact ⟨0, Nat.zero_le _, rfl, rfl, Lib.hid (fun c hc => by simp at hc)⟩
        case round =>
          obtain ⟨k, hk, rfl, rfl, HD⟩ := hrel
          by_cases hlt : k < s.size
          · have hb := dval_small (s.data.toList.take k) HD.out (by rw [List.length_take]; omega)
            have hb3 : (s[k].toNat : Int) < 256 := by have := s[k].toNat_lt; omega
            by_cases hd : 48 ≤ (s[k].toNat : Int) ∧ (s[k].toNat : Int) ≤ 57
            · have HD2 := Lib.hid (show ∀ c ∈ s.data.toList.take (k + 1), isD c from by
                intro c hc
                rw [take_snoc s k hlt, List.mem_append, List.mem_singleton] at hc
                rcases hc with h | h
                · exact HD.out c h
                · rw [h]; exact hd)
              have HE := Lib.hid (show dval (s.data.toList.take (k + 1)) = 10 * dval (s.data.toList.take k) + ((s[k].toNat : Int) - 48) by rw [take_snoc s k hlt, dval_snoc])
              obtain ⟨e1, e2⟩ := hd
              go_wp2
              go_round
              case rel => exact ⟨k + 1, by omega, by go_num, by rw [HE.out], HD2⟩
              case measure => simp [intOf]; omega
            · have HX := Lib.hid (rd_no (s := s) (by
                rintro ⟨m, hm⟩
                have h1 := (says_plain hm HS.out).2
                exact hd (dec_isD _ _ (by rw [← h1]; exact List.getElem_mem (by simpa using hlt)))))
              by_cases hd1 : (s[k].toNat : Int) < 48
              · clear hd
                go_wp2
                go_ret2
                exact ⟨by rw [HX.out.1, HX.out.2]; first | done | rfl, Ext.refl _⟩
              · have hd2 : 57 < (s[k].toNat : Int) := by omega
                have hd3 : 48 ≤ (s[k].toNat : Int) := by omega
                clear hd hd1
                go_wp2
                go_ret2
                exact ⟨by rw [HX.out.1, HX.out.2]; first | done | rfl, Ext.refl _⟩
          · have hall : ∀ c ∈ s.data.toList, isD c := by
              have h := HD.out
              rwa [List.take_of_length_le (by first | (simp; done) | (simp; omega))] at h
            have hv := dval_small s.data.toList hall (by simpa using h6)
            have HV := Lib.hid hv
            have hz := iB_size (n := (dval s.data.toList)) (by omega) (by omega)
            have HW := Lib.hid (show s.data.toList.take k = s.data.toList from List.take_of_length_le (by first | (simp; done) | (simp; omega)))
            rw [HW.out]
            have HNUM := Lib.hid (fun w => l1Num_any ((dval s.data.toList)) w (by omega) (by omega))
            by_cases he : iB ((dval s.data.toList)) = s
            · have HX := Lib.hid (rd_yes (s := s) (n := (dval s.data.toList)) ⟨by omega, he⟩)
              have q := bs_eq he
              clear he hall
              go_wp2_with (go_at_call 57; refine (HNUM.out _).mono ?_; rintro e w1 ⟨rfl, hx⟩; obtain ⟨x, rfl⟩ := hx.to_gw; clear hx)
              go_ret2
              exact ⟨by rw [HX.out.1, HX.out.2]; first | done | rfl, by repeat (with_reducible first | exact Ext.refl _ | refine Ext.setCell ?_ (by first | (simp; done) | (simp; omega)) _ | refine Ext.alloc ?_ _ | refine Ext.gw ?_ _ | refine Ext.drew ?_)⟩
            · have HX := Lib.hid (rd_no (s := s) (by
                rintro ⟨m, hm⟩
                have h1 := says_plain hm HS.out
                apply he
                have h2 : m = (dval s.data.toList) := by
                  rw [h1.2, dec_dval]; have := h1.1; omega
                rw [← h2]
                exact hm.2))
              have q := bs_ne he
              clear he hall
              go_wp2_with (go_at_call 57; refine (HNUM.out _).mono ?_; rintro e w1 ⟨rfl, hx⟩; obtain ⟨x, rfl⟩ := hx.to_gw; clear hx)
              go_ret2
              exact ⟨by rw [HX.out.1, HX.out.2]; first | done | rfl, by repeat (with_reducible first | exact Ext.refl _ | refine Ext.setCell ?_ (by first | (simp; done) | (simp; omega)) _ | refine Ext.alloc ?_ _ | refine Ext.gw ?_ _ | refine Ext.drew ?_)⟩
      · have hin : inB (s.size : Int) 1 6 = false := inB_neg (by omega)
        have HX := Lib.hid (rd_no (s := s) (by
          rintro ⟨m, hm⟩
          have h1 := (says_plain hm HS.out).2
          have h2 := dec_len m.toNat (by have := hm.1; omega)
          rw [← h1] at h2
          simp at h2
          omega))
        clear h16
        go_wp2_with (go_at_call 56; refine (l1In_any _ _ _ _).mono ?_; rintro e w1 ⟨rfl, rfl⟩)
        go_ret2
        exact ⟨by rw [HX.out.1, HX.out.2]; first | done | rfl, Ext.refl _⟩
theorem specParse_any (s : ByteArray) (w : World) (hs : s.size ≤ 1048576) : Calls Tryd.prog 12 #[.string s] w fun e w' => e = .returned (.tuple #[.int .i64 (rdV s), .bool (rdC s)]) ∧ Ext w w' := by
  have HS := Lib.hid hs
  go_enter Tryd.func12, Tryd.ntmps12
  go_wp2_with (go_at_call 43; refine (l1Read_any _ _ HS.out).mono ?_; rintro e w1 ⟨rfl, hx⟩; obtain ⟨x, rfl⟩ := hx.to_gw; clear hx)
  go_ret2
  exact ⟨rfl, by repeat (with_reducible first | exact Ext.refl _ | refine Ext.setCell ?_ (by first | (simp; done) | (simp; omega)) _ | refine Ext.alloc ?_ _ | refine Ext.gw ?_ _ | refine Ext.drew ?_)⟩
end Go.Proofs.YtpmbnfoilhfobaaDoor
