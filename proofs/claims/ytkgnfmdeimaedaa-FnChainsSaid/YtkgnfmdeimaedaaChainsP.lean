/- What the law FnChains says, in plain words. -/
import Derived.Test.YtkgnfmdeimaedaaChainB
import Derived.Test.YtkgnfmdeimaedaaJoinB
import Derived.Test.YtkgnfmdeimaedaaCutY
import Derived.Test.YtkgnfmdeimaedaaPondsP
namespace Go.Proofs.Ytkgnfmdeimaedaa
open Go.RowKit
set_option linter.unusedVariables false

theorem freeTo_succ (m : Nat → Pd) (k : Nat) : freeTo m (k + 1) = freeTo m k - (m k).wide * (m k).high := rfl
theorem freeTo_del (F : Nat → Pd) (k j : Nat) : freeTo (delM F k) j = if j ≤ k then freeTo F j else freeTo F (j + 1) + (F k).wide * (F k).high := by
  induction j with
  | zero => rw [if_pos (Nat.zero_le _)]; rfl
  | succ j ih =>
    rw [freeTo_succ, ih]
    unfold delM
    by_cases h1 : j + 1 ≤ k
    · rw [if_pos (by omega), if_pos h1, if_pos (by omega)]
      rfl
    · rw [if_neg h1]
      by_cases h2 : j ≤ k
      · obtain rfl : j = k := by omega
        rw [if_pos h2, if_neg (Nat.lt_irrefl _), freeTo_succ F (j + 1), freeTo_succ F j]
        omega
      · rw [if_neg h2, if_neg (by omega), freeTo_succ F (j + 1)]
        omega
theorem freeTo_set (m : Nat → Pd) (i : Nat) (x : Pd) (j : Nat) : freeTo (setM m i x) j = if i < j then freeTo m j + (m i).wide * (m i).high - x.wide * x.high else freeTo m j := by
  induction j with
  | zero => rw [if_neg (Nat.not_lt_zero i)]; rfl
  | succ j ih =>
    rw [freeTo_succ, freeTo_succ, ih]
    by_cases h1 : i < j
    · rw [if_pos h1, if_pos (by omega), show setM m i x j = m j from if_neg (by omega)]
      omega
    · rw [if_neg h1]
      by_cases h2 : i < j + 1
      · obtain rfl : i = j := by omega
        rw [if_pos h2, show setM m i x i = x from if_pos rfl]
        omega
      · rw [if_neg h2, show setM m i x j = m j from if_neg (by omega)]
theorem free_join {n : Nat} {m : Nat → Pd} {i k : Nat} {a : Int} (hin : i < n) (hkn : k < n) (hik : i ≠ k) (hf : fitB (m i) (m k) = true) : freeTo (joinM m i k a) (n - 1) = freeTo m n := by
  have hq := of_decide_eq_true (show decide (boxW (m i) (m k) * boxH (m i) (m k) = (m i).wide * (m i).high + (m k).wide * (m k).high) = true from hf)
  have h1 : freeTo (joinM m i k a) (n - 1) = freeTo (setM m i (boxJ a (m i) (m k))) n + (m k).wide * (m k).high := by
    unfold joinM
    rw [freeTo_del]
    have hk : setM m i (boxJ a (m i) (m k)) k = m k := if_neg (fun h => hik h.symm)
    by_cases h : n - 1 ≤ k
    · obtain rfl : k = n - 1 := by omega
      rw [if_pos h]
      conv => rhs; rw [show n = (n - 1) + 1 by omega]
      rw [freeTo_succ, show n - 1 + 1 - 1 = n - 1 by omega, hk]
      omega
    · rw [if_neg h, show n - 1 + 1 = n by omega, hk]
  rw [h1, freeTo_set, if_pos hin]
  show _ - boxW (m i) (m k) * boxH (m i) (m k) + _ = _
  rw [hq]
  omega
theorem pondsB_congr {n : Nat} {m m' : Nat → Pd} (h : ∀ t, t < n → m t = m' t) : pondsB n m = pondsB n m' := by
  have h2 : pondsP n m ↔ pondsP n m' := by
    unfold pondsP okP
    constructor
    · rintro ⟨h1, h2⟩
      refine ⟨h1, fun i hi => ?_⟩
      rw [← h i hi]
      refine ⟨(h2 i hi).1, fun h0 => ?_, fun k hk => ?_⟩
      · rw [← h (i - 1) (by omega)]; exact (h2 i hi).2.1 h0
      · rw [← h k (by omega)]; exact (h2 i hi).2.2 k hk
    · rintro ⟨h1, h2⟩
      refine ⟨h1, fun i hi => ?_⟩
      rw [h i hi]
      refine ⟨(h2 i hi).1, fun h0 => ?_, fun k hk => ?_⟩
      · rw [h (i - 1) (by omega)]; exact (h2 i hi).2.1 h0
      · rw [h k (by omega)]; exact (h2 i hi).2.2 k hk
  rw [Bool.eq_iff_iff, pondsB_iff, pondsB_iff]
  exact h2
theorem chain_law (n : Nat) (m : Nat → Pd) (a b : Int) : ∃ (N : Nat) (p : Nat → Int) (ok : Bool) (N2 : Nat) (p2 : Nat → Int) (ok2 : Bool), N ≤ 1000 ∧ N2 ≤ 1000 ∧
    (∀ A c w, c ≤ maxLen → n ≤ c → Rd w A n 6 (pdF m) → Calls Try.prog 42 #[.slice A n c, .int .i64 a, .int .i64 b] w (RetS 3 1 N (mk1 p) ok w)) ∧
    (∀ A c w, c ≤ maxLen → n ≤ c → Rd w A n 6 (pdF m) → Calls Try.prog 41 #[.slice A n c, .int .i64 a, .int .i64 b] w (RetS 3 1 N (mk1 p) ok w)) ∧
    (∀ A c w, c ≤ maxLen → n ≤ c → Rd w A n 6 (pdF m) → Calls Try.prog 42 #[.slice A n c, .int .i64 b, .int .i64 a] w (RetS 3 1 N2 (mk1 p2) ok2 w)) ∧
    (ok = true → ok2 = true ∧ N2 = N) ∧
    (∀ t, t + 1 < N → ∃ bk : Int, 1 ≤ bk ∧ bk ≤ 4000 ∧ ∀ A c w, c ≤ maxLen → n ≤ c → Rd w A n 6 (pdF m) → Calls Try.prog 27 #[.slice A n c, .int .i64 (p t), .int .i64 (p (t + 1))] w fun e w' => e = .returned (.tuple #[.int .i64 bk, .bool true]) ∧ Ext w w') := by
  obtain ⟨N, p, ok, hN, hs, hi, hf⟩ := chain_both n m a b
  obtain ⟨N2, p2, ok2, hN2, _, hi2, hf2⟩ := chain_both n m b a
  refine ⟨N, p, ok, N2, p2, ok2, hN, hN2, hi, hs, hi2, fun hok => ?_, fun t ht => ?_⟩
  · rcases hf with ⟨_, _, h3⟩ | ⟨i, k, hv, f1, f2, hin, hkn, ida, idb, hok1, hNv, _⟩
    · rw [hok] at h3; cases h3
    · rcases hf2 with ⟨h1, _, _⟩ | ⟨k', i', _, f2', f1', _, _, _, _, hok2, hNv2, _⟩
      · rw [chC_yes hv ⟨by omega, by omega⟩] at h1; cases h1
      · obtain rfl : k' = k := by omega
        obtain rfl : i' = i := by omega
        have h0 := of_decide_eq_true (hok1.symm.trans hok)
        have he := (far_is (adj := adjM m) hkn).both (far_is (adj := adjM m) hin) (adjM_comm m) hkn hin h0
        have h1 : ok2 = true := by rw [hok2, he]; exact decide_eq_true h0
        refine ⟨h1, ?_⟩
        rw [hNv, hNv2, if_pos h1, if_pos hok, he]
  · rcases hf with ⟨_, h2, _⟩ | ⟨i, k, hv, f1, f2, hin, hkn, ida, idb, hok1, hNv, hp⟩
    · omega
    · have hok : ok = true := by
        cases ok
        · rw [if_neg (by simp)] at hNv; omega
        · rfl
      rw [if_pos hok] at hNv
      have h0 := of_decide_eq_true (hok1.symm.trans hok)
      have hpp := pondsB_iff.1 hv
      have hF := far_is (adj := adjM m) hkn
      obtain ⟨h1, h2⟩ := hF.way (adjM_comm m) hin t (by omega)
      obtain ⟨h3, h4⟩ := hF.way (adjM_comm m) hin (t + 1) (by omega)
      have hb := hF.bank (adjM_comm m) hin (t := t) (by omega)
      have hne : wayN n (adjM m) (farV n (adjM m) k) i (t + 1) ≠ wayN n (adjM m) (farV n (adjM m) k) i t := fun hh => by rw [hh] at h4; omega
      obtain ⟨b1, _, b3, _⟩ := bk_both hv h1 h3 rfl hne
      refine ⟨_, hb, (bankV_bd (small_at hpp h1) (small_at hpp h3)).2, fun A c w c1 c2 c3 => ?_⟩
      have h5 := implBankOf_any A n c m (m (wayN n (adjM m) (farV n (adjM m) k) i t)).id (m (wayN n (adjM m) (farV n (adjM m) k) i (t + 1))).id w c1 c2 c3
      rw [b1, b3] at h5
      rw [hp]
      exact h5
theorem join_law (n : Nat) (m : Nat → Pd) (a b : Int) : ∃ (N : Nat) (p : Nat → Pd) (ok : Bool), N ≤ 1000 ∧
    (∀ A c w, c ≤ maxLen → n ≤ c → Rd w A n 6 (pdF m) → Calls Try.prog 40 #[.slice A n c, .int .i64 a, .int .i64 b] w (RetS 51 6 N (pdF p) ok w)) ∧
    (∀ A c w, c ≤ maxLen → n ≤ c → Rd w A n 6 (pdF m) → Calls Try.prog 39 #[.slice A n c, .int .i64 a, .int .i64 b] w (RetS 51 6 N (pdF p) ok w)) ∧
    (ok = true → ∃ fr : Int, (∀ A c w, c ≤ maxLen → n ≤ c → Rd w A n 6 (pdF m) → Calls Try.prog 21 #[.slice A n c] w fun e w' => e = .returned (.tuple #[.int .i64 fr, .bool true]) ∧ Ext w w') ∧
      (∀ A c w, c ≤ maxLen → N ≤ c → Rd w A N 6 (pdF p) → Calls Try.prog 21 #[.slice A N c] w fun e w' => e = .returned (.tuple #[.int .i64 fr, .bool true]) ∧ Ext w w')) := by
  obtain ⟨N, p, ok, hN, hs, hi, hf, _⟩ := join_both n m a b
  refine ⟨N, p, ok, hN, hi, hs, fun hok => ?_⟩
  obtain ⟨i, k, hv, _, _, hin, hkn, hik, hfit, hv2, rfl, rfl⟩ := hf hok
  refine ⟨freeTo m n, fun A c w c1 c2 c3 => ?_, fun A c w c1 c2 c3 => ?_⟩
  · have h := implFree_any A n c m w c1 c2 c3
    rw [show freeV n m = freeTo m n from if_pos hv, hv] at h
    exact h
  · have h := implFree_any A (n - 1) c (joinM m i k a) w c1 c2 c3
    rw [show freeV (n - 1) (joinM m i k a) = freeTo (joinM m i k a) (n - 1) from if_pos hv2, hv2, free_join hin hkn hik hfit] at h
    exact h
theorem cut_law (n : Nat) (m : Nat → Pd) (id wd : Int) : ∃ (N : Nat) (p : Nat → Pd) (nid : Int) (ok : Bool), N ≤ 1000 ∧
    (∀ A c w, c ≤ maxLen → n ≤ c → Rd w A n 6 (pdF m) → Calls Try.prog 37 #[.slice A n c, .int .i64 id, .int .i64 wd] w (RetS3 51 6 N (pdF p) nid ok w)) ∧
    (∀ A c w, c ≤ maxLen → n ≤ c → Rd w A n 6 (pdF m) → Calls Try.prog 36 #[.slice A n c, .int .i64 id, .int .i64 wd] w (RetS3 51 6 N (pdF p) nid ok w)) ∧
    (ok = true → ∃ bk : Int, 1 ≤ bk ∧ bk ≤ 4000 ∧ (∀ A c w, c ≤ maxLen → N ≤ c → Rd w A N 6 (pdF p) → Calls Try.prog 27 #[.slice A N c, .int .i64 id, .int .i64 nid] w fun e w' => e = .returned (.tuple #[.int .i64 bk, .bool true]) ∧ Ext w w') ∧
      (∀ A c w, c ≤ maxLen → N ≤ c → Rd w A N 6 (pdF p) → Calls Try.prog 40 #[.slice A N c, .int .i64 id, .int .i64 nid] w (RetS 51 6 n (pdF m) true w))) := by
  cases hv : cutB n m id wd
  · exact ⟨0, m, 0, false, by omega, fun A c w h1 h2 h3 => implCut_no A n c m id wd w h1 h2 h3 hv, fun A c w h1 h2 h3 => specCut_no A n c m id wd w h1 h2 h3 hv, fun h => by cases h⟩
  · obtain ⟨hf, hb⟩ := Bool.and_eq_true_iff.1 (show (fndB n m id && inB wd 1 ((m (findPond n m id).toNat).wide - 1)) = true from hv)
    rcases fndB_cases n m id with h0 | ⟨_, hp, j, hj, hjn, hid⟩
    · rw [h0] at hf; cases hf
    · rw [hj, Int.toNat_natCast] at hb
      obtain ⟨l, hl⟩ : ∃ l, n = l + 1 := ⟨n - 1, by omega⟩
      have hn10 := (pondsB_iff.1 hp).1
      cases hk : pondsB (n + 1) (cutM m j n wd)
      · exact ⟨0, m, 0, false, by omega, fun A c w h1 h2 h3 => implCut_bad A n c m id wd w h1 h2 h3 l j hl hp hj hjn hb hk, fun A c w h1 h2 h3 => specCut_bad A n c m id wd w h1 h2 h3 l j hl hp hj hjn hb hk, fun h => by cases h⟩
      · refine ⟨n + 1, cutM m j n wd, (m l).id + 1, true, by omega, fun A c w h1 h2 h3 => implCut_yes A n c m id wd w h1 h2 h3 l j hl hp hj hjn hb hk, fun A c w h1 h2 h3 => specCut_yes A n c m id wd w h1 h2 h3 l j hl hp hj hjn hb hk, fun _ => ?_⟩
        have hkp := pondsB_iff.1 hk
        have hpp := pondsB_iff.1 hp
        obtain ⟨_, _, _, ⟨w0, w1⟩, ⟨h0, h1⟩, _⟩ := (hpp.2 j hjn).1
        obtain ⟨d0, d1⟩ := inB_iff.1 hb
        have hjn2 : j ≠ n := by omega
        have cj : cutM m j n wd j = { m j with wide := wd } := by unfold cutM; rw [if_neg hjn2, if_pos rfl]
        have cn : cutM m j n wd n = { m j with id := (m l).id + 1, left := (m j).left + wd, wide := (m j).wide - wd } := by unfold cutM; rw [if_pos rfl, show n - 1 = l by omega]
        have idj : (cutM m j n wd j).id = id := by rw [cj]; exact hid
        have idn : (cutM m j n wd n).id = (m l).id + 1 := by rw [cn]
        have hbk : bankV (cutM m j n wd j) (cutM m j n wd n) = (m j).high := by
          have hsd : sideB (cutM m j n wd j) (cutM m j n wd n) = true := by
            unfold sideB
            rw [cj, cn, Bool.or_eq_true, beq_iff_eq]
            exact .inl rfl
          unfold bankV
          rw [if_pos hsd, cj, cn]
          unfold rowV commonV
          show max 0 (min ((m j).top + (m j).high) ((m j).top + (m j).high) - max (m j).top (m j).top) = (m j).high
          omega
        obtain ⟨b1, _, b3, _⟩ := bk_both hk (show j < n + 1 by omega) (show n < n + 1 by omega) idj (fun h => hjn2 h.symm)
        refine ⟨(m j).high, h0, by omega, fun A c w c1 c2 c3 => ?_, fun A c w c1 c2 c3 => ?_⟩
        · have h5 := implBankOf_any A (n + 1) c (cutM m j n wd) id (cutM m j n wd n).id w c1 c2 c3
          rw [b1, b3, hbk, idn] at h5
          exact h5
        · have hW : boxW (cutM m j n wd j) (cutM m j n wd n) = (m j).wide := by
            rw [cj, cn]
            unfold boxW
            show max ((m j).left + wd) ((m j).left + wd + ((m j).wide - wd)) - min (m j).left ((m j).left + wd) = _
            omega
          have hH : boxH (cutM m j n wd j) (cutM m j n wd n) = (m j).high := by
            rw [cj, cn]
            unfold boxH
            show max ((m j).top + (m j).high) ((m j).top + (m j).high) - min (m j).top (m j).top = _
            omega
          have hfit : fitB (cutM m j n wd j) (cutM m j n wd n) = true := by
            refine decide_eq_true ?_
            rw [hW, hH, cj, cn]
            show (m j).wide * (m j).high = wd * (m j).high + ((m j).wide - wd) * (m j).high
            rw [Int.sub_mul]
            omega
          have hbx : boxJ id (cutM m j n wd j) (cutM m j n wd n) = m j := by
            have e1 : min (cutM m j n wd j).left (cutM m j n wd n).left = (m j).left := by rw [cj, cn]; show min (m j).left ((m j).left + wd) = _; omega
            have e2 : min (cutM m j n wd j).top (cutM m j n wd n).top = (m j).top := by rw [cj, cn]; show min (m j).top (m j).top = _; omega
            have e3 : min (cutM m j n wd j).depth (cutM m j n wd n).depth = (m j).depth := by rw [cj, cn]; show min (m j).depth (m j).depth = _; omega
            unfold boxJ
            rw [e1, e2, e3, hW, hH, ← hid]
          have hback : ∀ t, t < n → joinM (cutM m j n wd) j n id t = m t := fun t ht => by
            unfold joinM delM setM
            rw [if_pos ht]
            by_cases htj : t = j
            · rw [if_pos htj, hbx, htj]
            · rw [if_neg htj]
              unfold cutM
              rw [if_neg (by omega), if_neg htj]
          have hv2 : pondsB (n + 1 - 1) (joinM (cutM m j n wd) j n id) = true := by
            rw [Nat.add_sub_cancel, pondsB_congr hback]
            exact hp
          have fj : findPond (n + 1) (cutM m j n wd) id = (j : Int) := by rw [← idj]; exact findPond_self hkp (by omega)
          have fn : findPond (n + 1) (cutM m j n wd) ((m l).id + 1) = (n : Int) := by rw [← idn]; exact findPond_self hkp (by omega)
          obtain ⟨N, p, ok, _, _, hi, _, hx⟩ := join_both (n + 1) (cutM m j n wd) id ((m l).id + 1)
          obtain ⟨rfl, rfl, rfl⟩ := hx j n hk fj fn (by omega) (by omega) hjn2 hfit hv2
          refine (hi A c w c1 c2 c3).mono ?_
          rintro e w' ⟨v, he, hown, hxx⟩
          refine ⟨v, he, ?_, hxx⟩
          exact hown.congr (fun i q hi' hq => pdF_at (hback i hi').symm q)
end Go.Proofs.Ytkgnfmdeimaedaa
