/- FirstIn: the contracts. -/
import Derived.Test.YtgehoihfiboeeaaMinutes
namespace Go.Proofs.Ytgehoihfiboeeaa
open Go.RowKit
set_option linter.unusedVariables false

theorem step_head (l : List Int) (k : Int) (h : l.length ≠ 1) (h0 : l.length ≠ 0) : (spanStep l k).length ≠ 1 ∧ (spanStep l k).length ≠ 0 ∧ (spanStep l k).getD 0 0 = l.getD 0 0 := by
  unfold spanStep
  split
  · refine ⟨by rw [List.length_set]; exact h, by rw [List.length_set]; exact h0, ?_⟩
    simp only [List.getD_eq_getElem?_getD]
    rw [List.getElem?_set_ne (by omega)]
  · refine ⟨by simp only [List.length_append, List.length_cons, List.length_nil]; omega, by simp only [List.length_append, List.length_cons, List.length_nil]; omega, ?_⟩
    simp only [List.getD_eq_getElem?_getD]
    rw [List.getElem?_append_left (by omega)]
/-- None so far: no span; else the first span begins at the first minute. -/
theorem span_first (q : Nat → Bool) (k : Nat) : ((∀ j, j < k → q j = false) ∧ spanL q k = []) ∨ (∃ i : Nat, i < k ∧ q i = true ∧ (∀ j, j < i → q j = false) ∧ (spanL q k).length ≠ 1 ∧ (spanL q k).length ≠ 0 ∧ (spanL q k).getD 0 0 = (i : Int)) := by
  induction k with
  | zero => exact .inl ⟨fun j hj => absurd hj (Nat.not_lt_zero j), rfl⟩
  | succ k ih =>
    unfold spanL
    rcases ih with ⟨h1, h2⟩ | ⟨i, h1, h2, h3, h4, h5, h6⟩
    · cases hk : q k
      · rw [if_neg (by simp)]
        refine .inl ⟨fun j hj => ?_, h2⟩
        by_cases he : j = k
        · rw [he]; exact hk
        · exact h1 j (by omega)
      · rw [if_pos rfl, h2]
        have e : spanStep [] (k : Int) = [(k : Int), (k : Int)] := spanStep_nil rfl
        rw [e]
        exact .inr ⟨k, by omega, hk, h1, by simp, by simp, rfl⟩
    · right
      cases hk : q k
      · rw [if_neg (by simp)]
        exact ⟨i, by omega, h2, h3, h4, h5, h6⟩
      · rw [if_pos rfl]
        obtain ⟨e1, e2, e3⟩ := step_head (spanL q k) (k : Int) h4 h5
        exact ⟨i, by omega, h2, h3, e1, e2, e3.trans h6⟩
noncomputable def firstC (n : Nat) (m : Nat → Mk) (s p : Int) : Bool := askB n m s p && decide ((spanL (fun t => inP s p (atN n m (t : Int)) (atD n m (t : Int))) 1441).length ≠ 0)
noncomputable def firstV (n : Nat) (m : Nat → Mk) (s p : Int) : Int := if firstC n m s p = true then (spanL (fun t => inP s p (atN n m (t : Int)) (atD n m (t : Int))) 1441).getD 0 0 else 0
set_option maxRecDepth 20000 in
set_option maxHeartbeats 4000000 in
theorem implFirst_any (A : Option Addr) (n c : Nat) (m : Nat → Mk) (s p : Int) (w : World) (hc : c ≤ maxLen) (hnc : n ≤ c) (hr : Rd w A n 2 (mkF m)) : Calls Try.prog 27 #[.slice A n c, .int .i64 s, .int .i64 p] w fun e w' => e = .returned (.tuple #[.int .i64 (firstV n m s p), .bool (firstC n m s p)]) ∧ Ext w w' := by
  have HR := Lib.hid hr
  have HC := Lib.hid hc
  have HN := Lib.hid hnc
  clear hr hc hnc
  cases h : askB n m s p
  · have ho : firstC n m s p = false := by unfold firstC; rw [h]; rfl
    rw [show firstV n m s p = 0 by unfold firstV; rw [ho]; rfl, ho]
    clear ho
    have HA := Lib.hid h
    clear h
    go_enter Try.func27, Try.ntmps27
    go_wp2_with fail
    refine (implMinutesIn_no A n c m s p _ HC.out HN.out HR.out HA.out).mono ?_
    rintro e w1 ⟨v, rfl, hown, hx⟩
    obtain ⟨x, rfl⟩ := hx.to_gw
    go_wp2
    go_ret2
    exact ⟨rfl, ext_gw _ _⟩
  · have HA := Lib.hid h
    rcases span_first (fun t => inP s p (atN n m (t : Int)) (atD n m (t : Int))) 1441 with ⟨h1, h2⟩ | ⟨i, h1, h2, h3, h4, h5, h6⟩
    · have ho : firstC n m s p = false := by unfold firstC; rw [h2, h]; rfl
      rw [show firstV n m s p = 0 by unfold firstV; rw [ho]; rfl, ho]
      have HL := Lib.hid (show (spanL (fun t => inP s p (atN n m (t : Int)) (atD n m (t : Int))) 1441).length = 0 by rw [h2]; rfl)
      clear ho h1 h2 h
      go_enter Try.func27, Try.ntmps27
      go_wp2_with fail
      refine (implMinutesIn_yes A n c m s p _ HC.out HN.out HR.out HA.out).mono ?_
      rw [HL.out]
      rintro e w1 ⟨v, rfl, hown, hx⟩
      obtain ⟨A1, cap1, rfl, _, _, _⟩ := hown.form
      obtain ⟨x, rfl⟩ := hx.to_gw
      go_wp2
      go_ret2
      exact ⟨rfl, ext_gw _ _⟩
    · have ho : firstC n m s p = true := by unfold firstC; rw [h, decide_eq_true h5]; rfl
      rw [show firstV n m s p = (i : Int) by unfold firstV; rw [if_pos ho]; exact h6, ho]
      obtain ⟨l, hl⟩ : ∃ l, (spanL (fun t => inP s p (atN n m (t : Int)) (atD n m (t : Int))) 1441).length = l + 1 := ⟨(spanL (fun t => inP s p (atN n m (t : Int)) (atD n m (t : Int))) 1441).length - 1, by omega⟩
      have hll := span_len (fun t => inP s p (atN n m (t : Int)) (atD n m (t : Int))) 1441
      have HL := Lib.hid hl
      have H6 := Lib.hid h6
      have l1 : l ≤ 2882 := by omega
      clear ho h1 h2 h3 h4 h5 h6 h hl hll
      go_enter Try.func27, Try.ntmps27
      go_wp2_with fail
      refine (implMinutesIn_yes A n c m s p _ HC.out HN.out HR.out HA.out).mono ?_
      rw [HL.out]
      rintro e w1 ⟨v, rfl, hown, hx⟩
      obtain ⟨A1, cap1, rfl, hcl, hcm, hform⟩ := hown.form
      obtain ⟨g1, rfl, _, hgb, hgl, hcell⟩ := hform (by omega)
      obtain ⟨d0, f0⟩ := hcell 0 0 (by omega) (by omega)
      rw [Nat.zero_mul, Nat.add_zero] at d0 f0
      replace d0 : _ = some (Value.int .i64 (i : Int)) := d0.trans (congrArg (fun z => some (Value.int .i64 z)) H6.out)
      unfold maxLen at hcm
      clear hform hcell hown
      have l0 : (0 : Int) < (l : Int) + 1 := by omega
      go_wp2
      go_ret2
      exact ⟨rfl, hx⟩
set_option maxRecDepth 20000 in
set_option maxHeartbeats 4000000 in
theorem specFirst_any (A : Option Addr) (n c : Nat) (m : Nat → Mk) (s p : Int) (w : World) (hc : c ≤ maxLen) (hnc : n ≤ c) (hr : Rd w A n 2 (mkF m)) : Calls Try.prog 28 #[.slice A n c, .int .i64 s, .int .i64 p] w fun e w' => e = .returned (.tuple #[.int .i64 (firstV n m s p), .bool (firstC n m s p)]) ∧ Ext w w' := by
  have HR := Lib.hid hr
  have HC := Lib.hid hc
  have HN := Lib.hid hnc
  clear hr hc hnc
  cases h : askB n m s p
  · have ho : firstC n m s p = false := by unfold firstC; rw [h]; rfl
    rw [show firstV n m s p = 0 by unfold firstV; rw [ho]; rfl, ho]
    clear ho
    go_enter Try.func28, Try.ntmps28
    go_wp2_with (first | (go_at_call 65; refine (l4Asked_any _ _ _ _ _ _ _ HC.out HN.out (by first | exact HR.out | exact HR.out.ext (ext_gw _ _))).mono ?_; rintro e w1 ⟨rfl, hx⟩; (try replace hx := Ext.flat hx); obtain ⟨x, rfl⟩ := hx.to_gw; clear hx))
    go_ret2
    exact ⟨rfl, by repeat (with_reducible first | exact Ext.refl _ | refine Ext.setCell ?_ (by first | (simp; done) | (simp; omega)) _ | refine Ext.alloc ?_ _ | refine Ext.gw ?_ _ | refine Ext.drew ?_)⟩
  · obtain ⟨hv, ⟨s0, s1⟩, p0, p1⟩ := askB_iff.1 h
    have HV := Lib.hid hv
    clear hv
    have HQ : Hid ((∀ j : Nat, j < 1441 → (fun t : Nat => inP s p (atN n m (t : Int)) (atD n m (t : Int))) j = false) → firstV n m s p = 0 ∧ firstC n m s p = false) := Lib.hid (fun hall => by
      have hnil : (spanL (fun t => inP s p (atN n m (t : Int)) (atD n m (t : Int))) 1441) = [] := by
        rcases span_first (fun t => inP s p (atN n m (t : Int)) (atD n m (t : Int))) 1441 with ⟨_, h2⟩ | ⟨i, h1, h2, _⟩
        · exact h2
        · exact Bool.noConfusion (h2.symm.trans (hall i h1))
      have ho : firstC n m s p = false := by unfold firstC; rw [hnil, h]; rfl
      exact ⟨by unfold firstV; rw [ho]; rfl, ho⟩)
    have HP : Hid (∀ k : Nat, k < 1441 → (∀ j : Nat, j < k → (fun t : Nat => inP s p (atN n m (t : Int)) (atD n m (t : Int))) j = false) → (fun t : Nat => inP s p (atN n m (t : Int)) (atD n m (t : Int))) k = true → firstV n m s p = (k : Int) ∧ firstC n m s p = true) := Lib.hid (fun k hk hall hkk => by
      rcases span_first (fun t => inP s p (atN n m (t : Int)) (atD n m (t : Int))) 1441 with ⟨h1, _⟩ | ⟨i, h1, h2, h3, h4, h5, h6⟩
      · exact Bool.noConfusion (hkk.symm.trans (h1 k hk))
      · have hik : i = k := by
          rcases Nat.lt_trichotomy i k with hlt | he | hlt
          · exact Bool.noConfusion (h2.symm.trans (hall i hlt))
          · exact he
          · exact Bool.noConfusion (hkk.symm.trans (h3 k hlt))
        subst hik
        have ho : firstC n m s p = true := by unfold firstC; rw [h, decide_eq_true h5]; rfl
        exact ⟨by unfold firstV; rw [if_pos ho]; exact h6, ho⟩)
    go_enter Try.func28, Try.ntmps28
    go_wp2_with (first | (go_at_call 65; refine (l4Asked_any _ _ _ _ _ _ _ HC.out HN.out (by first | exact HR.out | exact HR.out.ext (ext_gw _ _))).mono ?_; rintro e w1 ⟨rfl, hx⟩; (try replace hx := Ext.flat hx); obtain ⟨x, rfl⟩ := hx.to_gw; clear hx))
    clear h
    go_loopw [8] (fun i wr => ∃ k : Nat, i = .int .i64 k ∧ k ≤ 1441 ∧ Hid (∀ j : Nat, j < k → (fun t : Nat => inP s p (atN n m (t : Int)) (atD n m (t : Int))) j = false) ∧ ∃ y, wr = gw w y) (fun i _ => 1441 - (intOf i).toNat)
    case atStart => exact ⟨0, rfl, by omega, Lib.hid (fun j hj => absurd hj (Nat.not_lt_zero j)), _, rfl⟩
    case round =>
      obtain ⟨k, rfl, hk, HA, y, rfl⟩ := hrel
      by_cases hlt : k < 1441
      · have i0 : (0 : Int) ≤ (k : Int) := by omega
        have i1 : (k : Int) ≤ 1440 := by omega
        cases hp : inP s p (atN n m (k : Int)) (atD n m (k : Int))
        · have hf := flow_in s p (atN n m k) (atD n m k)
          rw [hp] at hf
          have qf : (flowV s p (atN n m k) (atD n m k) == 1) = false := by simpa [bne] using hf
          have HE : Hid (∀ j : Nat, j < k + 1 → (fun t : Nat => inP s p (atN n m (t : Int)) (atD n m (t : Int))) j = false) := Lib.hid (fun j hj => by
            by_cases he : j = k
            · subst he; exact hp
            · exact HA.out j (by omega))
          clear hf hp
          go_wp2_with fail
          refine (l4Flow_any _ _ _ m s p k _ HC.out HN.out (HR.out.ext (ext_gw _ _)) HV.out s0 s1 p0 p1 i0 i1).mono ?_
          rintro e w1 ⟨rfl, hx⟩
          obtain ⟨x, rfl⟩ := (Ext.flat hx).to_gw
          clear hx
          go_wp2
          go_roundw
          case rel => exact ⟨k + 1, by go_num, by omega, HE, _, rfl⟩
          case measure => simp [intOf]; omega
        · have hf := flow_in s p (atN n m k) (atD n m k)
          rw [hp] at hf
          have qf : (flowV s p (atN n m k) (atD n m k) == 1) = true := by simpa [bne] using hf
          have HF := Lib.hid (HP.out k hlt HA.out hp)
          clear hf hp
          go_wp2_with fail
          refine (l4Flow_any _ _ _ m s p k _ HC.out HN.out (HR.out.ext (ext_gw _ _)) HV.out s0 s1 p0 p1 i0 i1).mono ?_
          rintro e w1 ⟨rfl, hx⟩
          obtain ⟨x, rfl⟩ := (Ext.flat hx).to_gw
          clear hx
          go_wp2
          go_ret2
          exact ⟨(by rw [HF.out.1, HF.out.2]; first | done | rfl), ext_gw _ _⟩
      · obtain rfl : k = 1441 := by omega
        have HF := Lib.hid (HQ.out HA.out)
        go_wp2
        go_ret2
        exact ⟨(by rw [HF.out.1, HF.out.2]; first | done | rfl), ext_gw _ _⟩
end Go.Proofs.Ytgehoihfiboeeaa
