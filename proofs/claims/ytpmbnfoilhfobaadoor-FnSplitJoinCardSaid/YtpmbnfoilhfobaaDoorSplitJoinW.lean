/- The walk of the law FnSplitJoin. -/
import Derived.Test.YtpmbnfoilhfobaaDoorSplitJoinP
import Derived.Test.YtpmbnfoilhfobaaDoorDrawJ
import Derived.Test.YtpmbnfoilhfobaaDoorSplitS
import Derived.Deep.Cut
namespace Go.Proofs.YtpmbnfoilhfobaaDoor
open Go.RowKit
set_option linter.unusedVariables false

theorem vBigJ_no (A : Option Addr) (n c : Nat) (w : World) (h : n ≤ 65536) : Calls Tryd.prog 17 #[.slice A n c] w fun e w' => e = .returned (.bool false) ∧ Ext w w' := by
  go_enter Tryd.func17, Tryd.ntmps17
  go_wp2
  go_ret
  exact ⟨ret_bool (decide_eq_false (by omega)), Ext.refl _⟩
theorem vBigJ_yes (A : Option Addr) (n c : Nat) (w : World) (h : 65536 < n) : Calls Tryd.prog 17 #[.slice A n c] w fun e w' => e = .returned (.bool true) ∧ Ext w w' := by
  go_enter Tryd.func17, Tryd.ntmps17
  go_wp2
  go_ret
  exact ⟨ret_bool (decide_eq_true (by omega)), Ext.refl _⟩
theorem specLessJ_any (a b : ByteArray) (w : World) : Calls Tryd.prog 42 #[.string a, .string b] w fun e w' => e = .returned (.bool (Op.bytesLess a.toList b.toList)) ∧ w = w' := by
  go_enter Tryd.func42, Tryd.ntmps42
  go_wp2
  go_ret
  exact ⟨rfl, rfl⟩
theorem implLessJ_any (a b : ByteArray) (w : World) : Calls Tryd.prog 41 #[.string a, .string b] w fun e w' => e = .returned (.bool (Op.bytesLess a.toList b.toList)) ∧ w = w' := by
  go_enter Tryd.func41, Tryd.ntmps41
  go_wp2
  go_ret
  exact ⟨rfl, rfl⟩
/-- What SplitString gives of a short text, and what joining its pieces gives. -/
theorem split_is (s sep : ByteArray) (hs : s.size ≤ 10) (hp : sep.size ≤ 10) : ∃ (N : Nat) (p : List ByteArray) (ok : Bool),
    (∀ w, MaxW w → Calls Tryd.prog 31 #[.string s, .string sep] w (RetS 9 1 N (mkS p) ok w)) ∧
    ((ok = false ∧ N = 0 ∧ sep.size ≠ 1) ∨ (ok = true ∧ sep.size = 1 ∧ ∀ A c w, c ≤ maxLen → N ≤ c → Rd w A N 1 (mkS p) → Calls Tryd.prog 38 #[.slice A N c, .string sep] w fun e w' => e = .returned (.tuple #[.string s, .bool true]) ∧ Ext w w')) := by
  by_cases h1 : sep.size = 1
  · obtain ⟨b, rfl⟩ := Lib.one_byte sep h1
    have hj := spL_join s b (by omega)
    have hz := spL_sum s b
    refine ⟨_, spL s b, true, fun w hm => implSplit_yes s b w (by omega) hm, .inr ⟨rfl, h1, fun A c w hc hnc hr => ?_⟩⟩
    have h2 := implJoin_any A c (spL s b) b w hc hnc hr (by omega) (by omega)
    rw [hj.1, hj.2] at h2
    exact h2
  · have hc : splC s sep = false := by unfold splC; rw [decide_eq_false h1, Bool.and_false]
    exact ⟨0, [], false, fun w _ => implSplit_no s sep w (by omega) (by omega) hc, .inl ⟨rfl, rfl, h1⟩⟩
theorem specJoinJ_bad (A : Option Addr) (c : Nat) (n : Nat) (sep : ByteArray) (w : World) (hs : sep.size ≤ 1048576) (h1 : sep.size ≠ 1) :
    Calls Tryd.prog 39 #[.slice A n c, .string sep] w fun e w' => e = .returned (.tuple #[.string ⟨#[]⟩, .bool false]) ∧ Ext w w' := by
  have h2 : ¬ (sep.size : Int) = 1 := by omega
  have q : ((sep.size : Int) != 1) = true := by simp [bne_iff_ne]; omega
  go_enter Tryd.func39, Tryd.ntmps39
  go_wp2
  go_ret2
  exact ⟨rfl, by repeat (with_reducible first | exact Ext.refl _ | refine Ext.setCell ?_ (by first | (simp; done) | (simp; omega)) _ | refine Ext.alloc ?_ _ | refine Ext.gw ?_ _ | refine Ext.drew ?_)⟩
theorem implJoinJ_bad (A : Option Addr) (c : Nat) (n : Nat) (sep : ByteArray) (w : World) (hn : n ≤ 1048576) (hs : sep.size ≤ 1048576) (h1 : sep.size ≠ 1) :
    Calls Tryd.prog 38 #[.slice A n c, .string sep] w fun e w' => e = .returned (.tuple #[.string ⟨#[]⟩, .bool false]) ∧ Ext w w' := by
  have h2 : ¬ (sep.size : Int) = 1 := by omega
  have q : ((sep.size : Int) != 1) = true := by simp [bne_iff_ne]; omega
  by_cases h0 : n = 0
  · subst h0
    go_enter Tryd.func38, Tryd.ntmps38
    go_wp2
    go_ret2
    exact ⟨rfl, by repeat (with_reducible first | exact Ext.refl _ | refine Ext.setCell ?_ (by first | (simp; done) | (simp; omega)) _ | refine Ext.alloc ?_ _ | refine Ext.gw ?_ _ | refine Ext.drew ?_)⟩
  · have q3 : ((n : Int) == 0) = false := by rw [Bool.eq_false_iff]; intro h; have := eq_of_beq h; omega
    go_enter Tryd.func38, Tryd.ntmps38
    go_wp2
    go_ret2
    exact ⟨rfl, by repeat (with_reducible first | exact Ext.refl _ | refine Ext.setCell ?_ (by first | (simp; done) | (simp; omega)) _ | refine Ext.alloc ?_ _ | refine Ext.gw ?_ _ | refine Ext.drew ?_)⟩
/-- The program's JoinStrings and the reference's give the same. -/
theorem join_is (l : List ByteArray) (mark : ByteArray) (hl : l.length ≤ 4) (ht : tS l l.length ≤ 5000) (hm : mark.size ≤ 2) : ∃ (j : ByteArray) (ok : Bool),
    (∀ A c w, c ≤ maxLen → l.length ≤ c → Rd w A l.length 1 (mkS l) → Calls Tryd.prog 38 #[.slice A l.length c, .string mark] w fun e w' => e = .returned (.tuple #[.string j, .bool ok]) ∧ Ext w w') ∧
    (∀ A c w, c ≤ maxLen → l.length ≤ c → Rd w A l.length 1 (mkS l) → Calls Tryd.prog 39 #[.slice A l.length c, .string mark] w fun e w' => e = .returned (.tuple #[.string j, .bool ok]) ∧ Ext w w') := by
  by_cases h1 : mark.size = 1
  · obtain ⟨b, rfl⟩ := Lib.one_byte mark h1
    exact ⟨jS l b, jC l b, fun A c w hc hnc hr => implJoin_any A c l b w hc hnc hr (by omega) (by omega), fun A c w hc hnc hr => specJoin_any A c l b w hc hnc hr (by omega) (by omega)⟩
  · exact ⟨⟨#[]⟩, false, fun A c w _ _ _ => implJoinJ_bad A c _ mark w (by omega) (by omega) h1, fun A c w _ _ _ => specJoinJ_bad A c _ mark w (by omega) h1⟩
set_option maxRecDepth 100000 in
set_option maxHeartbeats 4000000 in
theorem FnSplitJoin_any (w : World) (A : Option Addr) (len c : Nat) (h : Code w A len) (hm : MaxW w) : Calls Tryd.prog 11 #[.slice A len c] w fun e w' => e = .returned (.bool true) ∧ Ext w w' := by
  by_cases hbig : len ≤ 65536
  · have HC := Lib.hid h
    have HM := Lib.hid hm
    clear h hm
    go_enter Tryd.func11, Tryd.ntmps11
    go_wp2_with fail
    refine (vBigJ_no A len c _ hbig).mono ?_
    rintro e w1 ⟨rfl, hx⟩
    go_wp2_with fail
    refine (drawSplit_any _ A len c (HC.out.ext hx)).mono ?_
    rintro e w2 ⟨s, sep, rfl, hs, hsep, hx2⟩
    replace hx := hx.trans hx2
    clear hx2
    obtain ⟨N, p, ok, hsp, hend⟩ := split_is s sep hs hsep
    have HS := Lib.hid hsp
    have HEND := Lib.hid hend
    clear hsp hend
    go_wp2_with fail
    refine (HS.out _ (HM.out.ext hx)).mono ?_
    rintro e w3 ⟨v, rfl, hown, hx2⟩
    obtain ⟨A0, c0, rfl, hc0, hnc0, hr0⟩ := hown.rd
    replace hx := hx.trans hx2
    clear hx2 hown
    go_wp2_with fail
    refine (drawJoin_any _ A len c (HC.out.ext hx)).mono ?_
    rintro e w4 ⟨A1, c1, l, mark, rfl, hc1, hnc1, hl, ht, hmk, hr1, hx2⟩
    replace hx := hx.trans hx2
    replace hr0 := hr0.ext hx2
    clear hx2
    obtain ⟨j, fine, hji, hjs⟩ := join_is l mark hl ht hmk
    have HJI := Lib.hid (fun w hr => hji A1 c1 w hc1 hnc1 hr)
    have HJS := Lib.hid (fun w hr => hjs A1 c1 w hc1 hnc1 hr)
    have q1 : (j.toList == j.toList) = true := beq_self_eq_true _
    clear hji hjs ht hc1 hnc1
    go_wp2_with fail
    refine (HJI.out _ hr1).mono ?_
    rintro e w5 ⟨rfl, hx2⟩
    replace hx := hx.trans hx2
    replace hr0 := hr0.ext hx2
    replace hr1 := hr1.ext hx2
    clear hx2
    go_wp2_with fail
    refine (HJS.out _ hr1).mono ?_
    rintro e w6 ⟨rfl, hx2⟩
    replace hx := hx.trans hx2
    replace hr0 := hr0.ext hx2
    clear hx2 hr1 HJI HJS
    go_wp2_with fail
    refine (drawLess_any _ A len c (HC.out.ext hx)).mono ?_
    rintro e w7 ⟨a, b, rfl, ha, hb, hx2⟩
    replace hx := hx.trans hx2
    replace hr0 := hr0.ext hx2
    clear hx2
    have hnb := less_not_both a.toList b.toList
    obtain ⟨t1, ht1⟩ : ∃ t, Op.bytesLess a.toList b.toList = t := ⟨_, rfl⟩
    obtain ⟨t2, ht2⟩ : ∃ t, Op.bytesLess b.toList a.toList = t := ⟨_, rfl⟩
    have HL1 := Lib.hid (fun w => implLessJ_any a b w)
    have HL2 := Lib.hid (fun w => specLessJ_any a b w)
    have HL3 := Lib.hid (fun w => implLessJ_any b a w)
    rw [ht1] at HL1 HL2 hnb
    rw [ht2] at HL3 hnb
    clear ht1 ht2
    have q2 : (s.toList == s.toList) = true := beq_self_eq_true _
    have HR0 := Lib.hid hr0
    clear hr0
    cases t1
    · clear hnb HL3
      go_wp2_with fail
      refine (HL1.out _).mono ?_
      rintro e w8 ⟨rfl, rfl⟩
      dsimp only
      go_wp2_with fail
      refine (HL2.out _).mono ?_
      rintro e w9 ⟨rfl, rfl⟩
      dsimp only
      go_wp2_with fail
      refine (HL1.out _).mono ?_
      rintro e w10 ⟨rfl, rfl⟩
      dsimp only
      rcases HEND.out with ⟨rfl, rfl, hz⟩ | ⟨rfl, hz, hj⟩
      · have z1 : ¬ (sep.size : Int) = 1 := by omega
        have z2 : ((sep.size : Int) != 1) = true := by simp; omega
        go_wp2
        go_ret
        exact ⟨rfl, hx⟩
      · have z1 : (sep.size : Int) = 1 := by omega
        have HJ := Lib.hid (fun w => hj A0 c0 w hc0 hnc0)
        clear hj
        go_wp2_with fail
        refine (HJ.out _ HR0.out).mono ?_
        rintro e w11 ⟨rfl, hx2⟩
        replace hx := hx.trans hx2
        clear hx2
        go_wp2
        go_ret
        exact ⟨rfl, hx⟩
    · obtain rfl : t2 = false := by simpa using hnb
      clear hnb
      go_wp2_with fail
      refine (HL1.out _).mono ?_
      rintro e w8 ⟨rfl, rfl⟩
      dsimp only
      go_wp2_with fail
      refine (HL2.out _).mono ?_
      rintro e w9 ⟨rfl, rfl⟩
      dsimp only
      go_wp2_with fail
      refine (HL1.out _).mono ?_
      rintro e w10 ⟨rfl, rfl⟩
      dsimp only
      go_wp2_with fail
      refine (HL3.out _).mono ?_
      rintro e w11 ⟨rfl, rfl⟩
      dsimp only
      rcases HEND.out with ⟨rfl, rfl, hz⟩ | ⟨rfl, hz, hj⟩
      · have z1 : ¬ (sep.size : Int) = 1 := by omega
        have z2 : ((sep.size : Int) != 1) = true := by simp; omega
        go_wp2
        go_ret
        exact ⟨rfl, hx⟩
      · have z1 : (sep.size : Int) = 1 := by omega
        have HJ := Lib.hid (fun w => hj A0 c0 w hc0 hnc0)
        clear hj
        go_wp2_with fail
        refine (HJ.out _ HR0.out).mono ?_
        rintro e w12 ⟨rfl, hx2⟩
        replace hx := hx.trans hx2
        clear hx2
        go_wp2
        go_ret
        exact ⟨rfl, hx⟩
  · clear hm
    go_enter Tryd.func11, Tryd.ntmps11
    go_wp2_with fail
    refine (vBigJ_yes A len c _ (by omega)).mono ?_
    rintro e w1 ⟨rfl, hx⟩
    go_wp2
    go_ret
    exact ⟨rfl, hx⟩
theorem FnSplitJoin_walk (w : World) (A : Option Addr) (len c : Nat) (z : Nat → Int) (hl : len ≤ maxLen) (hr : Rd w A len 1 (fun i _ => .int .u8 (z i))) (hz : ∀ i, i < len → 0 ≤ z i ∧ z i ≤ 255) (hm : MaxW w) :
    Calls Tryd.prog 11 #[.slice A len c] w fun e w' => e = .returned (.bool true) ∧ Ext w w' := FnSplitJoin_any w A len c ⟨z, hr, hz, hl⟩ hm
end Go.Proofs.YtpmbnfoilhfobaaDoor
