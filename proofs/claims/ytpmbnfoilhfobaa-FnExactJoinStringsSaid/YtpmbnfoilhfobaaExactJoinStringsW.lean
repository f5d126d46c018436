/- The walk of the law FnExactJoinStrings. -/
import Derived.Test.YtpmbnfoilhfobaaJoin
import Derived.Lib.SplitLaws
namespace Go.Proofs.Ytpmbnfoilhfobaa
open Go.RowKit
set_option linter.unusedVariables false

theorem szStringS_yes (A : Option Addr) (c : Nat) (l : List ByteArray) (w : World) (hr : Rd w A l.length 1 (mkS l)) (hn : l.length + tS l l.length ≤ 1048576) :
    Calls Try.prog 4 #[.slice A l.length c, .int .i64 1048576] w fun e w' => e = .returned (.int .i64 (1048576 - (l.length : Int) - (tS l l.length : Int))) ∧ w = w' := by
  go_enter Try.func4, Try.ntmps4
  go_wp2
  go_loopw [1, 5] (fun s i wr => ∃ k : Nat, k ≤ l.length ∧ i = .int .i64 k ∧ s = .int .i64 (1048576 - (l.length : Int) - (tS l k : Int)) ∧ w = wr) (fun _ i _ => l.length - (intOf i).toNat)
  case atStart => exact ⟨0, Nat.zero_le _, rfl, by simp [tS], rfl⟩
  case round =>
    obtain ⟨k, hk, rfl, rfl, rfl⟩ := hrel
    have hts := tS_mono l hk
    by_cases hlt : k < l.length
    · obtain ⟨g, off, rfl, hg, c0⟩ := hr.atS hlt
      obtain ⟨x, hx⟩ : ∃ x, l.getD k ByteArray.empty = x := ⟨_, rfl⟩
      rw [hx] at c0
      have i0 : (0 : Int) ≤ (k : Int) := by omega
      have i1 : (k : Int) < (l.length : Int) := by omega
      have he : tS l (k + 1) = tS l k + x.size := by rw [← hx]; rfl
      have hts2 := tS_mono l (show k + 1 ≤ l.length by omega)
      clear hx
      go_wp2
      go_roundw
      case rel => exact ⟨k + 1, by omega, by go_num, by rw [he]; congr 1; omega, by first | trivial | rfl⟩
      case measure => simp [intOf]; omega
    · obtain rfl : k = l.length := by omega
      go_wp2
      go_ret
      exact ⟨rfl, rfl⟩
theorem szStringS_no (A : Option Addr) (c : Nat) (l : List ByteArray) (w : World) (hr : Rd w A l.length 1 (mkS l)) (hb : ∀ i, (l.getD i ByteArray.empty).size ≤ maxLen) (hl : l.length ≤ maxLen) (hn : 1048576 < l.length + tS l l.length) :
    Calls Try.prog 4 #[.slice A l.length c, .int .i64 1048576] w fun e w' => e = .returned (.int .i64 (-1)) ∧ w = w' := by
  unfold maxLen at *
  by_cases h0 : l.length ≤ 1048576
  · go_enter Try.func4, Try.ntmps4
    go_wp2
    go_loopw [1, 5] (fun s i wr => ∃ k : Nat, k ≤ l.length ∧ i = .int .i64 k ∧ s = .int .i64 (1048576 - (l.length : Int) - (tS l k : Int)) ∧ Hid (l.length + tS l k ≤ 1048576) ∧ w = wr) (fun _ i _ => l.length - (intOf i).toNat)
    case atStart => exact ⟨0, Nat.zero_le _, rfl, by simp [tS], Lib.hid (by show l.length + 0 ≤ _; omega), rfl⟩
    case round =>
      obtain ⟨k, hk, rfl, rfl, HD, rfl⟩ := hrel
      have hd := HD.out
      by_cases hlt : k < l.length
      · obtain ⟨g, off, rfl, hg, c0⟩ := hr.atS hlt
        have hbk := hb k
        obtain ⟨x, hx⟩ : ∃ x, l.getD k ByteArray.empty = x := ⟨_, rfl⟩
        rw [hx] at c0 hbk
        have i0 : (0 : Int) ≤ (k : Int) := by omega
        have i1 : (k : Int) < (l.length : Int) := by omega
        have he : tS l (k + 1) = tS l k + x.size := by rw [← hx]; rfl
        clear hx
        by_cases h4 : l.length + tS l (k + 1) ≤ 1048576
        · have HD2 := Lib.hid h4
          have h5 : 0 ≤ 1048576 - (l.length : Int) - (tS l k : Int) - (x.size : Int) := by omega
          go_wp2
          go_roundw
          case rel => exact ⟨k + 1, by omega, by go_num, by rw [he]; congr 1; omega, HD2, by first | trivial | rfl⟩
          case measure => simp [intOf]; omega
        · have h5 : 1048576 - (l.length : Int) - (tS l k : Int) - (x.size : Int) < 0 := by omega
          go_wp2
          go_ret
          exact ⟨rfl, rfl⟩
      · obtain rfl : k = l.length := by omega
        omega
  · go_enter Try.func4, Try.ntmps4
    go_wp2
    go_ret
    exact ⟨rfl, rfl⟩
set_option maxHeartbeats 1000000 in
theorem toStringS_any (A : Option Addr) (c : Nat) (l : List ByteArray) (w : World) (hn : l.length ≤ 1048576) (hr : Rd w A l.length 1 (mkS l)) : Calls Try.prog 6 #[.slice A l.length c] w (RetO 9 1 l.length (mkS l) w) := by
  obtain ⟨n, hnn⟩ : ∃ n, l.length = n := ⟨_, rfl⟩
  obtain ⟨m, hm⟩ : ∃ m, mkS l = m := ⟨_, rfl⟩
  have hat : ∀ (w : World) (k : Nat), Rd w A n 1 m → k < n → ∃ g off x, A = some ⟨g, off, none⟩ ∧ g < w.heap.size ∧ w.cell? ⟨g, off + k, none⟩ = some (.string x) ∧ m k 0 = .string x := by
    intro w k h hk
    rw [← hm] at h
    obtain ⟨g, off, h1, h2, h3⟩ := h.atS hk
    exact ⟨g, off, _, h1, h2, h3, by rw [← hm]; rfl⟩
  rw [hnn] at hn hr ⊢
  rw [hm] at hr ⊢
  clear hm hnn
  have hmk := run_make_S (P := Try.prog) elStr n (by omega)
  have h0 := own_made (e := 9) (n := n) elStr.hz w (by unfold maxLen; omega)
  rw [Nat.mul_one] at h0
  have hx0 := Ext.alloc (Ext.refl w) (Obj.cells (madeCells (Value.cells (.string ByteArray.empty)) n) 9)
  go_enter Try.func6, Try.ntmps6
  go_wp2
  clear hmk
  go_loopw [4] (fun i wr => ∃ k : Nat, i = .int .i64 k ∧ k ≤ n ∧ OwnS wr w.heap.size 9 1 (.slice (some ⟨w.heap.size, 0, none⟩) n n) n (fun i j => if i < k then m i j else (Value.cells (.string ByteArray.empty))[j]!) ∧ ∃ y, wr = gw w y) (fun i _ => n - (intOf i).toNat)
  case atStart => exact ⟨0, rfl, Nat.zero_le _, h0.congr (fun _ _ _ _ => by simp), hx0.to_gw⟩
  case round =>
    obtain ⟨k, rfl, hk, hown, y, rfl⟩ := hrel
    clear h0 hx0
    by_cases hlt : k < n
    · obtain ⟨g, off, x, rfl, hg, c0, hmx⟩ := hat _ _ hr hlt
      have HMX := Lib.hid hmx
      have i0 : (0 : Int) ≤ (k : Int) := by omega
      have i1 : (k : Int) < (n : Int) := by omega
      obtain ⟨A0, cap0, hv, _, _, hform⟩ := hown.form
      injection hv with hA _ hc
      subst hA hc
      obtain ⟨g0, hg0, _, _, _, hcell⟩ := hform (by omega)
      injection hg0 with hg0
      injection hg0 with hg0 _ _
      subst hg0
      obtain ⟨d0, f0⟩ := hcell k 0 hlt (by omega)
      rw [Nat.add_zero, Nat.mul_one] at d0 f0
      clear hform hcell hmx
      go_wp2
      go_roundw
      case rel =>
        obtain ⟨a1, _⟩ := hown.put_next hlt
        have a2 := ((ext_gw w y).put (Nat.le_refl _) (k * 1) (m k) 1).to_gw
        have e1 : putCells (gw w y) w.heap.size (k * 1) (m k) 1 = (gw w y).setCell ⟨w.heap.size, k, none⟩ (.string x) := by
          show (gw w y).setCell ⟨w.heap.size, k * 1 + 0, none⟩ (m k 0) = _
          rw [HMX.out, Nat.mul_one, Nat.add_zero]
        rw [e1] at a1 a2
        exact ⟨k + 1, by go_num, by omega, a1, a2⟩
      case measure => simp [intOf]; omega
    · obtain rfl : k = n := by omega
      go_wp2
      go_ret
      exact ⟨_, rfl, hown.congr (fun i j hi _ => by simp [hi]), ext_gw _ _⟩
theorem specJoin_bad (A : Option Addr) (c : Nat) (n : Nat) (sep : ByteArray) (w : World) (hs : sep.size ≤ 1048576) (h1 : sep.size ≠ 1) :
    Calls Try.prog 5 #[.slice A n c, .string sep] w fun e w' => e = .returned (.tuple #[.string ⟨#[]⟩, .bool false]) ∧ Ext w w' := by
  have h2 : ¬ (sep.size : Int) = 1 := by omega
  have q : ((sep.size : Int) != 1) = true := by simp [bne_iff_ne]; omega
  go_enter Try.func5, Try.ntmps5
  go_wp2
  go_ret2
  exact ⟨rfl, by repeat (with_reducible first | exact Ext.refl _ | refine Ext.setCell ?_ (by first | (simp; done) | (simp; omega)) _ | refine Ext.alloc ?_ _ | refine Ext.gw ?_ _ | refine Ext.drew ?_)⟩
theorem implJoin_bad (A : Option Addr) (c : Nat) (n : Nat) (sep : ByteArray) (w : World) (hn : n ≤ 1048576) (hs : sep.size ≤ 1048576) (h1 : sep.size ≠ 1) :
    Calls Try.prog 7 #[.slice A n c, .string sep] w fun e w' => e = .returned (.tuple #[.string ⟨#[]⟩, .bool false]) ∧ Ext w w' := by
  have h2 : ¬ (sep.size : Int) = 1 := by omega
  have q : ((sep.size : Int) != 1) = true := by simp [bne_iff_ne]; omega
  by_cases h0 : n = 0
  · subst h0
    go_enter Try.func7, Try.ntmps7
    go_wp2
    go_ret2
    exact ⟨rfl, by repeat (with_reducible first | exact Ext.refl _ | refine Ext.setCell ?_ (by first | (simp; done) | (simp; omega)) _ | refine Ext.alloc ?_ _ | refine Ext.gw ?_ _ | refine Ext.drew ?_)⟩
  · have q3 : ((n : Int) == 0) = false := by rw [Bool.eq_false_iff]; intro h; have := eq_of_beq h; omega
    go_enter Try.func7, Try.ntmps7
    go_wp2
    go_ret2
    exact ⟨rfl, by repeat (with_reducible first | exact Ext.refl _ | refine Ext.setCell ?_ (by first | (simp; done) | (simp; omega)) _ | refine Ext.alloc ?_ _ | refine Ext.gw ?_ _ | refine Ext.drew ?_)⟩
set_option maxHeartbeats 2000000 in
theorem FnExactJoinStrings_law (A : Option Addr) (c : Nat) (l : List ByteArray) (sep s : ByteArray) (ok : Bool) (w : World) (hl : l.length ≤ maxLen) (hb : ∀ i, (l.getD i ByteArray.empty).size ≤ maxLen) (hr : Rd w A l.length 1 (mkS l)) (hsz : sep.size ≤ maxLen)
    (HS : Hid (∀ A c w, c ≤ maxLen → l.length ≤ c → Rd w A l.length 1 (mkS l) → tS l l.length ≤ 1048576 → l.length ≤ 1048576 → sep.size ≤ 1048576 → Calls Try.prog 5 #[.slice A l.length c, .string sep] w fun e w' => e = .returned (.tuple #[.string s, .bool ok]) ∧ Ext w w'))
    (HI : Hid (∀ A c w, c ≤ maxLen → l.length ≤ c → Rd w A l.length 1 (mkS l) → tS l l.length ≤ 1048576 → l.length ≤ 1048576 → sep.size ≤ 1048576 → Calls Try.prog 7 #[.slice A l.length c, .string sep] w fun e w' => e = .returned (.tuple #[.string s, .bool ok]) ∧ Ext w w')) :
    Calls Try.prog 3 #[.slice A l.length c, .string sep] w fun e w' => e = .returned (.bool true) ∧ Ext w w' := by
  have hx := Ext.refl w
  have q3 : (s.toList == s.toList) = true := beq_self_eq_true _
  have HB := Lib.hid hb
  have HL := Lib.hid hl
  clear hb hl
  unfold maxLen at hsz
  by_cases hs : sep.size ≤ 1048576
  · by_cases hn : l.length + tS l l.length ≤ 1048576
    · have HN := Lib.hid (show l.length ≤ 1048576 by omega)
      have HT := Lib.hid (show tS l l.length ≤ 1048576 by omega)
      go_enter Try.func3, Try.ntmps3
      go_wp2_with fail
      refine (szStringS_yes A c l _ hr hn).mono ?_
      rintro e w1 ⟨rfl, rfl⟩
      go_wp2_with fail
      refine (toStringS_any A c l _ HN.out (hr.ext hx)).mono ?_
      rintro e wt ⟨v0, rfl, h0, hx2⟩
      replace hx := hx.trans hx2
      clear hx2
      obtain ⟨A0, c0, rfl, hc0, hnc0, hr0⟩ := h0.rd
      clear h0
      go_wp2_with fail
      refine (HS.out A0 c0 _ hc0 hnc0 hr0 HT.out HN.out hs).mono ?_
      rintro e w2 ⟨rfl, hx2⟩
      replace hx := hx.trans hx2
      clear hx2 hc0 hnc0 hr0
      go_wp2_with fail
      refine (toStringS_any A c l _ HN.out (hr.ext hx)).mono ?_
      rintro e wt ⟨v1, rfl, h1, hx2⟩
      replace hx := hx.trans hx2
      clear hx2
      obtain ⟨A1, c1, rfl, hc1, hnc1, hr1⟩ := h1.rd
      go_wp2_with fail
      refine (HI.out A1 c1 _ hc1 hnc1 hr1 HT.out HN.out hs).mono ?_
      rintro e w4 ⟨rfl, hx2⟩
      clear hc1 hnc1 hr1
      replace h1 := h1.ext hx2
      replace hx := hx.trans hx2
      clear hx2
      go_wp2_with fail
      refine (toStringS_any A c l _ HN.out (hr.ext hx)).mono ?_
      rintro e wt ⟨v2, rfl, h2, hx2⟩
      replace h1 := h1.ext hx2
      replace hx := hx.trans hx2
      clear hx2
      go_wp2_with fail
      refine (eqStringS_any _ _ l.length l _ h1 h2).mono ?_
      rintro e w6 ⟨rfl, hx2⟩
      replace hx := hx.trans hx2
      clear hx2
      go_wp2
      go_ret
      exact ⟨rfl, hx⟩
    · go_enter Try.func3, Try.ntmps3
      go_wp2_with fail
      refine (szStringS_no A c l _ hr HB.out HL.out (by omega)).mono ?_
      rintro e w1 ⟨rfl, rfl⟩
      go_wp2
      go_ret
      exact ⟨rfl, hx⟩
  · go_enter Try.func3, Try.ntmps3
    go_wp2
    go_ret
    exact ⟨rfl, hx⟩
theorem FnExactJoinStrings_walk (w : World) (A : Option Addr) (len c : Nat) (l : List ByteArray) (sep : ByteArray) (hl : len ≤ maxLen) (hg : l.length = len) (hb : ∀ i, (l.getD i ByteArray.empty).size ≤ maxLen) (hr : Rd w A len 1 (mkS l)) (hs : sep.size ≤ maxLen) :
    Calls Try.prog 3 #[.slice A len c, .string sep] w fun e w' => e = .returned (.bool true) ∧ Ext w w' := by
  subst hg
  by_cases h1 : sep.size = 1
  · obtain ⟨b, rfl⟩ := Lib.one_byte sep h1
    exact FnExactJoinStrings_law A c l _ (jS l b) (jC l b) w hl hb hr hs (Lib.hid fun A c w h1 h2 h3 h4 h5 _ => specJoin_any A c l b w h1 h2 h3 h4 h5) (Lib.hid fun A c w h1 h2 h3 h4 h5 _ => implJoin_any A c l b w h1 h2 h3 h4 h5)
  · exact FnExactJoinStrings_law A c l _ ⟨#[]⟩ false w hl hb hr hs (Lib.hid fun A c w _ _ _ _ _ h6 => specJoin_bad A c _ sep w h6 h1) (Lib.hid fun A c w _ _ _ _ h5 h6 => implJoin_bad A c _ sep w h5 h6 h1)
end Go.Proofs.Ytpmbnfoilhfobaa
