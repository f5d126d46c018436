/- Slices of texts: the laws' comparing, marking and holding. -/
import Derived.Test.YtpmbnfoilhfobaaDoorEqS
import Derived.Test.YtpmbnfoilhfobaaDoorNum
import Derived.Laws.IdiomStrings
namespace Go.Proofs.YtpmbnfoilhfobaaDoor
open Go.RowKit
set_option linter.unusedVariables false

def dD0 (q : Nat) : List UInt8 := if q = 0 then [] else Lib.decDigits q
theorem dD0_step {q : Nat} (h : 0 < q) : dD0 q = dD0 (q / 10) ++ [UInt8.ofNat (48 + q % 10)] := by
  unfold dD0
  rw [if_neg (by omega)]
  by_cases h1 : q < 10
  · rw [if_pos (by omega), Lib.decDigits_one h1, Nat.mod_eq_of_lt h1]; rfl
  · rw [if_neg (by omega)]
    conv => lhs; rw [Lib.decDigits, dif_neg h1]
theorem dD0_len (q : Nat) (h : q ≤ 1000000000000) : (dD0 q).length ≤ 21 := by
  unfold dD0
  split
  · simp
  · have := iB_size (n := (q : Int)) (by omega) (by omega)
    unfold iB at this
    rw [itoa_nat] at this
    have h2 : (Lib.decDigits q).toArray.size ≤ 21 := this
    simpa using h2
def mtB (k : Nat) : ByteArray := (⟨#[109]⟩ : ByteArray) ++ ⟨(dD0 k).toArray⟩
theorem u8_digit (q : Nat) : ((UInt8.ofNat (48 + q % 10)).toNat : Int) = 48 + (q : Int) % 10 := by
  have e : (UInt8.ofNat (48 + q % 10)).toNat = 48 + q % 10 := by simp; omega
  rw [e]; omega
set_option maxRecDepth 100000 in
set_option maxHeartbeats 1000000 in
theorem markText_any (k : Nat) (w : World) (h0 : 0 < k) (h1 : k ≤ 1000000000000) : Calls Tryd.prog 67 #[.int .i64 (k : Int)] w fun e w' => e = .returned (.string (mtB k)) ∧ Ext w w' := by
  have HK := Lib.hid h1
  go_enter Tryd.func67, Tryd.ntmps67
  go_wp2
  go_loopw [0, 3] (fun i o wr => ∃ (q : Nat) (l : List UInt8), i = .int .i64 q ∧ q ≤ k ∧ o = .string ⟨l.toArray⟩ ∧ Hid (dD0 q ++ l = dD0 k) ∧ ∃ y, wr = gw w y) (fun i _ _ => (intOf i).toNat)
  case atStart => exact ⟨k, [], rfl, Nat.le_refl _, rfl, Lib.hid (by simp), (Ext.refl w).to_gw⟩
  case round =>
    obtain ⟨q, l, rfl, hq, rfl, HD, y, rfl⟩ := hrel
    have HL := Lib.hid (show l.length ≤ 21 by have h2 := congrArg List.length HD.out; rw [List.length_append] at h2; have := dD0_len k HK.out; omega)
    by_cases hlt : 0 < q
    · have hq0 : (0 : Int) < (q : Int) := by omega
      have hql : l.length ≤ 21 := HL.out
      obtain ⟨dg, hdg⟩ : ∃ dg : UInt8, dg = UInt8.ofNat (48 + q % 10) := ⟨_, rfl⟩
      have HG := Lib.hid hdg
      have hdz : (dg.toNat : Int) = 48 + (q : Int) % 10 := by rw [hdg, u8_digit]
      have HZ := Lib.hid hdz
      clear hdg hdz
      have hconv : (convert 30 9 (.slice (some ⟨(gw w y).heap.size, 0, none⟩) 1 1)).run Tryd.prog ((gw w y).alloc (.cells #[.int .u8 (48 + (q : Int) % 10)] 5)) = .ok (.string ⟨#[dg]⟩) ((gw w y).alloc (.cells #[.int .u8 (48 + (q : Int) % 10)] 5)) :=
        run_convert_bytes_back _ 30 9 5 ⟨(gw w y).heap.size, 0, none⟩ 1 [dg] Tryd.underlying30 Tryd.underlying5 Tryd.underlying9 (fun j hj => by
          match j, hj with
          | 0, _ =>
            show ((gw w y).alloc _).cell? ⟨(gw w y).heap.size, 0 + 0, none⟩ = some (.int .u8 ((dg).toNat : Int))
            rw [HZ.out]
            simp [go_sem])
      have HD2 := Lib.hid (show dD0 (q / 10) ++ (dg :: l) = dD0 k by rw [← HD.out, dD0_step hlt, List.append_assoc, HG.out]; rfl)
      have HM := Lib.hid (ByteArray.mk_append_mk [dg] l)
      go_wp2
      clear hconv
      go_roundw
      case rel => exact ⟨q / 10, dg :: l, by first | done | rfl | (congr 1; omega), by omega, by exact congrArg Value.string HM.out, HD2, Ext.to_gw (by repeat (with_reducible first | exact Ext.refl _ | refine Ext.setCell ?_ (by first | (simp; done) | (simp; omega)) _ | refine Ext.alloc ?_ _ | refine Ext.gw ?_ _ | refine Ext.drew ?_))⟩
      case measure => simp [intOf]; omega
    · obtain rfl : q = 0 := by omega
      have HE := Lib.hid (show l = dD0 k by rw [← HD.out]; rfl)
      have hql : l.length ≤ 21 := HL.out
      go_wp2
      go_ret
      exact ⟨by rw [mtB, ← HE.out]; rfl, by repeat (with_reducible first | exact Ext.refl _ | refine Ext.setCell ?_ (by first | (simp; done) | (simp; omega)) _ | refine Ext.alloc ?_ _ | refine Ext.gw ?_ _ | refine Ext.drew ?_)⟩
def marksS : Nat → Nat → Value := fun i _ => .string (mtB (i + 1))
theorem marksS_step {k i j : Nat} {f : Nat → Nat → Value} (hj : j < 1) : (if i < k + 1 then marksS i j else f i j) =
    if i = k ∧ j = 0 then Value.string (mtB (k + 1)) else if i < k then marksS i j else f i j := by
  rcases Nat.lt_trichotomy i k with h | rfl | h
  · rw [if_pos (by omega), if_neg (by omega), if_pos h]
  · rw [if_pos (by omega)]
    match j, hj with
    | 0, _ => simp [marksS]
  · rw [if_neg (by omega), if_neg (by omega), if_neg (by omega)]
set_option maxHeartbeats 1000000 in
theorem markStringS_any (v : Value) (n : Nat) (f : Nat → Nat → Value) (w : World) {b e : Nat} (h : OwnS w b e 1 v n f) (hn : n ≤ 1000000000) :
    Calls Tryd.prog 33 #[v, .int .i64 1] w (MarkRet b e 1 n marksS ((n : Int) + 1) v w) := by
  obtain ⟨A, c, rfl, hnc, hcm, _⟩ := h.form
  unfold maxLen at *
  go_enter Tryd.func33, Tryd.ntmps33
  go_wp2
  go_loopw [1, 5] (fun m i wr => ∃ k : Nat, i = .int .i64 k ∧ k ≤ n ∧ m = .int .i64 ((k : Int) + 1) ∧ OwnS wr b e 1 (.slice A n c) n (fun i j => if i < k then marksS i j else f i j) ∧ w.grownBy wr (Value.slice A n c).ownBlock) (fun _ i _ => n - (intOf i).toNat)
  case atStart => exact ⟨0, rfl, Nat.zero_le _, by go_num, h.congr (fun i j _ _ => by simp), grownBy_ext (Ext.refl w) _⟩
  case round =>
    obtain ⟨k, rfl, hk, rfl, hown, hgr⟩ := hrel
    by_cases hlt : k < n
    · have i0 : (0 : Int) ≤ (k : Int) := by omega
      have i1 : (k : Int) < (n : Int) := by omega
      have HM := Lib.hid (fun w => markText_any (k + 1) w (by omega) (by omega))
      rw [show (((k + 1 : Nat)) : Int) = (k : Int) + 1 by omega] at HM
      go_wp2_with fail
      refine (HM.out _).mono ?_
      rintro en w1 ⟨rfl, hx⟩
      replace hown := hown.ext hx
      replace hgr := grownBy_trans hgr (grownBy_ext hx _)
      clear hx
      obtain ⟨A0, c0, hv, _, _, hr⟩ := hown.form
      injection hv with hA _ hc
      subst hA hc
      obtain ⟨g, rfl, _, hb, hg, hcell⟩ := hr (by omega)
      obtain ⟨d0, f0⟩ := hcell k 0 hlt (by omega)
      rw [Nat.add_zero, Nat.mul_one] at d0 f0
      clear hr hcell
      go_wp2
      go_roundw
      case rel =>
        have a1 := (hown.stored hlt (j := 0) (by omega) (.string (mtB (k + 1)))).congr (f' := fun i j => if i < k + 1 then marksS i j else f i j) (fun i j _ hj => marksS_step hj)
        rw [Nat.add_zero, Nat.mul_one] at a1
        refine ⟨k + 1, by go_num, by omega, by go_num, ?_, ?_⟩
        · exact a1
        · have hgr2 : w.grownBy w1 (some g) := hgr
          exact grownBy_trans hgr2 (grownBy_set w1 ⟨g, k, none⟩ _)
      case measure => simp [intOf]; omega
    · obtain rfl : k = n := by omega
      go_wp2
      go_ret
      exact ⟨rfl, hown.congr (fun i j hi _ => by simp [hi]), hgr⟩
set_option maxHeartbeats 1000000 in
theorem heldStringS_any (v : Value) (n : Nat) (w : World) {b e : Nat} (h : OwnS w b e 1 v n marksS) (hn : n ≤ 1000000000) :
    Calls Tryd.prog 34 #[v, .int .i64 1] w fun en w' => en = .returned (.int .i64 ((n : Int) + 1)) ∧ Ext w w' := by
  obtain ⟨A, c, rfl, hc, hnc, hr⟩ := h.rd
  unfold maxLen at *
  go_enter Tryd.func34, Tryd.ntmps34
  go_wp2
  go_loopw [1, 5] (fun m i wr => ∃ k : Nat, i = .int .i64 k ∧ k ≤ n ∧ m = .int .i64 ((k : Int) + 1) ∧ ∃ y, wr = gw w y) (fun _ i _ => n - (intOf i).toNat)
  case atStart => exact ⟨0, rfl, Nat.zero_le _, by go_num, (Ext.refl w).to_gw⟩
  case round =>
    obtain ⟨k, rfl, hk, rfl, y, rfl⟩ := hrel
    by_cases hlt : k < n
    · obtain ⟨g, off, hA, hg, hcell⟩ := hr (by omega)
      subst hA
      have c0 := hcell k 0 hlt (by omega)
      rw [Nat.mul_one, Nat.add_zero] at c0
      replace c0 : _ = some (Value.string (mtB (k + 1))) := c0
      clear hcell
      have i0 : (0 : Int) ≤ (k : Int) := by omega
      have i1 : (k : Int) < (n : Int) := by omega
      have HM := Lib.hid (fun w => markText_any (k + 1) w (by omega) (by omega))
      rw [show (((k + 1 : Nat)) : Int) = (k : Int) + 1 by omega] at HM
      go_wp2_with fail
      first | refine wp_region_grow2 (by kernel_rfl) (by kernel_rfl) ?_ | refine wp_region_grow (by kernel_rfl) (by kernel_rfl) ?_
      repeat (go_big_quiet_step (first | (go_at_call 67; exact grow_of (HM.out _))))
      refine wpQuiet_nil ?_
      rintro _ ⟨xq, rfl⟩
      go_wp2
      go_roundw
      case rel => exact ⟨k + 1, by go_num, by omega, by go_num, Ext.to_gw (by repeat (with_reducible first | exact Ext.refl _ | refine Ext.setCell ?_ (by first | (simp; done) | (simp; omega)) _ | refine Ext.alloc ?_ _ | refine Ext.gw ?_ _ | refine Ext.drew ?_))⟩
      case measure => simp [intOf]; omega
    · obtain rfl : k = n := by omega
      go_wp2
      go_ret
      exact ⟨rfl, ext_gw _ _⟩
end Go.Proofs.YtpmbnfoilhfobaaDoor
