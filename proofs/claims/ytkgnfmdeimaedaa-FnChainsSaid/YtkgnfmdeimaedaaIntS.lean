/- Slices of numbers: the laws' comparing, marking and holding. -/
import Derived.Test.YtkgnfmdeimaedaaOwn
import Derived.Test.YtkgnfmdeimaedaaRows
namespace Go.Proofs.Ytkgnfmdeimaedaa
open Go.RowKit
set_option linter.unusedVariables false

theorem elInt : ElemOk Try.prog 35 3 (.int .i64 0) 1 8 := ⟨Try.underlying35, info_parts (by kernel_rfl), rfl, by decide, by decide⟩
theorem eqIntS_any (v1 v2 : Value) (n : Nat) (p : Nat → Int) (w : World) {b1 b2 e1 e2 : Nat} (h1 : OwnS w b1 e1 1 v1 n (mk1 p)) (h2 : OwnS w b2 e2 1 v2 n (mk1 p)) :
    Calls Try.prog 32 #[v1, v2] w fun e w' => e = .returned (.bool true) ∧ Ext w w' := by
  obtain ⟨A, c, rfl, hc, hnc, hr⟩ := h1.rd
  obtain ⟨A', c', rfl, hc', hnc', hr'⟩ := h2.rd
  clear h1 h2
  unfold maxLen at *
  go_enter Try.func32, Try.ntmps32
  go_wp2
  go_loopw [5] (fun i wr => ∃ k : Nat, i = .int .i64 k ∧ k ≤ n ∧ ∃ y, wr = gw w y) (fun i _ => n - (intOf i).toNat)
  case atStart => exact ⟨0, rfl, Nat.zero_le _, (Ext.refl w).to_gw⟩
  case round =>
    obtain ⟨k, rfl, hk, y, rfl⟩ := hrel
    by_cases hlt : k < n
    · obtain ⟨g, off, rfl, hg, c0⟩ := hr.at1 hlt
      obtain ⟨g', off', rfl, hg', c0'⟩ := hr'.at1 hlt
      have i0 : (0 : Int) ≤ (k : Int) := by omega
      have i1 : (k : Int) < (n : Int) := by omega
      go_wp2_with fail
      first | refine wp_region_grow2 (by kernel_rfl) (by kernel_rfl) ?_ | refine wp_region_grow (by kernel_rfl) (by kernel_rfl) ?_
      repeat (go_big_quiet_step (fail))
      refine wpQuiet_nil ?_
      rintro _ ⟨xq, rfl⟩
      go_wp2
      go_roundw
      case rel => exact ⟨k + 1, by go_num, by omega, _, rfl⟩
      case measure => simp [intOf]; omega
    · go_wp2
      go_ret
      exact ⟨rfl, ext_gw _ _⟩
set_option maxHeartbeats 400000 in
theorem markIntS_any (v : Value) (n : Nat) (f : Nat → Nat → Value) (w : World) {b e : Nat} (h : OwnS w b e 1 v n f) (hn : n ≤ 1000000000) :
    Calls Try.prog 34 #[v, .int .i64 1] w (MarkRet b e 1 n marks1 ((n : Int) + 1) v w) := by
  obtain ⟨A, c, rfl, hnc, hcm, _⟩ := h.form
  unfold maxLen at *
  go_enter Try.func34, Try.ntmps34
  go_wp2
  go_loopw [1, 5] (fun m i wr => ∃ k : Nat, i = .int .i64 k ∧ k ≤ n ∧ m = .int .i64 ((k : Int) + 1) ∧ OwnS wr b e 1 (.slice A n c) n (fun i j => if i < k then marks1 i j else f i j) ∧ w.grownBy wr (Value.slice A n c).ownBlock) (fun _ i _ => n - (intOf i).toNat)
  case atStart => exact ⟨0, rfl, Nat.zero_le _, by go_num, h.congr (fun i j _ _ => by simp), grownBy_ext (Ext.refl w) _⟩
  case round =>
    obtain ⟨k, rfl, hk, rfl, hown, hgr⟩ := hrel
    by_cases hlt : k < n
    · obtain ⟨A0, c0, hv, _, _, hr⟩ := hown.form
      injection hv with hA _ hc
      subst hA hc
      obtain ⟨g, rfl, _, hb, hg, hcell⟩ := hr (by omega)
      obtain ⟨c0, f0⟩ := hcell k 0 hlt (by omega)
      rw [Nat.add_zero, Nat.mul_one] at c0 f0
      have i0 : (0 : Int) ≤ (k : Int) := by omega
      have i1 : (k : Int) < (n : Int) := by omega
      clear hr hcell
      go_wp2
      go_roundw
      case rel =>
        have a1 := (hown.stored hlt (j := 0) (by omega) (.int .i64 ((k : Int) + 1))).congr (f' := fun i j => if i < k + 1 then marks1 i j else f i j) (fun i j _ hj => marks1_step hj)
        rw [Nat.add_zero, Nat.mul_one] at a1
        refine ⟨k + 1, by go_num, by omega, by go_num, ?_, ?_⟩
        · exact a1
        · have hgr2 : w.grownBy wr (some g) := hgr
          exact grownBy_trans hgr2 (grownBy_set wr ⟨g, k, none⟩ _)
      case measure => simp [intOf]; omega
    · obtain rfl : k = n := by omega
      go_wp2
      go_ret
      exact ⟨rfl, hown.congr (fun i j hi _ => by simp [hi]), hgr⟩
theorem heldIntS_any (v : Value) (n : Nat) (w : World) {b e : Nat} (h : OwnS w b e 1 v n marks1) (hn : n ≤ 1000000000) :
    Calls Try.prog 35 #[v, .int .i64 1] w fun en w' => en = .returned (.int .i64 ((n : Int) + 1)) ∧ w = w' := by
  obtain ⟨A, c, rfl, hc, hnc, hr⟩ := h.rd
  unfold maxLen at *
  go_enter Try.func35, Try.ntmps35
  go_wp2
  go_loop [1, 5] (fun m i => ∃ k : Nat, i = .int .i64 k ∧ k ≤ n ∧ m = .int .i64 ((k : Int) + 1)) (fun _ i => n - (intOf i).toNat)
  case atStart => exact ⟨0, rfl, Nat.zero_le _, by go_num⟩
  case round =>
    obtain ⟨k, rfl, hk, rfl⟩ := hrel
    by_cases hlt : k < n
    · obtain ⟨g, off, rfl, hg, c0⟩ := Rd.at1 hr hlt
      have i0 : (0 : Int) ≤ (k : Int) := by omega
      have i1 : (k : Int) < (n : Int) := by omega
      go_wp2
      go_round
      case rel => exact ⟨k + 1, by go_num, by omega, by go_num⟩
      case measure => simp [intOf]; omega
    · obtain rfl : k = n := by omega
      go_wp2
      go_ret
      exact ⟨rfl, rfl⟩
end Go.Proofs.Ytkgnfmdeimaedaa
