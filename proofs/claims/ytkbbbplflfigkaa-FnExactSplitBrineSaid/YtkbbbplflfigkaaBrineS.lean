/- Slices of brines: the law's comparing, marking and holding. -/
import Derived.Test.YtkbbbplflfigkaaOwn
import Derived.Test.YtkbbbplflfigkaaTake
namespace Go.Proofs.Ytkbbbplflfigkaa
open Go.RowKit

theorem eqBrineS_any (v1 v2 : Value) (n : Nat) (p q : Nat → Int) (w : World) {b1 b2 e1 e2 : Nat} (h1 : OwnS w b1 e1 2 v1 n (mk2 p q)) (h2 : OwnS w b2 e2 2 v2 n (mk2 p q)) :
    Calls Try.prog 41 #[v1, v2] w fun e w' => e = .returned (.bool true) ∧ Ext w w' := by
  obtain ⟨A, c, rfl, hc, hnc, hr⟩ := h1.rd
  obtain ⟨A', c', rfl, hc', hnc', hr'⟩ := h2.rd
  clear h1 h2
  unfold maxLen at *
  go_enter Try.func41, Try.ntmps41
  go_wp2
  go_loopw [5] (fun i wr => ∃ k : Nat, i = .int .i64 k ∧ k ≤ n ∧ ∃ y, wr = gw w y) (fun i _ => n - (intOf i).toNat)
  case atStart => exact ⟨0, rfl, Nat.zero_le _, (Ext.refl w).to_gw⟩
  case round =>
    obtain ⟨k, rfl, hk, y, rfl⟩ := hrel
    by_cases hlt : k < n
    · obtain ⟨g, off, rfl, hg, c0, c1⟩ := hr.at2 hlt
      obtain ⟨g', off', rfl, hg', c0', c1'⟩ := hr'.at2 hlt
      have i0 : (0 : Int) ≤ (k : Int) := by omega
      have i1 : (k : Int) < (n : Int) := by omega
      go_wp2_with fail
      first | refine wp_region_grow2 (by kernel_rfl) (by kernel_rfl) ?_ | refine wp_region_grow (by kernel_rfl) (by kernel_rfl) ?_
      repeat (go_big_quiet_step (first | (go_at_call 36; exact grow_of (eqBrine_any _ _ _))))
      refine wpQuiet_nil ?_
      rintro _ ⟨xq, rfl⟩
      go_wp2
      go_roundw
      case rel => exact ⟨k + 1, by go_num, by omega, _, rfl⟩
      case measure => simp [intOf]; omega
    · go_wp2
      go_ret
      exact ⟨rfl, ext_gw _ _⟩
set_option maxHeartbeats 400000 in
theorem markBrineS_any (v : Value) (n : Nat) (f : Nat → Nat → Value) (w : World) {b e : Nat} (h : OwnS w b e 2 v n f) (hn : n ≤ 1000000000) :
    Calls Try.prog 42 #[v, .int .i64 1] w (MarkRet b e 2 n marks2 (2 * (n : Int) + 1) v w) := by
  obtain ⟨A, c, rfl, hnc, hcm, _⟩ := h.form
  unfold maxLen at *
  go_enter Try.func42, Try.ntmps42
  go_wp2
  go_loopw [1, 5] (fun m i wr => ∃ k : Nat, i = .int .i64 k ∧ k ≤ n ∧ m = .int .i64 (2 * (k : Int) + 1) ∧ OwnS wr b e 2 (.slice A n c) n (fun i j => if i < k then marks2 i j else f i j) ∧ w.grownBy wr (Value.slice A n c).ownBlock) (fun _ i _ => n - (intOf i).toNat)
  case atStart => exact ⟨0, rfl, Nat.zero_le _, by go_num, h.congr (fun i j _ _ => by simp), grownBy_ext (Ext.refl w) _⟩
  case round =>
    obtain ⟨k, rfl, hk, rfl, hown, hgr⟩ := hrel
    by_cases hlt : k < n
    · obtain ⟨A0, c0, hv, _, _, hr⟩ := hown.form
      injection hv with hA _ hc
      subst hA hc
      obtain ⟨g, rfl, _, hb, hg, hcell⟩ := hr (by omega)
      obtain ⟨c0, f0⟩ := hcell k 0 hlt (by omega)
      obtain ⟨c1, f1⟩ := hcell k 1 hlt (by omega)
      rw [Nat.add_zero] at c0 f0
      have i0 : (0 : Int) ≤ (k : Int) := by omega
      have i1 : (k : Int) < (n : Int) := by omega
      clear hr hcell
      go_wp2
      go_roundw
      case rel =>
        have a1 := hown.stored hlt (j := 0) (by omega) (.int .i64 (2 * (k : Int) + 1))
        rw [Nat.add_zero] at a1
        have a2 := (a1.stored hlt (j := 1) (by omega) (.int .i64 (2 * (k : Int) + 1 + 1))).congr (f' := fun i j => if i < k + 1 then marks2 i j else f i j) (fun i j _ hj => marks2_step hj)
        refine ⟨k + 1, by go_num, by omega, by go_num, ?_, ?_⟩
        · exact a2
        · have hgr2 : w.grownBy wr (some g) := hgr
          exact grownBy_trans (grownBy_trans hgr2 (grownBy_set wr ⟨g, k * 2, none⟩ _)) (grownBy_set _ ⟨g, k * 2 + 1, none⟩ _)
      case measure => simp [intOf]; omega
    · obtain rfl : k = n := by omega
      go_wp2
      go_ret
      exact ⟨rfl, hown.congr (fun i j hi _ => by simp [hi]), hgr⟩
theorem heldBrineS_any (v : Value) (n : Nat) (w : World) {b e : Nat} (h : OwnS w b e 2 v n marks2) (hn : n ≤ 1000000000) :
    Calls Try.prog 43 #[v, .int .i64 1] w fun en w' => en = .returned (.int .i64 (2 * (n : Int) + 1)) ∧ w = w' := by
  obtain ⟨A, c, rfl, hc, hnc, hr⟩ := h.rd
  unfold maxLen at *
  go_enter Try.func43, Try.ntmps43
  go_wp2
  go_loop [1, 5] (fun m i => ∃ k : Nat, i = .int .i64 k ∧ k ≤ n ∧ m = .int .i64 (2 * (k : Int) + 1)) (fun _ i => n - (intOf i).toNat)
  case atStart => exact ⟨0, rfl, Nat.zero_le _, by go_num⟩
  case round =>
    obtain ⟨k, rfl, hk, rfl⟩ := hrel
    by_cases hlt : k < n
    · obtain ⟨g, off, rfl, hg, c0, c1⟩ := hr.at2 hlt
      have i0 : (0 : Int) ≤ (k : Int) := by omega
      have i1 : (k : Int) < (n : Int) := by omega
      rw [show (2 * (k : Int) + 2) = 2 * (k : Int) + 1 + 1 by omega] at c1
      go_wp2
      go_round
      case rel => exact ⟨k + 1, by go_num, by omega, by go_num⟩
      case measure => simp [intOf]; omega
    · obtain rfl : k = n := by omega
      go_wp2
      go_ret
      exact ⟨rfl, rfl⟩
end Go.Proofs.Ytkbbbplflfigkaa
