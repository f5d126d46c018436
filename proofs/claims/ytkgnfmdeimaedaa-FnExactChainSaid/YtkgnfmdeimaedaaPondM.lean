/- Slices of ponds: the laws' marks. -/
import Derived.Test.YtkgnfmdeimaedaaPondS
namespace Go.Proofs.Ytkgnfmdeimaedaa
open Go.RowKit
set_option linter.unusedVariables false

def marksPond : Nat → Pd := fun i => ⟨6 * (i : Int) + 1, 6 * (i : Int) + 2, 6 * (i : Int) + 3, 6 * (i : Int) + 4, 6 * (i : Int) + 5, 6 * (i : Int) + 6⟩
set_option maxHeartbeats 1000000 in
theorem markPondS_any (v : Value) (n : Nat) (f : Nat → Nat → Value) (w : World) {b e : Nat} (h : OwnS w b e 6 v n f) (hn : n ≤ 1000000000) :
    Calls Try.prog 33 #[v, .int .i64 1] w (MarkRet b e 6 n (pdF marksPond) (6 * (n : Int) + 1) v w) := by
  obtain ⟨A, c, rfl, hnc, hcm, _⟩ := h.form
  unfold maxLen at *
  go_enter Try.func33, Try.ntmps33
  go_wp2
  go_loopw [1, 5] (fun m i wr => ∃ k : Nat, i = .int .i64 k ∧ k ≤ n ∧ m = .int .i64 (6 * (k : Int) + 1) ∧ OwnS wr b e 6 (.slice A n c) n (fun i j => if i < k then pdF marksPond i j else f i j) ∧ w.grownBy wr (Value.slice A n c).ownBlock) (fun _ i _ => n - (intOf i).toNat)
  case atStart => exact ⟨0, rfl, Nat.zero_le _, by go_num, h.congr (fun i j _ _ => by simp), grownBy_ext (Ext.refl w) _⟩
  case round =>
    obtain ⟨k, rfl, hk, rfl, hown, hgr⟩ := hrel
    by_cases hlt : k < n
    · obtain ⟨A0, c0, hv, _, _, hr⟩ := hown.form
      injection hv with hA _ hc
      subst hA hc
      obtain ⟨g, rfl, _, hb, hg, hcell⟩ := hr (by omega)
      obtain ⟨c0, f0⟩ := hcell k 0 hlt (by omega)
      obtain ⟨c1, f1⟩ := hcell k 1 hlt (by omega)
      obtain ⟨c2, f2⟩ := hcell k 2 hlt (by omega)
      obtain ⟨c3, f3⟩ := hcell k 3 hlt (by omega)
      obtain ⟨c4, f4⟩ := hcell k 4 hlt (by omega)
      obtain ⟨c5, f5⟩ := hcell k 5 hlt (by omega)
      rw [Nat.add_zero] at c0 f0
      have i0 : (0 : Int) ≤ (k : Int) := by omega
      have i1 : (k : Int) < (n : Int) := by omega
      clear hr hcell
      go_wp2
      go_roundw
      case rel =>
        obtain ⟨a1, a2⟩ := hown.put_next hlt
        have hgr2 : w.grownBy wr (some g) := hgr
        refine ⟨k + 1, by go_num, by omega, by go_num, ?_, ?_⟩
        · exact a1
        · exact grownBy_trans hgr2 a2
      case measure => simp [intOf]; omega
    · obtain rfl : k = n := by omega
      go_wp2
      go_ret
      exact ⟨rfl, hown.congr (fun i j hi _ => by simp [hi]), hgr⟩
end Go.Proofs.Ytkgnfmdeimaedaa
