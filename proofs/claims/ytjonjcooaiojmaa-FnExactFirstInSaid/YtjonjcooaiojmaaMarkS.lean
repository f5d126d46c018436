/- Slices of marks: what they read as, and the contracts of the laws' helpers on them. -/
import Derived.Test.YtjonjcooaiojmaaOwn
import Derived.Test.YtjonjcooaiojmaaRows
import Derived.Test.YtjonjcooaiojmaaMarkOne
namespace Go.Proofs.Ytjonjcooaiojmaa
open Go.RowKit
set_option linter.unusedVariables false

structure Mk where
  t : Int
  h : Int
def mkF (m : Nat → Mk) : Nat → Nat → Value := fun i j => match j with
  | 0 => .int .i64 (m i).t
  | _ => .int .i64 (m i).h
def mkFV (x : Mk) : Value := .agg #[.int .i64 x.t, .int .i64 x.h]
theorem elMark : ElemOk Try.prog 25 54 (.agg #[.int .i64 0, .int .i64 0]) 2 16 := ⟨Try.underlying25, info_parts (by kernel_rfl), rfl, by decide, by decide⟩
theorem Rd.atMark {w : World} {A : Option Addr} {n i : Nat} {m : Nat → Mk} (h : Rd w A n 2 (mkF m)) (hi : i < n) :
    ∃ g off, A = some ⟨g, off, none⟩ ∧ g < w.heap.size ∧ w.cell? ⟨g, off + i * 2, none⟩ = some (.int .i64 (m i).t) ∧ w.cell? ⟨g, off + i * 2 + 1, none⟩ = some (.int .i64 (m i).h) := by
  obtain ⟨g, off, hA, hg, hc⟩ := h (by omega)
  exact ⟨g, off, hA, hg, hc i 0 hi (by omega), hc i 1 hi (by omega)⟩
theorem mkF_one (m : Nat → Mk) (i j : Nat) (hj : j < 2) : (mkF m i j).oneCell' = true := by
  match j, hj with
  | 0, _ => rfl
  | 1, _ => rfl
/-- What came in reads as such a list. -/
theorem mkF_of {n : Nat} {f : Nat → Nat → Value} (h : ∀ i j k, i < n → [true, true][j]? = some k → FieldIs k (f i j)) : ∃ m : Nat → Mk, ∀ i j, i < n → j < 2 → mkF m i j = f i j := by
  have hx : ∀ i, ∃ x : Mk, i < n → ∀ j, j < 2 → mkF (fun _ => x) i j = f i j := by
    intro i
    by_cases hi : i < n
    · obtain ⟨x, hx⟩ : ∃ x : Mk, ∀ j, j < 2 → mkF (fun _ => x) i j = f i j := by
        have h1 := fun j k hk => h i j k hi hk
        clear h
        obtain ⟨q0, e0, _⟩ := h1 0 true rfl
        obtain ⟨q1, e1, _⟩ := h1 1 true rfl
        refine ⟨⟨q0, q1⟩, fun j hj => ?_⟩
        match j, hj with
        | 0, _ => exact e0.symm
        | 1, _ => exact e1.symm
      exact ⟨x, fun _ => hx⟩
    · exact ⟨⟨0, 0⟩, fun h => absurd h hi⟩
  exact ⟨fun i => (hx i).choose, fun i j hi hj => (hx i).choose_spec hi j hj⟩

theorem szMarkS_yes (A : Option Addr) (n c : Nat) (w : World) (hn : n ≤ 1048576) : Calls Try.prog 14 #[.slice A n c, .int .i64 1048576] w fun e w' => e = .returned (.int .i64 (1048576 - (n : Int))) ∧ w = w' := by
  go_enter Try.func14, Try.ntmps14
  go_wp2
  go_ret
  exact ⟨rfl, rfl⟩
theorem szMarkS_no (A : Option Addr) (n c : Nat) (w : World) (hn : 1048576 < n) (hm : n ≤ 9223372036854775807) : Calls Try.prog 14 #[.slice A n c, .int .i64 1048576] w fun e w' => e = .returned (.int .i64 (-1)) ∧ w = w' := by
  go_enter Try.func14, Try.ntmps14
  go_wp2
  go_ret
  exact ⟨rfl, rfl⟩

theorem eqMark_any (x0 : Int) (x1 : Int) (w : World) : Calls Try.prog 53 #[.agg #[.int .i64 x0, .int .i64 x1], .agg #[.int .i64 x0, .int .i64 x1]] w fun e w' => e = .returned (.bool true) ∧ Ext w w' := by
  go_enter Try.func53, Try.ntmps53
  go_wp2
  go_ret
  exact ⟨rfl, by repeat (with_reducible first | exact Ext.refl _ | refine Ext.setCell ?_ (by first | (simp; done) | (simp; omega)) _ | refine Ext.alloc ?_ _ | refine Ext.gw ?_ _ | refine Ext.drew ?_)⟩
theorem eqMarkS_any (v1 v2 : Value) (n : Nat) (m : Nat → Mk) (w : World) {b1 b2 e1 e2 : Nat} (h1 : OwnS w b1 e1 2 v1 n (mkF m)) (h2 : OwnS w b2 e2 2 v2 n (mkF m)) :
    Calls Try.prog 18 #[v1, v2] w fun e w' => e = .returned (.bool true) ∧ Ext w w' := by
  obtain ⟨A, c, rfl, hc, hnc, hr⟩ := h1.rd
  obtain ⟨A', c', rfl, hc', hnc', hr'⟩ := h2.rd
  clear h1 h2
  unfold maxLen at *
  go_enter Try.func18, Try.ntmps18
  go_wp2
  go_loopw [5] (fun i wr => ∃ k : Nat, i = .int .i64 k ∧ k ≤ n ∧ ∃ y, wr = gw w y) (fun i _ => n - (intOf i).toNat)
  case atStart => exact ⟨0, rfl, Nat.zero_le _, (Ext.refl w).to_gw⟩
  case round =>
    obtain ⟨k, rfl, hk, y, rfl⟩ := hrel
    by_cases hlt : k < n
    · obtain ⟨g, off, rfl, hg, c0, c1⟩ := hr.atMark hlt
      obtain ⟨g', off', rfl, hg', c0', c1'⟩ := hr'.atMark hlt
      have i0 : (0 : Int) ≤ (k : Int) := by omega
      have i1 : (k : Int) < (n : Int) := by omega
      go_wp2_with fail
      first | refine wp_region_grow2 (by kernel_rfl) (by kernel_rfl) ?_ | refine wp_region_grow (by kernel_rfl) (by kernel_rfl) ?_
      repeat (go_big_quiet_step (first | (go_at_call 53; exact grow_of (eqMark_any _ _ _))))
      refine wpQuiet_nil ?_
      rintro _ ⟨xq, rfl⟩
      go_wp2
      go_roundw
      case rel => exact ⟨k + 1, by go_num, by omega, _, rfl⟩
      case measure => simp [intOf]; omega
    · go_wp2
      go_ret
      exact ⟨rfl, ext_gw _ _⟩

set_option maxHeartbeats 1000000 in
theorem toMarkS_any (A : Option Addr) (n c : Nat) (m : Nat → Mk) (w : World) (hn : n ≤ 1048576) (hr : Rd w A n 2 (mkF m)) : Calls Try.prog 16 #[.slice A n c] w (RetO 54 2 n (mkF m) w) := by
  have hmk := run_make_S (P := Try.prog) elMark n (by omega)
  have h0 := own_made (e := 54) (n := n) elMark.hz w (by unfold maxLen; omega)
  have hx0 := Ext.alloc (Ext.refl w) (Obj.cells (madeCells (Value.cells (.agg #[.int .i64 0, .int .i64 0])) (n * 2)) 54)
  go_enter Try.func16, Try.ntmps16
  go_wp2
  clear hmk
  go_loopw [4] (fun i wr => ∃ k : Nat, i = .int .i64 k ∧ k ≤ n ∧ OwnS wr w.heap.size 54 2 (.slice (some ⟨w.heap.size, 0, none⟩) n n) n (fun i j => if i < k then mkF m i j else (Value.cells (.agg #[.int .i64 0, .int .i64 0]))[j]!) ∧ ∃ y, wr = gw w y) (fun i _ => n - (intOf i).toNat)
  case atStart => exact ⟨0, rfl, Nat.zero_le _, h0.congr (fun _ _ _ _ => by simp), hx0.to_gw⟩
  case round =>
    obtain ⟨k, rfl, hk, hown, y, rfl⟩ := hrel
    clear h0 hx0
    by_cases hlt : k < n
    · obtain ⟨g, off, rfl, hg, c0, c1⟩ := hr.atMark hlt
      have i0 : (0 : Int) ≤ (k : Int) := by omega
      have i1 : (k : Int) < (n : Int) := by omega
      go_wp2_with fail
      refine (toMark_any _ _ _).mono ?_
      rintro e w1 ⟨rfl, hx⟩
      replace hown := hown.ext hx
      obtain ⟨x, rfl⟩ := (Ext.flat hx).to_gw
      clear hx
      obtain ⟨A0, cap0, hv, _, _, hform⟩ := hown.form
      injection hv with hA _ hc
      subst hA hc
      obtain ⟨g0, hg0, _, _, _, hcell⟩ := hform (by omega)
      injection hg0 with hg0
      injection hg0 with hg0 _ _
      subst hg0
      obtain ⟨d0, f0⟩ := hcell k 0 hlt (by omega)
      obtain ⟨d1, f1⟩ := hcell k 1 hlt (by omega)
      rw [Nat.add_zero] at d0 f0
      clear hform hcell
      go_wp2
      go_roundw
      case rel =>
        obtain ⟨a1, _⟩ := hown.put_next hlt
        exact ⟨k + 1, by go_num, by omega, a1, ((ext_gw w x).put (Nat.le_refl _) (k * 2) (mkF m k) 2).to_gw⟩
      case measure => simp [intOf]; omega
    · obtain rfl : k = n := by omega
      go_wp2
      go_ret
      exact ⟨_, rfl, hown.congr (fun i j hi _ => by simp [hi]), ext_gw _ _⟩
end Go.Proofs.Ytjonjcooaiojmaa
