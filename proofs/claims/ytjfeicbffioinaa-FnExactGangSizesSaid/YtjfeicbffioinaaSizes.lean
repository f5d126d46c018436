/- GangSizes: the contracts. -/
import Derived.Test.YtjfeicbffioinaaIdle
namespace Go.Proofs.Ytjfeicbffioinaa
open Go.RowKit
set_option linter.unusedVariables false

def cntG (m : Nat → Wk) : Nat → Nat → Int
  | 0, _ => 0
  | k + 1, j => if (m k).gang = (j : Int) then cntG m k j + 1 else cntG m k j
theorem cntG_bd (m : Nat → Wk) (k j : Nat) : 0 ≤ cntG m k j ∧ cntG m k j ≤ (k : Int) := by
  induction k with
  | zero => exact ⟨Int.le_refl _, Int.le_refl _⟩
  | succ k ih =>
    unfold cntG
    split
    · omega
    · omega
theorem cntG_step (m : Nat → Wk) (k j : Nat) (hj : (m k).gang = (j : Int)) (i l : Nat) (hl1 : l < 1) : mk1 (cntG m (k + 1)) i l = if i = j ∧ l = 0 then Value.int .i64 (cntG m k j + 1) else mk1 (cntG m k) i l := by
  unfold mk1
  by_cases hi : i = j
  · subst hi
    by_cases hl : l = 0
    · rw [if_pos ⟨rfl, hl⟩]
      simp [cntG, hj]
    · omega
  · rw [if_neg (fun h => hi h.1)]
    have : ¬ (m k).gang = (i : Int) := by rw [hj]; omega
    simp [cntG, this]
set_option maxHeartbeats 2000000 in
theorem gangSizes_any (A : Option Addr) (n c : Nat) (m : Nat → Wk) (w : World) (hc : c ≤ maxLen) (hnc : n ≤ c) (hr : Rd w A n 5 (wkF m)) (hv : workersP n m) : Calls Try.prog 49 #[.slice A n c] w (RetO 3 1 6 (mk1 (cntG m n)) w) := by
  have HV := Lib.hid hv
  have hn12 := hv.1
  unfold maxLen at hc
  have hmk : (Instr.makeSlice 33 (.int .i64 6) (.int .i64 6)).run Try.prog w = .ok (.slice (some ⟨w.heap.size, 0, none⟩) 6 6) (w.alloc (.cells (madeCells (Value.cells (.int .i64 0)) (6 * 1)) 3)) := run_make_S elInt 6 (by omega) w
  have h0 := own_made (e := 3) (n := 6) elInt.hz w (by unfold maxLen; omega)
  have hx0 := Ext.alloc (Ext.refl w) (Obj.cells (madeCells (Value.cells (.int .i64 0)) (6 * 1)) 3)
  clear hv
  go_enter Try.func49, Try.ntmps49
  go_wp2
  clear hmk
  go_loopw [9] (fun i wr => ∃ k : Nat, i = .int .i64 k ∧ k ≤ n ∧ OwnS wr w.heap.size 3 1 (.slice (some ⟨w.heap.size, 0, none⟩) 6 6) 6 (mk1 (cntG m k)) ∧ ∃ y, wr = gw w y) (fun i _ => n - (intOf i).toNat)
  case atStart => exact ⟨0, rfl, by omega, h0.congr (fun i j _ hj => by obtain rfl : j = 0 := (by omega); rfl), hx0.to_gw⟩
  case round =>
    obtain ⟨k, rfl, hk, hown, y, rfl⟩ := hrel
    clear h0 hx0
    by_cases hlt : k < n
    · obtain ⟨b, off, rfl, hg, c0, c1, c2, c3, c4⟩ := hr.atWorker hlt
      obtain ⟨⟨_, ⟨g0, g1⟩, _, _⟩, _⟩ := HV.out.2 k hlt
      have i0 : (0 : Int) ≤ (k : Int) := by omega
      have i1 : (k : Int) < (n : Int) := by omega
      obtain ⟨j, hj⟩ : ∃ j : Nat, (m k).gang = (j : Int) := ⟨(m k).gang.toNat, by omega⟩
      have j0 : (0 : Int) ≤ (j : Int) := by omega
      have j1 : (j : Int) < 6 := by omega
      have hj6 : j < 6 := by omega
      rw [hj] at c1
      have HJ := Lib.hid hj
      clear hj g0 g1
      obtain ⟨A0, cap0, hv, _, _, hform⟩ := hown.form
      injection hv with hA _ hc2
      subst hA hc2
      obtain ⟨g0, hg0, _, _, hgl, hcell⟩ := hform (by omega)
      injection hg0 with hg0
      injection hg0 with hg0 _ _
      subst hg0
      obtain ⟨e0, f0⟩ := hcell j 0 hj6 (by omega)
      rw [Nat.add_zero, Nat.mul_one] at e0 f0
      replace e0 : _ = some (Value.int .i64 (cntG m k j)) := e0
      obtain ⟨b0, b1⟩ := cntG_bd m k j
      clear hform hcell
      go_wp2
      go_roundw
      case rel =>
        have a1 := (hown.stored hj6 (j := 0) (by omega) (.int .i64 (cntG m k j + 1))).congr (f' := mk1 (cntG m (k + 1))) (fun i l _ hl => cntG_step m k j HJ.out i l hl)
        rw [Nat.add_zero, Nat.mul_one] at a1
        exact ⟨k + 1, by go_num, by omega, a1.ext (Ext.alloc (Ext.refl _) _), Ext.to_gw (by repeat (with_reducible first | exact Ext.refl _ | refine Ext.setCell ?_ (by first | (simp; done) | (simp; omega)) _ | refine Ext.alloc ?_ _ | refine Ext.gw ?_ _ | refine Ext.drew ?_))⟩
      case measure => simp [intOf]; omega
    · obtain rfl : k = n := by omega
      go_wp2
      go_ret
      exact ⟨_, rfl, hown, ext_gw _ _⟩
theorem implGangSizes_yes (A : Option Addr) (n c : Nat) (m : Nat → Wk) (w : World) (hc : c ≤ maxLen) (hnc : n ≤ c) (hr : Rd w A n 5 (wkF m)) (h : workersB n m = true) : Calls Try.prog 21 #[.slice A n c] w (RetS 3 1 6 (mk1 (cntG m n)) true w) := by
  have HR := Lib.hid hr
  have HR2 := Lib.hid (hr.ext (Ext.alloc (Ext.refl w) (.cells #[] 3)))
  have HC := Lib.hid hc
  have HN := Lib.hid hnc
  have HV := Lib.hid (workersB_iff.1 h)
  clear hr hc hnc
  go_enter Try.func21, Try.ntmps21
  go_wp2_with (first | (go_at_call 16; refine (areWorkers_any _ _ _ _ _ HC.out HN.out (by first | exact HR.out | exact HR.out.ext (ext_gw _ _))).mono ?_; rintro e w1 ⟨rfl, hx⟩; (try replace hx := Ext.flat hx); obtain ⟨x, rfl⟩ := hx.to_gw; clear hx))
  refine (gangSizes_any _ _ _ m _ HC.out HN.out (HR.out.ext (ext_gw _ _)) HV.out).mono ?_
  rintro e w1 ⟨v, rfl, hown, hx⟩
  go_wp2
  go_ret2
  exact ⟨_, rfl, hown.lower (ext_gw _ _).size_le, Ext.flat hx⟩
theorem implGangSizes_no (A : Option Addr) (n c : Nat) (m : Nat → Wk) (w : World) (hc : c ≤ maxLen) (hnc : n ≤ c) (hr : Rd w A n 5 (wkF m)) (h : workersB n m = false) : Calls Try.prog 21 #[.slice A n c] w (RetS 3 1 0 (mkL []) false w) := by
  have HR := Lib.hid hr
  have HR2 := Lib.hid (hr.ext (Ext.alloc (Ext.refl w) (.cells #[] 3)))
  have HC := Lib.hid hc
  have HN := Lib.hid hnc
  clear hr hc hnc
  go_enter Try.func21, Try.ntmps21
  go_wp2_with (first | (go_at_call 16; refine (areWorkers_any _ _ _ _ _ HC.out HN.out (by first | exact HR.out | exact HR.out.ext (ext_gw _ _))).mono ?_; rintro e w1 ⟨rfl, hx⟩; (try replace hx := Ext.flat hx); obtain ⟨x, rfl⟩ := hx.to_gw; clear hx))
  go_ret2
  exact ⟨_, rfl, OwnS.nil, by repeat (with_reducible first | exact Ext.refl _ | refine Ext.setCell ?_ (by first | (simp; done) | (simp; omega)) _ | refine Ext.alloc ?_ _ | refine Ext.gw ?_ _ | refine Ext.drew ?_)⟩
set_option maxHeartbeats 2000000 in
theorem specGangSizes_yes (A : Option Addr) (n c : Nat) (m : Nat → Wk) (w : World) (hc : c ≤ maxLen) (hnc : n ≤ c) (hr : Rd w A n 5 (wkF m)) (h : workersB n m = true) : Calls Try.prog 20 #[.slice A n c] w (RetS 3 1 6 (mk1 (cntG m n)) true w) := by
  have HR := Lib.hid hr
  have HR2 := Lib.hid (hr.ext (Ext.alloc (Ext.refl w) (.cells #[] 3)))
  have HC := Lib.hid hc
  have HN := Lib.hid hnc
  have hv := workersB_iff.1 h
  have HV := Lib.hid hv
  have hn12 := hv.1
  unfold maxLen at hc
  have hmk : ∀ w, (Instr.makeSlice 33 (.int .i64 6) (.int .i64 6)).run Try.prog w = .ok (.slice (some ⟨w.heap.size, 0, none⟩) 6 6) (w.alloc (.cells (madeCells (Value.cells (.int .i64 0)) (6 * 1)) 3)) := fun w => run_make_S elInt 6 (by omega) w
  clear hv
  go_enter Try.func20, Try.ntmps20
  go_wp2_with (first | (go_at_call 39; refine (l5Good_any _ _ _ _ _ HC.out HN.out (by first | exact HR.out | exact HR.out.ext (ext_gw _ _))).mono ?_; rintro e w1 ⟨rfl, hx⟩; (try replace hx := Ext.flat hx); obtain ⟨x, rfl⟩ := hx.to_gw; clear hx))
  clear hmk
  have h0 := own_made (e := 3) (n := 6) elInt.hz (gw w x) (by unfold maxLen; omega)
  have hx0 := Ext.alloc (Ext.refl (gw w x)) (Obj.cells (madeCells (Value.cells (.int .i64 0)) (6 * 1)) 3)
  go_loopw [5, 6] (fun i _ wr => ∃ k : Nat, i = .int .i64 k ∧ k ≤ n ∧ OwnS wr (gw w x).heap.size 3 1 (.slice (some ⟨(gw w x).heap.size, 0, none⟩) 6 6) 6 (mk1 (cntG m k)) ∧ ∃ y, wr = gw (gw w x) y) (fun i _ _ => n - (intOf i).toNat)
  case atStart => exact ⟨0, rfl, by omega, h0.congr (fun i j _ hj => by obtain rfl : j = 0 := (by omega); rfl), hx0.to_gw⟩
  case round =>
    obtain ⟨k, rfl, hk, hown, y, rfl⟩ := hrel
    clear h0 hx0
    by_cases hlt : k < n
    · obtain ⟨b, off, rfl, hg, c0, c1, c2, c3, c4⟩ := hr.atWorker hlt
      obtain ⟨⟨_, ⟨g0, g1⟩, _, _⟩, _⟩ := HV.out.2 k hlt
      have i0 : (0 : Int) ≤ (k : Int) := by omega
      have i1 : (k : Int) < (n : Int) := by omega
      obtain ⟨j, hj⟩ : ∃ j : Nat, (m k).gang = (j : Int) := ⟨(m k).gang.toNat, by omega⟩
      have j0 : (0 : Int) ≤ (j : Int) := by omega
      have j1 : (j : Int) < 6 := by omega
      have hj6 : j < 6 := by omega
      rw [hj] at c1
      have HJ := Lib.hid hj
      clear hj g0 g1
      obtain ⟨A0, cap0, hv, _, _, hform⟩ := hown.form
      injection hv with hA _ hc2
      subst hA hc2
      obtain ⟨g0, hg0, _, _, hgl, hcell⟩ := hform (by omega)
      injection hg0 with hg0
      injection hg0 with hg0 _ _
      subst hg0
      obtain ⟨e0, f0⟩ := hcell j 0 hj6 (by omega)
      rw [Nat.add_zero, Nat.mul_one] at e0 f0
      replace e0 : _ = some (Value.int .i64 (cntG m k j)) := e0
      obtain ⟨b0, b1⟩ := cntG_bd m k j
      clear hform hcell
      go_wp2
      go_roundw
      case rel =>
        have a1 := (hown.stored hj6 (j := 0) (by omega) (.int .i64 (cntG m k j + 1))).congr (f' := mk1 (cntG m (k + 1))) (fun i l _ hl => cntG_step m k j HJ.out i l hl)
        rw [Nat.add_zero, Nat.mul_one] at a1
        exact ⟨k + 1, by go_num, by omega, a1, Ext.to_gw (by repeat (with_reducible first | exact Ext.refl _ | refine Ext.setCell ?_ (by first | (simp; done) | (simp; omega)) _ | refine Ext.alloc ?_ _ | refine Ext.gw ?_ _ | refine Ext.drew ?_))⟩
      case measure => simp [intOf]; omega
    · obtain rfl : k = n := by omega
      go_wp2
      go_ret2
      exact ⟨_, rfl, hown.lower (ext_gw _ _).size_le, (ext_gw w x).trans (ext_gw _ _)⟩
theorem specGangSizes_no (A : Option Addr) (n c : Nat) (m : Nat → Wk) (w : World) (hc : c ≤ maxLen) (hnc : n ≤ c) (hr : Rd w A n 5 (wkF m)) (h : workersB n m = false) : Calls Try.prog 20 #[.slice A n c] w (RetS 3 1 0 (mkL []) false w) := by
  have HR := Lib.hid hr
  have HR2 := Lib.hid (hr.ext (Ext.alloc (Ext.refl w) (.cells #[] 3)))
  have HC := Lib.hid hc
  have HN := Lib.hid hnc
  clear hr hc hnc
  go_enter Try.func20, Try.ntmps20
  go_wp2_with (first | (go_at_call 39; refine (l5Good_any _ _ _ _ _ HC.out HN.out (by first | exact HR.out | exact HR.out.ext (ext_gw _ _))).mono ?_; rintro e w1 ⟨rfl, hx⟩; (try replace hx := Ext.flat hx); obtain ⟨x, rfl⟩ := hx.to_gw; clear hx))
  go_ret2
  exact ⟨_, rfl, own_empty _ _ rfl (ext_gw _ _).size_le, by repeat (with_reducible first | exact Ext.refl _ | refine Ext.setCell ?_ (by first | (simp; done) | (simp; omega)) _ | refine Ext.alloc ?_ _ | refine Ext.gw ?_ _ | refine Ext.drew ?_)⟩
end Go.Proofs.Ytjfeicbffioinaa
