/- Lists of workers: what they read as, and the contracts of what says whether they are workers. -/
import Derived.Test.YtjfeicbffioinaaWorkerS
namespace Go.Proofs.Ytjfeicbffioinaa
open Go.RowKit
set_option linter.unusedVariables false

def okW (m : Nat → Wk) (i : Nat) : Prop := workP (m i).id (m i).gang (m i).rakes (m i).free ∧ (0 < i → (m (i - 1)).id < (m i).id)
def workersP (n : Nat) (m : Nat → Wk) : Prop := n ≤ 12 ∧ ∀ i, i < n → okW m i
open Classical in
noncomputable def workersB (n : Nat) (m : Nat → Wk) : Bool := decide (workersP n m)
open Classical in
theorem workersB_iff {n : Nat} {m : Nat → Wk} : workersB n m = true ↔ workersP n m := by unfold workersB; exact decide_eq_true_iff
theorem workersB_bad {n i : Nat} {m : Nat → Wk} (hi : i < n) (h : ¬ okW m i) : workersB n m = false := Bool.eq_false_iff.2 fun hb => h ((workersB_iff.1 hb).2 i hi)
theorem workersB_end {n : Nat} {m : Nat → Wk} (h : ∀ i, i < n → okW m i) : workersB n m = decide ((n : Int) ≤ 12) := by
  by_cases hn : n ≤ 12
  · rw [workersB_iff.2 ⟨hn, h⟩, decide_eq_true (by omega)]
  · rw [decide_eq_false (by omega)]
    exact Bool.eq_false_iff.2 fun hb => hn (workersB_iff.1 hb).1

set_option maxHeartbeats 2000000 in
theorem l5Good_any (A : Option Addr) (n c : Nat) (m : Nat → Wk) (w : World) (hc : c ≤ maxLen) (hnc : n ≤ c) (hr : Rd w A n 5 (wkF m)) : Calls Try.prog 39 #[.slice A n c] w fun e w' => e = .returned (.bool (workersB n m)) ∧ Ext w w' := by
  unfold maxLen at *
  go_enter Try.func39, Try.ntmps39
  go_wp2
  go_loopw [3] (fun i wr => ∃ k : Nat, i = .int .i64 k ∧ k ≤ n ∧ (∀ j, j < k → okW m j) ∧ ∃ y, wr = gw w y) (fun i _ => n - (intOf i).toNat)
  case atStart => exact ⟨0, rfl, Nat.zero_le _, fun j hj => absurd hj (Nat.not_lt_zero j), (Ext.refl w).to_gw⟩
  case round =>
    obtain ⟨k, rfl, hk, hok, y, rfl⟩ := hrel
    have HO := Lib.hid hok
    clear hok
    by_cases hlt : k < n
    · cases hB : workB (m k).id (m k).gang (m k).rakes (m k).free
      · obtain ⟨g, off, rfl, hg, c0, c1, c2, c3, c4⟩ := hr.atWorker hlt
        have i0 : (0 : Int) ≤ (k : Int) := by omega
        have i1 : (k : Int) < (n : Int) := by omega
        have HX := Lib.hid (show workersB n m = false from workersB_bad hlt fun h => by rw [workB_iff.2 h.1] at hB; cases hB)
        go_wp2_with fail
        refine wp_region_grow (by kernel_rfl) (by kernel_rfl) ?_
        repeat (go_big_quiet_step (first | (go_at_call 58; exact grow_of (l5One_any _ _ _ _ _ _))))
        refine wpQuiet_nil ?_
        rintro _ ⟨xq, rfl⟩
        go_wp2
        go_ret
        exact ⟨ret_bool HX.out.symm, by repeat (with_reducible first | exact Ext.refl _ | refine Ext.setCell ?_ (by first | (simp; done) | (simp; omega)) _ | refine Ext.alloc ?_ _ | refine Ext.gw ?_ _ | refine Ext.drew ?_)⟩
      · have HW := Lib.hid (workB_iff.1 hB)
        match k, hlt, hk with
        | 0, hlt, hk =>
          obtain ⟨g, off, rfl, hg, c0, c1, c2, c3, c4⟩ := hr.atWorker hlt
          simp only [Nat.zero_mul, Nat.add_zero] at c0 c1 c2 c3 c4
          have i1 : (0 : Int) < (n : Int) := by omega
          go_wp2_with fail
          refine wp_region_grow (by kernel_rfl) (by kernel_rfl) ?_
          repeat (go_big_quiet_step (first | (go_at_call 58; exact grow_of (l5One_any _ _ _ _ _ _))))
          refine wpQuiet_nil ?_
          rintro _ ⟨xq, rfl⟩
          go_wp2
          go_roundw
          case rel =>
            refine ⟨1, by go_num, by omega, fun j hj => ?_, ((by repeat (with_reducible first | exact Ext.refl _ | refine Ext.setCell ?_ (by first | (simp; done) | (simp; omega)) _ | refine Ext.alloc ?_ _ | refine Ext.gw ?_ _ | refine Ext.drew ?_) : Ext w _)).to_gw⟩
            obtain rfl : j = 0 := by omega
            exact ⟨HW.out, fun h => absurd h (Nat.lt_irrefl 0)⟩
          case measure => simp [intOf]; omega
        | j + 1, hlt, hk =>
          obtain ⟨g, off, hA, hg, c0, c1, c2, c3, c4⟩ := hr.atWorker hlt
          obtain ⟨g', off', hA', hg', d0, _⟩ := hr.atWorker (show j < n by omega)
          subst hA
          injection hA' with hA'
          injection hA' with e1 e2 _
          subst e1 e2
          have i0 : (0 : Int) ≤ (j : Int) := by omega
          have i1 : (j : Int) + 1 < (n : Int) := by omega
          have i2 : (j : Int) < (n : Int) := by omega
          by_cases hd : (m j).id < (m (j + 1)).id
          · have hd2 : decide ((m (j + 1)).id ≤ (m j).id) = false := by simp; omega
            go_wp2_with fail
            refine wp_region_grow (by kernel_rfl) (by kernel_rfl) ?_
            repeat (go_big_quiet_step (first | (go_at_call 58; exact grow_of (l5One_any _ _ _ _ _ _))))
            refine wpQuiet_nil ?_
            rintro _ ⟨xq, rfl⟩
            go_wp2
            go_roundw
            case rel =>
              refine ⟨j + 1 + 1, by go_num, by omega, fun i hi => ?_, ((by repeat (with_reducible first | exact Ext.refl _ | refine Ext.setCell ?_ (by first | (simp; done) | (simp; omega)) _ | refine Ext.alloc ?_ _ | refine Ext.gw ?_ _ | refine Ext.drew ?_) : Ext w _)).to_gw⟩
              by_cases he : i = j + 1
              · subst he
                exact ⟨HW.out, fun _ => hd⟩
              · exact HO.out i (by omega)
            case measure => simp [intOf]; omega
          · have HX := Lib.hid (show workersB n m = false from workersB_bad hlt fun h => hd (h.2 (by omega)))
            have hd2 : decide ((m (j + 1)).id ≤ (m j).id) = true := by simp; omega
            go_wp2_with fail
            refine wp_region_grow (by kernel_rfl) (by kernel_rfl) ?_
            repeat (go_big_quiet_step (first | (go_at_call 58; exact grow_of (l5One_any _ _ _ _ _ _))))
            refine wpQuiet_nil ?_
            rintro _ ⟨xq, rfl⟩
            go_wp2
            go_ret
            exact ⟨ret_bool HX.out.symm, by repeat (with_reducible first | exact Ext.refl _ | refine Ext.setCell ?_ (by first | (simp; done) | (simp; omega)) _ | refine Ext.alloc ?_ _ | refine Ext.gw ?_ _ | refine Ext.drew ?_)⟩
    · obtain rfl : k = n := by omega
      go_wp2
      go_ret
      exact ⟨ret_bool (by rw [workersB_end HO.out]), ext_gw _ _⟩
set_option maxHeartbeats 2000000 in
theorem areWorkers_any (A : Option Addr) (n c : Nat) (m : Nat → Wk) (w : World) (hc : c ≤ maxLen) (hnc : n ≤ c) (hr : Rd w A n 5 (wkF m)) : Calls Try.prog 16 #[.slice A n c] w fun e w' => e = .returned (.bool (workersB n m)) ∧ Ext w w' := by
  unfold maxLen at *
  go_enter Try.func16, Try.ntmps16
  go_wp2
  go_loopw [3, 4, 7] (fun _ _ i wr => ∃ k : Nat, i = .int .i64 k ∧ k ≤ n ∧ (∀ j, j < k → okW m j) ∧ ∃ y, wr = gw w y) (fun _ _ i _ => n - (intOf i).toNat)
  case atStart => exact ⟨0, rfl, Nat.zero_le _, fun j hj => absurd hj (Nat.not_lt_zero j), (Ext.refl w).to_gw⟩
  case round =>
    obtain ⟨k, rfl, hk, hok, y, rfl⟩ := hrel
    have HO := Lib.hid hok
    clear hok
    by_cases hlt : k < n
    · cases hB : workB (m k).id (m k).gang (m k).rakes (m k).free
      · obtain ⟨g, off, rfl, hg, c0, c1, c2, c3, c4⟩ := hr.atWorker hlt
        have i0 : (0 : Int) ≤ (k : Int) := by omega
        have i1 : (k : Int) < (n : Int) := by omega
        have HX := Lib.hid (show workersB n m = false from workersB_bad hlt fun h => by rw [workB_iff.2 h.1] at hB; cases hB)
        go_wp2_with fail
        refine wp_region_grow (by kernel_rfl) (by kernel_rfl) ?_
        repeat (go_big_quiet_step (first | (go_at_call 41; exact grow_of (isWorker_any _ _ _ _ _ _))))
        refine wpQuiet_nil ?_
        rintro _ ⟨xq, rfl⟩
        go_wp2
        go_ret
        exact ⟨ret_bool HX.out.symm, by repeat (with_reducible first | exact Ext.refl _ | refine Ext.setCell ?_ (by first | (simp; done) | (simp; omega)) _ | refine Ext.alloc ?_ _ | refine Ext.gw ?_ _ | refine Ext.drew ?_)⟩
      · have HW := Lib.hid (workB_iff.1 hB)
        match k, hlt, hk with
        | 0, hlt, hk =>
          obtain ⟨g, off, rfl, hg, c0, c1, c2, c3, c4⟩ := hr.atWorker hlt
          simp only [Nat.zero_mul, Nat.add_zero] at c0 c1 c2 c3 c4
          have i1 : (0 : Int) < (n : Int) := by omega
          go_wp2_with fail
          refine wp_region_grow (by kernel_rfl) (by kernel_rfl) ?_
          repeat (go_big_quiet_step (first | (go_at_call 41; exact grow_of (isWorker_any _ _ _ _ _ _))))
          refine wpQuiet_nil ?_
          rintro _ ⟨xq, rfl⟩
          go_wp2
          go_roundw
          case rel =>
            refine ⟨1, by go_num, by omega, fun j hj => ?_, ((by repeat (with_reducible first | exact Ext.refl _ | refine Ext.setCell ?_ (by first | (simp; done) | (simp; omega)) _ | refine Ext.alloc ?_ _ | refine Ext.gw ?_ _ | refine Ext.drew ?_) : Ext w _)).to_gw⟩
            obtain rfl : j = 0 := by omega
            exact ⟨HW.out, fun h => absurd h (Nat.lt_irrefl 0)⟩
          case measure => simp [intOf]; omega
        | j + 1, hlt, hk =>
          obtain ⟨g, off, hA, hg, c0, c1, c2, c3, c4⟩ := hr.atWorker hlt
          obtain ⟨g', off', hA', hg', d0, _⟩ := hr.atWorker (show j < n by omega)
          subst hA
          injection hA' with hA'
          injection hA' with e1 e2 _
          subst e1 e2
          have i0 : (0 : Int) ≤ (j : Int) := by omega
          have i1 : (j : Int) + 1 < (n : Int) := by omega
          have i2 : (j : Int) < (n : Int) := by omega
          by_cases hd : (m j).id < (m (j + 1)).id
          · have hd2 : decide ((m (j + 1)).id ≤ (m j).id) = false := by simp; omega
            go_wp2_with fail
            refine wp_region_grow (by kernel_rfl) (by kernel_rfl) ?_
            repeat (go_big_quiet_step (first | (go_at_call 41; exact grow_of (isWorker_any _ _ _ _ _ _))))
            refine wpQuiet_nil ?_
            rintro _ ⟨xq, rfl⟩
            go_wp2
            go_roundw
            case rel =>
              refine ⟨j + 1 + 1, by go_num, by omega, fun i hi => ?_, ((by repeat (with_reducible first | exact Ext.refl _ | refine Ext.setCell ?_ (by first | (simp; done) | (simp; omega)) _ | refine Ext.alloc ?_ _ | refine Ext.gw ?_ _ | refine Ext.drew ?_) : Ext w _)).to_gw⟩
              by_cases he : i = j + 1
              · subst he
                exact ⟨HW.out, fun _ => hd⟩
              · exact HO.out i (by omega)
            case measure => simp [intOf]; omega
          · have HX := Lib.hid (show workersB n m = false from workersB_bad hlt fun h => hd (h.2 (by omega)))
            have hd2 : decide ((m (j + 1)).id ≤ (m j).id) = true := by simp; omega
            go_wp2_with fail
            refine wp_region_grow (by kernel_rfl) (by kernel_rfl) ?_
            repeat (go_big_quiet_step (first | (go_at_call 41; exact grow_of (isWorker_any _ _ _ _ _ _))))
            refine wpQuiet_nil ?_
            rintro _ ⟨xq, rfl⟩
            go_wp2
            go_ret
            exact ⟨ret_bool HX.out.symm, by repeat (with_reducible first | exact Ext.refl _ | refine Ext.setCell ?_ (by first | (simp; done) | (simp; omega)) _ | refine Ext.alloc ?_ _ | refine Ext.gw ?_ _ | refine Ext.drew ?_)⟩
    · obtain rfl : k = n := by omega
      go_wp2
      go_ret
      exact ⟨ret_bool (by rw [workersB_end HO.out]), ext_gw _ _⟩
theorem specAreWorkers_any (A : Option Addr) (n c : Nat) (m : Nat → Wk) (w : World) (hc : c ≤ maxLen) (hnc : n ≤ c) (hr : Rd w A n 5 (wkF m)) : Calls Try.prog 14 #[.slice A n c] w fun e w' => e = .returned (.bool (workersB n m)) ∧ Ext w w' := by
  have HR := Lib.hid hr
  have HC := Lib.hid hc
  have HN := Lib.hid hnc
  clear hr hc hnc
  go_enter Try.func14, Try.ntmps14
  go_wp2_with (first | (go_at_call 39; refine (l5Good_any _ _ _ _ _ HC.out HN.out (by first | exact HR.out | exact HR.out.ext (ext_gw _ _))).mono ?_; rintro e w1 ⟨rfl, hx⟩; (try replace hx := Ext.flat hx); obtain ⟨x, rfl⟩ := hx.to_gw; clear hx))
  go_ret
  exact ⟨rfl, by repeat (with_reducible first | exact Ext.refl _ | refine Ext.setCell ?_ (by first | (simp; done) | (simp; omega)) _ | refine Ext.alloc ?_ _ | refine Ext.gw ?_ _ | refine Ext.drew ?_)⟩
end Go.Proofs.Ytjfeicbffioinaa
