/- TurnsOf: the contracts. -/
import Derived.Test.YtgehoihfiboeeaaTides
import Derived.Test.YtgehoihfiboeeaaIntL
namespace Go.Proofs.Ytgehoihfiboeeaa
open Go.RowKit
set_option linter.unusedVariables false

def turnP (m : Nat → Mk) (i : Nat) : Prop := ((m (i - 1)).h < (m i).h ∧ (m (i + 1)).h < (m i).h) ∨ ((m i).h < (m (i - 1)).h ∧ (m i).h < (m (i + 1)).h)
instance (m : Nat → Mk) (i : Nat) : Decidable (turnP m i) := by unfold turnP; infer_instance
theorem turn_iff (m : Nat → Mk) (k : Nat) : turnP m (k + 1) ↔ (((m k).h < (m (k + 1)).h ∧ (m (k + 2)).h < (m (k + 1)).h) ∨ ((m (k + 1)).h < (m k).h ∧ (m (k + 1)).h < (m (k + 2)).h)) := Iff.rfl
def turnTo (m : Nat → Mk) : Nat → List Int
  | 0 => []
  | k + 1 => if turnP m (k + 1) then turnTo m k ++ [(m (k + 1)).t] else turnTo m k
theorem turn_len (m : Nat → Mk) (k : Nat) : (turnTo m k).length ≤ k := by
  induction k with
  | zero => exact Nat.le_refl _
  | succ k ih =>
    unfold turnTo
    split
    · rw [List.length_append, List.length_singleton]; omega
    · omega
set_option maxHeartbeats 4000000 in
theorem specTurnsOf_yes (A : Option Addr) (n c : Nat) (m : Nat → Mk) (w : World) (hc : c ≤ maxLen) (hnc : n ≤ c) (hr : Rd w A n 2 (mkF m)) (h : tideB n m = true) :
    Calls Try.prog 44 #[.slice A n c] w (RetS 3 1 (turnTo m (n - 2)).length (mkL (turnTo m (n - 2))) true w) := by
  have HR := Lib.hid hr
  have HR2 := Lib.hid (hr.ext (Ext.alloc (Ext.refl w) (.cells #[] 3)))
  have HC := Lib.hid hc
  have HN := Lib.hid hnc
  unfold maxLen at hc
  obtain ⟨n0, n1⟩ := (tideB_iff.1 h).1
  obtain ⟨g, off, rfl, hg, _⟩ := hr.atMark (show 0 < n by omega)
  go_enter Try.func44, Try.ntmps44
  go_wp2_with (first | (go_at_call 69; refine (l4Good_any _ _ _ _ _ HC.out HN.out (by first | exact HR2.out | exact HR2.out.ext (ext_gw _ _))).mono ?_; rintro e w1 ⟨rfl, hx⟩; (try replace hx := Ext.flat hx); obtain ⟨x, rfl⟩ := hx.to_gw; clear hx))
  have hx0 := ext_gw (w.alloc (Obj.cells #[] 3)) x
  go_loopw [4, 5, 6, 7, 8] (fun v i _ _ _ wr => ∃ k : Nat, i = .int .i64 ((k : Int) + 1) ∧ k + 2 ≤ n ∧ OwnS wr w.heap.size 3 1 v (turnTo m k).length (mkL (turnTo m k)) ∧ ∃ y, wr = gw w y) (fun _ i _ _ _ _ => n - (intOf i).toNat)
  case atStart => exact ⟨0, rfl, by omega, (own_empty _ _ rfl (Nat.le_refl _)).ext hx0, (Ext.trans (Ext.alloc (Ext.refl _) _) hx0).to_gw⟩
  case round =>
    obtain ⟨k, rfl, hk, hown, y, rfl⟩ := hrel
    have HL := Lib.hid (turn_len m k)
    by_cases hlt : k + 2 < n
    · obtain ⟨g2, off2, hA2, hg2, _, a1⟩ := hr.atMark (show k < n by omega)
      injection hA2 with hA2
      injection hA2 with e1 e2 _
      subst e1 e2
      obtain ⟨g2, off2, hA2, hg2, b0, b1⟩ := hr.atMark (show k + 1 < n by omega)
      injection hA2 with hA2
      injection hA2 with e1 e2 _
      subst e1 e2
      obtain ⟨g2, off2, hA2, hg2, _, d1⟩ := hr.atMark (show k + 2 < n by omega)
      injection hA2 with hA2
      injection hA2 with e1 e2 _
      subst e1 e2
      have i0 : (0 : Int) ≤ (k : Int) := by omega
      have i1 : (k : Int) + 2 < (n : Int) := by omega
      by_cases g1 : (m k).h < (m (k + 1)).h
      · by_cases g2 : (m (k + 2)).h < (m (k + 1)).h
        · skip
          have HE := Lib.hid (show turnTo m (k + 1) = turnTo m k ++ [(m (k + 1)).t] from if_pos (.inl ⟨g1, g2⟩))
          go_wp2_with fail
          refine wp_region_grow (by kernel_rfl) (by kernel_rfl) ?_
          repeat (go_big_quiet_step (fail))
          refine wpQuiet_nil ?_
          rintro _ ⟨xq, rfl⟩
          replace hown := hown.ext (ext_gw _ xq)
          obtain ⟨y1, hy1⟩ := ((ext_gw w y).gw xq).to_gw
          rw [hy1] at hown ⊢
          clear hy1
          go_wp2_with (at_builtin; refine wpList_append_G w w.heap.size rfl (ext_gw _ _) rfl _ _ elInt rfl rfl (hown.congr (mkL_app _ (m (k + 1)).t)) _ _ rfl rfl (by have := HL.out; omega) ?_ ?_ ?_)
          · first
            | exact (mkL_last _ _ _).symm
            | (intro j hj; obtain rfl : j = 0 := (by omega); exact (congrArg some (mkL_last _ _ _)).symm)
          · first
            | (rw [mkL_last]; rfl)
            | (intro j hj; rw [mkL_last]; rfl)
          · intro v' z hown3
            clear hown
            go_wp2
            go_roundw
            case rel => exact ⟨k + 1, by go_num, by omega, by rw [HE.out, List.length_append]; exact hown3, z, rfl⟩
            case measure => simp [intOf]; omega
        · skip
          have HE := Lib.hid (show turnTo m (k + 1) = turnTo m k from if_neg (fun h => by rw [turn_iff] at h; omega))
          go_wp2_with fail
          refine wp_region_grow (by kernel_rfl) (by kernel_rfl) ?_
          repeat (go_big_quiet_step (fail))
          refine wpQuiet_nil ?_
          rintro _ ⟨xq, rfl⟩
          replace hown := hown.ext (ext_gw _ xq)
          go_wp2
          go_roundw
          case rel => exact ⟨k + 1, by go_num, by omega, by rw [HE.out]; exact hown, Ext.to_gw (by repeat (with_reducible first | exact Ext.refl _ | refine Ext.setCell ?_ (by first | (simp; done) | (simp; omega)) _ | refine Ext.alloc ?_ _ | refine Ext.gw ?_ _ | refine Ext.drew ?_))⟩
          case measure => simp [intOf]; omega
      · by_cases g3 : (m (k + 1)).h < (m k).h
        · by_cases g4 : (m (k + 1)).h < (m (k + 2)).h
          · skip
            have HE := Lib.hid (show turnTo m (k + 1) = turnTo m k ++ [(m (k + 1)).t] from if_pos (.inr ⟨g3, g4⟩))
            go_wp2_with fail
            refine wp_region_grow (by kernel_rfl) (by kernel_rfl) ?_
            repeat (go_big_quiet_step (fail))
            refine wpQuiet_nil ?_
            rintro _ ⟨xq, rfl⟩
            replace hown := hown.ext (ext_gw _ xq)
            obtain ⟨y1, hy1⟩ := ((ext_gw w y).gw xq).to_gw
            rw [hy1] at hown ⊢
            clear hy1
            go_wp2_with (at_builtin; refine wpList_append_G w w.heap.size rfl (ext_gw _ _) rfl _ _ elInt rfl rfl (hown.congr (mkL_app _ (m (k + 1)).t)) _ _ rfl rfl (by have := HL.out; omega) ?_ ?_ ?_)
            · first
              | exact (mkL_last _ _ _).symm
              | (intro j hj; obtain rfl : j = 0 := (by omega); exact (congrArg some (mkL_last _ _ _)).symm)
            · first
              | (rw [mkL_last]; rfl)
              | (intro j hj; rw [mkL_last]; rfl)
            · intro v' z hown3
              clear hown
              go_wp2
              go_roundw
              case rel => exact ⟨k + 1, by go_num, by omega, by rw [HE.out, List.length_append]; exact hown3, z, rfl⟩
              case measure => simp [intOf]; omega
          · skip
            have HE := Lib.hid (show turnTo m (k + 1) = turnTo m k from if_neg (fun h => by rw [turn_iff] at h; omega))
            go_wp2_with fail
            refine wp_region_grow (by kernel_rfl) (by kernel_rfl) ?_
            repeat (go_big_quiet_step (fail))
            refine wpQuiet_nil ?_
            rintro _ ⟨xq, rfl⟩
            replace hown := hown.ext (ext_gw _ xq)
            go_wp2
            go_roundw
            case rel => exact ⟨k + 1, by go_num, by omega, by rw [HE.out]; exact hown, Ext.to_gw (by repeat (with_reducible first | exact Ext.refl _ | refine Ext.setCell ?_ (by first | (simp; done) | (simp; omega)) _ | refine Ext.alloc ?_ _ | refine Ext.gw ?_ _ | refine Ext.drew ?_))⟩
            case measure => simp [intOf]; omega
        · skip
          have HE := Lib.hid (show turnTo m (k + 1) = turnTo m k from if_neg (fun h => by rw [turn_iff] at h; omega))
          go_wp2_with fail
          refine wp_region_grow (by kernel_rfl) (by kernel_rfl) ?_
          repeat (go_big_quiet_step (fail))
          refine wpQuiet_nil ?_
          rintro _ ⟨xq, rfl⟩
          replace hown := hown.ext (ext_gw _ xq)
          go_wp2
          go_roundw
          case rel => exact ⟨k + 1, by go_num, by omega, by rw [HE.out]; exact hown, Ext.to_gw (by repeat (with_reducible first | exact Ext.refl _ | refine Ext.setCell ?_ (by first | (simp; done) | (simp; omega)) _ | refine Ext.alloc ?_ _ | refine Ext.gw ?_ _ | refine Ext.drew ?_))⟩
          case measure => simp [intOf]; omega
    · obtain rfl : n = k + 2 := by omega
      go_wp2
      go_ret2
      exact ⟨_, rfl, hown, ext_gw _ _⟩
theorem specTurnsOf_no (A : Option Addr) (n c : Nat) (m : Nat → Mk) (w : World) (hc : c ≤ maxLen) (hnc : n ≤ c) (hr : Rd w A n 2 (mkF m)) (h : tideB n m = false) :
    Calls Try.prog 44 #[.slice A n c] w (RetS 3 1 0 (mkL []) false w) := by
  have HR := Lib.hid hr
  have HR2 := Lib.hid (hr.ext (Ext.alloc (Ext.refl w) (.cells #[] 3)))
  have HC := Lib.hid hc
  have HN := Lib.hid hnc
  clear hr hc hnc
  go_enter Try.func44, Try.ntmps44
  go_wp2_with (first | (go_at_call 69; refine (l4Good_any _ _ _ _ _ HC.out HN.out (by first | exact HR2.out | exact HR2.out.ext (ext_gw _ _))).mono ?_; rintro e w1 ⟨rfl, hx⟩; (try replace hx := Ext.flat hx); obtain ⟨x, rfl⟩ := hx.to_gw; clear hx))
  go_ret2
  exact ⟨_, rfl, (own_empty _ _ rfl (Nat.le_refl _)).ext (ext_gw _ _), by repeat (with_reducible first | exact Ext.refl _ | refine Ext.setCell ?_ (by first | (simp; done) | (simp; omega)) _ | refine Ext.alloc ?_ _ | refine Ext.gw ?_ _ | refine Ext.drew ?_)⟩
set_option maxHeartbeats 4000000 in
theorem implTurnsOf_yes (A : Option Addr) (n c : Nat) (m : Nat → Mk) (w : World) (hc : c ≤ maxLen) (hnc : n ≤ c) (hr : Rd w A n 2 (mkF m)) (h : tideB n m = true) :
    Calls Try.prog 37 #[.slice A n c] w (RetS 3 1 (turnTo m (n - 2)).length (mkL (turnTo m (n - 2))) true w) := by
  have HR := Lib.hid hr
  have HR2 := Lib.hid (hr.ext (Ext.alloc (Ext.refl w) (.cells #[] 3)))
  have HC := Lib.hid hc
  have HN := Lib.hid hnc
  unfold maxLen at hc
  obtain ⟨n0, n1⟩ := (tideB_iff.1 h).1
  obtain ⟨g, off, rfl, hg, _⟩ := hr.atMark (show 0 < n by omega)
  go_enter Try.func37, Try.ntmps37
  go_wp2_with (first | (go_at_call 23; refine (isTide_any _ _ _ _ _ HC.out HN.out (by first | exact HR.out | exact HR.out.ext (ext_gw _ _))).mono ?_; rintro e w1 ⟨rfl, hx⟩; (try replace hx := Ext.flat hx); obtain ⟨x, rfl⟩ := hx.to_gw; clear hx))
  go_loopw [4, 5, 6, 7, 8] (fun v i _ _ _ wr => ∃ k : Nat, i = .int .i64 ((k : Int) + 1) ∧ k + 2 ≤ n ∧ OwnS wr w.heap.size 3 1 v (turnTo m k).length (mkL (turnTo m k)) ∧ ∃ y, wr = gw w y) (fun _ i _ _ _ _ => n - (intOf i).toNat)
  case atStart => exact ⟨0, rfl, by omega, OwnS.nil, _, rfl⟩
  case round =>
    obtain ⟨k, rfl, hk, hown, y, rfl⟩ := hrel
    have HL := Lib.hid (turn_len m k)
    by_cases hlt : k + 2 < n
    · obtain ⟨g2, off2, hA2, hg2, _, a1⟩ := hr.atMark (show k < n by omega)
      injection hA2 with hA2
      injection hA2 with e1 e2 _
      subst e1 e2
      obtain ⟨g2, off2, hA2, hg2, b0, b1⟩ := hr.atMark (show k + 1 < n by omega)
      injection hA2 with hA2
      injection hA2 with e1 e2 _
      subst e1 e2
      obtain ⟨g2, off2, hA2, hg2, _, d1⟩ := hr.atMark (show k + 2 < n by omega)
      injection hA2 with hA2
      injection hA2 with e1 e2 _
      subst e1 e2
      have i0 : (0 : Int) ≤ (k : Int) := by omega
      have i1 : (k : Int) + 2 < (n : Int) := by omega
      by_cases g1 : (m k).h < (m (k + 1)).h
      · by_cases g2 : (m (k + 2)).h < (m (k + 1)).h
        · skip
          have HE := Lib.hid (show turnTo m (k + 1) = turnTo m k ++ [(m (k + 1)).t] from if_pos (.inl ⟨g1, g2⟩))
          go_wp2_with fail
          refine wp_region_grow (by kernel_rfl) (by kernel_rfl) ?_
          repeat (go_big_quiet_step (fail))
          refine wpQuiet_nil ?_
          rintro _ ⟨xq, rfl⟩
          replace hown := hown.ext (ext_gw _ xq)
          obtain ⟨y1, hy1⟩ := ((ext_gw w y).gw xq).to_gw
          rw [hy1] at hown ⊢
          clear hy1
          go_wp2_with (at_builtin; refine wpList_append_G w w.heap.size rfl (ext_gw _ _) rfl _ _ elInt rfl rfl (hown.congr (mkL_app _ (m (k + 1)).t)) _ _ rfl rfl (by have := HL.out; omega) ?_ ?_ ?_)
          · first
            | exact (mkL_last _ _ _).symm
            | (intro j hj; obtain rfl : j = 0 := (by omega); exact (congrArg some (mkL_last _ _ _)).symm)
          · first
            | (rw [mkL_last]; rfl)
            | (intro j hj; rw [mkL_last]; rfl)
          · intro v' z hown3
            clear hown
            go_wp2
            go_roundw
            case rel => exact ⟨k + 1, by go_num, by omega, by rw [HE.out, List.length_append]; exact hown3, z, rfl⟩
            case measure => simp [intOf]; omega
        · skip
          have HE := Lib.hid (show turnTo m (k + 1) = turnTo m k from if_neg (fun h => by rw [turn_iff] at h; omega))
          go_wp2_with fail
          refine wp_region_grow (by kernel_rfl) (by kernel_rfl) ?_
          repeat (go_big_quiet_step (fail))
          refine wpQuiet_nil ?_
          rintro _ ⟨xq, rfl⟩
          replace hown := hown.ext (ext_gw _ xq)
          go_wp2
          go_roundw
          case rel => exact ⟨k + 1, by go_num, by omega, by rw [HE.out]; exact hown, Ext.to_gw (by repeat (with_reducible first | exact Ext.refl _ | refine Ext.setCell ?_ (by first | (simp; done) | (simp; omega)) _ | refine Ext.alloc ?_ _ | refine Ext.gw ?_ _ | refine Ext.drew ?_))⟩
          case measure => simp [intOf]; omega
      · by_cases g3 : (m (k + 1)).h < (m k).h
        · by_cases g4 : (m (k + 1)).h < (m (k + 2)).h
          · skip
            have HE := Lib.hid (show turnTo m (k + 1) = turnTo m k ++ [(m (k + 1)).t] from if_pos (.inr ⟨g3, g4⟩))
            go_wp2_with fail
            refine wp_region_grow (by kernel_rfl) (by kernel_rfl) ?_
            repeat (go_big_quiet_step (fail))
            refine wpQuiet_nil ?_
            rintro _ ⟨xq, rfl⟩
            replace hown := hown.ext (ext_gw _ xq)
            obtain ⟨y1, hy1⟩ := ((ext_gw w y).gw xq).to_gw
            rw [hy1] at hown ⊢
            clear hy1
            go_wp2_with (at_builtin; refine wpList_append_G w w.heap.size rfl (ext_gw _ _) rfl _ _ elInt rfl rfl (hown.congr (mkL_app _ (m (k + 1)).t)) _ _ rfl rfl (by have := HL.out; omega) ?_ ?_ ?_)
            · first
              | exact (mkL_last _ _ _).symm
              | (intro j hj; obtain rfl : j = 0 := (by omega); exact (congrArg some (mkL_last _ _ _)).symm)
            · first
              | (rw [mkL_last]; rfl)
              | (intro j hj; rw [mkL_last]; rfl)
            · intro v' z hown3
              clear hown
              go_wp2
              go_roundw
              case rel => exact ⟨k + 1, by go_num, by omega, by rw [HE.out, List.length_append]; exact hown3, z, rfl⟩
              case measure => simp [intOf]; omega
          · skip
            have HE := Lib.hid (show turnTo m (k + 1) = turnTo m k from if_neg (fun h => by rw [turn_iff] at h; omega))
            go_wp2_with fail
            refine wp_region_grow (by kernel_rfl) (by kernel_rfl) ?_
            repeat (go_big_quiet_step (fail))
            refine wpQuiet_nil ?_
            rintro _ ⟨xq, rfl⟩
            replace hown := hown.ext (ext_gw _ xq)
            go_wp2
            go_roundw
            case rel => exact ⟨k + 1, by go_num, by omega, by rw [HE.out]; exact hown, Ext.to_gw (by repeat (with_reducible first | exact Ext.refl _ | refine Ext.setCell ?_ (by first | (simp; done) | (simp; omega)) _ | refine Ext.alloc ?_ _ | refine Ext.gw ?_ _ | refine Ext.drew ?_))⟩
            case measure => simp [intOf]; omega
        · skip
          have HE := Lib.hid (show turnTo m (k + 1) = turnTo m k from if_neg (fun h => by rw [turn_iff] at h; omega))
          go_wp2_with fail
          refine wp_region_grow (by kernel_rfl) (by kernel_rfl) ?_
          repeat (go_big_quiet_step (fail))
          refine wpQuiet_nil ?_
          rintro _ ⟨xq, rfl⟩
          replace hown := hown.ext (ext_gw _ xq)
          go_wp2
          go_roundw
          case rel => exact ⟨k + 1, by go_num, by omega, by rw [HE.out]; exact hown, Ext.to_gw (by repeat (with_reducible first | exact Ext.refl _ | refine Ext.setCell ?_ (by first | (simp; done) | (simp; omega)) _ | refine Ext.alloc ?_ _ | refine Ext.gw ?_ _ | refine Ext.drew ?_))⟩
          case measure => simp [intOf]; omega
    · obtain rfl : n = k + 2 := by omega
      go_wp2
      go_ret2
      exact ⟨_, rfl, hown, ext_gw _ _⟩
theorem implTurnsOf_no (A : Option Addr) (n c : Nat) (m : Nat → Mk) (w : World) (hc : c ≤ maxLen) (hnc : n ≤ c) (hr : Rd w A n 2 (mkF m)) (h : tideB n m = false) :
    Calls Try.prog 37 #[.slice A n c] w (RetS 3 1 0 (mkL []) false w) := by
  have HR := Lib.hid hr
  have HR2 := Lib.hid (hr.ext (Ext.alloc (Ext.refl w) (.cells #[] 3)))
  have HC := Lib.hid hc
  have HN := Lib.hid hnc
  clear hr hc hnc
  go_enter Try.func37, Try.ntmps37
  go_wp2_with (first | (go_at_call 23; refine (isTide_any _ _ _ _ _ HC.out HN.out (by first | exact HR.out | exact HR.out.ext (ext_gw _ _))).mono ?_; rintro e w1 ⟨rfl, hx⟩; (try replace hx := Ext.flat hx); obtain ⟨x, rfl⟩ := hx.to_gw; clear hx))
  go_ret2
  exact ⟨_, rfl, OwnS.nil, by repeat (with_reducible first | exact Ext.refl _ | refine Ext.setCell ?_ (by first | (simp; done) | (simp; omega)) _ | refine Ext.alloc ?_ _ | refine Ext.gw ?_ _ | refine Ext.drew ?_)⟩
end Go.Proofs.Ytgehoihfiboeeaa
