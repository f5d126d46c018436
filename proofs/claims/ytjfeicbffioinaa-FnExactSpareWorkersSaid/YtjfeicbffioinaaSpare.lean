/- SpareWorkers: the contracts. -/
import Derived.Test.YtjfeicbffioinaaIdle
namespace Go.Proofs.Ytjfeicbffioinaa
open Go.RowKit
set_option linter.unusedVariables false

noncomputable def spareC (n : Nat) (m : Nat → Wk) (g d : Int) : Bool := workersB n m && inB g 1 5 && inB d 0 4000
def spP (m : Nat → Wk) (g d : Int) (n k : Nat) : Prop := (m k).gang = g ∧ (m k).free ≠ d % 7 ∧ worksB m g (d % 7) (m k).id n = true
instance (m : Nat → Wk) (g d : Int) (n k : Nat) : Decidable (spP m g d n k) := by unfold spP; infer_instance
def spareTo (m : Nat → Wk) (g d : Int) (n : Nat) : Nat → List Int
  | 0 => []
  | k + 1 => if spP m g d n k then spareTo m g d n k ++ [(m k).id] else spareTo m g d n k
theorem spare_len (m : Nat → Wk) (g d : Int) (n k : Nat) : (spareTo m g d n k).length ≤ k := by
  induction k with
  | zero => exact Nat.le_refl _
  | succ k ih =>
    unfold spareTo
    split
    · rw [List.length_append, List.length_singleton]; omega
    · omega
set_option maxHeartbeats 2000000 in
theorem implSpareWorkers_yes (A : Option Addr) (n c : Nat) (m : Nat → Wk) (g d : Int) (w : World) (hc : c ≤ maxLen) (hnc : n ≤ c) (hr : Rd w A n 5 (wkF m)) (h : spareC n m g d = true) :
    Calls Try.prog 34 #[.slice A n c, .int .i64 g, .int .i64 d] w (RetS 3 1 ((spareTo m g d n n).length) (mkL (spareTo m g d n n)) true w) := by
  have HR := Lib.hid hr
  have HR2 := Lib.hid (hr.ext (Ext.alloc (Ext.refl w) (.cells #[] 3)))
  have HC := Lib.hid hc
  have HN := Lib.hid hnc
  unfold spareC at h
  rw [Bool.and_eq_true, Bool.and_eq_true] at h
  obtain ⟨⟨hv, hgg⟩, hdd⟩ := h
  have HV := Lib.hid (workersB_iff.1 hv)
  obtain ⟨d0, d1⟩ := inB_iff.1 hdd
  have hn12 := (workersB_iff.1 hv).1
  go_enter Try.func34, Try.ntmps34
  go_wp2_with (first | (go_at_call 16; refine (areWorkers_any _ _ _ _ _ HC.out HN.out (by first | exact HR.out | exact HR.out.ext (ext_gw _ _))).mono ?_; rintro e w1 ⟨rfl, hx⟩; (try replace hx := Ext.flat hx); obtain ⟨x, rfl⟩ := hx.to_gw; clear hx) | (go_at_call 46; refine (isGang_any _ _).mono ?_; rintro e w1 ⟨rfl, rfl⟩) | (go_at_call 47; refine (isDay_any _ _).mono ?_; rintro e w1 ⟨rfl, rfl⟩))
  have hx0 := ext_gw w x
  go_loopw [8, 26] (fun v i wr => ∃ k : Nat, i = .int .i64 k ∧ k ≤ n ∧ OwnS wr w.heap.size 3 1 v (spareTo m g d n k).length (mkL (spareTo m g d n k)) ∧ ∃ y, wr = gw w y) (fun _ i _ => n - (intOf i).toNat)
  case atStart => exact ⟨0, rfl, by omega, OwnS.nil, x, rfl⟩
  case round =>
    obtain ⟨k, rfl, hk, hown, y, rfl⟩ := hrel
    clear hx0
    have HL := Lib.hid (spare_len m g d n k)
    by_cases hlt : k < n
    · obtain ⟨b, off, rfl, hg, c0, c1, c2, c3, c4⟩ := hr.atWorker hlt
      have i0 : (0 : Int) ≤ (k : Int) := by omega
      have i1 : (k : Int) < (n : Int) := by omega
      have hbd := rakedV_pos g (d % 7) (m k).id HV.out
      unfold maxLen at hc
      by_cases hg1 : (m k).gang = g
      · by_cases hg2 : (m k).free = d % 7
        · have HE := Lib.hid (show spareTo m g d n (k + 1) = spareTo m g d n k from if_neg (fun h => h.2.1 hg2))
          have q1 : ((m k).gang == g) = true := by simp [hg1]
          have q2 : ((m k).free != d % 7) = false := by simp [hg2]
          clear hg1 hg2 hbd
          go_wp2
          go_roundw
          case rel => exact ⟨k + 1, by go_num, by omega, by rw [HE.out]; exact hown.ext (by repeat (with_reducible first | exact Ext.refl _ | refine Ext.setCell ?_ (by first | (simp; done) | (simp; omega)) _ | refine Ext.alloc ?_ _ | refine Ext.gw ?_ _ | refine Ext.drew ?_)), ((by repeat (with_reducible first | exact Ext.refl _ | refine Ext.setCell ?_ (by first | (simp; done) | (simp; omega)) _ | refine Ext.alloc ?_ _ | refine Ext.gw ?_ _ | refine Ext.drew ?_) : Ext w _)).to_gw⟩
          case measure => simp [intOf]; omega
        · cases hw : worksB m g (d % 7) (m k).id n
          · have HE := Lib.hid (show spareTo m g d n (k + 1) = spareTo m g d n k from if_neg (fun h => by have := h.2.2; rw [hw] at this; cases this))
            have q1 : ((m k).gang == g) = true := by simp [hg1]
            have q2 : ((m k).free != d % 7) = true := by simp [hg2]
            have q3 : rakedV m g (d % 7) (m k).id n ≤ 0 := by rw [hbd.1.2 hw]; exact Int.le_refl _
            clear hg1 hg2 hbd
            go_wp2_with fail
            refine (raked_any _ _ _ m g (d % 7) (m k).id _ HC.out HN.out (HR.out.ext (by repeat (with_reducible first | exact Ext.refl _ | refine Ext.setCell ?_ (by first | (simp; done) | (simp; omega)) _ | refine Ext.alloc ?_ _ | refine Ext.gw ?_ _ | refine Ext.drew ?_) : Ext w _)) HV.out).mono ?_
            rintro e w1 ⟨rfl, hx⟩
            replace hown := hown.ext (Ext.trans (by repeat (with_reducible first | exact Ext.refl _ | refine Ext.setCell ?_ (by first | (simp; done) | (simp; omega)) _ | refine Ext.alloc ?_ _ | refine Ext.gw ?_ _ | refine Ext.drew ?_)) hx)
            obtain ⟨x1, rfl⟩ := hx.to_gw
            clear hx
            go_wp2
            go_roundw
            case rel => exact ⟨k + 1, by go_num, by omega, by rw [HE.out]; exact hown, ((by repeat (with_reducible first | exact Ext.refl _ | refine Ext.setCell ?_ (by first | (simp; done) | (simp; omega)) _ | refine Ext.alloc ?_ _ | refine Ext.gw ?_ _ | refine Ext.drew ?_) : Ext w _)).to_gw⟩
            case measure => simp [intOf]; omega
          · have HE := Lib.hid (show spareTo m g d n (k + 1) = spareTo m g d n k ++ [(m k).id] from if_pos ⟨hg1, hg2, hw⟩)
            have q1 : ((m k).gang == g) = true := by simp [hg1]
            have q2 : ((m k).free != d % 7) = true := by simp [hg2]
            have q3 : 0 < rakedV m g (d % 7) (m k).id n := by
              have h1 := hbd.1
              have : ¬ rakedV m g (d % 7) (m k).id n = 0 := fun h => by rw [h1.1 h] at hw; cases hw
              omega
            clear hg1 hg2 hbd
            go_wp2_with fail
            refine (raked_any _ _ _ m g (d % 7) (m k).id _ HC.out HN.out (HR.out.ext (by repeat (with_reducible first | exact Ext.refl _ | refine Ext.setCell ?_ (by first | (simp; done) | (simp; omega)) _ | refine Ext.alloc ?_ _ | refine Ext.gw ?_ _ | refine Ext.drew ?_) : Ext w _)) HV.out).mono ?_
            rintro e w1 ⟨rfl, hx⟩
            replace hown := hown.ext (Ext.trans (by repeat (with_reducible first | exact Ext.refl _ | refine Ext.setCell ?_ (by first | (simp; done) | (simp; omega)) _ | refine Ext.alloc ?_ _ | refine Ext.gw ?_ _ | refine Ext.drew ?_)) hx)
            obtain ⟨x1, rfl⟩ := hx.to_gw
            clear hx
            go_wp2_with (at_builtin; refine wpList_append_G w w.heap.size rfl (by repeat (with_reducible first | exact Ext.refl _ | refine Ext.setCell ?_ (by first | (simp; done) | (simp; omega)) _ | refine Ext.alloc ?_ _ | refine Ext.gw ?_ _ | refine Ext.drew ?_)) rfl _ _ elInt rfl rfl (hown.congr (mkL_app _ ((m k).id : Int))) _ _ rfl rfl (by have := HL.out; omega) ?_ ?_ ?_)
            · intro j hj
              match j, hj with
              | 0, _ => exact (congrArg some (mkL_last _ _ _)).symm
            · intro j hj
              rw [mkL_last]
              rfl
            · intro v' z hown3
              clear hown
              go_wp2
              go_roundw
              case rel => exact ⟨k + 1, by go_num, by omega, by rw [HE.out, List.length_append]; exact hown3, z, rfl⟩
              case measure => simp [intOf]; omega
      · have HE := Lib.hid (show spareTo m g d n (k + 1) = spareTo m g d n k from if_neg (fun h => hg1 h.1))
        have q1 : ((m k).gang == g) = false := by simp [hg1]
        clear hg1 hbd
        go_wp2
        go_roundw
        case rel => exact ⟨k + 1, by go_num, by omega, by rw [HE.out]; exact hown.ext (by repeat (with_reducible first | exact Ext.refl _ | refine Ext.setCell ?_ (by first | (simp; done) | (simp; omega)) _ | refine Ext.alloc ?_ _ | refine Ext.gw ?_ _ | refine Ext.drew ?_)), ((by repeat (with_reducible first | exact Ext.refl _ | refine Ext.setCell ?_ (by first | (simp; done) | (simp; omega)) _ | refine Ext.alloc ?_ _ | refine Ext.gw ?_ _ | refine Ext.drew ?_) : Ext w _)).to_gw⟩
        case measure => simp [intOf]; omega
    · obtain rfl : k = n := by omega
      go_wp2
      go_ret2
      exact ⟨_, rfl, hown, ext_gw _ _⟩
theorem implSpareWorkers_no (A : Option Addr) (n c : Nat) (m : Nat → Wk) (g d : Int) (w : World) (hc : c ≤ maxLen) (hnc : n ≤ c) (hr : Rd w A n 5 (wkF m)) (h : spareC n m g d = false) :
    Calls Try.prog 34 #[.slice A n c, .int .i64 g, .int .i64 d] w (RetS 3 1 0 (mkL []) false w) := by
  have HR := Lib.hid hr
  have HR2 := Lib.hid (hr.ext (Ext.alloc (Ext.refl w) (.cells #[] 3)))
  have HC := Lib.hid hc
  have HN := Lib.hid hnc
  unfold spareC at h
  clear hr hc hnc
  cases hq0 : workersB n m
  · clear h
    go_enter Try.func34, Try.ntmps34
    go_wp2_with (first | (go_at_call 16; refine (areWorkers_any _ _ _ _ _ HC.out HN.out (by first | exact HR.out | exact HR.out.ext (ext_gw _ _))).mono ?_; rintro e w1 ⟨rfl, hx⟩; (try replace hx := Ext.flat hx); obtain ⟨x, rfl⟩ := hx.to_gw; clear hx) | (go_at_call 46; refine (isGang_any _ _).mono ?_; rintro e w1 ⟨rfl, rfl⟩) | (go_at_call 47; refine (isDay_any _ _).mono ?_; rintro e w1 ⟨rfl, rfl⟩))
    go_ret2
    exact ⟨_, rfl, OwnS.nil, by repeat (with_reducible first | exact Ext.refl _ | refine Ext.setCell ?_ (by first | (simp; done) | (simp; omega)) _ | refine Ext.alloc ?_ _ | refine Ext.gw ?_ _ | refine Ext.drew ?_)⟩
  · skip
    cases hq1 : inB g 1 5
    · clear h
      go_enter Try.func34, Try.ntmps34
      go_wp2_with (first | (go_at_call 16; refine (areWorkers_any _ _ _ _ _ HC.out HN.out (by first | exact HR.out | exact HR.out.ext (ext_gw _ _))).mono ?_; rintro e w1 ⟨rfl, hx⟩; (try replace hx := Ext.flat hx); obtain ⟨x, rfl⟩ := hx.to_gw; clear hx) | (go_at_call 46; refine (isGang_any _ _).mono ?_; rintro e w1 ⟨rfl, rfl⟩) | (go_at_call 47; refine (isDay_any _ _).mono ?_; rintro e w1 ⟨rfl, rfl⟩))
      go_ret2
      exact ⟨_, rfl, OwnS.nil, by repeat (with_reducible first | exact Ext.refl _ | refine Ext.setCell ?_ (by first | (simp; done) | (simp; omega)) _ | refine Ext.alloc ?_ _ | refine Ext.gw ?_ _ | refine Ext.drew ?_)⟩
    · skip
      have hq2 : inB d 0 4000 = false := by simpa [hq0, hq1] using h
      clear h
      go_enter Try.func34, Try.ntmps34
      go_wp2_with (first | (go_at_call 16; refine (areWorkers_any _ _ _ _ _ HC.out HN.out (by first | exact HR.out | exact HR.out.ext (ext_gw _ _))).mono ?_; rintro e w1 ⟨rfl, hx⟩; (try replace hx := Ext.flat hx); obtain ⟨x, rfl⟩ := hx.to_gw; clear hx) | (go_at_call 46; refine (isGang_any _ _).mono ?_; rintro e w1 ⟨rfl, rfl⟩) | (go_at_call 47; refine (isDay_any _ _).mono ?_; rintro e w1 ⟨rfl, rfl⟩))
      go_ret2
      exact ⟨_, rfl, OwnS.nil, by repeat (with_reducible first | exact Ext.refl _ | refine Ext.setCell ?_ (by first | (simp; done) | (simp; omega)) _ | refine Ext.alloc ?_ _ | refine Ext.gw ?_ _ | refine Ext.drew ?_)⟩
set_option maxHeartbeats 2000000 in
theorem specSpareWorkers_yes (A : Option Addr) (n c : Nat) (m : Nat → Wk) (g d : Int) (w : World) (hc : c ≤ maxLen) (hnc : n ≤ c) (hr : Rd w A n 5 (wkF m)) (h : spareC n m g d = true) :
    Calls Try.prog 33 #[.slice A n c, .int .i64 g, .int .i64 d] w (RetS 3 1 ((spareTo m g d n n).length) (mkL (spareTo m g d n n)) true w) := by
  have HR := Lib.hid hr
  have HR2 := Lib.hid (hr.ext (Ext.alloc (Ext.refl w) (.cells #[] 3)))
  have HC := Lib.hid hc
  have HN := Lib.hid hnc
  unfold spareC at h
  rw [Bool.and_eq_true, Bool.and_eq_true] at h
  obtain ⟨⟨hv, hgg⟩, hdd⟩ := h
  have HV := Lib.hid (workersB_iff.1 hv)
  obtain ⟨d0, d1⟩ := inB_iff.1 hdd
  have hn12 := (workersB_iff.1 hv).1
  go_enter Try.func33, Try.ntmps33
  go_wp2_with (first | (go_at_call 39; refine (l5Good_any _ _ _ _ _ HC.out HN.out (by first | exact HR2.out | exact HR2.out.ext (ext_gw _ _))).mono ?_; rintro e w1 ⟨rfl, hx⟩; (try replace hx := Ext.flat hx); obtain ⟨x, rfl⟩ := hx.to_gw; clear hx) | (go_at_call 43; refine (l5Gang_any _ _).mono ?_; rintro e w1 ⟨rfl, rfl⟩) | (go_at_call 44; refine (l2Day_any _ _).mono ?_; rintro e w1 ⟨rfl, rfl⟩))
  have hx0 := ext_gw (w.alloc (Obj.cells #[] 3)) x
  go_loopw [8, 9, 11, 12] (fun v i _ _ wr => ∃ k : Nat, i = .int .i64 k ∧ k ≤ n ∧ OwnS wr w.heap.size 3 1 v (spareTo m g d n k).length (mkL (spareTo m g d n k)) ∧ ∃ y, wr = gw w y) (fun _ i _ _ _ => n - (intOf i).toNat)
  case atStart => exact ⟨0, rfl, by omega, (own_empty _ _ rfl (Nat.le_refl _)).ext hx0, (Ext.trans (Ext.alloc (Ext.refl _) _) hx0).to_gw⟩
  case round =>
    obtain ⟨k, rfl, hk, hown, y, rfl⟩ := hrel
    clear hx0
    have HL := Lib.hid (spare_len m g d n k)
    by_cases hlt : k < n
    · obtain ⟨b, off, rfl, hg, c0, c1, c2, c3, c4⟩ := hr.atWorker hlt
      have i0 : (0 : Int) ≤ (k : Int) := by omega
      have i1 : (k : Int) < (n : Int) := by omega
      have hbd := rakedV_pos g (d % 7) (m k).id HV.out
      unfold maxLen at hc
      by_cases hg1 : (m k).gang = g
      · by_cases hg2 : (m k).free = d % 7
        · have HE := Lib.hid (show spareTo m g d n (k + 1) = spareTo m g d n k from if_neg (fun h => h.2.1 hg2))
          have q1 : ((m k).gang != g) = false := by simp [hg1]
          have q2 : ((m k).free == d % 7) = true := by simp [hg2]
          clear hg1 hg2 hbd
          go_wp2
          go_roundw
          case rel => exact ⟨k + 1, by go_num, by omega, by rw [HE.out]; exact hown.ext (by repeat (with_reducible first | exact Ext.refl _ | refine Ext.setCell ?_ (by first | (simp; done) | (simp; omega)) _ | refine Ext.alloc ?_ _ | refine Ext.gw ?_ _ | refine Ext.drew ?_)), ((by repeat (with_reducible first | exact Ext.refl _ | refine Ext.setCell ?_ (by first | (simp; done) | (simp; omega)) _ | refine Ext.alloc ?_ _ | refine Ext.gw ?_ _ | refine Ext.drew ?_) : Ext w _)).to_gw⟩
          case measure => simp [intOf]; omega
        · cases hw : worksB m g (d % 7) (m k).id n
          · have HE := Lib.hid (show spareTo m g d n (k + 1) = spareTo m g d n k from if_neg (fun h => by have := h.2.2; rw [hw] at this; cases this))
            have q1 : ((m k).gang != g) = false := by simp [hg1]
            have q2 : ((m k).free == d % 7) = false := by simp [hg2]
            have q3 : rakedV m g (d % 7) (m k).id n ≤ 0 := by rw [hbd.1.2 hw]; exact Int.le_refl _
            clear hg1 hg2 hbd
            go_wp2_with fail
            refine (l5Raked_any _ _ _ m g (d % 7) (m k).id _ HC.out HN.out (HR.out.ext (by repeat (with_reducible first | exact Ext.refl _ | refine Ext.setCell ?_ (by first | (simp; done) | (simp; omega)) _ | refine Ext.alloc ?_ _ | refine Ext.gw ?_ _ | refine Ext.drew ?_) : Ext w _)) HV.out).mono ?_
            rintro e w1 ⟨rfl, hx⟩
            replace hown := hown.ext (Ext.trans (by repeat (with_reducible first | exact Ext.refl _ | refine Ext.setCell ?_ (by first | (simp; done) | (simp; omega)) _ | refine Ext.alloc ?_ _ | refine Ext.gw ?_ _ | refine Ext.drew ?_)) hx)
            obtain ⟨x1, rfl⟩ := hx.to_gw
            clear hx
            go_wp2
            go_roundw
            case rel => exact ⟨k + 1, by go_num, by omega, by rw [HE.out]; exact hown, ((by repeat (with_reducible first | exact Ext.refl _ | refine Ext.setCell ?_ (by first | (simp; done) | (simp; omega)) _ | refine Ext.alloc ?_ _ | refine Ext.gw ?_ _ | refine Ext.drew ?_) : Ext w _)).to_gw⟩
            case measure => simp [intOf]; omega
          · have HE := Lib.hid (show spareTo m g d n (k + 1) = spareTo m g d n k ++ [(m k).id] from if_pos ⟨hg1, hg2, hw⟩)
            have q1 : ((m k).gang != g) = false := by simp [hg1]
            have q2 : ((m k).free == d % 7) = false := by simp [hg2]
            have q3 : 0 < rakedV m g (d % 7) (m k).id n := by
              have h1 := hbd.1
              have : ¬ rakedV m g (d % 7) (m k).id n = 0 := fun h => by rw [h1.1 h] at hw; cases hw
              omega
            clear hg1 hg2 hbd
            go_wp2_with fail
            refine (l5Raked_any _ _ _ m g (d % 7) (m k).id _ HC.out HN.out (HR.out.ext (by repeat (with_reducible first | exact Ext.refl _ | refine Ext.setCell ?_ (by first | (simp; done) | (simp; omega)) _ | refine Ext.alloc ?_ _ | refine Ext.gw ?_ _ | refine Ext.drew ?_) : Ext w _)) HV.out).mono ?_
            rintro e w1 ⟨rfl, hx⟩
            replace hown := hown.ext (Ext.trans (by repeat (with_reducible first | exact Ext.refl _ | refine Ext.setCell ?_ (by first | (simp; done) | (simp; omega)) _ | refine Ext.alloc ?_ _ | refine Ext.gw ?_ _ | refine Ext.drew ?_)) hx)
            obtain ⟨x1, rfl⟩ := hx.to_gw
            clear hx
            go_wp2_with (at_builtin; refine wpList_append_G w w.heap.size rfl (by repeat (with_reducible first | exact Ext.refl _ | refine Ext.setCell ?_ (by first | (simp; done) | (simp; omega)) _ | refine Ext.alloc ?_ _ | refine Ext.gw ?_ _ | refine Ext.drew ?_)) rfl _ _ elInt rfl rfl (hown.congr (mkL_app _ ((m k).id : Int))) _ _ rfl rfl (by have := HL.out; omega) ?_ ?_ ?_)
            · intro j hj
              match j, hj with
              | 0, _ => exact (congrArg some (mkL_last _ _ _)).symm
            · intro j hj
              rw [mkL_last]
              rfl
            · intro v' z hown3
              clear hown
              go_wp2
              go_roundw
              case rel => exact ⟨k + 1, by go_num, by omega, by rw [HE.out, List.length_append]; exact hown3, z, rfl⟩
              case measure => simp [intOf]; omega
      · have HE := Lib.hid (show spareTo m g d n (k + 1) = spareTo m g d n k from if_neg (fun h => hg1 h.1))
        have q1 : ((m k).gang != g) = true := by simp [hg1]
        clear hg1 hbd
        go_wp2
        go_roundw
        case rel => exact ⟨k + 1, by go_num, by omega, by rw [HE.out]; exact hown.ext (by repeat (with_reducible first | exact Ext.refl _ | refine Ext.setCell ?_ (by first | (simp; done) | (simp; omega)) _ | refine Ext.alloc ?_ _ | refine Ext.gw ?_ _ | refine Ext.drew ?_)), ((by repeat (with_reducible first | exact Ext.refl _ | refine Ext.setCell ?_ (by first | (simp; done) | (simp; omega)) _ | refine Ext.alloc ?_ _ | refine Ext.gw ?_ _ | refine Ext.drew ?_) : Ext w _)).to_gw⟩
        case measure => simp [intOf]; omega
    · obtain rfl : k = n := by omega
      go_wp2
      go_ret2
      exact ⟨_, rfl, hown, ext_gw _ _⟩
theorem specSpareWorkers_no (A : Option Addr) (n c : Nat) (m : Nat → Wk) (g d : Int) (w : World) (hc : c ≤ maxLen) (hnc : n ≤ c) (hr : Rd w A n 5 (wkF m)) (h : spareC n m g d = false) :
    Calls Try.prog 33 #[.slice A n c, .int .i64 g, .int .i64 d] w (RetS 3 1 0 (mkL []) false w) := by
  have HR := Lib.hid hr
  have HR2 := Lib.hid (hr.ext (Ext.alloc (Ext.refl w) (.cells #[] 3)))
  have HC := Lib.hid hc
  have HN := Lib.hid hnc
  unfold spareC at h
  clear hr hc hnc
  cases hq0 : workersB n m
  · clear h
    go_enter Try.func33, Try.ntmps33
    go_wp2_with (first | (go_at_call 39; refine (l5Good_any _ _ _ _ _ HC.out HN.out (by first | exact HR2.out | exact HR2.out.ext (ext_gw _ _))).mono ?_; rintro e w1 ⟨rfl, hx⟩; (try replace hx := Ext.flat hx); obtain ⟨x, rfl⟩ := hx.to_gw; clear hx) | (go_at_call 43; refine (l5Gang_any _ _).mono ?_; rintro e w1 ⟨rfl, rfl⟩) | (go_at_call 44; refine (l2Day_any _ _).mono ?_; rintro e w1 ⟨rfl, rfl⟩))
    go_ret2
    exact ⟨_, rfl, (own_empty _ _ rfl (Nat.le_refl _)).ext (ext_gw _ _), by repeat (with_reducible first | exact Ext.refl _ | refine Ext.setCell ?_ (by first | (simp; done) | (simp; omega)) _ | refine Ext.alloc ?_ _ | refine Ext.gw ?_ _ | refine Ext.drew ?_)⟩
  · skip
    cases hq1 : inB g 1 5
    · clear h
      go_enter Try.func33, Try.ntmps33
      go_wp2_with (first | (go_at_call 39; refine (l5Good_any _ _ _ _ _ HC.out HN.out (by first | exact HR2.out | exact HR2.out.ext (ext_gw _ _))).mono ?_; rintro e w1 ⟨rfl, hx⟩; (try replace hx := Ext.flat hx); obtain ⟨x, rfl⟩ := hx.to_gw; clear hx) | (go_at_call 43; refine (l5Gang_any _ _).mono ?_; rintro e w1 ⟨rfl, rfl⟩) | (go_at_call 44; refine (l2Day_any _ _).mono ?_; rintro e w1 ⟨rfl, rfl⟩))
      go_ret2
      exact ⟨_, rfl, (own_empty _ _ rfl (Nat.le_refl _)).ext (ext_gw _ _), by repeat (with_reducible first | exact Ext.refl _ | refine Ext.setCell ?_ (by first | (simp; done) | (simp; omega)) _ | refine Ext.alloc ?_ _ | refine Ext.gw ?_ _ | refine Ext.drew ?_)⟩
    · skip
      have hq2 : inB d 0 4000 = false := by simpa [hq0, hq1] using h
      clear h
      go_enter Try.func33, Try.ntmps33
      go_wp2_with (first | (go_at_call 39; refine (l5Good_any _ _ _ _ _ HC.out HN.out (by first | exact HR2.out | exact HR2.out.ext (ext_gw _ _))).mono ?_; rintro e w1 ⟨rfl, hx⟩; (try replace hx := Ext.flat hx); obtain ⟨x, rfl⟩ := hx.to_gw; clear hx) | (go_at_call 43; refine (l5Gang_any _ _).mono ?_; rintro e w1 ⟨rfl, rfl⟩) | (go_at_call 44; refine (l2Day_any _ _).mono ?_; rintro e w1 ⟨rfl, rfl⟩))
      go_ret2
      exact ⟨_, rfl, (own_empty _ _ rfl (Nat.le_refl _)).ext (ext_gw _ _), by repeat (with_reducible first | exact Ext.refl _ | refine Ext.setCell ?_ (by first | (simp; done) | (simp; omega)) _ | refine Ext.alloc ?_ _ | refine Ext.gw ?_ _ | refine Ext.drew ?_)⟩
end Go.Proofs.Ytjfeicbffioinaa
