/- IdleDays: the contracts. -/
import Derived.Test.YtjfeicbffioinaaWeek
namespace Go.Proofs.Ytjfeicbffioinaa
open Go.RowKit
set_option linter.unusedVariables false

def mkL (l : List Int) : Nat → Nat → Value := mk1 fun i => l.getD i 0
theorem mkL_app (l : List Int) (x : Int) (i j : Nat) (hi : i < l.length) (hj : j < 1) : mkL (l ++ [x]) i j = mkL l i j := by
  simp only [mkL, mk1, List.getD_eq_getElem?_getD, List.getElem?_append_left hi]
theorem mkL_last (l : List Int) (x : Int) (j : Nat) : mkL (l ++ [x]) l.length j = .int .i64 x := by
  simp [mkL, mk1, List.getD_eq_getElem?_getD]
def idleTo (m : Nat → Wk) (g : Int) (n : Nat) : Nat → List Int
  | 0 => []
  | k + 1 => if worksB m g k 0 n = true then idleTo m g n k else idleTo m g n k ++ [(k : Int)]
theorem idle_len (m : Nat → Wk) (g : Int) (n k : Nat) : (idleTo m g n k).length ≤ k := by
  induction k with
  | zero => exact Nat.le_refl _
  | succ k ih =>
    unfold idleTo
    split
    · omega
    · rw [List.length_append, List.length_singleton]; omega
set_option maxHeartbeats 2000000 in
theorem implIdleDays_yes (A : Option Addr) (n c : Nat) (m : Nat → Wk) (g : Int) (w : World) (hc : c ≤ maxLen) (hnc : n ≤ c) (hr : Rd w A n 5 (wkF m)) (h : ganC n m g = true) :
    Calls Try.prog 36 #[.slice A n c, .int .i64 g] w (RetS 3 1 ((idleTo m g n 7).length) (mkL (idleTo m g n 7)) true w) := by
  have HR := Lib.hid hr
  have HR2 := Lib.hid (hr.ext (Ext.alloc (Ext.refl w) (.cells #[] 3)))
  have HC := Lib.hid hc
  have HN := Lib.hid hnc
  unfold ganC at h
  rw [Bool.and_eq_true] at h
  obtain ⟨hv, hgg⟩ := h
  have HV := Lib.hid (workersB_iff.1 hv)
  clear hr hc hnc
  go_enter Try.func36, Try.ntmps36
  go_wp2_with (first | (go_at_call 16; refine (areWorkers_any _ _ _ _ _ HC.out HN.out (by first | exact HR.out | exact HR.out.ext (ext_gw _ _))).mono ?_; rintro e w1 ⟨rfl, hx⟩; (try replace hx := Ext.flat hx); obtain ⟨x, rfl⟩ := hx.to_gw; clear hx) | (go_at_call 46; refine (isGang_any _ _).mono ?_; rintro e w1 ⟨rfl, rfl⟩))
  refine (rakedWeek_any _ _ _ m g _ HC.out HN.out (HR.out.ext (ext_gw _ _)) HV.out).mono ?_
  rintro e w1 ⟨vw, rfl, hweek, hx⟩
  replace hx := Ext.flat hx
  obtain ⟨Aw, cw, rfl, hcw, hncw, hrw⟩ := hweek.rd
  clear hweek
  unfold maxLen at hcw
  go_wp2
  go_loopw [6, 7, 8, 21] (fun v _ _ i wr => ∃ k : Nat, i = .int .i64 k ∧ k ≤ 7 ∧ OwnS wr w1.heap.size 3 1 v (idleTo m g n k).length (mkL (idleTo m g n k)) ∧ ∃ y, wr = gw w1 y) (fun _ _ _ i _ => 7 - (intOf i).toNat)
  case atStart => exact ⟨0, rfl, by omega, OwnS.nil, (Ext.refl w1).to_gw⟩
  case round =>
    obtain ⟨k, rfl, hk, hown, y, rfl⟩ := hrel
    have HL := Lib.hid (idle_len m g n k)
    by_cases hlt : k < 7
    · obtain ⟨gb, off, rfl, hgb, c0⟩ := hrw.at1 hlt
      have i0 : (0 : Int) ≤ (k : Int) := by omega
      have i1 : (k : Int) < 7 := by omega
      cases hw : worksB m g k 0 n
      · have q : (weekV m g n k == 0) = true := by
          have := (rakedV_pos g k 0 HV.out).1.2 hw
          unfold weekV
          rw [this]
          rfl
        have HE := Lib.hid (show idleTo m g n (k + 1) = idleTo m g n k ++ [(k : Int)] by simp [idleTo, hw])
        clear hw
        go_wp2_with (at_builtin; refine wpList_append_G w1 w1.heap.size rfl (ext_gw _ _) rfl _ _ elInt rfl rfl (hown.congr (mkL_app _ (k : Int))) _ _ rfl rfl (by have := HL.out; omega) ?_ ?_ ?_)
        · intro j hj
          match j, hj with
          | 0, _ => exact (congrArg some (mkL_last _ _ _)).symm
        · intro j hj
          rw [mkL_last]
          rfl
        · intro v' z hown3
          clear hown
          go_wp2
          go_roundw
          case rel => exact ⟨k + 1, by go_num, by omega, by rw [HE.out, List.length_append]; exact hown3, z, rfl⟩
          case measure => simp [intOf]; omega
      · have q : (weekV m g n k == 0) = false := by
          have h1 := (rakedV_pos g k 0 HV.out).1
          have : ¬ rakedV m g k 0 n = 0 := fun h => by rw [h1.1 h] at hw; cases hw
          unfold weekV
          simpa using this
        have HE := Lib.hid (show idleTo m g n (k + 1) = idleTo m g n k by simp [idleTo, hw])
        clear hw
        go_wp2
        go_roundw
        case rel => exact ⟨k + 1, by go_num, by omega, by rw [HE.out]; exact hown, y, rfl⟩
        case measure => simp [intOf]; omega
    · obtain rfl : k = 7 := by omega
      go_wp2
      go_ret2
      exact ⟨_, rfl, hown.lower hx.size_le, hx.gw _⟩
theorem implIdleDays_no (A : Option Addr) (n c : Nat) (m : Nat → Wk) (g : Int) (w : World) (hc : c ≤ maxLen) (hnc : n ≤ c) (hr : Rd w A n 5 (wkF m)) (h : ganC n m g = false) :
    Calls Try.prog 36 #[.slice A n c, .int .i64 g] w (RetS 3 1 0 (mkL []) false w) := by
  have HR := Lib.hid hr
  have HR2 := Lib.hid (hr.ext (Ext.alloc (Ext.refl w) (.cells #[] 3)))
  have HC := Lib.hid hc
  have HN := Lib.hid hnc
  unfold ganC at h
  clear hr hc hnc
  cases hq0 : workersB n m
  · clear h
    go_enter Try.func36, Try.ntmps36
    go_wp2_with (first | (go_at_call 16; refine (areWorkers_any _ _ _ _ _ HC.out HN.out (by first | exact HR.out | exact HR.out.ext (ext_gw _ _))).mono ?_; rintro e w1 ⟨rfl, hx⟩; (try replace hx := Ext.flat hx); obtain ⟨x, rfl⟩ := hx.to_gw; clear hx) | (go_at_call 46; refine (isGang_any _ _).mono ?_; rintro e w1 ⟨rfl, rfl⟩))
    go_ret2
    exact ⟨_, rfl, OwnS.nil, by repeat (with_reducible first | exact Ext.refl _ | refine Ext.setCell ?_ (by first | (simp; done) | (simp; omega)) _ | refine Ext.alloc ?_ _ | refine Ext.gw ?_ _ | refine Ext.drew ?_)⟩
  · skip
    have hq1 : inB g 1 5 = false := by simpa [hq0] using h
    clear h
    go_enter Try.func36, Try.ntmps36
    go_wp2_with (first | (go_at_call 16; refine (areWorkers_any _ _ _ _ _ HC.out HN.out (by first | exact HR.out | exact HR.out.ext (ext_gw _ _))).mono ?_; rintro e w1 ⟨rfl, hx⟩; (try replace hx := Ext.flat hx); obtain ⟨x, rfl⟩ := hx.to_gw; clear hx) | (go_at_call 46; refine (isGang_any _ _).mono ?_; rintro e w1 ⟨rfl, rfl⟩))
    go_ret2
    exact ⟨_, rfl, OwnS.nil, by repeat (with_reducible first | exact Ext.refl _ | refine Ext.setCell ?_ (by first | (simp; done) | (simp; omega)) _ | refine Ext.alloc ?_ _ | refine Ext.gw ?_ _ | refine Ext.drew ?_)⟩
set_option maxHeartbeats 2000000 in
theorem specIdleDays_yes (A : Option Addr) (n c : Nat) (m : Nat → Wk) (g : Int) (w : World) (hc : c ≤ maxLen) (hnc : n ≤ c) (hr : Rd w A n 5 (wkF m)) (h : ganC n m g = true) :
    Calls Try.prog 35 #[.slice A n c, .int .i64 g] w (RetS 3 1 ((idleTo m g n 7).length) (mkL (idleTo m g n 7)) true w) := by
  have HR := Lib.hid hr
  have HR2 := Lib.hid (hr.ext (Ext.alloc (Ext.refl w) (.cells #[] 3)))
  have HC := Lib.hid hc
  have HN := Lib.hid hnc
  unfold ganC at h
  rw [Bool.and_eq_true] at h
  obtain ⟨hv, hgg⟩ := h
  have HV := Lib.hid (workersB_iff.1 hv)
  clear hr hc hnc
  go_enter Try.func35, Try.ntmps35
  go_wp2_with (first | (go_at_call 39; refine (l5Good_any _ _ _ _ _ HC.out HN.out (by first | exact HR2.out | exact HR2.out.ext (ext_gw _ _))).mono ?_; rintro e w1 ⟨rfl, hx⟩; (try replace hx := Ext.flat hx); obtain ⟨x, rfl⟩ := hx.to_gw; clear hx) | (go_at_call 43; refine (l5Gang_any _ _).mono ?_; rintro e w1 ⟨rfl, rfl⟩))
  have hx0 := ext_gw (w.alloc (Obj.cells #[] 3)) x
  go_loopw [6, 7, 8, 9] (fun v i _ _ wr => ∃ k : Nat, i = .int .i64 k ∧ k ≤ 7 ∧ OwnS wr w.heap.size 3 1 v (idleTo m g n k).length (mkL (idleTo m g n k)) ∧ ∃ y, wr = gw w y) (fun _ i _ _ _ => 7 - (intOf i).toNat)
  case atStart => exact ⟨0, rfl, by omega, (own_empty _ _ rfl (Nat.le_refl _)).ext hx0, (Ext.trans (Ext.alloc (Ext.refl _) _) hx0).to_gw⟩
  case round =>
    obtain ⟨k, rfl, hk, hown, y, rfl⟩ := hrel
    clear hx0
    have HL := Lib.hid (idle_len m g n k)
    by_cases hlt : k < 7
    · cases hw : worksB m g k 0 n
      · have HE := Lib.hid (show idleTo m g n (k + 1) = idleTo m g n k ++ [(k : Int)] by simp [idleTo, hw])
        go_wp2_with fail
        refine (l5Raked_any _ _ _ m g k 0 _ HC.out HN.out (HR.out.ext (by first | exact ext_gw _ _ | exact (by repeat (with_reducible first | exact Ext.refl _ | refine Ext.setCell ?_ (by first | (simp; done) | (simp; omega)) _ | refine Ext.alloc ?_ _ | refine Ext.gw ?_ _ | refine Ext.drew ?_) : Ext w _))) HV.out).mono ?_
        rintro e w1 ⟨rfl, hx⟩
        replace hown := hown.ext hx
        obtain ⟨x, rfl⟩ := (Ext.flat hx).to_gw
        clear hx
        go_wp2_with (at_builtin; refine wpList_append_G w w.heap.size rfl (ext_gw _ _) rfl _ _ elInt rfl rfl (hown.congr (mkL_app _ (k : Int))) _ _ rfl rfl (by have := HL.out; omega) ?_ ?_ ?_)
        · intro j hj
          match j, hj with
          | 0, _ => exact (congrArg some (mkL_last _ _ _)).symm
        · intro j hj
          rw [mkL_last]
          rfl
        · intro v' z hown3
          clear hown
          go_wp2
          go_roundw
          case rel => exact ⟨k + 1, by go_num, by omega, by rw [HE.out, List.length_append]; exact hown3, z, rfl⟩
          case measure => simp [intOf]; omega
      · have HE := Lib.hid (show idleTo m g n (k + 1) = idleTo m g n k by simp [idleTo, hw])
        go_wp2_with fail
        refine (l5Raked_any _ _ _ m g k 0 _ HC.out HN.out (HR.out.ext (by first | exact ext_gw _ _ | exact (by repeat (with_reducible first | exact Ext.refl _ | refine Ext.setCell ?_ (by first | (simp; done) | (simp; omega)) _ | refine Ext.alloc ?_ _ | refine Ext.gw ?_ _ | refine Ext.drew ?_) : Ext w _))) HV.out).mono ?_
        rintro e w1 ⟨rfl, hx⟩
        replace hown := hown.ext hx
        obtain ⟨x, rfl⟩ := (Ext.flat hx).to_gw
        clear hx
        go_wp2
        go_roundw
        case rel => exact ⟨k + 1, by go_num, by omega, by rw [HE.out]; exact hown, _, rfl⟩
        case measure => simp [intOf]; omega
    · obtain rfl : k = 7 := by omega
      go_wp2
      go_ret2
      exact ⟨_, rfl, hown, ext_gw _ _⟩
theorem specIdleDays_no (A : Option Addr) (n c : Nat) (m : Nat → Wk) (g : Int) (w : World) (hc : c ≤ maxLen) (hnc : n ≤ c) (hr : Rd w A n 5 (wkF m)) (h : ganC n m g = false) :
    Calls Try.prog 35 #[.slice A n c, .int .i64 g] w (RetS 3 1 0 (mkL []) false w) := by
  have HR := Lib.hid hr
  have HR2 := Lib.hid (hr.ext (Ext.alloc (Ext.refl w) (.cells #[] 3)))
  have HC := Lib.hid hc
  have HN := Lib.hid hnc
  unfold ganC at h
  clear hr hc hnc
  cases hq0 : workersB n m
  · clear h
    go_enter Try.func35, Try.ntmps35
    go_wp2_with (first | (go_at_call 39; refine (l5Good_any _ _ _ _ _ HC.out HN.out (by first | exact HR2.out | exact HR2.out.ext (ext_gw _ _))).mono ?_; rintro e w1 ⟨rfl, hx⟩; (try replace hx := Ext.flat hx); obtain ⟨x, rfl⟩ := hx.to_gw; clear hx) | (go_at_call 43; refine (l5Gang_any _ _).mono ?_; rintro e w1 ⟨rfl, rfl⟩))
    go_ret2
    exact ⟨_, rfl, (own_empty _ _ rfl (Nat.le_refl _)).ext (ext_gw _ _), by repeat (with_reducible first | exact Ext.refl _ | refine Ext.setCell ?_ (by first | (simp; done) | (simp; omega)) _ | refine Ext.alloc ?_ _ | refine Ext.gw ?_ _ | refine Ext.drew ?_)⟩
  · skip
    have hq1 : inB g 1 5 = false := by simpa [hq0] using h
    clear h
    go_enter Try.func35, Try.ntmps35
    go_wp2_with (first | (go_at_call 39; refine (l5Good_any _ _ _ _ _ HC.out HN.out (by first | exact HR2.out | exact HR2.out.ext (ext_gw _ _))).mono ?_; rintro e w1 ⟨rfl, hx⟩; (try replace hx := Ext.flat hx); obtain ⟨x, rfl⟩ := hx.to_gw; clear hx) | (go_at_call 43; refine (l5Gang_any _ _).mono ?_; rintro e w1 ⟨rfl, rfl⟩))
    go_ret2
    exact ⟨_, rfl, (own_empty _ _ rfl (Nat.le_refl _)).ext (ext_gw _ _), by repeat (with_reducible first | exact Ext.refl _ | refine Ext.setCell ?_ (by first | (simp; done) | (simp; omega)) _ | refine Ext.alloc ?_ _ | refine Ext.gw ?_ _ | refine Ext.drew ?_)⟩
end Go.Proofs.Ytjfeicbffioinaa
