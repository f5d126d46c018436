/- PutInGang: the contracts. -/
import Derived.Test.YtjfeicbffioinaaWorkerAt
import Derived.Test.YtjfeicbffioinaaWorkerC
import Derived.Test.YtjfeicbffioinaaRakedOn
namespace Go.Proofs.Ytjfeicbffioinaa
open Go.RowKit
set_option linter.unusedVariables false

theorem workerAt_is (A : Option Addr) (n c : Nat) (m : Nat → Wk) (id : Int) (w : World) (v : Int) (hc : c ≤ maxLen) (hnc : n ≤ c) (hr : Rd w A n 5 (wkF m)) (hv : findWorker n m id = v) :
    Calls Try.prog 54 #[.slice A n c, .int .i64 id] w fun e w' => e = .returned (.int .i64 v) ∧ Ext w w' := by
  rw [← hv]
  exact workerAt_any A n c m id w hc hnc hr
theorem l5Find_is (A : Option Addr) (n c : Nat) (m : Nat → Wk) (id : Int) (w : World) (v : Int) (hc : c ≤ maxLen) (hnc : n ≤ c) (hr : Rd w A n 5 (wkF m)) (hv : findWorkerV n m id = v) :
    Calls Try.prog 53 #[.slice A n c, .int .i64 id] w fun e w' => e = .returned (.int .i64 v) ∧ Ext w w' := by
  rw [← hv]
  exact specWorkerFind_any A n c m id w hc hnc hr
theorem wkF_at {m m' : Nat → Wk} {i i' : Nat} (h : m i = m' i') (l : Nat) : wkF m i l = wkF m' i' l := by
  match l with
  | 0 => simp [wkF, h]
  | 1 => simp [wkF, h]
  | 2 => simp [wkF, h]
  | 3 => simp [wkF, h]
  | _ + 4 => simp [wkF, h]
def setG (m : Nat → Wk) (j : Nat) (g : Int) : Nat → Wk := fun i => if i = j then { m j with gang := g } else m i
theorem setG_F (m : Nat → Wk) (j : Nat) (g : Int) (i l : Nat) (hl : l < 5) : wkF (setG m j g) i l = if i = j ∧ l = 1 then .int .i64 g else wkF m i l := by
  unfold setG
  by_cases h : i = j
  · subst h
    match l, hl with
    | 0, _ => simp [wkF]
    | 1, _ => simp [wkF]
    | 2, _ => simp [wkF]
    | 3, _ => simp [wkF]
    | 4, _ => simp [wkF]
  · rw [if_neg (fun hh => h hh.1)]
    match l, hl with
    | 0, _ => simp [wkF, h]
    | 1, _ => simp [wkF, h]
    | 2, _ => simp [wkF, h]
    | 3, _ => simp [wkF, h]
    | 4, _ => simp [wkF, h]
def putP (n : Nat) (m : Nat → Wk) (id g : Int) : Prop := workersP n m ∧ ∃ j : Nat, findWorker n m id = (j : Int) ∧ (0 ≤ g ∧ g ≤ 5) ∧ (m j).gang ≠ g
set_option maxHeartbeats 2000000 in
theorem implPutInGang_no (A : Option Addr) (n c : Nat) (m : Nat → Wk) (id g : Int) (w : World) (hc : c ≤ maxLen) (hnc : n ≤ c) (hr : Rd w A n 5 (wkF m)) (h : ¬ putP n m id g) : Calls Try.prog 29 #[.slice A n c, .int .i64 id, .int .i64 g] w (RetS 49 5 0 (wkF m) false w) := by
  have HR := Lib.hid hr
  have HC := Lib.hid hc
  have HN := Lib.hid hnc
  unfold maxLen at hc
  cases hv : workersB n m
  · have HJ : Hid (findWorker n m id = findWorker n m id) := Lib.hid rfl
    clear hr h
    go_enter Try.func29, Try.ntmps29
    go_wp2_with (first | (go_at_call 54; refine (workerAt_is _ _ _ _ _ _ _ HC.out HN.out (by first | exact HR.out | exact HR.out.ext (ext_gw _ _)) HJ.out).mono ?_; rintro e w1 ⟨rfl, hx⟩; (try replace hx := Ext.flat hx); obtain ⟨x, rfl⟩ := hx.to_gw; clear hx) | (go_at_call 16; refine (areWorkers_any _ _ _ _ _ HC.out HN.out (by first | exact HR.out | exact HR.out.ext (ext_gw _ _))).mono ?_; rintro e w1 ⟨rfl, hx⟩; (try replace hx := Ext.flat hx); obtain ⟨x, rfl⟩ := hx.to_gw; clear hx) | (go_at_call 51; refine (within_any _ _ _ _).mono ?_; rintro e w1 ⟨rfl, rfl⟩))
    go_ret2
    exact ⟨_, rfl, OwnS.nil, by repeat (with_reducible first | exact Ext.refl _ | refine Ext.setCell ?_ (by first | (simp; done) | (simp; omega)) _ | refine Ext.alloc ?_ _ | refine Ext.gw ?_ _ | refine Ext.drew ?_)⟩
  · have hfv : findWorkerV n m id = findWorker n m id := if_pos hv
    have hvp := workersB_iff.1 hv
    rcases findWorker_bd n m id with hf | ⟨j, hj, hjn, _⟩
    · have HJ : Hid (findWorker n m id = -1) := Lib.hid (by exact hf)
      clear hr h hfv hf hvp
      go_enter Try.func29, Try.ntmps29
      go_wp2_with (first | (go_at_call 54; refine (workerAt_is _ _ _ _ _ _ _ HC.out HN.out (by first | exact HR.out | exact HR.out.ext (ext_gw _ _)) HJ.out).mono ?_; rintro e w1 ⟨rfl, hx⟩; (try replace hx := Ext.flat hx); obtain ⟨x, rfl⟩ := hx.to_gw; clear hx) | (go_at_call 16; refine (areWorkers_any _ _ _ _ _ HC.out HN.out (by first | exact HR.out | exact HR.out.ext (ext_gw _ _))).mono ?_; rintro e w1 ⟨rfl, hx⟩; (try replace hx := Ext.flat hx); obtain ⟨x, rfl⟩ := hx.to_gw; clear hx) | (go_at_call 51; refine (within_any _ _ _ _).mono ?_; rintro e w1 ⟨rfl, rfl⟩))
      go_ret2
      exact ⟨_, rfl, OwnS.nil, by repeat (with_reducible first | exact Ext.refl _ | refine Ext.setCell ?_ (by first | (simp; done) | (simp; omega)) _ | refine Ext.alloc ?_ _ | refine Ext.gw ?_ _ | refine Ext.drew ?_)⟩
    · have HJ : Hid (findWorker n m id = (j : Int)) := Lib.hid (by exact hj)
      have hn12 := hvp.1
      cases hg : inB g 0 5
      · clear hr h hfv hj hvp
        have j0 : (0 : Int) ≤ (j : Int) := by omega
        go_enter Try.func29, Try.ntmps29
        go_wp2_with (first | (go_at_call 54; refine (workerAt_is _ _ _ _ _ _ _ HC.out HN.out (by first | exact HR.out | exact HR.out.ext (ext_gw _ _)) HJ.out).mono ?_; rintro e w1 ⟨rfl, hx⟩; (try replace hx := Ext.flat hx); obtain ⟨x, rfl⟩ := hx.to_gw; clear hx) | (go_at_call 16; refine (areWorkers_any _ _ _ _ _ HC.out HN.out (by first | exact HR.out | exact HR.out.ext (ext_gw _ _))).mono ?_; rintro e w1 ⟨rfl, hx⟩; (try replace hx := Ext.flat hx); obtain ⟨x, rfl⟩ := hx.to_gw; clear hx) | (go_at_call 51; refine (within_any _ _ _ _).mono ?_; rintro e w1 ⟨rfl, rfl⟩))
        go_ret2
        exact ⟨_, rfl, OwnS.nil, by repeat (with_reducible first | exact Ext.refl _ | refine Ext.setCell ?_ (by first | (simp; done) | (simp; omega)) _ | refine Ext.alloc ?_ _ | refine Ext.gw ?_ _ | refine Ext.drew ?_)⟩
      · have hgg : (m j).gang = g := Classical.byContradiction fun hne => h ⟨hvp, j, hj, inB_iff.1 hg, hne⟩
        have q : ((m j).gang == g) = true := by simp [hgg]
        obtain ⟨b, off, rfl, hb, c0, c1, c2, c3, c4⟩ := hr.atWorker hjn
        have j0 : (0 : Int) ≤ (j : Int) := by omega
        have j1 : (j : Int) < (n : Int) := by omega
        clear h hfv hj hvp hgg
        go_enter Try.func29, Try.ntmps29
        go_wp2_with (first | (go_at_call 54; refine (workerAt_is _ _ _ _ _ _ _ HC.out HN.out (by first | exact HR.out | exact HR.out.ext (ext_gw _ _)) HJ.out).mono ?_; rintro e w1 ⟨rfl, hx⟩; (try replace hx := Ext.flat hx); obtain ⟨x, rfl⟩ := hx.to_gw; clear hx) | (go_at_call 16; refine (areWorkers_any _ _ _ _ _ HC.out HN.out (by first | exact HR.out | exact HR.out.ext (ext_gw _ _))).mono ?_; rintro e w1 ⟨rfl, hx⟩; (try replace hx := Ext.flat hx); obtain ⟨x, rfl⟩ := hx.to_gw; clear hx) | (go_at_call 51; refine (within_any _ _ _ _).mono ?_; rintro e w1 ⟨rfl, rfl⟩))
        go_ret2
        exact ⟨_, rfl, OwnS.nil, by repeat (with_reducible first | exact Ext.refl _ | refine Ext.setCell ?_ (by first | (simp; done) | (simp; omega)) _ | refine Ext.alloc ?_ _ | refine Ext.gw ?_ _ | refine Ext.drew ?_)⟩
set_option maxHeartbeats 4000000 in
theorem implPutInGang_yes (A : Option Addr) (n c : Nat) (m : Nat → Wk) (id g : Int) (w : World) (hc : c ≤ maxLen) (hnc : n ≤ c) (hr : Rd w A n 5 (wkF m)) (j : Nat) (hv : workersB n m = true) (hj : findWorker n m id = (j : Int)) (hjn : j < n) (hg : inB g 0 5 = true) (hne : (m j).gang ≠ g) : Calls Try.prog 29 #[.slice A n c, .int .i64 id, .int .i64 g] w (RetS 49 5 n (wkF (setG m j g)) true w) := by
  have HR := Lib.hid hr
  have HC := Lib.hid hc
  have HN := Lib.hid hnc
  have HV := Lib.hid (workersB_iff.1 hv)
  have hn12 := (workersB_iff.1 hv).1
  unfold maxLen at hc
  have HJ : Hid (findWorker n m id = (j : Int)) := Lib.hid (by exact hj)
  have q : ((m j).gang == g) = false := by simp [hne]
  have HP : Hid (∀ i l, i < n → l < 5 → wkF (setG m j g) i l = if i = j ∧ l = 1 then .int .i64 g else wkF m i l) := Lib.hid (fun i l _ hl => setG_F m j g i l hl)
  obtain ⟨b, off, rfl, hb, c0, c1, c2, c3, c4⟩ := hr.atWorker hjn
  have j0 : (0 : Int) ≤ (j : Int) := by omega
  have j1 : (j : Int) < (n : Int) := by omega
  have HB : Hid (∀ i l, i < n → l < 5 → w.cell? ⟨b, off + i * 5 + l, none⟩ = some (wkF m i l)) := Lib.hid (fun i l hi hl => by
    obtain ⟨g2, off2, hA, _, hcell⟩ := hr (by omega)
    injection hA with hA
    injection hA with e1 e2 _
    subst e1 e2
    have := hcell i l hi hl
    rw [Nat.add_assoc]
    exact this)
  clear hj hne
  go_enter Try.func29, Try.ntmps29
  go_wp2_with (first | (go_at_call 54; refine (workerAt_is _ _ _ _ _ _ _ HC.out HN.out (by first | exact HR.out | exact HR.out.ext (ext_gw _ _)) HJ.out).mono ?_; rintro e w1 ⟨rfl, hx⟩; (try replace hx := Ext.flat hx); obtain ⟨x, rfl⟩ := hx.to_gw; clear hx) | (go_at_call 16; refine (areWorkers_any _ _ _ _ _ HC.out HN.out (by first | exact HR.out | exact HR.out.ext (ext_gw _ _))).mono ?_; rintro e w1 ⟨rfl, hx⟩; (try replace hx := Ext.flat hx); obtain ⟨x, rfl⟩ := hx.to_gw; clear hx) | (go_at_call 51; refine (within_any _ _ _ _).mono ?_; rintro e w1 ⟨rfl, rfl⟩))
  refine (cloneWorker_any b off n c m _ HC.out HN.out (HR.out.ext (by first | exact ext_gw _ _ | exact Ext.refl _)) (by omega) (by omega)).mono ?_
  rintro e w1 ⟨v1, rfl, hown, hx⟩
  replace hown := hown.lower (ext_gw _ _).size_le
  replace hx := Ext.flat hx
  obtain ⟨A1, cap1, rfl, hcap0, hcap1, hform⟩ := hown.form
  obtain ⟨g1, rfl, _, hg1b, hg1, hcell⟩ := hform (by omega)
  obtain ⟨d0, f0⟩ := hcell j 0 hjn (by omega)
  obtain ⟨d1, f1⟩ := hcell j 1 hjn (by omega)
  obtain ⟨d2, f2⟩ := hcell j 2 hjn (by omega)
  obtain ⟨d3, f3⟩ := hcell j 3 hjn (by omega)
  obtain ⟨d4, f4⟩ := hcell j 4 hjn (by omega)
  rw [Nat.add_zero] at d0 f0
  replace d0 : _ = some (Value.int .i64 (m j).id) := d0
  replace d1 : _ = some (Value.int .i64 (m j).gang) := d1
  replace d2 : _ = some (Value.int .i64 (m j).rakes) := d2
  replace d3 : _ = some (Value.bool (m j).cart) := d3
  replace d4 : _ = some (Value.int .i64 (m j).free) := d4
  clear hform hcell
  unfold maxLen at hcap1
  go_wp2
  go_ret2
  have a1 := (hown.stored hjn (j := 1) (by omega) (.int .i64 g)).congr HP.out
  exact ⟨_, rfl, a1, hx.setCell hg1b _⟩
set_option maxHeartbeats 2000000 in
theorem specPutInGang_no (A : Option Addr) (n c : Nat) (m : Nat → Wk) (id g : Int) (w : World) (hc : c ≤ maxLen) (hnc : n ≤ c) (hr : Rd w A n 5 (wkF m)) (h : ¬ putP n m id g) : Calls Try.prog 28 #[.slice A n c, .int .i64 id, .int .i64 g] w (RetS 49 5 0 (wkF m) false w) := by
  have HR := Lib.hid hr
  have HC := Lib.hid hc
  have HN := Lib.hid hnc
  unfold maxLen at hc
  cases hv : workersB n m
  · have HJ : Hid (findWorkerV n m id = -1) := Lib.hid (if_neg (by rw [hv]; simp))
    clear hr h
    go_enter Try.func28, Try.ntmps28
    go_wp2_with (first | (go_at_call 53; refine (l5Find_is _ _ _ _ _ _ _ HC.out HN.out (by first | exact HR.out | exact HR.out.ext (ext_gw _ _)) HJ.out).mono ?_; rintro e w1 ⟨rfl, hx⟩; (try replace hx := Ext.flat hx); obtain ⟨x, rfl⟩ := hx.to_gw; clear hx) | fail | (go_at_call 50; refine (l1In_any _ _ _ _).mono ?_; rintro e w1 ⟨rfl, rfl⟩))
    go_ret2
    exact ⟨_, rfl, own_empty _ _ rfl (ext_gw _ _).size_le, by repeat (with_reducible first | exact Ext.refl _ | refine Ext.setCell ?_ (by first | (simp; done) | (simp; omega)) _ | refine Ext.alloc ?_ _ | refine Ext.gw ?_ _ | refine Ext.drew ?_)⟩
  · have hfv : findWorkerV n m id = findWorker n m id := if_pos hv
    have hvp := workersB_iff.1 hv
    rcases findWorker_bd n m id with hf | ⟨j, hj, hjn, _⟩
    · have HJ : Hid (findWorkerV n m id = -1) := Lib.hid (by rw [hfv]; exact hf)
      clear hr h hfv hf hvp
      go_enter Try.func28, Try.ntmps28
      go_wp2_with (first | (go_at_call 53; refine (l5Find_is _ _ _ _ _ _ _ HC.out HN.out (by first | exact HR.out | exact HR.out.ext (ext_gw _ _)) HJ.out).mono ?_; rintro e w1 ⟨rfl, hx⟩; (try replace hx := Ext.flat hx); obtain ⟨x, rfl⟩ := hx.to_gw; clear hx) | fail | (go_at_call 50; refine (l1In_any _ _ _ _).mono ?_; rintro e w1 ⟨rfl, rfl⟩))
      go_ret2
      exact ⟨_, rfl, own_empty _ _ rfl (ext_gw _ _).size_le, by repeat (with_reducible first | exact Ext.refl _ | refine Ext.setCell ?_ (by first | (simp; done) | (simp; omega)) _ | refine Ext.alloc ?_ _ | refine Ext.gw ?_ _ | refine Ext.drew ?_)⟩
    · have HJ : Hid (findWorkerV n m id = (j : Int)) := Lib.hid (by rw [hfv]; exact hj)
      have hn12 := hvp.1
      cases hg : inB g 0 5
      · clear hr h hfv hj hvp
        have j0 : (0 : Int) ≤ (j : Int) := by omega
        go_enter Try.func28, Try.ntmps28
        go_wp2_with (first | (go_at_call 53; refine (l5Find_is _ _ _ _ _ _ _ HC.out HN.out (by first | exact HR.out | exact HR.out.ext (ext_gw _ _)) HJ.out).mono ?_; rintro e w1 ⟨rfl, hx⟩; (try replace hx := Ext.flat hx); obtain ⟨x, rfl⟩ := hx.to_gw; clear hx) | fail | (go_at_call 50; refine (l1In_any _ _ _ _).mono ?_; rintro e w1 ⟨rfl, rfl⟩))
        go_ret2
        exact ⟨_, rfl, own_empty _ _ rfl (ext_gw _ _).size_le, by repeat (with_reducible first | exact Ext.refl _ | refine Ext.setCell ?_ (by first | (simp; done) | (simp; omega)) _ | refine Ext.alloc ?_ _ | refine Ext.gw ?_ _ | refine Ext.drew ?_)⟩
      · have hgg : (m j).gang = g := Classical.byContradiction fun hne => h ⟨hvp, j, hj, inB_iff.1 hg, hne⟩
        have q : ((m j).gang == g) = true := by simp [hgg]
        obtain ⟨b, off, rfl, hb, c0, c1, c2, c3, c4⟩ := hr.atWorker hjn
        have j0 : (0 : Int) ≤ (j : Int) := by omega
        have j1 : (j : Int) < (n : Int) := by omega
        clear h hfv hj hvp hgg
        go_enter Try.func28, Try.ntmps28
        go_wp2_with (first | (go_at_call 53; refine (l5Find_is _ _ _ _ _ _ _ HC.out HN.out (by first | exact HR.out | exact HR.out.ext (ext_gw _ _)) HJ.out).mono ?_; rintro e w1 ⟨rfl, hx⟩; (try replace hx := Ext.flat hx); obtain ⟨x, rfl⟩ := hx.to_gw; clear hx) | fail | (go_at_call 50; refine (l1In_any _ _ _ _).mono ?_; rintro e w1 ⟨rfl, rfl⟩))
        go_ret2
        exact ⟨_, rfl, own_empty _ _ rfl (ext_gw _ _).size_le, by repeat (with_reducible first | exact Ext.refl _ | refine Ext.setCell ?_ (by first | (simp; done) | (simp; omega)) _ | refine Ext.alloc ?_ _ | refine Ext.gw ?_ _ | refine Ext.drew ?_)⟩
set_option maxHeartbeats 4000000 in
theorem specPutInGang_yes (A : Option Addr) (n c : Nat) (m : Nat → Wk) (id g : Int) (w : World) (hc : c ≤ maxLen) (hnc : n ≤ c) (hr : Rd w A n 5 (wkF m)) (j : Nat) (hv : workersB n m = true) (hj : findWorker n m id = (j : Int)) (hjn : j < n) (hg : inB g 0 5 = true) (hne : (m j).gang ≠ g) : Calls Try.prog 28 #[.slice A n c, .int .i64 id, .int .i64 g] w (RetS 49 5 n (wkF (setG m j g)) true w) := by
  have HR := Lib.hid hr
  have HC := Lib.hid hc
  have HN := Lib.hid hnc
  have HV := Lib.hid (workersB_iff.1 hv)
  have hn12 := (workersB_iff.1 hv).1
  unfold maxLen at hc
  have HJ : Hid (findWorkerV n m id = (j : Int)) := Lib.hid (by rw [show findWorkerV n m id = findWorker n m id from if_pos hv]; exact hj)
  have q : ((m j).gang == g) = false := by simp [hne]
  have HP : Hid (∀ i l, i < n → l < 5 → wkF (setG m j g) i l = if i = j ∧ l = 1 then .int .i64 g else wkF m i l) := Lib.hid (fun i l _ hl => setG_F m j g i l hl)
  obtain ⟨b, off, rfl, hb, c0, c1, c2, c3, c4⟩ := hr.atWorker hjn
  have j0 : (0 : Int) ≤ (j : Int) := by omega
  have j1 : (j : Int) < (n : Int) := by omega
  have HB : Hid (∀ i l, i < n → l < 5 → w.cell? ⟨b, off + i * 5 + l, none⟩ = some (wkF m i l)) := Lib.hid (fun i l hi hl => by
    obtain ⟨g2, off2, hA, _, hcell⟩ := hr (by omega)
    injection hA with hA
    injection hA with e1 e2 _
    subst e1 e2
    have := hcell i l hi hl
    rw [Nat.add_assoc]
    exact this)
  clear hj hne
  go_enter Try.func28, Try.ntmps28
  go_wp2_with (first | (go_at_call 53; refine (l5Find_is _ _ _ _ _ _ _ HC.out HN.out (by first | exact HR.out | exact HR.out.ext (ext_gw _ _)) HJ.out).mono ?_; rintro e w1 ⟨rfl, hx⟩; (try replace hx := Ext.flat hx); obtain ⟨x, rfl⟩ := hx.to_gw; clear hx) | (go_at_call 50; refine (l1In_any _ _ _ _).mono ?_; rintro e w1 ⟨rfl, rfl⟩) | (at_builtin; refine wpList_append_all rfl _ _ elWorker rfl rfl (own_empty (gw w x) (gw w x).heap.size rfl (Nat.le_refl _)) rfl (fun i l hi hl => (((ext_gw w x).alloc _).cell hb).trans (HB.out i l hi hl)) (fun i l _ hl => wkF_one m i l hl) (by omega) (by simp) ?_))
  intro v1 w1 hown hx
  replace hown := hown.lower (ext_gw _ _).size_le
  replace hx := (ext_gw w x).trans (hx (gw w x) (Ext.alloc (Ext.refl _) _) (Nat.le_refl _))
  obtain ⟨A1, cap1, rfl, hcap0, hcap1, hform⟩ := hown.form
  obtain ⟨g1, rfl, _, hg1b, hg1, hcell⟩ := hform (by omega)
  obtain ⟨d0, f0⟩ := hcell j 0 hjn (by omega)
  obtain ⟨d1, f1⟩ := hcell j 1 hjn (by omega)
  obtain ⟨d2, f2⟩ := hcell j 2 hjn (by omega)
  obtain ⟨d3, f3⟩ := hcell j 3 hjn (by omega)
  obtain ⟨d4, f4⟩ := hcell j 4 hjn (by omega)
  rw [Nat.add_zero] at d0 f0
  replace d0 : _ = some (Value.int .i64 (m j).id) := d0
  replace d1 : _ = some (Value.int .i64 (m j).gang) := d1
  replace d2 : _ = some (Value.int .i64 (m j).rakes) := d2
  replace d3 : _ = some (Value.bool (m j).cart) := d3
  replace d4 : _ = some (Value.int .i64 (m j).free) := d4
  clear hform hcell
  unfold maxLen at hcap1
  go_wp2
  go_ret2
  have a1 := (hown.put (wkF (fun _ => { m j with gang := g }) 0) hjn 5 (Nat.le_refl _)).1.congr (f' := wkF (setG m j g)) (fun i l hi hl => by
    by_cases hij : i = j
    · rw [if_pos ⟨hij, hl⟩]
      exact wkF_at (by unfold setG; rw [if_pos hij]) l
    · rw [if_neg (fun hh => hij hh.1)]
      exact wkF_at (by unfold setG; rw [if_neg hij]) l)
  exact ⟨_, rfl, a1.ext (Ext.alloc (Ext.refl _) _), ((hx.put hg1b (j * 5) (wkF (fun _ => { m j with gang := g }) 0) 5).alloc _)⟩
end Go.Proofs.Ytjfeicbffioinaa
