/- ChangeFree: the contracts. -/
import Derived.Test.YtjfeicbffioinaaPut
import Derived.Test.YtjfeicbffioinaaWeek
namespace Go.Proofs.Ytjfeicbffioinaa
open Go.RowKit
set_option linter.unusedVariables false

def setF (m : Nat → Wk) (j : Nat) (d : Int) : Nat → Wk := fun i => if i = j then { m j with free := d } else m i
theorem setF_F (m : Nat → Wk) (j : Nat) (d : Int) (i l : Nat) (hl : l < 5) : wkF (setF m j d) i l = if i = j ∧ l = 4 then .int .i64 d else wkF m i l := by
  unfold setF
  by_cases h : i = j
  · subst h
    match l, hl with
    | 0, _ => simp [wkF]
    | 1, _ => simp [wkF]
    | 2, _ => simp [wkF]
    | 3, _ => simp [wkF]
    | 4, _ => simp [wkF]
  · rw [if_neg (fun hh => h hh.1)]
    match l, hl with
    | 0, _ => simp [wkF, h]
    | 1, _ => simp [wkF, h]
    | 2, _ => simp [wkF, h]
    | 3, _ => simp [wkF, h]
    | 4, _ => simp [wkF, h]
theorem setF_set (m : Nat → Wk) (j : Nat) (d e : Int) : setF (setF m j d) j e = setF m j e := by
  funext i
  unfold setF
  by_cases h : i = j
  · simp [h]
  · simp [h]
theorem setF_P {n : Nat} {m : Nat → Wk} (h : workersP n m) (j : Nat) (hj : j < n) (d : Int) (d0 : 0 ≤ d) (d1 : d ≤ 6) : workersP n (setF m j d) := by
  refine ⟨h.1, fun i hi => ?_⟩
  have hid : ∀ i, (setF m j d i).id = (m i).id := fun i => by unfold setF; split <;> simp_all
  obtain ⟨h1, h2⟩ := h.2 i hi
  refine ⟨?_, ?_⟩
  · by_cases hij : i = j
    · subst hij
      obtain ⟨p1, p2, p3, p4⟩ := h1
      have e : setF m i d i = { m i with free := d } := if_pos rfl
      rw [e]
      exact ⟨p1, p2, p3, d0, d1⟩
    · have e : setF m j d i = m i := if_neg hij
      rw [e]
      exact h1
  · rw [hid, hid]
    exact h2
def wkTo (m : Nat → Wk) (g : Int) (n : Nat) : Nat → Int
  | 0 => 0
  | k + 1 => wkTo m g n k + rakedV m g k 0 n
theorem wkTo_bd {n : Nat} {m : Nat → Wk} (g : Int) (h : workersP n m) (k : Nat) : 0 ≤ wkTo m g n k ∧ wkTo m g n k ≤ 600 * (k : Int) := by
  induction k with
  | zero => exact ⟨Int.le_refl _, Int.le_refl _⟩
  | succ k ih =>
    have := (rakedV_pos g k 0 h).2
    unfold wkTo
    omega
def allTo (m : Nat → Wk) (n : Nat) : Nat → Int
  | 0 => 0
  | k + 1 => allTo m n k + wkTo m ((k : Int) + 1) n 7
theorem allTo_bd {n : Nat} {m : Nat → Wk} (h : workersP n m) (k : Nat) : 0 ≤ allTo m n k ∧ allTo m n k ≤ 4200 * (k : Int) := by
  induction k with
  | zero => exact ⟨Int.le_refl _, Int.le_refl _⟩
  | succ k ih =>
    have := wkTo_bd ((k : Int) + 1) h 7
    unfold allTo
    omega
def bestTo (m : Nat → Wk) (n j : Nat) : Nat → Int × Int
  | 0 => (0, -1)
  | k + 1 => if (bestTo m n j k).2 < allTo (setF m j k) n 5 then ((k : Int), allTo (setF m j k) n 5) else bestTo m n j k
theorem bestTo_bd {n : Nat} {m : Nat → Wk} (h : workersP n m) (j : Nat) (hj : j < n) (k : Nat) (hk : k ≤ 7) : -1 ≤ (bestTo m n j k).2 ∧ (bestTo m n j k).2 ≤ 21000 := by
  induction k with
  | zero => exact ⟨by simp [bestTo], by simp [bestTo]⟩
  | succ k ih =>
    have h1 := ih (by omega)
    have h2 := allTo_bd (setF_P h j hj k (by omega) (by omega)) 5
    unfold bestTo
    split
    · exact ⟨by show (-1 : Int) ≤ allTo _ _ _; omega, by show allTo _ _ _ ≤ (21000 : Int); omega⟩
    · exact h1
theorem l5Week_any (A : Option Addr) (n c : Nat) (m : Nat → Wk) (g : Int) (w : World) (hc : c ≤ maxLen) (hnc : n ≤ c) (hr : Rd w A n 5 (wkF m)) (hv : workersP n m) :
    Calls Try.prog 56 #[.slice A n c, .int .i64 g] w fun e w' => e = .returned (.int .i64 (wkTo m g n 7)) ∧ Ext w w' := by
  have HR := Lib.hid hr
  have HC := Lib.hid hc
  have HN := Lib.hid hnc
  have HV := Lib.hid hv
  clear hr hc hnc hv
  go_enter Try.func56, Try.ntmps56
  go_wp2
  go_loopw [5, 6, 7, 8] (fun s i _ _ wr => ∃ k : Nat, i = .int .i64 k ∧ k ≤ 7 ∧ s = .int .i64 (wkTo m g n k) ∧ ∃ y, wr = gw w y) (fun _ i _ _ _ => 7 - (intOf i).toNat)
  case atStart => exact ⟨0, rfl, by omega, rfl, (Ext.refl w).to_gw⟩
  case round =>
    obtain ⟨k, rfl, hk, rfl, y, rfl⟩ := hrel
    have hb := wkTo_bd g HV.out k
    by_cases hlt : k < 7
    · have hb2 := (rakedV_pos g k 0 HV.out).2
      go_wp2_with fail
      refine (l5Raked_any _ _ _ m g k 0 _ HC.out HN.out (HR.out.ext (ext_gw _ _)) HV.out).mono ?_
      rintro e w1 ⟨rfl, hx⟩
      obtain ⟨x, rfl⟩ := (Ext.flat hx).to_gw
      clear hx
      go_wp2
      go_roundw
      case rel => exact ⟨k + 1, by go_num, by omega, rfl, _, rfl⟩
      case measure => simp [intOf]; omega
    · obtain rfl : k = 7 := by omega
      go_wp2
      go_ret
      exact ⟨rfl, ext_gw _ _⟩
theorem sumOf_any (v : Value) (n : Nat) (m : Nat → Wk) (g : Int) (w : World) {b e : Nat} (h : OwnS w b e 1 v 7 (mk1 (weekV m g n))) (hv : workersP n m) :
    Calls Try.prog 57 #[v] w fun e w' => e = .returned (.int .i64 (wkTo m g n 7)) ∧ w = w' := by
  have HV := Lib.hid hv
  clear hv
  obtain ⟨A, c, rfl, hc, hnc, hr⟩ := h.rd
  unfold maxLen at *
  go_enter Try.func57, Try.ntmps57
  go_wp2
  go_loop [3, 5, 8] (fun s _ i => ∃ k : Nat, i = .int .i64 k ∧ k ≤ 7 ∧ s = .int .i64 (wkTo m g n k)) (fun _ _ i => 7 - (intOf i).toNat)
  case atStart => exact ⟨0, rfl, by omega, rfl⟩
  case round =>
    obtain ⟨k, rfl, hk, rfl⟩ := hrel
    have hb := wkTo_bd g HV.out k
    by_cases hlt : k < 7
    · have hb2 := (rakedV_pos g k 0 HV.out).2
      obtain ⟨gb, off, rfl, hgb, c0⟩ := hr.at1 hlt
      replace c0 : _ = some (Value.int .i64 (rakedV m g k 0 n)) := c0
      have i0 : (0 : Int) ≤ (k : Int) := by omega
      have i1 : (k : Int) < 7 := by omega
      go_wp2
      go_round
      case rel => exact ⟨k + 1, by go_num, by omega, rfl⟩
      case measure => simp [intOf]; omega
    · obtain rfl : k = 7 := by omega
      go_wp2
      go_ret
      exact ⟨rfl, rfl⟩
noncomputable def chC (n : Nat) (m : Nat → Wk) (id : Int) : Bool := workersB n m && decide (0 ≤ findWorker n m id)
noncomputable def chV (n : Nat) (m : Nat → Wk) (id : Int) : Int × Int := if chC n m id = true then bestTo m n (findWorker n m id).toNat 7 else (0, 0)
set_option maxHeartbeats 4000000 in
theorem specChange_any (A : Option Addr) (n c : Nat) (m : Nat → Wk) (id : Int) (w : World) (hc : c ≤ maxLen) (hnc : n ≤ c) (hr : Rd w A n 5 (wkF m)) : Calls Try.prog 37 #[.slice A n c, .int .i64 id] w fun e w' => e = .returned (.tuple #[.int .i64 (chV n m id).1, .int .i64 (chV n m id).2, .bool (chC n m id)]) ∧ Ext w w' := by
  have HR := Lib.hid hr
  have HC := Lib.hid hc
  have HN := Lib.hid hnc
  unfold maxLen at hc
  cases hv : workersB n m
  · have ho : chC n m id = false := by unfold chC; rw [hv]; rfl
    rw [show chV n m id = (0, 0) by unfold chV; rw [ho]; rfl, ho]
    have HJ : Hid (findWorkerV n m id = -1) := Lib.hid (if_neg (by rw [hv]; simp))
    clear hr ho
    go_enter Try.func37, Try.ntmps37
    go_wp2_with (first | (go_at_call 53; refine (l5Find_is _ _ _ _ _ _ _ HC.out HN.out (by first | exact HR.out | exact HR.out.ext (ext_gw _ _)) HJ.out).mono ?_; rintro e w1 ⟨rfl, hx⟩; (try replace hx := Ext.flat hx); obtain ⟨x, rfl⟩ := hx.to_gw; clear hx) | fail)
    go_ret3
    exact ⟨rfl, by repeat (with_reducible first | exact Ext.refl _ | refine Ext.setCell ?_ (by first | (simp; done) | (simp; omega)) _ | refine Ext.alloc ?_ _ | refine Ext.gw ?_ _ | refine Ext.drew ?_)⟩
  · have hfv : findWorkerV n m id = findWorker n m id := if_pos hv
    rcases findWorker_bd n m id with hf | ⟨j, hj, hjn, hid⟩
    · have ho : chC n m id = false := by unfold chC; rw [hf]; simp
      rw [show chV n m id = (0, 0) by unfold chV; rw [ho]; rfl, ho]
      have HJ : Hid (findWorkerV n m id = -1) := Lib.hid (by rw [hfv]; exact hf)
      clear hr ho hfv hf
      go_enter Try.func37, Try.ntmps37
      go_wp2_with (first | (go_at_call 53; refine (l5Find_is _ _ _ _ _ _ _ HC.out HN.out (by first | exact HR.out | exact HR.out.ext (ext_gw _ _)) HJ.out).mono ?_; rintro e w1 ⟨rfl, hx⟩; (try replace hx := Ext.flat hx); obtain ⟨x, rfl⟩ := hx.to_gw; clear hx) | fail)
      go_ret3
      exact ⟨rfl, by repeat (with_reducible first | exact Ext.refl _ | refine Ext.setCell ?_ (by first | (simp; done) | (simp; omega)) _ | refine Ext.alloc ?_ _ | refine Ext.gw ?_ _ | refine Ext.drew ?_)⟩
    · clear hid
      have ho : chC n m id = true := by unfold chC; rw [hv, hj, decide_eq_true (by omega)]; rfl
      rw [show chV n m id = bestTo m n j 7 by unfold chV; rw [ho, hj]; rfl, ho]
      have HJ : Hid (findWorkerV n m id = (j : Int)) := Lib.hid (by rw [hfv]; exact hj)
      have HV := Lib.hid (workersB_iff.1 hv)
      have hn12 := (workersB_iff.1 hv).1
      clear ho hfv hj
      obtain ⟨b, off, rfl, hb, _⟩ := hr.atWorker hjn
      have j0 : (0 : Int) ≤ (j : Int) := by omega
      have j1 : (j : Int) < (n : Int) := by omega
      have HB : Hid (∀ i l, i < n → l < 5 → w.cell? ⟨b, off + i * 5 + l, none⟩ = some (wkF m i l)) := Lib.hid (fun i l hi hl => by
        obtain ⟨g2, off2, hA, _, hcell⟩ := hr (by omega)
        injection hA with hA
        injection hA with e1 e2 _
        subst e1 e2
        have := hcell i l hi hl
        rw [Nat.add_assoc]
        exact this)
      go_enter Try.func37, Try.ntmps37
      go_wp2_with (first | (go_at_call 53; refine (l5Find_is _ _ _ _ _ _ _ HC.out HN.out (by first | exact HR.out | exact HR.out.ext (ext_gw _ _)) HJ.out).mono ?_; rintro e w1 ⟨rfl, hx⟩; (try replace hx := Ext.flat hx); obtain ⟨x, rfl⟩ := hx.to_gw; clear hx) | fail)
      go_loopw [8, 9, 10, 11, 13, 14] (fun bv mv i _ _ _ wr => ∃ k : Nat, i = .int .i64 k ∧ k ≤ 7 ∧ bv = .int .i64 (bestTo m n j k).1 ∧ mv = .int .i64 (bestTo m n j k).2 ∧ ∃ y, wr = gw w y) (fun _ _ i _ _ _ _ => 7 - (intOf i).toNat)
      case atStart => exact ⟨0, rfl, by omega, rfl, rfl, _, rfl⟩
      case round =>
        obtain ⟨k, rfl, hk, rfl, rfl, y, rfl⟩ := hrel
        have hbb := bestTo_bd HV.out j hjn k hk
        by_cases hlt : k < 7
        · have HP := Lib.hid (setF_P HV.out j hjn (k : Int) (by omega) (by omega))
          go_wp2_with (at_builtin; refine wpList_append_all rfl _ _ elWorker rfl rfl (own_empty (gw w y) (gw w y).heap.size rfl (Nat.le_refl _)) rfl (fun i l hi hl => (((ext_gw w y).alloc _).cell hb).trans (HB.out i l hi hl)) (fun i l _ hl => wkF_one m i l hl) (by omega) (by simp) ?_)
          intro v1 w1 hown hx
          replace hown := hown.lower (ext_gw _ _).size_le
          replace hx := (ext_gw w y).trans (hx (gw w y) (Ext.alloc (Ext.refl _) _) (Nat.le_refl _))
          obtain ⟨A1, cap1, rfl, hcap0, hcap1, hform⟩ := hown.form
          obtain ⟨g1, rfl, _, hg1b, hg1, hcell⟩ := hform (by omega)
          obtain ⟨d0, f0⟩ := hcell j 0 hjn (by omega)
          obtain ⟨d1, f1⟩ := hcell j 1 hjn (by omega)
          obtain ⟨d2, f2⟩ := hcell j 2 hjn (by omega)
          obtain ⟨d3, f3⟩ := hcell j 3 hjn (by omega)
          obtain ⟨d4, f4⟩ := hcell j 4 hjn (by omega)
          rw [Nat.add_zero] at d0 f0
          replace d0 : _ = some (Value.int .i64 (m j).id) := d0
          replace d1 : _ = some (Value.int .i64 (m j).gang) := d1
          replace d2 : _ = some (Value.int .i64 (m j).rakes) := d2
          replace d3 : _ = some (Value.bool (m j).cart) := d3
          replace d4 : _ = some (Value.int .i64 (m j).free) := d4
          clear hform hcell
          unfold maxLen at hcap1
          have a1 := (hown.put (wkF (fun _ => { m j with free := (k : Int) }) 0) hjn 5 (Nat.le_refl _)).1.congr (f' := wkF (setF m j k)) (fun i l hi hl => by
            by_cases hij : i = j
            · rw [if_pos ⟨hij, hl⟩]
              exact wkF_at (by unfold setF; rw [if_pos hij]) l
            · rw [if_neg (fun hh => hij hh.1)]
              exact wkF_at (by unfold setF; rw [if_neg hij]) l)
          have hx3 := hx.put hg1b (j * 5) (wkF (fun _ => { m j with free := (k : Int) }) 0) 5
          go_wp2
          go_loopw [13, 14] (fun s g wr => ∃ q : Nat, g = .int .i64 ((q : Int) + 1) ∧ q ≤ 5 ∧ s = .int .i64 (allTo (setF m j k) n q) ∧ OwnS wr w.heap.size 49 5 (.slice (some ⟨g1, 0, none⟩) n cap1) n (wkF (setF m j k)) ∧ ∃ y, wr = gw w y) (fun _ g _ => 7 - (intOf g).toNat)
          case atStart => exact ⟨0, rfl, by omega, rfl, a1.ext (Ext.alloc (Ext.refl _) _), (hx3.alloc _).to_gw⟩
          case round =>
            obtain ⟨q, rfl, hq, rfl, hown3, y2, rfl⟩ := hrel
            clear a1 hx3 hx hown d0 d1 d2 d3 d4 f0 f1 f2 f3 f4
            have hba := allTo_bd HP.out q
            by_cases hlq : q < 5
            · have HQ := Lib.hid (show allTo (setF m j k) n (q + 1) = allTo (setF m j k) n q + wkTo (setF m j k) ((q : Int) + 1) n 7 from rfl)
              have hbw := wkTo_bd ((q : Int) + 1) HP.out 7
              obtain ⟨A3, c3, hv3, hc3, hnc3, hr3⟩ := hown3.rd
              injection hv3 with hA3 _ hc4
              subst hA3 hc4
              go_wp2_with fail
              refine (l5Week_any _ _ _ (setF m j k) ((q : Int) + 1) _ hc3 hnc3 hr3 HP.out).mono ?_
              rintro e w4 ⟨rfl, hx4⟩
              replace hown3 := hown3.ext hx4
              obtain ⟨x4, rfl⟩ := (Ext.flat hx4).to_gw
              clear hx4
              go_wp2
              go_roundw
              case rel => exact ⟨q + 1, by go_num, by omega, congrArg (Value.int .i64) HQ.out.symm, hown3, _, rfl⟩
              case measure => simp [intOf]; omega
            · obtain rfl : q = 5 := by omega
              by_cases hs : (bestTo m n j k).2 < allTo (setF m j k) n 5
              · have HE := Lib.hid (show bestTo m n j (k + 1) = ((k : Int), allTo (setF m j k) n 5) from if_pos hs)
                go_wp2
                go_roundw
                case rel => exact ⟨k + 1, by go_num, by omega, by rw [HE.out], by rw [HE.out], _, rfl⟩
                case measure => simp [intOf]; omega
              · have HE := Lib.hid (show bestTo m n j (k + 1) = bestTo m n j k from if_neg hs)
                go_wp2
                go_roundw
                case rel => exact ⟨k + 1, by go_num, by omega, by rw [HE.out], by rw [HE.out], _, rfl⟩
                case measure => simp [intOf]; omega
        · obtain rfl : k = 7 := by omega
          go_wp2
          go_ret3
          exact ⟨rfl, ext_gw _ _⟩
set_option maxHeartbeats 4000000 in
theorem implChange_any (A : Option Addr) (n c : Nat) (m : Nat → Wk) (id : Int) (w : World) (hc : c ≤ maxLen) (hnc : n ≤ c) (hr : Rd w A n 5 (wkF m)) : Calls Try.prog 38 #[.slice A n c, .int .i64 id] w fun e w' => e = .returned (.tuple #[.int .i64 (chV n m id).1, .int .i64 (chV n m id).2, .bool (chC n m id)]) ∧ Ext w w' := by
  have HR := Lib.hid hr
  have HC := Lib.hid hc
  have HN := Lib.hid hnc
  unfold maxLen at hc
  cases hv : workersB n m
  · have ho : chC n m id = false := by unfold chC; rw [hv]; rfl
    rw [show chV n m id = (0, 0) by unfold chV; rw [ho]; rfl, ho]
    have HJ : Hid (findWorker n m id = findWorker n m id) := Lib.hid (rfl)
    clear hr ho
    go_enter Try.func38, Try.ntmps38
    go_wp2_with (first | (go_at_call 54; refine (workerAt_is _ _ _ _ _ _ _ HC.out HN.out (by first | exact HR.out | exact HR.out.ext (ext_gw _ _)) HJ.out).mono ?_; rintro e w1 ⟨rfl, hx⟩; (try replace hx := Ext.flat hx); obtain ⟨x, rfl⟩ := hx.to_gw; clear hx) | (go_at_call 16; refine (areWorkers_any _ _ _ _ _ HC.out HN.out (by first | exact HR.out | exact HR.out.ext (ext_gw _ _))).mono ?_; rintro e w1 ⟨rfl, hx⟩; (try replace hx := Ext.flat hx); obtain ⟨x, rfl⟩ := hx.to_gw; clear hx))
    go_ret3
    exact ⟨rfl, by repeat (with_reducible first | exact Ext.refl _ | refine Ext.setCell ?_ (by first | (simp; done) | (simp; omega)) _ | refine Ext.alloc ?_ _ | refine Ext.gw ?_ _ | refine Ext.drew ?_)⟩
  · have hfv : findWorkerV n m id = findWorker n m id := if_pos hv
    rcases findWorker_bd n m id with hf | ⟨j, hj, hjn, hid⟩
    · have ho : chC n m id = false := by unfold chC; rw [hf]; simp
      rw [show chV n m id = (0, 0) by unfold chV; rw [ho]; rfl, ho]
      have HJ : Hid (findWorker n m id = -1) := Lib.hid (by exact hf)
      clear hr ho hfv hf
      go_enter Try.func38, Try.ntmps38
      go_wp2_with (first | (go_at_call 54; refine (workerAt_is _ _ _ _ _ _ _ HC.out HN.out (by first | exact HR.out | exact HR.out.ext (ext_gw _ _)) HJ.out).mono ?_; rintro e w1 ⟨rfl, hx⟩; (try replace hx := Ext.flat hx); obtain ⟨x, rfl⟩ := hx.to_gw; clear hx) | (go_at_call 16; refine (areWorkers_any _ _ _ _ _ HC.out HN.out (by first | exact HR.out | exact HR.out.ext (ext_gw _ _))).mono ?_; rintro e w1 ⟨rfl, hx⟩; (try replace hx := Ext.flat hx); obtain ⟨x, rfl⟩ := hx.to_gw; clear hx))
      go_ret3
      exact ⟨rfl, by repeat (with_reducible first | exact Ext.refl _ | refine Ext.setCell ?_ (by first | (simp; done) | (simp; omega)) _ | refine Ext.alloc ?_ _ | refine Ext.gw ?_ _ | refine Ext.drew ?_)⟩
    · clear hid
      have ho : chC n m id = true := by unfold chC; rw [hv, hj, decide_eq_true (by omega)]; rfl
      rw [show chV n m id = bestTo m n j 7 by unfold chV; rw [ho, hj]; rfl, ho]
      have HJ : Hid (findWorker n m id = (j : Int)) := Lib.hid (by exact hj)
      have HV := Lib.hid (workersB_iff.1 hv)
      have hn12 := (workersB_iff.1 hv).1
      clear ho hfv hj
      obtain ⟨b, off, rfl, hb, _⟩ := hr.atWorker hjn
      have j0 : (0 : Int) ≤ (j : Int) := by omega
      have j1 : (j : Int) < (n : Int) := by omega
      have HB : Hid (∀ i l, i < n → l < 5 → w.cell? ⟨b, off + i * 5 + l, none⟩ = some (wkF m i l)) := Lib.hid (fun i l hi hl => by
        obtain ⟨g2, off2, hA, _, hcell⟩ := hr (by omega)
        injection hA with hA
        injection hA with e1 e2 _
        subst e1 e2
        have := hcell i l hi hl
        rw [Nat.add_assoc]
        exact this)
      go_enter Try.func38, Try.ntmps38
      go_wp2_with (first | (go_at_call 54; refine (workerAt_is _ _ _ _ _ _ _ HC.out HN.out (by first | exact HR.out | exact HR.out.ext (ext_gw _ _)) HJ.out).mono ?_; rintro e w1 ⟨rfl, hx⟩; (try replace hx := Ext.flat hx); obtain ⟨x, rfl⟩ := hx.to_gw; clear hx) | (go_at_call 16; refine (areWorkers_any _ _ _ _ _ HC.out HN.out (by first | exact HR.out | exact HR.out.ext (ext_gw _ _))).mono ?_; rintro e w1 ⟨rfl, hx⟩; (try replace hx := Ext.flat hx); obtain ⟨x, rfl⟩ := hx.to_gw; clear hx))
      refine (cloneWorker_any b off n c m _ HC.out HN.out (HR.out.ext (by first | exact ext_gw _ _ | exact Ext.refl _)) (by omega) (by omega)).mono ?_
      rintro e w1 ⟨v1, rfl, hown, hx⟩
      replace hown := hown.lower (ext_gw _ _).size_le
      replace hx := Ext.flat hx
      obtain ⟨A1, cap1, rfl, hcap0, hcap1, hform⟩ := hown.form
      obtain ⟨g1, rfl, _, hg1b, _⟩ := hform (by omega)
      clear hform
      go_wp2
      go_loopw [8, 9, 11, 12, 13, 26] (fun bv mv _ _ _ i wr => ∃ k : Nat, i = .int .i64 k ∧ k ≤ 7 ∧ bv = .int .i64 (bestTo m n j k).1 ∧ mv = .int .i64 (bestTo m n j k).2 ∧ (∃ m', OwnS wr w.heap.size 49 5 (.slice (some ⟨g1, 0, none⟩) n cap1) n (wkF m') ∧ Hid (∀ d, setF m' j d = setF m j d)) ∧ ∃ y, wr = gw w y) (fun _ _ _ _ _ i _ => 7 - (intOf i).toNat)
      case atStart => exact ⟨0, rfl, by omega, rfl, rfl, ⟨m, hown, Lib.hid fun d => rfl⟩, hx.to_gw⟩
      case round =>
        obtain ⟨k, rfl, hk, rfl, rfl, ⟨m', hown2, HM⟩, y, rfl⟩ := hrel
        clear hown hx
        have hbb := bestTo_bd HV.out j hjn k hk
        by_cases hlt : k < 7
        · have HP := Lib.hid (setF_P HV.out j hjn (k : Int) (by omega) (by omega))
          obtain ⟨A2, cap2, hv2, _, hcapm, hform⟩ := hown2.form
          injection hv2 with hA2 _ hc2
          subst hA2 hc2
          obtain ⟨g2, hg2, _, _, hgl, hcell⟩ := hform (by omega)
          injection hg2 with hg2
          injection hg2 with hg2 _ _
          subst hg2
          obtain ⟨d4, f4⟩ := hcell j 4 hjn (by omega)
          clear hform hcell
          unfold maxLen at hcapm
          have a1 := (hown2.stored hjn (j := 4) (by omega) (.int .i64 (k : Int))).congr (f' := wkF (setF m j k)) (fun i l hi hl => by
            rw [← HM.out, setF_F m' j k i l hl])
          have hx3 := (ext_gw w y).setCell (p := ⟨g1, j * 5 + 4, none⟩) hg1b (.int .i64 (k : Int))
          go_wp2
          go_loopw [12, 13] (fun s g wr => ∃ q : Nat, g = .int .i64 ((q : Int) + 1) ∧ q ≤ 5 ∧ s = .int .i64 (allTo (setF m j k) n q) ∧ OwnS wr w.heap.size 49 5 (.slice (some ⟨g1, 0, none⟩) n cap1) n (wkF (setF m j k)) ∧ ∃ y, wr = gw w y) (fun _ g _ => 7 - (intOf g).toNat)
          case atStart => exact ⟨0, rfl, by omega, rfl, a1, hx3.to_gw⟩
          case round =>
            obtain ⟨q, rfl, hq, rfl, hown3, y2, rfl⟩ := hrel
            clear a1 hx3
            have hba := allTo_bd HP.out q
            by_cases hlq : q < 5
            · have HQ := Lib.hid (show allTo (setF m j k) n (q + 1) = allTo (setF m j k) n q + wkTo (setF m j k) ((q : Int) + 1) n 7 from rfl)
              have hbw := wkTo_bd ((q : Int) + 1) HP.out 7
              obtain ⟨A3, c3, hv3, hc3, hnc3, hr3⟩ := hown3.rd
              injection hv3 with hA3 _ hc4
              subst hA3 hc4
              go_wp2_with fail
              refine (rakedWeek_any _ _ _ (setF m j k) ((q : Int) + 1) _ hc3 hnc3 hr3 HP.out).mono ?_
              rintro e w4 ⟨v4, rfl, hweek, hx4⟩
              replace hown3 := hown3.ext hx4
              obtain ⟨x4, rfl⟩ := (Ext.flat hx4).to_gw
              clear hx4
              go_wp2_with fail
              refine (sumOf_any _ _ (setF m j k) _ _ hweek HP.out).mono ?_
              rintro e w5 ⟨rfl, rfl⟩
              go_wp2
              go_roundw
              case rel => exact ⟨q + 1, by go_num, by omega, congrArg (Value.int .i64) HQ.out.symm, hown3, _, rfl⟩
              case measure => simp [intOf]; omega
            · obtain rfl : q = 5 := by omega
              by_cases hs : (bestTo m n j k).2 < allTo (setF m j k) n 5
              · have HE := Lib.hid (show bestTo m n j (k + 1) = ((k : Int), allTo (setF m j k) n 5) from if_pos hs)
                go_wp2
                go_roundw
                case rel => exact ⟨k + 1, by go_num, by omega, by rw [HE.out], by rw [HE.out], ⟨_, hown3, Lib.hid fun d => setF_set m j k d⟩, _, rfl⟩
                case measure => simp [intOf]; omega
              · have HE := Lib.hid (show bestTo m n j (k + 1) = bestTo m n j k from if_neg hs)
                go_wp2
                go_roundw
                case rel => exact ⟨k + 1, by go_num, by omega, by rw [HE.out], by rw [HE.out], ⟨_, hown3, Lib.hid fun d => setF_set m j k d⟩, _, rfl⟩
                case measure => simp [intOf]; omega
        · obtain rfl : k = 7 := by omega
          go_wp2
          go_ret3
          exact ⟨rfl, ext_gw _ _⟩
end Go.Proofs.Ytjfeicbffioinaa
