/- CutPond: the contracts. -/
import Derived.Test.YtkgnfmdeimaedaaFind
import Derived.Test.YtkgnfmdeimaedaaPondC
import Derived.Test.YtkgnfmdeimaedaaKeep
namespace Go.Proofs.Ytkgnfmdeimaedaa
open Go.RowKit
set_option linter.unusedVariables false

def cutM (m : Nat → Pd) (j n : Nat) (wd : Int) : Nat → Pd := fun i => if i = n then { m j with id := (m (n - 1)).id + 1, left := (m j).left + wd, wide := (m j).wide - wd } else if i = j then { m j with wide := wd } else m i
theorem pdF_at {m m' : Nat → Pd} {i i' : Nat} (h : m i = m' i') (l : Nat) : pdF m i l = pdF m' i' l := by
  match l with
  | 0 => simp [pdF, h]
  | 1 => simp [pdF, h]
  | 2 => simp [pdF, h]
  | 3 => simp [pdF, h]
  | 4 => simp [pdF, h]
  | _ + 5 => simp [pdF, h]
/-- A call that hands back a slice, a number and a bool. -/
def RetS3 (e : TypeId) (size n : Nat) (f : Nat → Nat → Value) (z : Int) (ok : Bool) (w : World) (en : Ending) (w' : World) : Prop :=
  ∃ v, en = .returned (.tuple #[v, .int .i64 z, .bool ok]) ∧ OwnS w' w.heap.size e size v n f ∧ Ext w w'
noncomputable def cutB (n : Nat) (m : Nat → Pd) (id wd : Int) : Bool := fndB n m id && inB wd 1 ((m (findPond n m id).toNat).wide - 1)
theorem cutM_F (m : Nat → Pd) (j n : Nat) (wd : Int) (hj : j < n) (i l : Nat) (hi : i < n) (hl : l < 6) : pdF (cutM m j n wd) i l = if i = j ∧ l = 3 then .int .i64 wd else pdF m i l := by
  unfold cutM
  have hin : ¬ i = n := by omega
  by_cases h : i = j
  · subst h
    match l, hl with
    | 0, _ => simp [pdF, hin]
    | 1, _ => simp [pdF, hin]
    | 2, _ => simp [pdF, hin]
    | 3, _ => simp [pdF, hin]
    | 4, _ => simp [pdF, hin]
    | 5, _ => simp [pdF, hin]
  · rw [if_neg (fun hh => h hh.1)]
    match l, hl with
    | 0, _ => simp [pdF, hin, h]
    | 1, _ => simp [pdF, hin, h]
    | 2, _ => simp [pdF, hin, h]
    | 3, _ => simp [pdF, hin, h]
    | 4, _ => simp [pdF, hin, h]
    | 5, _ => simp [pdF, hin, h]
theorem cutM_same (m : Nat → Pd) (j n : Nat) (wd : Int) (hj : j < n) : cutM m j n wd j = { m j with wide := wd } := by
  unfold cutM
  rw [if_neg (by omega), if_pos rfl]
theorem cutM_other (m : Nat → Pd) (j n : Nat) (wd : Int) {i : Nat} (hi : i < n) (h : i ≠ j) : cutM m j n wd i = m i := by
  unfold cutM
  rw [if_neg (by omega), if_neg h]
theorem cutM_last (m : Nat → Pd) (j n : Nat) (wd : Int) : cutM m j n wd n = { m j with id := (m (n - 1)).id + 1, left := (m j).left + wd, wide := (m j).wide - wd } := by
  unfold cutM
  rw [if_pos rfl]
set_option maxHeartbeats 2000000 in
theorem specCut_no (A : Option Addr) (n c : Nat) (m : Nat → Pd) (id wd : Int) (w : World) (hc : c ≤ maxLen) (hnc : n ≤ c) (hr : Rd w A n 6 (pdF m)) (h : cutB n m id wd = false) : Calls Try.prog 36 #[.slice A n c, .int .i64 id, .int .i64 wd] w (RetS3 51 6 0 (pdF m) (0) false w) := by
  have HR := Lib.hid hr
  have HC := Lib.hid hc
  have HN := Lib.hid hnc
  unfold maxLen at hc
  cases hv : pondsB n m
  · skip
    have HJ : Hid (findPondV n m id = -1) := Lib.hid (if_neg (by rw [hv]; simp))
    clear hr h
    go_enter Try.func36, Try.ntmps36
    go_wp2_with (first | (go_at_call 63; refine (l3Find_is _ _ _ _ _ _ _ HC.out HN.out (by first | exact HR.out | exact HR.out.ext (ext_gw _ _)) HJ.out).mono ?_; rintro e w1 ⟨rfl, hx⟩; (try replace hx := Ext.flat hx); obtain ⟨x, rfl⟩ := hx.to_gw; clear hx) | (go_at_call 61; refine (l1In_any _ _ _ _).mono ?_; rintro e w1 ⟨rfl, rfl⟩))
    go_ret3
    exact ⟨_, rfl, (own_empty (gw w x) _ rfl (ext_gw w x).size_le), by repeat (with_reducible first | exact Ext.refl _ | refine Ext.setCell ?_ (by first | (simp; done) | (simp; omega)) _ | refine Ext.alloc ?_ _ | refine Ext.gw ?_ _ | refine Ext.drew ?_)⟩
  · have hvp := pondsB_iff.1 hv
    rcases findPond_bd n m id with hf | ⟨j, hj, hjn, hid⟩
    · have HJ : Hid (findPondV n m id = -1) := Lib.hid (by rw [show findPondV n m id = findPond n m id from if_pos hv]; exact hf)
      clear hr h hf hvp
      go_enter Try.func36, Try.ntmps36
      go_wp2_with (first | (go_at_call 63; refine (l3Find_is _ _ _ _ _ _ _ HC.out HN.out (by first | exact HR.out | exact HR.out.ext (ext_gw _ _)) HJ.out).mono ?_; rintro e w1 ⟨rfl, hx⟩; (try replace hx := Ext.flat hx); obtain ⟨x, rfl⟩ := hx.to_gw; clear hx) | (go_at_call 61; refine (l1In_any _ _ _ _).mono ?_; rintro e w1 ⟨rfl, rfl⟩))
      go_ret3
      exact ⟨_, rfl, (own_empty (gw w x) _ rfl (ext_gw w x).size_le), by repeat (with_reducible first | exact Ext.refl _ | refine Ext.setCell ?_ (by first | (simp; done) | (simp; omega)) _ | refine Ext.alloc ?_ _ | refine Ext.gw ?_ _ | refine Ext.drew ?_)⟩
    · clear hid
      have HJ : Hid (findPondV n m id = (j : Int)) := Lib.hid (by rw [show findPondV n m id = findPond n m id from if_pos hv]; exact hj)
      have hb : inB wd 1 ((m j).wide - 1) = false := by
        unfold cutB at h
        rw [fndB_yes hv hj, hj, Int.toNat_natCast, Bool.true_and] at h
        exact h
      obtain ⟨g, off, rfl, hg, c0, c1, c2, c3, c4, c5⟩ := hr.atPond hjn
      obtain ⟨⟨_, _, _, ⟨w0, w1⟩, ⟨h0, h2⟩, _, _, d0, d1⟩, _⟩ := hvp.2 j hjn
      have hn10 := hvp.1
      have j0 : (0 : Int) ≤ (j : Int) := by omega
      have j1 : (j : Int) < (n : Int) := by omega
      clear h hj hvp
      go_enter Try.func36, Try.ntmps36
      go_wp2_with (first | (go_at_call 63; refine (l3Find_is _ _ _ _ _ _ _ HC.out HN.out (by first | exact HR.out | exact HR.out.ext (ext_gw _ _)) HJ.out).mono ?_; rintro e w1 ⟨rfl, hx⟩; (try replace hx := Ext.flat hx); obtain ⟨x, rfl⟩ := hx.to_gw; clear hx) | (go_at_call 61; refine (l1In_any _ _ _ _).mono ?_; rintro e w1 ⟨rfl, rfl⟩))
      go_ret3
      exact ⟨_, rfl, (own_empty (gw w x) _ rfl (ext_gw w x).size_le), by repeat (with_reducible first | exact Ext.refl _ | refine Ext.setCell ?_ (by first | (simp; done) | (simp; omega)) _ | refine Ext.alloc ?_ _ | refine Ext.gw ?_ _ | refine Ext.drew ?_)⟩
set_option maxHeartbeats 2000000 in
theorem implCut_no (A : Option Addr) (n c : Nat) (m : Nat → Pd) (id wd : Int) (w : World) (hc : c ≤ maxLen) (hnc : n ≤ c) (hr : Rd w A n 6 (pdF m)) (h : cutB n m id wd = false) : Calls Try.prog 37 #[.slice A n c, .int .i64 id, .int .i64 wd] w (RetS3 51 6 0 (pdF m) (0) false w) := by
  have HR := Lib.hid hr
  have HC := Lib.hid hc
  have HN := Lib.hid hnc
  unfold maxLen at hc
  cases hv : pondsB n m
  · skip
    have HJ : Hid (findPond n m id = findPond n m id) := Lib.hid rfl
    clear hr h
    go_enter Try.func37, Try.ntmps37
    go_wp2_with (first | (go_at_call 64; refine (pondAt_is _ _ _ _ _ _ _ HC.out HN.out (by first | exact HR.out | exact HR.out.ext (ext_gw _ _)) HJ.out).mono ?_; rintro e w1 ⟨rfl, hx⟩; (try replace hx := Ext.flat hx); obtain ⟨x, rfl⟩ := hx.to_gw; clear hx) | (go_at_call 18; refine (arePonds_any _ _ _ _ _ HC.out HN.out (by first | exact HR.out | exact HR.out.ext (ext_gw _ _))).mono ?_; rintro e w1 ⟨rfl, hx⟩; (try replace hx := Ext.flat hx); obtain ⟨x, rfl⟩ := hx.to_gw; clear hx) | (go_at_call 62; refine (within_any _ _ _ _).mono ?_; rintro e w1 ⟨rfl, rfl⟩))
    go_ret3
    exact ⟨_, rfl, OwnS.nil, by repeat (with_reducible first | exact Ext.refl _ | refine Ext.setCell ?_ (by first | (simp; done) | (simp; omega)) _ | refine Ext.alloc ?_ _ | refine Ext.gw ?_ _ | refine Ext.drew ?_)⟩
  · have hvp := pondsB_iff.1 hv
    rcases findPond_bd n m id with hf | ⟨j, hj, hjn, hid⟩
    · have HJ : Hid (findPond n m id = -1) := Lib.hid (by exact hf)
      clear hr h hf hvp
      go_enter Try.func37, Try.ntmps37
      go_wp2_with (first | (go_at_call 64; refine (pondAt_is _ _ _ _ _ _ _ HC.out HN.out (by first | exact HR.out | exact HR.out.ext (ext_gw _ _)) HJ.out).mono ?_; rintro e w1 ⟨rfl, hx⟩; (try replace hx := Ext.flat hx); obtain ⟨x, rfl⟩ := hx.to_gw; clear hx) | (go_at_call 18; refine (arePonds_any _ _ _ _ _ HC.out HN.out (by first | exact HR.out | exact HR.out.ext (ext_gw _ _))).mono ?_; rintro e w1 ⟨rfl, hx⟩; (try replace hx := Ext.flat hx); obtain ⟨x, rfl⟩ := hx.to_gw; clear hx) | (go_at_call 62; refine (within_any _ _ _ _).mono ?_; rintro e w1 ⟨rfl, rfl⟩))
      go_ret3
      exact ⟨_, rfl, OwnS.nil, by repeat (with_reducible first | exact Ext.refl _ | refine Ext.setCell ?_ (by first | (simp; done) | (simp; omega)) _ | refine Ext.alloc ?_ _ | refine Ext.gw ?_ _ | refine Ext.drew ?_)⟩
    · clear hid
      have HJ : Hid (findPond n m id = (j : Int)) := Lib.hid (by exact hj)
      have hb : inB wd 1 ((m j).wide - 1) = false := by
        unfold cutB at h
        rw [fndB_yes hv hj, hj, Int.toNat_natCast, Bool.true_and] at h
        exact h
      obtain ⟨g, off, rfl, hg, c0, c1, c2, c3, c4, c5⟩ := hr.atPond hjn
      obtain ⟨⟨_, _, _, ⟨w0, w1⟩, ⟨h0, h2⟩, _, _, d0, d1⟩, _⟩ := hvp.2 j hjn
      have hn10 := hvp.1
      have j0 : (0 : Int) ≤ (j : Int) := by omega
      have j1 : (j : Int) < (n : Int) := by omega
      clear h hj hvp
      go_enter Try.func37, Try.ntmps37
      go_wp2_with (first | (go_at_call 64; refine (pondAt_is _ _ _ _ _ _ _ HC.out HN.out (by first | exact HR.out | exact HR.out.ext (ext_gw _ _)) HJ.out).mono ?_; rintro e w1 ⟨rfl, hx⟩; (try replace hx := Ext.flat hx); obtain ⟨x, rfl⟩ := hx.to_gw; clear hx) | (go_at_call 18; refine (arePonds_any _ _ _ _ _ HC.out HN.out (by first | exact HR.out | exact HR.out.ext (ext_gw _ _))).mono ?_; rintro e w1 ⟨rfl, hx⟩; (try replace hx := Ext.flat hx); obtain ⟨x, rfl⟩ := hx.to_gw; clear hx) | (go_at_call 62; refine (within_any _ _ _ _).mono ?_; rintro e w1 ⟨rfl, rfl⟩))
      go_ret3
      exact ⟨_, rfl, OwnS.nil, by repeat (with_reducible first | exact Ext.refl _ | refine Ext.setCell ?_ (by first | (simp; done) | (simp; omega)) _ | refine Ext.alloc ?_ _ | refine Ext.gw ?_ _ | refine Ext.drew ?_)⟩
end Go.Proofs.Ytkgnfmdeimaedaa
