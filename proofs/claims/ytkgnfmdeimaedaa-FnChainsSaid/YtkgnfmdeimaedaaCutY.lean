/- CutPond: the contracts where it cuts. -/
import Derived.Test.YtkgnfmdeimaedaaCut
namespace Go.Proofs.Ytkgnfmdeimaedaa
open Go.RowKit
set_option linter.unusedVariables false

set_option maxHeartbeats 1000000 in
theorem specCut_yes (A : Option Addr) (n c : Nat) (m : Nat → Pd) (id wd : Int) (w : World) (hc : c ≤ maxLen) (hnc : n ≤ c) (hr : Rd w A n 6 (pdF m)) (l j : Nat) (hl : n = l + 1) (hv : pondsB n m = true) (hj : findPond n m id = (j : Int)) (hjn : j < n) (hb : inB wd 1 ((m j).wide - 1) = true) (hk : pondsB (n + 1) (cutM m j n wd) = true) :
    Calls Try.prog 36 #[.slice A n c, .int .i64 id, .int .i64 wd] w (RetS3 51 6 (n + 1) (pdF (cutM m j n wd)) ((m l).id + 1) true w) := by
  subst hl
  have HR := Lib.hid hr
  have HC := Lib.hid hc
  have HN := Lib.hid hnc
  have HV := Lib.hid (pondsB_iff.1 hv)
  have hvp := pondsB_iff.1 hv
  have HJ : Hid (findPondV (l + 1) m id = (j : Int)) := Lib.hid (by rw [show findPondV (l + 1) m id = findPond (l + 1) m id from if_pos hv]; exact hj)
  have HK := Lib.hid hk
  have hn10 := hvp.1
  unfold maxLen at hc
  obtain ⟨g, off, rfl, hg, c0, c1, c2, c3, c4, c5⟩ := hr.atPond hjn
  obtain ⟨g2, off2, hA2, _, e0, _⟩ := hr.atPond (show l < l + 1 by omega)
  injection hA2 with hA2
  injection hA2 with f1 f2 _
  subst f1 f2
  obtain ⟨⟨_, ⟨l0, l1⟩, _, ⟨w0, w1⟩, ⟨h0, h2⟩, _, _, d0, d1⟩, _⟩ := hvp.2 j hjn
  obtain ⟨⟨⟨k0, k1⟩, _⟩, _⟩ := hvp.2 l (by omega)
  obtain ⟨b0, b1⟩ := inB_iff.1 hb
  have j0 : (0 : Int) ≤ (j : Int) := by omega
  have j1 : (j : Int) < ((l + 1 : Nat) : Int) := by omega
  have HP : Hid (∀ i q, i < l + 1 → q < 6 → pdF (cutM m j (l + 1) wd) i q = if i = j ∧ q < 6 then pdF (fun _ => { m j with wide := wd }) 0 q else pdF m i q) := Lib.hid (fun i q hi hq => by
    by_cases h : i = j
    · rw [if_pos ⟨h, hq⟩]; exact pdF_at (by rw [h]; exact cutM_same m j (l + 1) wd hjn) q
    · rw [if_neg (fun hh => h hh.1)]; exact pdF_at (cutM_other m j (l + 1) wd hi h) q)
  have HB : Hid (∀ i q, i < l + 1 → q < 6 → w.cell? ⟨g, off + i * 6 + q, none⟩ = some (pdF m i q)) := Lib.hid (fun i q hi hq => by
    obtain ⟨g2, off2, hA, _, hcell⟩ := hr (by omega)
    injection hA with hA
    injection hA with e1 e2 _
    subst e1 e2
    have := hcell i q hi hq
    rw [Nat.add_assoc]
    exact this)
  clear hj hk hvp
  go_enter Try.func36, Try.ntmps36
  go_wp2_with (first | (go_at_call 63; refine (l3Find_is _ _ _ _ _ _ _ HC.out HN.out (by first | exact HR.out | exact HR.out.ext (ext_gw _ _)) HJ.out).mono ?_; rintro e w1 ⟨rfl, hx⟩; (try replace hx := Ext.flat hx); obtain ⟨x, rfl⟩ := hx.to_gw; clear hx) | (go_at_call 61; refine (l1In_any _ _ _ _).mono ?_; rintro e w1 ⟨rfl, rfl⟩) | (at_builtin; refine wpList_append_all rfl _ _ elPond rfl rfl (own_empty (gw w x) (gw w x).heap.size rfl (Nat.le_refl _)) rfl (fun i l hi hl => (((ext_gw w x).alloc _).cell hg).trans (HB.out i l hi hl)) (fun i l _ hl => pdF_one m i l hl) (by omega) (by simp) ?_))
  intro v1 w1 hown hx
  replace hown := hown.lower (ext_gw _ _).size_le
  replace hx := (ext_gw w x).trans (hx (gw w x) (Ext.alloc (Ext.refl _) _) (Nat.le_refl _))
  obtain ⟨A1, cap1, rfl, hcap0, hcap1, hform⟩ := hown.form
  obtain ⟨g1, rfl, _, hg1b, hg1, hcell⟩ := hform (by omega)
  obtain ⟨y0, rfl⟩ := hx.to_gw
  clear hx
  obtain ⟨d0, f0⟩ := hcell j 0 hjn (by omega)
  obtain ⟨d1, f1⟩ := hcell j 1 hjn (by omega)
  obtain ⟨d2, f2⟩ := hcell j 2 hjn (by omega)
  obtain ⟨d3, f3⟩ := hcell j 3 hjn (by omega)
  obtain ⟨d4, f4⟩ := hcell j 4 hjn (by omega)
  obtain ⟨d5, f5⟩ := hcell j 5 hjn (by omega)
  obtain ⟨z0, _⟩ := hcell l 0 (by omega) (by omega)
  rw [Nat.add_zero] at d0 f0 z0
  replace d0 : _ = some (Value.int .i64 (m j).id) := d0
  replace d1 : _ = some (Value.int .i64 (m j).left) := d1
  replace d2 : _ = some (Value.int .i64 (m j).top) := d2
  replace d3 : _ = some (Value.int .i64 (m j).wide) := d3
  replace d4 : _ = some (Value.int .i64 (m j).high) := d4
  replace d5 : _ = some (Value.int .i64 (m j).depth) := d5
  replace z0 : _ = some (Value.int .i64 (m l).id) := z0
  clear hform hcell
  unfold maxLen at hcap1
  have hP0 : OwnS (((((((gw w y0).setCell ⟨g1, j * 6, none⟩ (.int .i64 (m j).id)).setCell ⟨g1, j * 6 + 1, none⟩ (.int .i64 (m j).left)).setCell ⟨g1, j * 6 + 2, none⟩ (.int .i64 (m j).top)).setCell ⟨g1, j * 6 + 3, none⟩ (.int .i64 wd)).setCell ⟨g1, j * 6 + 4, none⟩ (.int .i64 (m j).high)).setCell ⟨g1, j * 6 + 5, none⟩ (.int .i64 (m j).depth)) w.heap.size 51 6 (.slice (some ⟨g1, 0, none⟩) (l + 1) cap1) (l + 1) (pdF (cutM m j (l + 1) wd)) := ((hown.put (pdF (fun _ => { m j with wide := wd }) 0) hjn 6 (Nat.le_refl _)).1.congr HP.out)
  have hx0 : Ext w (((((((gw w y0).setCell ⟨g1, j * 6, none⟩ (.int .i64 (m j).id)).setCell ⟨g1, j * 6 + 1, none⟩ (.int .i64 (m j).left)).setCell ⟨g1, j * 6 + 2, none⟩ (.int .i64 (m j).top)).setCell ⟨g1, j * 6 + 3, none⟩ (.int .i64 wd)).setCell ⟨g1, j * 6 + 4, none⟩ (.int .i64 (m j).high)).setCell ⟨g1, j * 6 + 5, none⟩ (.int .i64 (m j).depth)) := ((((((((Ext.refl w).gw y0).setCell hg1b _).setCell hg1b _).setCell hg1b _).setCell hg1b _).setCell hg1b _).setCell hg1b _)
  go_wp2_with fail
  go_big_region
  · have hX : OwnS (((((((((gw w y0).setCell ⟨g1, j * 6, none⟩ (.int .i64 (m j).id)).setCell ⟨g1, j * 6 + 1, none⟩ (.int .i64 (m j).left)).setCell ⟨g1, j * 6 + 2, none⟩ (.int .i64 (m j).top)).setCell ⟨g1, j * 6 + 3, none⟩ (.int .i64 wd)).setCell ⟨g1, j * 6 + 4, none⟩ (.int .i64 (m j).high)).setCell ⟨g1, j * 6 + 5, none⟩ (.int .i64 (m j).depth)).alloc (Obj.cells #[.int .i64 (m j).id, .int .i64 (m j).left, .int .i64 (m j).top, .int .i64 wd, .int .i64 (m j).high, .int .i64 (m j).depth] 51)).alloc (Obj.cells #[.int .i64 ((m l).id + 1), .int .i64 ((m j).left + wd), .int .i64 (m j).top, .int .i64 ((m j).wide - wd), .int .i64 (m j).high, .int .i64 (m j).depth] 51)) w.heap.size 51 6 (.slice (some ⟨g1, 0, none⟩) (l + 1) cap1) (l + 1) (pdF (cutM m j (l + 1) wd)) := hP0.ext (((Ext.refl _).alloc _).alloc _)
    have hxX : Ext w (((((((((gw w y0).setCell ⟨g1, j * 6, none⟩ (.int .i64 (m j).id)).setCell ⟨g1, j * 6 + 1, none⟩ (.int .i64 (m j).left)).setCell ⟨g1, j * 6 + 2, none⟩ (.int .i64 (m j).top)).setCell ⟨g1, j * 6 + 3, none⟩ (.int .i64 wd)).setCell ⟨g1, j * 6 + 4, none⟩ (.int .i64 (m j).high)).setCell ⟨g1, j * 6 + 5, none⟩ (.int .i64 (m j).depth)).alloc (Obj.cells #[.int .i64 (m j).id, .int .i64 (m j).left, .int .i64 (m j).top, .int .i64 wd, .int .i64 (m j).high, .int .i64 (m j).depth] 51)).alloc (Obj.cells #[.int .i64 ((m l).id + 1), .int .i64 ((m j).left + wd), .int .i64 (m j).top, .int .i64 ((m j).wide - wd), .int .i64 (m j).high, .int .i64 (m j).depth] 51)) := (hx0.alloc _).alloc _
    clear hP0 hx0 hown
    go_wp2_with (at_builtin; refine wpList_append_KD w w.heap.size rfl (by exact hxX) rfl _ _ elPond rfl rfl (by exact hX) _ _ (by show Value.slice (some ⟨(gw w y0).heap.size + 1 + 1, 0, none⟩) 1 1 = _; simp) rfl (by omega) ?_ ?_ ?_)
    · intro q hq
      match q, hq with
      | 0, _ => exact congrArg some (show Value.int .i64 _ = pdF (cutM m j (l + 1) wd) (l + 1) 0 by simp [pdF, cutM])
      | 1, _ => exact congrArg some (show Value.int .i64 _ = pdF (cutM m j (l + 1) wd) (l + 1) 1 by simp [pdF, cutM])
      | 2, _ => exact congrArg some (show Value.int .i64 _ = pdF (cutM m j (l + 1) wd) (l + 1) 2 by simp [pdF, cutM])
      | 3, _ => exact congrArg some (show Value.int .i64 _ = pdF (cutM m j (l + 1) wd) (l + 1) 3 by simp [pdF, cutM])
      | 4, _ => exact congrArg some (show Value.int .i64 _ = pdF (cutM m j (l + 1) wd) (l + 1) 4 by simp [pdF, cutM])
      | 5, _ => exact congrArg some (show Value.int .i64 _ = pdF (cutM m j (l + 1) wd) (l + 1) 5 by simp [pdF, cutM])
    · intro q hq
      exact pdF_one _ _ q hq
    · intro v3 z hown3 hkeep
      obtain ⟨hb1, hc1⟩ := hkeep ((gw w y0).heap.size + 1) (by first | omega | (simp; done) | (simp; omega)) (fun h => by first | omega | (have h2 := Option.some.inj (show (some g1 : Option Nat) = some _ from h); omega))
      have hk1 := hc1 0
      have hz : (gw w z).cell? ⟨(gw w y0).heap.size + 1, 0, none⟩ = some (.int .i64 ((m l).id + 1)) := by rw [hk1]; simp [go_sem]
      clear hc1 hkeep hX hxX hk1
      obtain ⟨A3, c3, rfl, hc3, hnc3, hr3⟩ := hown3.rd
      have hk3 := HK.out
      have HR3 := Lib.hid hr3
      have HC3 := Lib.hid hc3
      have HN3 := Lib.hid hnc3
      unfold maxLen at hc3
      go_wp2_with ((go_at_call 57; refine (l3Good_any A3 (l + 1 + 1) c3 (cutM m j (l + 1) wd) _ HC3.out HN3.out HR3.out).mono ?_; rintro e w3 ⟨rfl, hx3⟩; replace hown3 := hown3.ext hx3; obtain ⟨x3, rfl⟩ := hx3.to_gw; clear hx3))
      refine wp_region_grow (by kernel_rfl) (by kernel_rfl) ?_
      repeat (go_big_quiet_step (fail))
      refine wpQuiet_nil ?_
      rintro _ ⟨xq, rfl⟩
      go_wp2
      go_ret3
      exact ⟨_, rfl, hown3.ext (ext_gw _ xq), by repeat (with_reducible first | exact Ext.refl _ | refine Ext.setCell ?_ (by first | (simp; done) | (simp; omega)) _ | refine Ext.alloc ?_ _ | refine Ext.gw ?_ _ | refine Ext.drew ?_)⟩
  · have hX : OwnS (((((((((gw w y0).setCell ⟨g1, j * 6, none⟩ (.int .i64 (m j).id)).setCell ⟨g1, j * 6 + 1, none⟩ (.int .i64 (m j).left)).setCell ⟨g1, j * 6 + 2, none⟩ (.int .i64 (m j).top)).setCell ⟨g1, j * 6 + 3, none⟩ (.int .i64 wd)).setCell ⟨g1, j * 6 + 4, none⟩ (.int .i64 (m j).high)).setCell ⟨g1, j * 6 + 5, none⟩ (.int .i64 (m j).depth)).alloc (Obj.cells #[.int .i64 ((m l).id + 1), .int .i64 ((m j).left + wd), .int .i64 (m j).top, .int .i64 ((m j).wide - wd), .int .i64 (m j).high, .int .i64 (m j).depth] 51)).alloc (Obj.cells #[.int .i64 (m j).id, .int .i64 (m j).left, .int .i64 (m j).top, .int .i64 wd, .int .i64 (m j).high, .int .i64 (m j).depth] 51)) w.heap.size 51 6 (.slice (some ⟨g1, 0, none⟩) (l + 1) cap1) (l + 1) (pdF (cutM m j (l + 1) wd)) := hP0.ext (((Ext.refl _).alloc _).alloc _)
    have hxX : Ext w (((((((((gw w y0).setCell ⟨g1, j * 6, none⟩ (.int .i64 (m j).id)).setCell ⟨g1, j * 6 + 1, none⟩ (.int .i64 (m j).left)).setCell ⟨g1, j * 6 + 2, none⟩ (.int .i64 (m j).top)).setCell ⟨g1, j * 6 + 3, none⟩ (.int .i64 wd)).setCell ⟨g1, j * 6 + 4, none⟩ (.int .i64 (m j).high)).setCell ⟨g1, j * 6 + 5, none⟩ (.int .i64 (m j).depth)).alloc (Obj.cells #[.int .i64 ((m l).id + 1), .int .i64 ((m j).left + wd), .int .i64 (m j).top, .int .i64 ((m j).wide - wd), .int .i64 (m j).high, .int .i64 (m j).depth] 51)).alloc (Obj.cells #[.int .i64 (m j).id, .int .i64 (m j).left, .int .i64 (m j).top, .int .i64 wd, .int .i64 (m j).high, .int .i64 (m j).depth] 51)) := (hx0.alloc _).alloc _
    clear hP0 hx0 hown
    go_wp2_with (at_builtin; refine wpList_append_KD w w.heap.size rfl (by exact hxX) rfl _ _ elPond rfl rfl (by exact hX) _ _ (by show Value.slice (some ⟨(gw w y0).heap.size + 1 + 1, 0, none⟩) 1 1 = _; simp) rfl (by omega) ?_ ?_ ?_)
    · intro q hq
      match q, hq with
      | 0, _ => exact congrArg some (show Value.int .i64 _ = pdF (cutM m j (l + 1) wd) (l + 1) 0 by simp [pdF, cutM])
      | 1, _ => exact congrArg some (show Value.int .i64 _ = pdF (cutM m j (l + 1) wd) (l + 1) 1 by simp [pdF, cutM])
      | 2, _ => exact congrArg some (show Value.int .i64 _ = pdF (cutM m j (l + 1) wd) (l + 1) 2 by simp [pdF, cutM])
      | 3, _ => exact congrArg some (show Value.int .i64 _ = pdF (cutM m j (l + 1) wd) (l + 1) 3 by simp [pdF, cutM])
      | 4, _ => exact congrArg some (show Value.int .i64 _ = pdF (cutM m j (l + 1) wd) (l + 1) 4 by simp [pdF, cutM])
      | 5, _ => exact congrArg some (show Value.int .i64 _ = pdF (cutM m j (l + 1) wd) (l + 1) 5 by simp [pdF, cutM])
    · intro q hq
      exact pdF_one _ _ q hq
    · intro v3 z hown3 hkeep
      obtain ⟨hb1, hc1⟩ := hkeep ((gw w y0).heap.size) (by first | omega | (simp; done) | (simp; omega)) (fun h => by first | omega | (have h2 := Option.some.inj (show (some g1 : Option Nat) = some _ from h); omega))
      have hk1 := hc1 0
      have hz : (gw w z).cell? ⟨(gw w y0).heap.size, 0, none⟩ = some (.int .i64 ((m l).id + 1)) := by rw [hk1]; simp [go_sem]
      clear hc1 hkeep hX hxX hk1
      obtain ⟨A3, c3, rfl, hc3, hnc3, hr3⟩ := hown3.rd
      have hk3 := HK.out
      have HR3 := Lib.hid hr3
      have HC3 := Lib.hid hc3
      have HN3 := Lib.hid hnc3
      unfold maxLen at hc3
      go_wp2_with ((go_at_call 57; refine (l3Good_any A3 (l + 1 + 1) c3 (cutM m j (l + 1) wd) _ HC3.out HN3.out HR3.out).mono ?_; rintro e w3 ⟨rfl, hx3⟩; replace hown3 := hown3.ext hx3; obtain ⟨x3, rfl⟩ := hx3.to_gw; clear hx3))
      refine wp_region_grow (by kernel_rfl) (by kernel_rfl) ?_
      repeat (go_big_quiet_step (fail))
      refine wpQuiet_nil ?_
      rintro _ ⟨xq, rfl⟩
      go_wp2
      go_ret3
      exact ⟨_, rfl, hown3.ext (ext_gw _ xq), by repeat (with_reducible first | exact Ext.refl _ | refine Ext.setCell ?_ (by first | (simp; done) | (simp; omega)) _ | refine Ext.alloc ?_ _ | refine Ext.gw ?_ _ | refine Ext.drew ?_)⟩
set_option maxHeartbeats 1000000 in
theorem specCut_bad (A : Option Addr) (n c : Nat) (m : Nat → Pd) (id wd : Int) (w : World) (hc : c ≤ maxLen) (hnc : n ≤ c) (hr : Rd w A n 6 (pdF m)) (l j : Nat) (hl : n = l + 1) (hv : pondsB n m = true) (hj : findPond n m id = (j : Int)) (hjn : j < n) (hb : inB wd 1 ((m j).wide - 1) = true) (hk : pondsB (n + 1) (cutM m j n wd) = false) :
    Calls Try.prog 36 #[.slice A n c, .int .i64 id, .int .i64 wd] w (RetS3 51 6 0 (pdF m) (0) false w) := by
  subst hl
  have HR := Lib.hid hr
  have HC := Lib.hid hc
  have HN := Lib.hid hnc
  have HV := Lib.hid (pondsB_iff.1 hv)
  have hvp := pondsB_iff.1 hv
  have HJ : Hid (findPondV (l + 1) m id = (j : Int)) := Lib.hid (by rw [show findPondV (l + 1) m id = findPond (l + 1) m id from if_pos hv]; exact hj)
  have HK := Lib.hid hk
  have hn10 := hvp.1
  unfold maxLen at hc
  obtain ⟨g, off, rfl, hg, c0, c1, c2, c3, c4, c5⟩ := hr.atPond hjn
  obtain ⟨g2, off2, hA2, _, e0, _⟩ := hr.atPond (show l < l + 1 by omega)
  injection hA2 with hA2
  injection hA2 with f1 f2 _
  subst f1 f2
  obtain ⟨⟨_, ⟨l0, l1⟩, _, ⟨w0, w1⟩, ⟨h0, h2⟩, _, _, d0, d1⟩, _⟩ := hvp.2 j hjn
  obtain ⟨⟨⟨k0, k1⟩, _⟩, _⟩ := hvp.2 l (by omega)
  obtain ⟨b0, b1⟩ := inB_iff.1 hb
  have j0 : (0 : Int) ≤ (j : Int) := by omega
  have j1 : (j : Int) < ((l + 1 : Nat) : Int) := by omega
  have HP : Hid (∀ i q, i < l + 1 → q < 6 → pdF (cutM m j (l + 1) wd) i q = if i = j ∧ q < 6 then pdF (fun _ => { m j with wide := wd }) 0 q else pdF m i q) := Lib.hid (fun i q hi hq => by
    by_cases h : i = j
    · rw [if_pos ⟨h, hq⟩]; exact pdF_at (by rw [h]; exact cutM_same m j (l + 1) wd hjn) q
    · rw [if_neg (fun hh => h hh.1)]; exact pdF_at (cutM_other m j (l + 1) wd hi h) q)
  have HB : Hid (∀ i q, i < l + 1 → q < 6 → w.cell? ⟨g, off + i * 6 + q, none⟩ = some (pdF m i q)) := Lib.hid (fun i q hi hq => by
    obtain ⟨g2, off2, hA, _, hcell⟩ := hr (by omega)
    injection hA with hA
    injection hA with e1 e2 _
    subst e1 e2
    have := hcell i q hi hq
    rw [Nat.add_assoc]
    exact this)
  clear hj hk hvp
  go_enter Try.func36, Try.ntmps36
  go_wp2_with (first | (go_at_call 63; refine (l3Find_is _ _ _ _ _ _ _ HC.out HN.out (by first | exact HR.out | exact HR.out.ext (ext_gw _ _)) HJ.out).mono ?_; rintro e w1 ⟨rfl, hx⟩; (try replace hx := Ext.flat hx); obtain ⟨x, rfl⟩ := hx.to_gw; clear hx) | (go_at_call 61; refine (l1In_any _ _ _ _).mono ?_; rintro e w1 ⟨rfl, rfl⟩) | (at_builtin; refine wpList_append_all rfl _ _ elPond rfl rfl (own_empty (gw w x) (gw w x).heap.size rfl (Nat.le_refl _)) rfl (fun i l hi hl => (((ext_gw w x).alloc _).cell hg).trans (HB.out i l hi hl)) (fun i l _ hl => pdF_one m i l hl) (by omega) (by simp) ?_))
  intro v1 w1 hown hx
  replace hown := hown.lower (ext_gw _ _).size_le
  replace hx := (ext_gw w x).trans (hx (gw w x) (Ext.alloc (Ext.refl _) _) (Nat.le_refl _))
  obtain ⟨A1, cap1, rfl, hcap0, hcap1, hform⟩ := hown.form
  obtain ⟨g1, rfl, _, hg1b, hg1, hcell⟩ := hform (by omega)
  obtain ⟨y0, rfl⟩ := hx.to_gw
  clear hx
  obtain ⟨d0, f0⟩ := hcell j 0 hjn (by omega)
  obtain ⟨d1, f1⟩ := hcell j 1 hjn (by omega)
  obtain ⟨d2, f2⟩ := hcell j 2 hjn (by omega)
  obtain ⟨d3, f3⟩ := hcell j 3 hjn (by omega)
  obtain ⟨d4, f4⟩ := hcell j 4 hjn (by omega)
  obtain ⟨d5, f5⟩ := hcell j 5 hjn (by omega)
  obtain ⟨z0, _⟩ := hcell l 0 (by omega) (by omega)
  rw [Nat.add_zero] at d0 f0 z0
  replace d0 : _ = some (Value.int .i64 (m j).id) := d0
  replace d1 : _ = some (Value.int .i64 (m j).left) := d1
  replace d2 : _ = some (Value.int .i64 (m j).top) := d2
  replace d3 : _ = some (Value.int .i64 (m j).wide) := d3
  replace d4 : _ = some (Value.int .i64 (m j).high) := d4
  replace d5 : _ = some (Value.int .i64 (m j).depth) := d5
  replace z0 : _ = some (Value.int .i64 (m l).id) := z0
  clear hform hcell
  unfold maxLen at hcap1
  have hP0 : OwnS (((((((gw w y0).setCell ⟨g1, j * 6, none⟩ (.int .i64 (m j).id)).setCell ⟨g1, j * 6 + 1, none⟩ (.int .i64 (m j).left)).setCell ⟨g1, j * 6 + 2, none⟩ (.int .i64 (m j).top)).setCell ⟨g1, j * 6 + 3, none⟩ (.int .i64 wd)).setCell ⟨g1, j * 6 + 4, none⟩ (.int .i64 (m j).high)).setCell ⟨g1, j * 6 + 5, none⟩ (.int .i64 (m j).depth)) w.heap.size 51 6 (.slice (some ⟨g1, 0, none⟩) (l + 1) cap1) (l + 1) (pdF (cutM m j (l + 1) wd)) := ((hown.put (pdF (fun _ => { m j with wide := wd }) 0) hjn 6 (Nat.le_refl _)).1.congr HP.out)
  have hx0 : Ext w (((((((gw w y0).setCell ⟨g1, j * 6, none⟩ (.int .i64 (m j).id)).setCell ⟨g1, j * 6 + 1, none⟩ (.int .i64 (m j).left)).setCell ⟨g1, j * 6 + 2, none⟩ (.int .i64 (m j).top)).setCell ⟨g1, j * 6 + 3, none⟩ (.int .i64 wd)).setCell ⟨g1, j * 6 + 4, none⟩ (.int .i64 (m j).high)).setCell ⟨g1, j * 6 + 5, none⟩ (.int .i64 (m j).depth)) := ((((((((Ext.refl w).gw y0).setCell hg1b _).setCell hg1b _).setCell hg1b _).setCell hg1b _).setCell hg1b _).setCell hg1b _)
  go_wp2_with fail
  go_big_region
  · have hX : OwnS (((((((((gw w y0).setCell ⟨g1, j * 6, none⟩ (.int .i64 (m j).id)).setCell ⟨g1, j * 6 + 1, none⟩ (.int .i64 (m j).left)).setCell ⟨g1, j * 6 + 2, none⟩ (.int .i64 (m j).top)).setCell ⟨g1, j * 6 + 3, none⟩ (.int .i64 wd)).setCell ⟨g1, j * 6 + 4, none⟩ (.int .i64 (m j).high)).setCell ⟨g1, j * 6 + 5, none⟩ (.int .i64 (m j).depth)).alloc (Obj.cells #[.int .i64 (m j).id, .int .i64 (m j).left, .int .i64 (m j).top, .int .i64 wd, .int .i64 (m j).high, .int .i64 (m j).depth] 51)).alloc (Obj.cells #[.int .i64 ((m l).id + 1), .int .i64 ((m j).left + wd), .int .i64 (m j).top, .int .i64 ((m j).wide - wd), .int .i64 (m j).high, .int .i64 (m j).depth] 51)) w.heap.size 51 6 (.slice (some ⟨g1, 0, none⟩) (l + 1) cap1) (l + 1) (pdF (cutM m j (l + 1) wd)) := hP0.ext (((Ext.refl _).alloc _).alloc _)
    have hxX : Ext w (((((((((gw w y0).setCell ⟨g1, j * 6, none⟩ (.int .i64 (m j).id)).setCell ⟨g1, j * 6 + 1, none⟩ (.int .i64 (m j).left)).setCell ⟨g1, j * 6 + 2, none⟩ (.int .i64 (m j).top)).setCell ⟨g1, j * 6 + 3, none⟩ (.int .i64 wd)).setCell ⟨g1, j * 6 + 4, none⟩ (.int .i64 (m j).high)).setCell ⟨g1, j * 6 + 5, none⟩ (.int .i64 (m j).depth)).alloc (Obj.cells #[.int .i64 (m j).id, .int .i64 (m j).left, .int .i64 (m j).top, .int .i64 wd, .int .i64 (m j).high, .int .i64 (m j).depth] 51)).alloc (Obj.cells #[.int .i64 ((m l).id + 1), .int .i64 ((m j).left + wd), .int .i64 (m j).top, .int .i64 ((m j).wide - wd), .int .i64 (m j).high, .int .i64 (m j).depth] 51)) := (hx0.alloc _).alloc _
    clear hP0 hx0 hown
    go_wp2_with (at_builtin; refine wpList_append_KD w w.heap.size rfl (by exact hxX) rfl _ _ elPond rfl rfl (by exact hX) _ _ (by show Value.slice (some ⟨(gw w y0).heap.size + 1 + 1, 0, none⟩) 1 1 = _; simp) rfl (by omega) ?_ ?_ ?_)
    · intro q hq
      match q, hq with
      | 0, _ => exact congrArg some (show Value.int .i64 _ = pdF (cutM m j (l + 1) wd) (l + 1) 0 by simp [pdF, cutM])
      | 1, _ => exact congrArg some (show Value.int .i64 _ = pdF (cutM m j (l + 1) wd) (l + 1) 1 by simp [pdF, cutM])
      | 2, _ => exact congrArg some (show Value.int .i64 _ = pdF (cutM m j (l + 1) wd) (l + 1) 2 by simp [pdF, cutM])
      | 3, _ => exact congrArg some (show Value.int .i64 _ = pdF (cutM m j (l + 1) wd) (l + 1) 3 by simp [pdF, cutM])
      | 4, _ => exact congrArg some (show Value.int .i64 _ = pdF (cutM m j (l + 1) wd) (l + 1) 4 by simp [pdF, cutM])
      | 5, _ => exact congrArg some (show Value.int .i64 _ = pdF (cutM m j (l + 1) wd) (l + 1) 5 by simp [pdF, cutM])
    · intro q hq
      exact pdF_one _ _ q hq
    · intro v3 z hown3 hkeep
      obtain ⟨hb1, hc1⟩ := hkeep ((gw w y0).heap.size + 1) (by first | omega | (simp; done) | (simp; omega)) (fun h => by first | omega | (have h2 := Option.some.inj (show (some g1 : Option Nat) = some _ from h); omega))
      have hk1 := hc1 0
      have hz : (gw w z).cell? ⟨(gw w y0).heap.size + 1, 0, none⟩ = some (.int .i64 ((m l).id + 1)) := by rw [hk1]; simp [go_sem]
      clear hc1 hkeep hX hxX hk1
      obtain ⟨A3, c3, rfl, hc3, hnc3, hr3⟩ := hown3.rd
      have hk3 := HK.out
      have HR3 := Lib.hid hr3
      have HC3 := Lib.hid hc3
      have HN3 := Lib.hid hnc3
      unfold maxLen at hc3
      go_wp2_with ((go_at_call 57; refine (l3Good_any A3 (l + 1 + 1) c3 (cutM m j (l + 1) wd) _ HC3.out HN3.out HR3.out).mono ?_; rintro e w3 ⟨rfl, hx3⟩; replace hown3 := hown3.ext hx3; obtain ⟨x3, rfl⟩ := hx3.to_gw; clear hx3))
      go_ret3
      exact ⟨_, rfl, own_empty _ _ rfl ((ext_gw w z).gw x3).size_le, by repeat (with_reducible first | exact Ext.refl _ | refine Ext.setCell ?_ (by first | (simp; done) | (simp; omega)) _ | refine Ext.alloc ?_ _ | refine Ext.gw ?_ _ | refine Ext.drew ?_)⟩
  · have hX : OwnS (((((((((gw w y0).setCell ⟨g1, j * 6, none⟩ (.int .i64 (m j).id)).setCell ⟨g1, j * 6 + 1, none⟩ (.int .i64 (m j).left)).setCell ⟨g1, j * 6 + 2, none⟩ (.int .i64 (m j).top)).setCell ⟨g1, j * 6 + 3, none⟩ (.int .i64 wd)).setCell ⟨g1, j * 6 + 4, none⟩ (.int .i64 (m j).high)).setCell ⟨g1, j * 6 + 5, none⟩ (.int .i64 (m j).depth)).alloc (Obj.cells #[.int .i64 ((m l).id + 1), .int .i64 ((m j).left + wd), .int .i64 (m j).top, .int .i64 ((m j).wide - wd), .int .i64 (m j).high, .int .i64 (m j).depth] 51)).alloc (Obj.cells #[.int .i64 (m j).id, .int .i64 (m j).left, .int .i64 (m j).top, .int .i64 wd, .int .i64 (m j).high, .int .i64 (m j).depth] 51)) w.heap.size 51 6 (.slice (some ⟨g1, 0, none⟩) (l + 1) cap1) (l + 1) (pdF (cutM m j (l + 1) wd)) := hP0.ext (((Ext.refl _).alloc _).alloc _)
    have hxX : Ext w (((((((((gw w y0).setCell ⟨g1, j * 6, none⟩ (.int .i64 (m j).id)).setCell ⟨g1, j * 6 + 1, none⟩ (.int .i64 (m j).left)).setCell ⟨g1, j * 6 + 2, none⟩ (.int .i64 (m j).top)).setCell ⟨g1, j * 6 + 3, none⟩ (.int .i64 wd)).setCell ⟨g1, j * 6 + 4, none⟩ (.int .i64 (m j).high)).setCell ⟨g1, j * 6 + 5, none⟩ (.int .i64 (m j).depth)).alloc (Obj.cells #[.int .i64 ((m l).id + 1), .int .i64 ((m j).left + wd), .int .i64 (m j).top, .int .i64 ((m j).wide - wd), .int .i64 (m j).high, .int .i64 (m j).depth] 51)).alloc (Obj.cells #[.int .i64 (m j).id, .int .i64 (m j).left, .int .i64 (m j).top, .int .i64 wd, .int .i64 (m j).high, .int .i64 (m j).depth] 51)) := (hx0.alloc _).alloc _
    clear hP0 hx0 hown
    go_wp2_with (at_builtin; refine wpList_append_KD w w.heap.size rfl (by exact hxX) rfl _ _ elPond rfl rfl (by exact hX) _ _ (by show Value.slice (some ⟨(gw w y0).heap.size + 1 + 1, 0, none⟩) 1 1 = _; simp) rfl (by omega) ?_ ?_ ?_)
    · intro q hq
      match q, hq with
      | 0, _ => exact congrArg some (show Value.int .i64 _ = pdF (cutM m j (l + 1) wd) (l + 1) 0 by simp [pdF, cutM])
      | 1, _ => exact congrArg some (show Value.int .i64 _ = pdF (cutM m j (l + 1) wd) (l + 1) 1 by simp [pdF, cutM])
      | 2, _ => exact congrArg some (show Value.int .i64 _ = pdF (cutM m j (l + 1) wd) (l + 1) 2 by simp [pdF, cutM])
      | 3, _ => exact congrArg some (show Value.int .i64 _ = pdF (cutM m j (l + 1) wd) (l + 1) 3 by simp [pdF, cutM])
      | 4, _ => exact congrArg some (show Value.int .i64 _ = pdF (cutM m j (l + 1) wd) (l + 1) 4 by simp [pdF, cutM])
      | 5, _ => exact congrArg some (show Value.int .i64 _ = pdF (cutM m j (l + 1) wd) (l + 1) 5 by simp [pdF, cutM])
    · intro q hq
      exact pdF_one _ _ q hq
    · intro v3 z hown3 hkeep
      obtain ⟨hb1, hc1⟩ := hkeep ((gw w y0).heap.size) (by first | omega | (simp; done) | (simp; omega)) (fun h => by first | omega | (have h2 := Option.some.inj (show (some g1 : Option Nat) = some _ from h); omega))
      have hk1 := hc1 0
      have hz : (gw w z).cell? ⟨(gw w y0).heap.size, 0, none⟩ = some (.int .i64 ((m l).id + 1)) := by rw [hk1]; simp [go_sem]
      clear hc1 hkeep hX hxX hk1
      obtain ⟨A3, c3, rfl, hc3, hnc3, hr3⟩ := hown3.rd
      have hk3 := HK.out
      have HR3 := Lib.hid hr3
      have HC3 := Lib.hid hc3
      have HN3 := Lib.hid hnc3
      unfold maxLen at hc3
      go_wp2_with ((go_at_call 57; refine (l3Good_any A3 (l + 1 + 1) c3 (cutM m j (l + 1) wd) _ HC3.out HN3.out HR3.out).mono ?_; rintro e w3 ⟨rfl, hx3⟩; replace hown3 := hown3.ext hx3; obtain ⟨x3, rfl⟩ := hx3.to_gw; clear hx3))
      go_ret3
      exact ⟨_, rfl, own_empty _ _ rfl ((ext_gw w z).gw x3).size_le, by repeat (with_reducible first | exact Ext.refl _ | refine Ext.setCell ?_ (by first | (simp; done) | (simp; omega)) _ | refine Ext.alloc ?_ _ | refine Ext.gw ?_ _ | refine Ext.drew ?_)⟩
set_option maxHeartbeats 1000000 in
theorem implCut_yes (A : Option Addr) (n c : Nat) (m : Nat → Pd) (id wd : Int) (w : World) (hc : c ≤ maxLen) (hnc : n ≤ c) (hr : Rd w A n 6 (pdF m)) (l j : Nat) (hl : n = l + 1) (hv : pondsB n m = true) (hj : findPond n m id = (j : Int)) (hjn : j < n) (hb : inB wd 1 ((m j).wide - 1) = true) (hk : pondsB (n + 1) (cutM m j n wd) = true) :
    Calls Try.prog 37 #[.slice A n c, .int .i64 id, .int .i64 wd] w (RetS3 51 6 (n + 1) (pdF (cutM m j n wd)) ((m l).id + 1) true w) := by
  subst hl
  have HR := Lib.hid hr
  have HC := Lib.hid hc
  have HN := Lib.hid hnc
  have HV := Lib.hid (pondsB_iff.1 hv)
  have hvp := pondsB_iff.1 hv
  have HJ : Hid (findPond (l + 1) m id = (j : Int)) := Lib.hid (by exact hj)
  have HK := Lib.hid hk
  have hn10 := hvp.1
  unfold maxLen at hc
  obtain ⟨g, off, rfl, hg, c0, c1, c2, c3, c4, c5⟩ := hr.atPond hjn
  obtain ⟨g2, off2, hA2, _, e0, _⟩ := hr.atPond (show l < l + 1 by omega)
  injection hA2 with hA2
  injection hA2 with f1 f2 _
  subst f1 f2
  obtain ⟨⟨_, ⟨l0, l1⟩, _, ⟨w0, w1⟩, ⟨h0, h2⟩, _, _, d0, d1⟩, _⟩ := hvp.2 j hjn
  obtain ⟨⟨⟨k0, k1⟩, _⟩, _⟩ := hvp.2 l (by omega)
  obtain ⟨b0, b1⟩ := inB_iff.1 hb
  have j0 : (0 : Int) ≤ (j : Int) := by omega
  have j1 : (j : Int) < ((l + 1 : Nat) : Int) := by omega
  have HP : Hid (∀ i q, i < l + 1 → q < 6 → pdF (cutM m j (l + 1) wd) i q = if i = j ∧ q = 3 then .int .i64 wd else pdF m i q) := Lib.hid (fun i q hi hq => by
    exact cutM_F m j (l + 1) wd hjn i q hi hq)
  have HB : Hid (∀ i q, i < l + 1 → q < 6 → w.cell? ⟨g, off + i * 6 + q, none⟩ = some (pdF m i q)) := Lib.hid (fun i q hi hq => by
    obtain ⟨g2, off2, hA, _, hcell⟩ := hr (by omega)
    injection hA with hA
    injection hA with e1 e2 _
    subst e1 e2
    have := hcell i q hi hq
    rw [Nat.add_assoc]
    exact this)
  clear hj hk hvp
  go_enter Try.func37, Try.ntmps37
  go_wp2_with (first | (go_at_call 64; refine (pondAt_is _ _ _ _ _ _ _ HC.out HN.out (by first | exact HR.out | exact HR.out.ext (ext_gw _ _)) HJ.out).mono ?_; rintro e w1 ⟨rfl, hx⟩; (try replace hx := Ext.flat hx); obtain ⟨x, rfl⟩ := hx.to_gw; clear hx) | (go_at_call 18; refine (arePonds_any _ _ _ _ _ HC.out HN.out (by first | exact HR.out | exact HR.out.ext (ext_gw _ _))).mono ?_; rintro e w1 ⟨rfl, hx⟩; (try replace hx := Ext.flat hx); obtain ⟨x, rfl⟩ := hx.to_gw; clear hx) | (go_at_call 62; refine (within_any _ _ _ _).mono ?_; rintro e w1 ⟨rfl, rfl⟩))
  go_wp2_with fail
  refine (clonePond_any g off (l + 1) c m _ HC.out HN.out (HR.out.ext (by first | exact ext_gw _ _ | exact Ext.refl _)) (by omega) (by omega)).mono ?_
  rintro e w1 ⟨v1, rfl, hown, hx⟩
  replace hown := hown.lower (ext_gw _ _).size_le
  replace hx := Ext.flat hx
  obtain ⟨A1, cap1, rfl, hcap0, hcap1, hform⟩ := hown.form
  obtain ⟨g1, rfl, _, hg1b, hg1, hcell⟩ := hform (by omega)
  obtain ⟨y0, rfl⟩ := hx.to_gw
  clear hx
  obtain ⟨d0, f0⟩ := hcell j 0 hjn (by omega)
  obtain ⟨d1, f1⟩ := hcell j 1 hjn (by omega)
  obtain ⟨d2, f2⟩ := hcell j 2 hjn (by omega)
  obtain ⟨d3, f3⟩ := hcell j 3 hjn (by omega)
  obtain ⟨d4, f4⟩ := hcell j 4 hjn (by omega)
  obtain ⟨d5, f5⟩ := hcell j 5 hjn (by omega)
  obtain ⟨z0, _⟩ := hcell l 0 (by omega) (by omega)
  rw [Nat.add_zero] at d0 f0 z0
  replace d0 : _ = some (Value.int .i64 (m j).id) := d0
  replace d1 : _ = some (Value.int .i64 (m j).left) := d1
  replace d2 : _ = some (Value.int .i64 (m j).top) := d2
  replace d3 : _ = some (Value.int .i64 (m j).wide) := d3
  replace d4 : _ = some (Value.int .i64 (m j).high) := d4
  replace d5 : _ = some (Value.int .i64 (m j).depth) := d5
  replace z0 : _ = some (Value.int .i64 (m l).id) := z0
  clear hform hcell
  unfold maxLen at hcap1
  have hX : OwnS (((gw w y0).setCell ⟨g1, j * 6 + 3, none⟩ (.int .i64 wd)).alloc (Obj.cells #[.int .i64 ((m l).id + 1), .int .i64 ((m j).left + wd), .int .i64 (m j).top, .int .i64 ((m j).wide - wd), .int .i64 (m j).high, .int .i64 (m j).depth] 51)) w.heap.size 51 6 (.slice (some ⟨g1, 0, none⟩) (l + 1) cap1) (l + 1) (pdF (cutM m j (l + 1) wd)) := OwnS.ext ((hown.stored hjn (j := 3) (by omega) (.int .i64 wd)).congr HP.out) ((Ext.refl _).alloc _)
  have hxX : Ext w (((gw w y0).setCell ⟨g1, j * 6 + 3, none⟩ (.int .i64 wd)).alloc (Obj.cells #[.int .i64 ((m l).id + 1), .int .i64 ((m j).left + wd), .int .i64 (m j).top, .int .i64 ((m j).wide - wd), .int .i64 (m j).high, .int .i64 (m j).depth] 51)) := (((Ext.refl w).gw y0).setCell hg1b _).alloc _
  clear hown
  go_wp2_with (at_builtin; refine wpList_append_K w w.heap.size rfl (by exact hxX) rfl _ _ elPond rfl rfl (by exact hX) _ _ (by show Value.slice (some ⟨(gw w y0).heap.size + 1, 0, none⟩) 1 1 = _; simp) rfl (by omega) ?_ ?_ ?_)
  · intro q hq
    match q, hq with
    | 0, _ => exact congrArg some (show Value.int .i64 _ = pdF (cutM m j (l + 1) wd) (l + 1) 0 by simp [pdF, cutM])
    | 1, _ => exact congrArg some (show Value.int .i64 _ = pdF (cutM m j (l + 1) wd) (l + 1) 1 by simp [pdF, cutM])
    | 2, _ => exact congrArg some (show Value.int .i64 _ = pdF (cutM m j (l + 1) wd) (l + 1) 2 by simp [pdF, cutM])
    | 3, _ => exact congrArg some (show Value.int .i64 _ = pdF (cutM m j (l + 1) wd) (l + 1) 3 by simp [pdF, cutM])
    | 4, _ => exact congrArg some (show Value.int .i64 _ = pdF (cutM m j (l + 1) wd) (l + 1) 4 by simp [pdF, cutM])
    | 5, _ => exact congrArg some (show Value.int .i64 _ = pdF (cutM m j (l + 1) wd) (l + 1) 5 by simp [pdF, cutM])
  · intro q hq
    exact pdF_one _ _ q hq
  · intro v3 z hown3 hkeep
    obtain ⟨hb1, hc1⟩ := hkeep (gw w y0).heap.size (by first | omega | (simp; done) | (simp; omega)) (fun h => by first | omega | (have h2 := Option.some.inj (show (some g1 : Option Nat) = some _ from h); omega))
    have hk1 := hc1 0
    have hz : (gw w z).cell? ⟨(gw w y0).heap.size, 0, none⟩ = some (.int .i64 ((m l).id + 1)) := by rw [hk1]; simp [go_sem]
    clear hc1 hkeep hX hxX hk1
    obtain ⟨A3, c3, rfl, hc3, hnc3, hr3⟩ := hown3.rd
    have hk3 := HK.out
    have HR3 := Lib.hid hr3
    have HC3 := Lib.hid hc3
    have HN3 := Lib.hid hnc3
    unfold maxLen at hc3
    go_wp2_with ((go_at_call 18; refine (arePonds_any A3 (l + 1 + 1) c3 (cutM m j (l + 1) wd) _ HC3.out HN3.out HR3.out).mono ?_; rintro e w3 ⟨rfl, hx3⟩; replace hown3 := hown3.ext hx3; obtain ⟨x3, rfl⟩ := hx3.to_gw; clear hx3))
    refine wp_region_grow (by kernel_rfl) (by kernel_rfl) ?_
    repeat (go_big_quiet_step (fail))
    refine wpQuiet_nil ?_
    rintro _ ⟨xq, rfl⟩
    go_wp2
    go_ret3
    exact ⟨_, rfl, hown3.ext (ext_gw _ xq), by repeat (with_reducible first | exact Ext.refl _ | refine Ext.setCell ?_ (by first | (simp; done) | (simp; omega)) _ | refine Ext.alloc ?_ _ | refine Ext.gw ?_ _ | refine Ext.drew ?_)⟩
set_option maxHeartbeats 1000000 in
theorem implCut_bad (A : Option Addr) (n c : Nat) (m : Nat → Pd) (id wd : Int) (w : World) (hc : c ≤ maxLen) (hnc : n ≤ c) (hr : Rd w A n 6 (pdF m)) (l j : Nat) (hl : n = l + 1) (hv : pondsB n m = true) (hj : findPond n m id = (j : Int)) (hjn : j < n) (hb : inB wd 1 ((m j).wide - 1) = true) (hk : pondsB (n + 1) (cutM m j n wd) = false) :
    Calls Try.prog 37 #[.slice A n c, .int .i64 id, .int .i64 wd] w (RetS3 51 6 0 (pdF m) (0) false w) := by
  subst hl
  have HR := Lib.hid hr
  have HC := Lib.hid hc
  have HN := Lib.hid hnc
  have HV := Lib.hid (pondsB_iff.1 hv)
  have hvp := pondsB_iff.1 hv
  have HJ : Hid (findPond (l + 1) m id = (j : Int)) := Lib.hid (by exact hj)
  have HK := Lib.hid hk
  have hn10 := hvp.1
  unfold maxLen at hc
  obtain ⟨g, off, rfl, hg, c0, c1, c2, c3, c4, c5⟩ := hr.atPond hjn
  obtain ⟨g2, off2, hA2, _, e0, _⟩ := hr.atPond (show l < l + 1 by omega)
  injection hA2 with hA2
  injection hA2 with f1 f2 _
  subst f1 f2
  obtain ⟨⟨_, ⟨l0, l1⟩, _, ⟨w0, w1⟩, ⟨h0, h2⟩, _, _, d0, d1⟩, _⟩ := hvp.2 j hjn
  obtain ⟨⟨⟨k0, k1⟩, _⟩, _⟩ := hvp.2 l (by omega)
  obtain ⟨b0, b1⟩ := inB_iff.1 hb
  have j0 : (0 : Int) ≤ (j : Int) := by omega
  have j1 : (j : Int) < ((l + 1 : Nat) : Int) := by omega
  have HP : Hid (∀ i q, i < l + 1 → q < 6 → pdF (cutM m j (l + 1) wd) i q = if i = j ∧ q = 3 then .int .i64 wd else pdF m i q) := Lib.hid (fun i q hi hq => by
    exact cutM_F m j (l + 1) wd hjn i q hi hq)
  have HB : Hid (∀ i q, i < l + 1 → q < 6 → w.cell? ⟨g, off + i * 6 + q, none⟩ = some (pdF m i q)) := Lib.hid (fun i q hi hq => by
    obtain ⟨g2, off2, hA, _, hcell⟩ := hr (by omega)
    injection hA with hA
    injection hA with e1 e2 _
    subst e1 e2
    have := hcell i q hi hq
    rw [Nat.add_assoc]
    exact this)
  clear hj hk hvp
  go_enter Try.func37, Try.ntmps37
  go_wp2_with (first | (go_at_call 64; refine (pondAt_is _ _ _ _ _ _ _ HC.out HN.out (by first | exact HR.out | exact HR.out.ext (ext_gw _ _)) HJ.out).mono ?_; rintro e w1 ⟨rfl, hx⟩; (try replace hx := Ext.flat hx); obtain ⟨x, rfl⟩ := hx.to_gw; clear hx) | (go_at_call 18; refine (arePonds_any _ _ _ _ _ HC.out HN.out (by first | exact HR.out | exact HR.out.ext (ext_gw _ _))).mono ?_; rintro e w1 ⟨rfl, hx⟩; (try replace hx := Ext.flat hx); obtain ⟨x, rfl⟩ := hx.to_gw; clear hx) | (go_at_call 62; refine (within_any _ _ _ _).mono ?_; rintro e w1 ⟨rfl, rfl⟩))
  go_wp2_with fail
  refine (clonePond_any g off (l + 1) c m _ HC.out HN.out (HR.out.ext (by first | exact ext_gw _ _ | exact Ext.refl _)) (by omega) (by omega)).mono ?_
  rintro e w1 ⟨v1, rfl, hown, hx⟩
  replace hown := hown.lower (ext_gw _ _).size_le
  replace hx := Ext.flat hx
  obtain ⟨A1, cap1, rfl, hcap0, hcap1, hform⟩ := hown.form
  obtain ⟨g1, rfl, _, hg1b, hg1, hcell⟩ := hform (by omega)
  obtain ⟨y0, rfl⟩ := hx.to_gw
  clear hx
  obtain ⟨d0, f0⟩ := hcell j 0 hjn (by omega)
  obtain ⟨d1, f1⟩ := hcell j 1 hjn (by omega)
  obtain ⟨d2, f2⟩ := hcell j 2 hjn (by omega)
  obtain ⟨d3, f3⟩ := hcell j 3 hjn (by omega)
  obtain ⟨d4, f4⟩ := hcell j 4 hjn (by omega)
  obtain ⟨d5, f5⟩ := hcell j 5 hjn (by omega)
  obtain ⟨z0, _⟩ := hcell l 0 (by omega) (by omega)
  rw [Nat.add_zero] at d0 f0 z0
  replace d0 : _ = some (Value.int .i64 (m j).id) := d0
  replace d1 : _ = some (Value.int .i64 (m j).left) := d1
  replace d2 : _ = some (Value.int .i64 (m j).top) := d2
  replace d3 : _ = some (Value.int .i64 (m j).wide) := d3
  replace d4 : _ = some (Value.int .i64 (m j).high) := d4
  replace d5 : _ = some (Value.int .i64 (m j).depth) := d5
  replace z0 : _ = some (Value.int .i64 (m l).id) := z0
  clear hform hcell
  unfold maxLen at hcap1
  have hX : OwnS (((gw w y0).setCell ⟨g1, j * 6 + 3, none⟩ (.int .i64 wd)).alloc (Obj.cells #[.int .i64 ((m l).id + 1), .int .i64 ((m j).left + wd), .int .i64 (m j).top, .int .i64 ((m j).wide - wd), .int .i64 (m j).high, .int .i64 (m j).depth] 51)) w.heap.size 51 6 (.slice (some ⟨g1, 0, none⟩) (l + 1) cap1) (l + 1) (pdF (cutM m j (l + 1) wd)) := OwnS.ext ((hown.stored hjn (j := 3) (by omega) (.int .i64 wd)).congr HP.out) ((Ext.refl _).alloc _)
  have hxX : Ext w (((gw w y0).setCell ⟨g1, j * 6 + 3, none⟩ (.int .i64 wd)).alloc (Obj.cells #[.int .i64 ((m l).id + 1), .int .i64 ((m j).left + wd), .int .i64 (m j).top, .int .i64 ((m j).wide - wd), .int .i64 (m j).high, .int .i64 (m j).depth] 51)) := (((Ext.refl w).gw y0).setCell hg1b _).alloc _
  clear hown
  go_wp2_with (at_builtin; refine wpList_append_K w w.heap.size rfl (by exact hxX) rfl _ _ elPond rfl rfl (by exact hX) _ _ (by show Value.slice (some ⟨(gw w y0).heap.size + 1, 0, none⟩) 1 1 = _; simp) rfl (by omega) ?_ ?_ ?_)
  · intro q hq
    match q, hq with
    | 0, _ => exact congrArg some (show Value.int .i64 _ = pdF (cutM m j (l + 1) wd) (l + 1) 0 by simp [pdF, cutM])
    | 1, _ => exact congrArg some (show Value.int .i64 _ = pdF (cutM m j (l + 1) wd) (l + 1) 1 by simp [pdF, cutM])
    | 2, _ => exact congrArg some (show Value.int .i64 _ = pdF (cutM m j (l + 1) wd) (l + 1) 2 by simp [pdF, cutM])
    | 3, _ => exact congrArg some (show Value.int .i64 _ = pdF (cutM m j (l + 1) wd) (l + 1) 3 by simp [pdF, cutM])
    | 4, _ => exact congrArg some (show Value.int .i64 _ = pdF (cutM m j (l + 1) wd) (l + 1) 4 by simp [pdF, cutM])
    | 5, _ => exact congrArg some (show Value.int .i64 _ = pdF (cutM m j (l + 1) wd) (l + 1) 5 by simp [pdF, cutM])
  · intro q hq
    exact pdF_one _ _ q hq
  · intro v3 z hown3 hkeep
    obtain ⟨hb1, hc1⟩ := hkeep (gw w y0).heap.size (by first | omega | (simp; done) | (simp; omega)) (fun h => by first | omega | (have h2 := Option.some.inj (show (some g1 : Option Nat) = some _ from h); omega))
    have hk1 := hc1 0
    have hz : (gw w z).cell? ⟨(gw w y0).heap.size, 0, none⟩ = some (.int .i64 ((m l).id + 1)) := by rw [hk1]; simp [go_sem]
    clear hc1 hkeep hX hxX hk1
    obtain ⟨A3, c3, rfl, hc3, hnc3, hr3⟩ := hown3.rd
    have hk3 := HK.out
    have HR3 := Lib.hid hr3
    have HC3 := Lib.hid hc3
    have HN3 := Lib.hid hnc3
    unfold maxLen at hc3
    go_wp2_with ((go_at_call 18; refine (arePonds_any A3 (l + 1 + 1) c3 (cutM m j (l + 1) wd) _ HC3.out HN3.out HR3.out).mono ?_; rintro e w3 ⟨rfl, hx3⟩; replace hown3 := hown3.ext hx3; obtain ⟨x3, rfl⟩ := hx3.to_gw; clear hx3))
    go_ret3
    exact ⟨_, rfl, OwnS.nil, by repeat (with_reducible first | exact Ext.refl _ | refine Ext.setCell ?_ (by first | (simp; done) | (simp; omega)) _ | refine Ext.alloc ?_ _ | refine Ext.gw ?_ _ | refine Ext.drew ?_)⟩
end Go.Proofs.Ytkgnfmdeimaedaa
