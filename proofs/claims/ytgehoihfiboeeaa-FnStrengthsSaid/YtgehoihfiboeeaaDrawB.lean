/- The drawings of brines and of strengths. -/
import Derived.Test.YtgehoihfiboeeaaCur
import Derived.Deep.RegionWith
namespace Go.Proofs.Ytgehoihfiboeeaa
open Go.RowKit
set_option linter.unusedVariables false

/-- A method of the cursor that gives a brine. -/
def CurRet2 (w0 w : World) (b m : Nat) (lo hi : Int) (e : Ending) (w' : World) : Prop :=
  ∃ x y : Int, e = .returned (.agg #[.int .i64 x, .int .i64 y]) ∧ (lo ≤ x ∧ x ≤ hi) ∧ (lo ≤ y ∧ y ≤ hi) ∧ Cur w0 w' b m ∧ w.grownBy w' (some b)
set_option maxHeartbeats 1000000 in
theorem brine_any (w0 w : World) (b m : Nat) (h : Cur w0 w b m) (hm : m ≤ 10000000000) : Calls Try.prog 45 #[.pointer (some ⟨b, 0, none⟩)] w (CurRet2 w0 w b (m + 8) (-1) 1000001) := by
  go_enter Try.func45, Try.ntmps45
  go_wp2_with fail
  have hx1 := Ext.alloc (Ext.refl w) (Obj.cells #[.int .i64 0, .int .i64 0] 25)
  have L1 := loc2_new w 0 0 25
  have hb := h.lt.2
  refine (among_lit w0 _ b m [0, 1, 90, 900, 1000, 7000, 1000000] (-1) 1000001 (h.ext hx1) (by simp) rfl rfl (by omega) (by decide) (by decide) (by decide)).mono ?_
  rintro e w2 ⟨x, rfl, x0, x1, h2, g2⟩
  replace L1 := L1.kept g2 (by omega)
  replace g2 := grownBy_trans (grownBy_ext hx1 (some b)) g2
  go_wp2_with fail
  refine (among_lit w0 _ b (m + 2) [0, 1, 10, 35, 100, 260, 2500, 1000000] (-1) 1000001 h2 rfl rfl rfl (by omega) (by decide) (by decide) (by decide)).mono ?_
  rintro e w3 ⟨y, rfl, y0, y1, h3, g3⟩
  replace L1 := L1.kept g3 (by omega)
  replace g3 := grownBy_trans g2 g3
  clear h2 g2 hx1
  have hb3 := h3.lt.2
  go_wp2_with fail
  have hx3 := Ext.alloc (Ext.refl w3) (Obj.cells #[.int .i64 x, .int .i64 y] 25)
  have L2 := loc2_new w3 x y 25
  have hs3 := L1.1
  have hw0 := h.lt.1
  replace L1 := L1.ext hx3
  refine (pick_any w0 _ b (m + 4) 48 (h3.ext hx3) (by omega) (by omega) (by omega)).mono ?_
  rintro e w4 ⟨k, rfl, k0, k1, h4, g4⟩
  replace L1 := L1.kept g4 (by omega)
  replace L2 := L2.kept g4 (by omega)
  replace g4 := grownBy_trans (grown_alloc g3 _) g4
  clear h3 g3 hx3 h
  have n1 : ¬ w.heap.size = w3.heap.size := by omega
  have n2 : ¬ w3.heap.size = w.heap.size := by omega
  by_cases hk0 : k = 0
  · subst hk0
    go_wp2_with fail
    refine (among_lit w0 _ b (m + 6) [-1, 1000001] (-1) 1000001 h4 rfl rfl rfl (by omega) (by decide) (by decide) (by decide)).mono ?_
    rintro e w5 ⟨z, rfl, z0, z1, h5, g5⟩
    replace L1 := L1.kept g5 (by omega)
    replace L2 := L2.kept g5 (by omega)
    replace g5 := grownBy_trans g4 g5
    clear h4 g4
    obtain ⟨a0, a1, a2, a3, a4⟩ := L1
    obtain ⟨b0, b1, b2, b3, b4⟩ := L2
    go_wp2_with fail
    exact bodyPost_ret (v := .agg #[.int .i64 z, .int .i64 y]) (by clear hm; simp [results, Try.results45, go_sem, *]) rfl ⟨z, y, rfl, by omega, by omega, by repeat (first | exact h5 | refine Cur.set ?_ (by omega) (by omega) _ _), by repeat (first | exact g5 | refine grown_set ?_ (by omega) _ _)⟩
  · by_cases hk1 : k = 1
    · subst hk1
      go_wp2_with fail
      refine (among_lit w0 _ b (m + 6) [-1, 1000001] (-1) 1000001 h4 rfl rfl rfl (by omega) (by decide) (by decide) (by decide)).mono ?_
      rintro e w5 ⟨z, rfl, z0, z1, h5, g5⟩
      replace L1 := L1.kept g5 (by omega)
      replace L2 := L2.kept g5 (by omega)
      replace g5 := grownBy_trans g4 g5
      clear h4 g4
      obtain ⟨a0, a1, a2, a3, a4⟩ := L1
      obtain ⟨b0, b1, b2, b3, b4⟩ := L2
      go_wp2_with fail
      exact bodyPost_ret (v := .agg #[.int .i64 x, .int .i64 z]) (by clear hm; simp [results, Try.results45, go_sem, *]) rfl ⟨x, z, rfl, by omega, by omega, by repeat (first | exact h5 | refine Cur.set ?_ (by omega) (by omega) _ _), by repeat (first | exact g5 | refine grown_set ?_ (by omega) _ _)⟩
    · have hq0 : (k == 0) = false := by simpa using hk0
      have hq1 : (k == 1) = false := by simpa using hk1
      obtain ⟨a0, a1, a2, a3, a4⟩ := L1
      obtain ⟨b0, b1, b2, b3, b4⟩ := L2
      go_wp2_with fail
      exact bodyPost_ret (v := .agg #[.int .i64 x, .int .i64 y]) (by clear hm; simp [results, Try.results45, go_sem, *]) rfl ⟨x, y, rfl, by omega, by omega, by repeat (first | exact (h4.mono (by omega)) | refine Cur.set ?_ (by omega) (by omega) _ _), by repeat (first | exact g4 | refine grown_set ?_ (by omega) _ _)⟩
def CurRetT (w0 w : World) (b m : Nat) (lo hi : Int) (e : Ending) (w' : World) : Prop :=
  ∃ x y : Int, e = .returned (.tuple #[.int .i64 x, .int .i64 y]) ∧ (lo ≤ x ∧ x ≤ hi) ∧ (lo ≤ y ∧ y ≤ hi) ∧ Cur w0 w' b m ∧ w.grownBy w' (some b)
set_option maxHeartbeats 1000000 in
theorem rate2_any (w0 w : World) (b m : Nat) (h : Cur w0 w b m) (hm : m ≤ 10000000000) : Calls Try.prog 46 #[.pointer (some ⟨b, 0, none⟩)] w (CurRetT w0 w b (m + 4) 0 1002) := by
  go_enter Try.func46, Try.ntmps46
  go_wp2_with fail
  refine (among_lit w0 _ b m [1, 2, 4, 10, 100, 1000, 1001, 0] 0 1001 h rfl rfl rfl (by omega) (by decide) (by decide) (by decide)).mono ?_
  rintro e w2 ⟨y, rfl, y0, y1, h2, g2⟩
  clear h
  go_wp2_with fail
  refine (among_lit w0 _ b (m + 2) [1, y, y / 2, y / 4, 35, 0, y + 1] 0 1002 h2 rfl rfl rfl (by omega) (by simp) (by simp) (by
    intro x hx
    simp only [List.mem_cons, List.not_mem_nil, or_false] at hx
    omega)).mono ?_
  rintro e w3 ⟨x, rfl, x0, x1, h3, g3⟩
  go_wp2_with fail
  go_ret2
  exact ⟨x, y, rfl, ⟨x0, x1⟩, ⟨by omega, by omega⟩, h3, grownBy_trans g2 g3⟩
def DrawnLose (w : World) (e : Ending) (w' : World) : Prop := ∃ x y n d : Int, e = .returned (.tuple #[.agg #[.int .i64 x, .int .i64 y], .int .i64 n, .int .i64 d]) ∧ Ext w w'
set_option maxHeartbeats 1000000 in
theorem drawLose_any (w : World) (A : Option Addr) (n c : Nat) (h : Code w A n) : Calls Try.prog 7 #[.slice A n c] w (DrawnLose w) := by
  go_enter Try.func7, Try.ntmps7
  go_wp2_with fail
  have hx1 := Ext.alloc (Ext.refl w) (Obj.cells #[.int .i64 0, .int .i64 0] 25)
  have hc := cur_new h hx1 c 59 (g := w.heap.size + 1) (by simp)
  have hx2 := Ext.alloc (Ext.refl (w.alloc (.cells #[.int .i64 0, .int .i64 0] 25))) (Obj.cells #[.slice A n c, .int .i64 0, .int .u64 0] 59)
  have L1 := (loc2_new w 0 0 25).ext hx2
  clear hx1 hx2
  refine (brine_any w _ _ 0 hc (by omega)).mono ?_
  rintro e w2 ⟨x, y, rfl, hx, hy, h2, g2⟩
  replace L1 := L1.kept g2 (by omega)
  clear hc g2
  go_wp2_with fail
  have hx3 := Ext.alloc (Ext.refl w2) (Obj.cells #[.int .i64 x, .int .i64 y] 25)
  have L2 := loc2_new w2 x y 25
  have hs2 := L1.1
  have hb2 := h2.lt.2
  replace L1 := L1.ext hx3
  refine (rate2_any w _ _ _ (h2.ext hx3) (by omega)).mono ?_
  rintro e w3 ⟨u, v, rfl, hu, hv, h3, g3⟩
  replace L1 := L1.kept g3 (by omega)
  replace L2 := L2.kept g3 (by omega)
  have n1 : ¬ w.heap.size = w2.heap.size := by omega
  have n2 : ¬ w2.heap.size = w.heap.size := by omega
  obtain ⟨a0, a1, a2, a3, a4⟩ := L1
  obtain ⟨b0, b1, b2, b3, b4⟩ := L2
  have hbase := h3.base
  clear h2 hx3 g3 h3 h
  go_wp2_with fail
  exact bodyPost_ret (v := .tuple #[.agg #[.int .i64 x, .int .i64 y], .int .i64 u, .int .i64 v]) (by simp [results, Try.results7, go_sem, *]) rfl ⟨x, y, u, v, rfl, by repeat (first | exact hbase | refine Ext.setCell ?_ (Nat.le_refl _) _)⟩
theorem drawAdd_any (w : World) (A : Option Addr) (n c : Nat) (h : Code w A n) : Calls Try.prog 11 #[.slice A n c] w (DrawnLose w) := by
  go_enter Try.func11, Try.ntmps11
  go_wp2_with fail
  have hx1 := Ext.alloc (Ext.refl w) (Obj.cells #[.int .i64 0, .int .i64 0] 25)
  have L1 := loc2_new w 0 0 25
  refine (drawLose_any _ A n c (h.ext hx1)).mono ?_
  rintro e w2 ⟨x, y, u, v, rfl, hx⟩
  replace L1 := L1.ext hx
  have hbase := hx1.trans hx
  obtain ⟨a0, a1, a2, a3, a4⟩ := L1
  clear hx1 hx h
  go_wp2_with fail
  exact bodyPost_ret (v := .tuple #[.agg #[.int .i64 x, .int .i64 y], .int .i64 u, .int .i64 v]) (by simp [results, Try.results11, go_sem, *]) rfl ⟨x, y, u, v, rfl, by repeat (first | exact hbase | refine Ext.setCell ?_ (Nat.le_refl _) _)⟩
def DrawnBrine (w : World) (e : Ending) (w' : World) : Prop := ∃ x y : Int, e = .returned (.agg #[.int .i64 x, .int .i64 y]) ∧ Ext w w'
set_option maxHeartbeats 1000000 in
theorem drawIsBrine_any (w : World) (A : Option Addr) (n c : Nat) (h : Code w A n) : Calls Try.prog 58 #[.slice A n c] w (DrawnBrine w) := by
  go_enter Try.func58, Try.ntmps58
  go_wp2_with fail
  have hx1 := Ext.alloc (Ext.refl w) (Obj.cells #[.int .i64 0, .int .i64 0] 25)
  have hc := cur_new h hx1 c 59 (g := w.heap.size + 1) (by simp)
  have hx2 := Ext.alloc (Ext.refl (w.alloc (.cells #[.int .i64 0, .int .i64 0] 25))) (Obj.cells #[.slice A n c, .int .i64 0, .int .u64 0] 59)
  have L1 := (loc2_new w 0 0 25).ext hx2
  clear hx1 hx2
  refine (brine_any w _ _ 0 hc (by omega)).mono ?_
  rintro e w2 ⟨x, y, rfl, hx, hy, h2, g2⟩
  replace L1 := L1.kept g2 (by omega)
  obtain ⟨a0, a1, a2, a3, a4⟩ := L1
  have hbase := h2.base
  clear hc g2 h2 h
  go_wp2_with fail
  exact bodyPost_ret (v := .agg #[.int .i64 x, .int .i64 y]) (by simp [results, Try.results58, go_sem, *]) rfl ⟨x, y, rfl, by repeat (first | exact hbase | refine Ext.setCell ?_ (Nat.le_refl _) _)⟩
theorem drawStrength_any (w : World) (A : Option Addr) (n c : Nat) (h : Code w A n) : Calls Try.prog 17 #[.slice A n c] w (DrawnBrine w) := by
  go_enter Try.func17, Try.ntmps17
  go_wp2_with fail
  have hx1 := Ext.alloc (Ext.refl w) (Obj.cells #[.int .i64 0, .int .i64 0] 25)
  have L1 := loc2_new w 0 0 25
  refine (drawIsBrine_any _ A n c (h.ext hx1)).mono ?_
  rintro e w2 ⟨x, y, rfl, hx⟩
  replace L1 := L1.ext hx
  have hbase := hx1.trans hx
  obtain ⟨a0, a1, a2, a3, a4⟩ := L1
  clear hx1 hx h
  go_wp2_with fail
  exact bodyPost_ret (v := .agg #[.int .i64 x, .int .i64 y]) (by simp [results, Try.results17, go_sem, *]) rfl ⟨x, y, rfl, by repeat (first | exact hbase | refine Ext.setCell ?_ (Nat.le_refl _) _)⟩
def DrawnTwo (w : World) (e : Ending) (w' : World) : Prop := ∃ x y u v : Int, e = .returned (.tuple #[.agg #[.int .i64 x, .int .i64 y], .agg #[.int .i64 u, .int .i64 v]]) ∧ Ext w w'
set_option maxHeartbeats 1000000 in
theorem drawStronger_any (w : World) (A : Option Addr) (n c : Nat) (h : Code w A n) : Calls Try.prog 14 #[.slice A n c] w (DrawnTwo w) := by
  go_enter Try.func14, Try.ntmps14
  go_wp2_with fail
  have hx1 := Ext.alloc (Ext.refl w) (Obj.cells #[.int .i64 0, .int .i64 0] 25)
  have L1 := loc2_new w 0 0 25
  have M1 := loc2_new (w.alloc (.cells #[.int .i64 0, .int .i64 0] 25)) 0 0 25
  rw [show (w.alloc (.cells #[.int .i64 0, .int .i64 0] 25)).heap.size = w.heap.size + 1 by simp] at M1
  have hx2 := Ext.alloc (Ext.refl (w.alloc (.cells #[.int .i64 0, .int .i64 0] 25))) (Obj.cells #[.int .i64 0, .int .i64 0] 25)
  have hc := cur_new h (hx1.trans hx2) c 59 (g := w.heap.size + 1 + 1) (by simp)
  have hx3 := Ext.alloc (Ext.refl ((w.alloc (.cells #[.int .i64 0, .int .i64 0] 25)).alloc (.cells #[.int .i64 0, .int .i64 0] 25))) (Obj.cells #[.slice A n c, .int .i64 0, .int .u64 0] 59)
  replace L1 := (L1.ext hx2).ext hx3
  replace M1 := M1.ext hx3
  clear hx1 hx2 hx3
  refine (brine_any w _ _ 0 hc (by omega)).mono ?_
  rintro e w2 ⟨x, y, rfl, hx, hy, h2, g2⟩
  replace L1 := L1.kept g2 (by omega)
  replace M1 := M1.kept g2 (by omega)
  clear hc g2
  go_wp2_with fail
  have hx3 := Ext.alloc (Ext.refl w2) (Obj.cells #[.int .i64 x, .int .i64 y] 25)
  have L2 := loc2_new w2 x y 25
  have hs2 := M1.1
  have hb2 := h2.lt.2
  replace L1 := L1.ext hx3
  replace M1 := M1.ext hx3
  refine (one_any w _ _ _ 6 (h2.ext hx3) (by omega) (by omega) (by omega)).mono ?_
  rintro e w3 ⟨r, rfl, h3, g3⟩
  replace L1 := L1.kept g3 (by omega)
  replace M1 := M1.kept g3 (by omega)
  replace L2 := L2.kept g3 (by omega)
  have n1 : ¬ w.heap.size = w2.heap.size := by omega
  have n2 : ¬ w2.heap.size = w.heap.size := by omega
  have n3 : ¬ w.heap.size + 1 = w2.heap.size := by omega
  have n4 : ¬ w2.heap.size = w.heap.size + 1 := by omega
  clear h2 hx3 g3 h
  cases r
  · go_wp2_with fail
    have hd := Ext.drew (Ext.refl w3)
    have h3d := h3.ext hd
    have L1d := L1.ext hd
    have M1d := M1.ext hd
    have L2d := L2.ext hd
    obtain ⟨b0, b1, b2, b3, b4⟩ := L2
    go_region_with (go_at_call 45; refine (brine_any w _ _ _ h3d (by omega)).mono ?_; rintro e w4 ⟨u, v, rfl, hu, hv, h4, g4⟩; obtain ⟨p0, p1, p2, p3, p4⟩ := L1d.kept g4 (by omega); obtain ⟨q0, q1, q2, q3, q4⟩ := M1d.kept g4 (by omega); obtain ⟨r0, r1, r2, r3, r4⟩ := L2d.kept g4 (by omega))
    all_goals
      have hbase := h4.base
      go_wp2_with fail
      exact bodyPost_ret (v := .tuple #[.agg #[.int .i64 x, .int .i64 y], .agg #[.int .i64 u, .int .i64 v]]) (by simp [results, Try.results14, go_sem, *]) rfl ⟨x, y, u, v, rfl, by repeat (first | exact hbase | refine Ext.drew ?_ | refine Ext.setCell ?_ (by first | exact Nat.le_refl _ | exact Nat.le_succ _) _)⟩
  · obtain ⟨a0, a1, a2, a3, a4⟩ := L1
    obtain ⟨m0, m1, m2, m3, m4⟩ := M1
    obtain ⟨b0, b1, b2, b3, b4⟩ := L2
    go_wp2_with fail
    go_region
    have hbase := h3.base
    go_wp2_with fail
    exact bodyPost_ret (v := .tuple #[.agg #[.int .i64 x, .int .i64 y], .agg #[.int .i64 (2 * x), .int .i64 (2 * y)]]) (by simp [results, Try.results14, go_sem, *]) rfl ⟨x, y, 2 * x, 2 * y, rfl, by repeat (first | exact hbase | refine Ext.drew ?_ | refine Ext.setCell ?_ (by first | exact Nat.le_refl _ | exact Nat.le_succ _) _)⟩
end Go.Proofs.Ytgehoihfiboeeaa
