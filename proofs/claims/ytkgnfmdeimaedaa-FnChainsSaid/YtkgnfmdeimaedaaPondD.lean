/- The drawing of a pond. -/
import Derived.Test.YtkgnfmdeimaedaaCurS
import Derived.Test.YtkgnfmdeimaedaaPondS
namespace Go.Proofs.Ytkgnfmdeimaedaa
open Go.RowKit
set_option linter.unusedVariables false

/-- A local pond, in a block of its own. -/
def LocP (w : World) (s : Nat) (a l t wd hi dp : Int) : Prop := s < w.heap.size ∧ w.cell? ⟨s, 0, none⟩ = some (.int .i64 a) ∧ w.cell? ⟨s, 1, none⟩ = some (.int .i64 l) ∧ w.cell? ⟨s, 2, none⟩ = some (.int .i64 t) ∧ w.cell? ⟨s, 3, none⟩ = some (.int .i64 wd) ∧ w.cell? ⟨s, 4, none⟩ = some (.int .i64 hi) ∧ w.cell? ⟨s, 5, none⟩ = some (.int .i64 dp) ∧ w.frozen? ⟨s, 0, none⟩ = false ∧ w.frozen? ⟨s, 1, none⟩ = false ∧ w.frozen? ⟨s, 2, none⟩ = false ∧ w.frozen? ⟨s, 3, none⟩ = false ∧ w.frozen? ⟨s, 4, none⟩ = false ∧ w.frozen? ⟨s, 5, none⟩ = false
theorem LocP.kept {w w' : World} {s b : Nat} {a l t wd hi dp : Int} (h : LocP w s a l t wd hi dp) (hg : w.grownBy w' (some b)) (hne : s ≠ b) : LocP w' s a l t wd hi dp := by
  obtain ⟨h0, h1, h2, h3, h4, h5, h6, h7, h8, h9, h10, h11, h12⟩ := h
  have q : some s ≠ some b := fun h => hne (Option.some.inj h)
  exact ⟨Nat.lt_of_lt_of_le h0 hg.size, hg.cell h1 q, hg.cell h2 q, hg.cell h3 q, hg.cell h4 q, hg.cell h5 q, hg.cell h6 q, by rw [hg.frozen_far _ h0 q]; exact h7, by rw [hg.frozen_far _ h0 q]; exact h8, by rw [hg.frozen_far _ h0 q]; exact h9, by rw [hg.frozen_far _ h0 q]; exact h10, by rw [hg.frozen_far _ h0 q]; exact h11, by rw [hg.frozen_far _ h0 q]; exact h12⟩
theorem LocP.ext {w w' : World} {s : Nat} {a l t wd hi dp : Int} (h : LocP w s a l t wd hi dp) (hx : Ext w w') : LocP w' s a l t wd hi dp := by
  obtain ⟨h0, h1, h2, h3, h4, h5, h6, h7, h8, h9, h10, h11, h12⟩ := h
  exact ⟨Nat.lt_of_lt_of_le h0 hx.size_le, by rw [hx.cell h0]; exact h1, by rw [hx.cell h0]; exact h2, by rw [hx.cell h0]; exact h3, by rw [hx.cell h0]; exact h4, by rw [hx.cell h0]; exact h5, by rw [hx.cell h0]; exact h6, by rw [hx.frozen h0]; exact h7, by rw [hx.frozen h0]; exact h8, by rw [hx.frozen h0]; exact h9, by rw [hx.frozen h0]; exact h10, by rw [hx.frozen h0]; exact h11, by rw [hx.frozen h0]; exact h12⟩
theorem locp_new (w : World) (a l t wd hi dp : Int) (ty : TypeId) : LocP (w.alloc (.cells #[.int .i64 a, .int .i64 l, .int .i64 t, .int .i64 wd, .int .i64 hi, .int .i64 dp] ty)) w.heap.size a l t wd hi dp := ⟨by simp, by simp [go_sem], by simp [go_sem], by simp [go_sem], by simp [go_sem], by simp [go_sem], by simp [go_sem], by simp [go_sem], by simp [go_sem], by simp [go_sem], by simp [go_sem], by simp [go_sem], by simp [go_sem]⟩
/-- A method of the cursor that gives a pond. -/
def PondRet (w0 w : World) (b m : Nat) (e : Ending) (w' : World) : Prop :=
  ∃ x : Pd, e = .returned (.agg #[.int .i64 x.id, .int .i64 x.left, .int .i64 x.top, .int .i64 x.wide, .int .i64 x.high, .int .i64 x.depth]) ∧ Cur w0 w' b m ∧ w.grownBy w' (some b)
set_option maxRecDepth 100000 in
set_option maxHeartbeats 8000000 in
theorem pond_any (w0 w : World) (b m : Nat) (a : Int) (h : Cur w0 w b m) (hm : m ≤ 10000000000) : Calls Try.prog 78 #[.pointer (some ⟨b, 0, none⟩), .int .i64 a] w (PondRet w0 w b (m + 14)) := by
  go_enter Try.func78, Try.ntmps78
  go_wp2_with fail
  have hx1 := Ext.alloc (Ext.refl w) (Obj.cells #[.int .i64 0, .int .i64 0, .int .i64 0, .int .i64 0, .int .i64 0, .int .i64 0] 51)
  have L1 := locp_new w 0 0 0 0 0 0 51
  have hb := h.lt.2
  refine (among_lit w0 _ b m [0, 4, 4, 8, 10, 30] 0 30 (h.ext hx1) (by simp) rfl rfl (by omega) (by decide) (by decide) (by decide)).mono ?_
  rintro e w2 ⟨l, rfl, l0, l1, h2, g2⟩
  replace L1 := L1.kept g2 (by omega)
  replace g2 := grownBy_trans (grownBy_ext hx1 (some b)) g2
  clear hx1 l0 l1
  go_wp2_with fail
  refine (among_lit w0 _ b (m + 2) [0, 0, 3, 6, 9, 30] 0 30 h2 rfl rfl rfl (by omega) (by decide) (by decide) (by decide)).mono ?_
  rintro e w3 ⟨t, rfl, t0, t1, h3, g3⟩
  replace L1 := L1.kept g3 (by omega)
  replace g3 := grownBy_trans g2 g3
  clear h2 g2 t0 t1
  go_wp2_with fail
  refine (among_lit w0 _ b (m + 4) [2, 4, 4, 4, 20] 2 20 h3 rfl rfl rfl (by omega) (by decide) (by decide) (by decide)).mono ?_
  rintro e w4 ⟨wd, rfl, wd0, wd1, h4, g4⟩
  replace L1 := L1.kept g4 (by omega)
  replace g4 := grownBy_trans g3 g4
  clear h3 g3 wd0 wd1
  go_wp2_with fail
  refine (among_lit w0 _ b (m + 6) [3, 3, 3, 6, 20] 3 20 h4 rfl rfl rfl (by omega) (by decide) (by decide) (by decide)).mono ?_
  rintro e w5 ⟨hi, rfl, hi0, hi1, h5, g5⟩
  replace L1 := L1.kept g5 (by omega)
  replace g5 := grownBy_trans g4 g5
  clear h4 g4 hi0 hi1
  go_wp2_with fail
  refine (among_lit w0 _ b (m + 8) [5, 30, 40, 200] 5 200 h5 rfl rfl rfl (by omega) (by decide) (by decide) (by decide)).mono ?_
  rintro e w6 ⟨dp, rfl, dp0, dp1, h6, g6⟩
  replace L1 := L1.kept g6 (by omega)
  replace g6 := grownBy_trans g5 g6
  clear h5 g5 dp0 dp1
  go_wp2_with fail
  have hb6 := h6.lt.2
  have hx6 := Ext.alloc (Ext.refl w6) (Obj.cells #[.int .i64 a, .int .i64 l, .int .i64 t, .int .i64 wd, .int .i64 hi, .int .i64 dp] 51)
  have L2 := locp_new w6 a l t wd hi dp 51
  have hs6 := L1.1
  have hw0 := h.lt.1
  replace L1 := L1.ext hx6
  refine (pick_any w0 _ b (m + 10) 90 (h6.ext hx6) (by omega) (by omega) (by omega)).mono ?_
  rintro e w7 ⟨k, rfl, k0, k1, h7, g7⟩
  replace L1 := L1.kept g7 (by omega)
  replace L2 := L2.kept g7 (by omega)
  replace g7 := grownBy_trans (grown_alloc g6 _) g7
  clear h6 g6 hx6 h
  have n1 : ¬ w.heap.size = w6.heap.size := by omega
  have n2 : ¬ w6.heap.size = w.heap.size := by omega
  by_cases hk0 : k = 0
  · subst hk0
    go_wp2_with fail
    refine (among_lit w0 _ b (m + 12) [0, 99, 100] (0) 100 h7 rfl rfl rfl (by omega) (by decide) (by decide) (by decide)).mono ?_
    rintro e w8 ⟨z, rfl, z0, z1, h8, g8⟩
    replace L1 := L1.kept g8 (by omega)
    replace L2 := L2.kept g8 (by omega)
    replace g8 := grownBy_trans g7 g8
    clear h7 g7 z0 z1
    obtain ⟨a0, a1, a2, a3, a4, a5, a6, a7, a8, a9, a10, a11, a12⟩ := L1
    obtain ⟨b0, b1, b2, b3, b4, b5, b6, b7, b8, b9, b10, b11, b12⟩ := L2
    go_wp2_with fail
    exact bodyPost_ret (v := .agg #[.int .i64 z, .int .i64 l, .int .i64 t, .int .i64 wd, .int .i64 hi, .int .i64 dp]) (by clear hm; simp [results, Try.results78, go_sem, *]) rfl ⟨⟨z, l, t, wd, hi, dp⟩, rfl, by repeat (with_reducible first | exact (h8.mono (by omega)) | refine Cur.set ?_ (by omega) (by omega) _ _), by repeat (with_reducible first | exact g8 | refine grown_set ?_ (by omega) _ _)⟩
  · have hq0 : (k == 0) = false := by simpa using hk0
    by_cases hk1 : k = 1
    · subst hk1
      go_wp2_with fail
      refine (among_lit w0 _ b (m + 12) [-1, 49, 50] (-1) 50 h7 rfl rfl rfl (by omega) (by decide) (by decide) (by decide)).mono ?_
      rintro e w8 ⟨z, rfl, z0, z1, h8, g8⟩
      replace L1 := L1.kept g8 (by omega)
      replace L2 := L2.kept g8 (by omega)
      replace g8 := grownBy_trans g7 g8
      clear h7 g7 z0 z1
      obtain ⟨a0, a1, a2, a3, a4, a5, a6, a7, a8, a9, a10, a11, a12⟩ := L1
      obtain ⟨b0, b1, b2, b3, b4, b5, b6, b7, b8, b9, b10, b11, b12⟩ := L2
      go_wp2_with fail
      exact bodyPost_ret (v := .agg #[.int .i64 a, .int .i64 z, .int .i64 t, .int .i64 wd, .int .i64 hi, .int .i64 dp]) (by clear hm; simp [results, Try.results78, go_sem, *]) rfl ⟨⟨a, z, t, wd, hi, dp⟩, rfl, by repeat (with_reducible first | exact (h8.mono (by omega)) | refine Cur.set ?_ (by omega) (by omega) _ _), by repeat (with_reducible first | exact g8 | refine grown_set ?_ (by omega) _ _)⟩
    · have hq1 : (k == 1) = false := by simpa using hk1
      by_cases hk2 : k = 2
      · subst hk2
        go_wp2_with fail
        refine (among_lit w0 _ b (m + 12) [-1, 49, 50] (-1) 50 h7 rfl rfl rfl (by omega) (by decide) (by decide) (by decide)).mono ?_
        rintro e w8 ⟨z, rfl, z0, z1, h8, g8⟩
        replace L1 := L1.kept g8 (by omega)
        replace L2 := L2.kept g8 (by omega)
        replace g8 := grownBy_trans g7 g8
        clear h7 g7 z0 z1
        obtain ⟨a0, a1, a2, a3, a4, a5, a6, a7, a8, a9, a10, a11, a12⟩ := L1
        obtain ⟨b0, b1, b2, b3, b4, b5, b6, b7, b8, b9, b10, b11, b12⟩ := L2
        go_wp2_with fail
        exact bodyPost_ret (v := .agg #[.int .i64 a, .int .i64 l, .int .i64 z, .int .i64 wd, .int .i64 hi, .int .i64 dp]) (by clear hm; simp [results, Try.results78, go_sem, *]) rfl ⟨⟨a, l, z, wd, hi, dp⟩, rfl, by repeat (with_reducible first | exact (h8.mono (by omega)) | refine Cur.set ?_ (by omega) (by omega) _ _), by repeat (with_reducible first | exact g8 | refine grown_set ?_ (by omega) _ _)⟩
      · have hq2 : (k == 2) = false := by simpa using hk2
        by_cases hk3 : k = 3
        · subst hk3
          go_wp2_with fail
          refine (among_lit w0 _ b (m + 12) [0, 21] (0) 21 h7 rfl rfl rfl (by omega) (by decide) (by decide) (by decide)).mono ?_
          rintro e w8 ⟨z, rfl, z0, z1, h8, g8⟩
          replace L1 := L1.kept g8 (by omega)
          replace L2 := L2.kept g8 (by omega)
          replace g8 := grownBy_trans g7 g8
          clear h7 g7 z0 z1
          obtain ⟨a0, a1, a2, a3, a4, a5, a6, a7, a8, a9, a10, a11, a12⟩ := L1
          obtain ⟨b0, b1, b2, b3, b4, b5, b6, b7, b8, b9, b10, b11, b12⟩ := L2
          go_wp2_with fail
          exact bodyPost_ret (v := .agg #[.int .i64 a, .int .i64 l, .int .i64 t, .int .i64 z, .int .i64 hi, .int .i64 dp]) (by clear hm; simp [results, Try.results78, go_sem, *]) rfl ⟨⟨a, l, t, z, hi, dp⟩, rfl, by repeat (with_reducible first | exact (h8.mono (by omega)) | refine Cur.set ?_ (by omega) (by omega) _ _), by repeat (with_reducible first | exact g8 | refine grown_set ?_ (by omega) _ _)⟩
        · have hq3 : (k == 3) = false := by simpa using hk3
          by_cases hk4 : k = 4
          · subst hk4
            go_wp2_with fail
            refine (among_lit w0 _ b (m + 12) [0, 21] (0) 21 h7 rfl rfl rfl (by omega) (by decide) (by decide) (by decide)).mono ?_
            rintro e w8 ⟨z, rfl, z0, z1, h8, g8⟩
            replace L1 := L1.kept g8 (by omega)
            replace L2 := L2.kept g8 (by omega)
            replace g8 := grownBy_trans g7 g8
            clear h7 g7 z0 z1
            obtain ⟨a0, a1, a2, a3, a4, a5, a6, a7, a8, a9, a10, a11, a12⟩ := L1
            obtain ⟨b0, b1, b2, b3, b4, b5, b6, b7, b8, b9, b10, b11, b12⟩ := L2
            go_wp2_with fail
            exact bodyPost_ret (v := .agg #[.int .i64 a, .int .i64 l, .int .i64 t, .int .i64 wd, .int .i64 z, .int .i64 dp]) (by clear hm; simp [results, Try.results78, go_sem, *]) rfl ⟨⟨a, l, t, wd, z, dp⟩, rfl, by repeat (with_reducible first | exact (h8.mono (by omega)) | refine Cur.set ?_ (by omega) (by omega) _ _), by repeat (with_reducible first | exact g8 | refine grown_set ?_ (by omega) _ _)⟩
          · have hq4 : (k == 4) = false := by simpa using hk4
            by_cases hk5 : k = 5
            · subst hk5
              go_wp2_with fail
              refine (among_lit w0 _ b (m + 12) [4, 201] (4) 201 h7 rfl rfl rfl (by omega) (by decide) (by decide) (by decide)).mono ?_
              rintro e w8 ⟨z, rfl, z0, z1, h8, g8⟩
              replace L1 := L1.kept g8 (by omega)
              replace L2 := L2.kept g8 (by omega)
              replace g8 := grownBy_trans g7 g8
              clear h7 g7 z0 z1
              obtain ⟨a0, a1, a2, a3, a4, a5, a6, a7, a8, a9, a10, a11, a12⟩ := L1
              obtain ⟨b0, b1, b2, b3, b4, b5, b6, b7, b8, b9, b10, b11, b12⟩ := L2
              go_wp2_with fail
              exact bodyPost_ret (v := .agg #[.int .i64 a, .int .i64 l, .int .i64 t, .int .i64 wd, .int .i64 hi, .int .i64 z]) (by clear hm; simp [results, Try.results78, go_sem, *]) rfl ⟨⟨a, l, t, wd, hi, z⟩, rfl, by repeat (with_reducible first | exact (h8.mono (by omega)) | refine Cur.set ?_ (by omega) (by omega) _ _), by repeat (with_reducible first | exact g8 | refine grown_set ?_ (by omega) _ _)⟩
            · have hq5 : (k == 5) = false := by simpa using hk5
              obtain ⟨a0, a1, a2, a3, a4, a5, a6, a7, a8, a9, a10, a11, a12⟩ := L1
              obtain ⟨b0, b1, b2, b3, b4, b5, b6, b7, b8, b9, b10, b11, b12⟩ := L2
              go_wp2_with fail
              exact bodyPost_ret (v := .agg #[.int .i64 a, .int .i64 l, .int .i64 t, .int .i64 wd, .int .i64 hi, .int .i64 dp]) (by clear hm; simp [results, Try.results78, go_sem, *]) rfl ⟨⟨a, l, t, wd, hi, dp⟩, rfl, by repeat (with_reducible first | exact (h7.mono (by omega)) | refine Cur.set ?_ (by omega) (by omega) _ _), by repeat (with_reducible first | exact g7 | refine grown_set ?_ (by omega) _ _)⟩
end Go.Proofs.Ytkgnfmdeimaedaa
