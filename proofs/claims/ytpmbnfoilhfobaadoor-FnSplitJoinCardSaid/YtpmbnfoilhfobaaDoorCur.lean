/- The cursor that draws choices from bytes: what holds of its block, and the contracts of its methods that every drawing uses. -/
import Derived.Test.YtpmbnfoilhfobaaDoorOwn
import Derived.Test.YtpmbnfoilhfobaaDoorRows
import Derived.Laws.BitsAllLaws
import Derived.Deep.AppendLies
namespace Go.Proofs.YtpmbnfoilhfobaaDoor
open Go.RowKit
set_option linter.unusedVariables false

/-- Block b, newer than w0, holds a cursor over bytes that lie in w0; it has drawn m bytes at most. -/
def Cur (w0 w : World) (b m : Nat) : Prop :=
  ∃ (A : Option Addr) (n c : Nat) (z : Nat → Int) (p : Nat) (s : Int), (Rd w0 A n 1 (fun i _ => .int .u8 (z i)) ∧ (∀ i, i < n → 0 ≤ z i ∧ z i ≤ 255) ∧ n ≤ maxLen) ∧ Ext w0 w ∧ w0.heap.size ≤ b ∧ b < w.heap.size ∧
    w.cell? ⟨b, 0, none⟩ = some (.slice A n c) ∧ w.cell? ⟨b, 1, none⟩ = some (.int .i64 p) ∧ w.cell? ⟨b, 2, none⟩ = some (.int .u64 s) ∧ p ≤ m ∧ 0 ≤ s ∧ s < 18446744073709551616 ∧
    w.frozen? ⟨b, 0, none⟩ = false ∧ w.frozen? ⟨b, 1, none⟩ = false ∧ w.frozen? ⟨b, 2, none⟩ = false
theorem Cur.base {w0 w : World} {b m : Nat} (h : Cur w0 w b m) : Ext w0 w := by
  obtain ⟨A, n, c, z, p, s, _, h1, _⟩ := h; exact h1
theorem Cur.lt {w0 w : World} {b m : Nat} (h : Cur w0 w b m) : w0.heap.size ≤ b ∧ b < w.heap.size := by
  obtain ⟨A, n, c, z, p, s, _, _, h1, h2, _⟩ := h; exact ⟨h1, h2⟩
theorem Cur.mono {w0 w : World} {b m m' : Nat} (h : Cur w0 w b m) (hm : m ≤ m') : Cur w0 w b m' := by
  obtain ⟨A, n, c, z, p, s, a1, a2, a3, a4, a5, a6, a7, a8, a9⟩ := h
  exact ⟨A, n, c, z, p, s, a1, a2, a3, a4, a5, a6, a7, Nat.le_trans a8 hm, a9⟩
/-- What leaves old cells alone leaves the cursor. -/
theorem Cur.ext {w0 w w' : World} {b m : Nat} (h : Cur w0 w b m) (hx : Ext w w') : Cur w0 w' b m := by
  obtain ⟨A, n, c, z, p, s, a1, a2, a3, a4, a5, a6, a7, a8, a9, a10, f0, f1, f2⟩ := h
  exact ⟨A, n, c, z, p, s, a1, a2.trans hx, a3, Nat.lt_of_lt_of_le a4 hx.size_le, by rw [hx.cell a4]; exact a5, by rw [hx.cell a4]; exact a6, by rw [hx.cell a4]; exact a7, a8, a9, a10, by rw [hx.frozen a4]; exact f0, by rw [hx.frozen a4]; exact f1, by rw [hx.frozen a4]; exact f2⟩
/-- A call of one of the cursor's methods: a number from lo to hi; the cursor goes on. -/
def CurRet (w0 w : World) (b m : Nat) (lo hi : Int) (e : Ending) (w' : World) : Prop :=
  ∃ x : Int, e = .returned (.int .i64 x) ∧ lo ≤ x ∧ x ≤ hi ∧ Cur w0 w' b m ∧ w.grownBy w' (some b)
theorem Cur.step {w0 w : World} {b m n c : Nat} {A : Option Addr} {z : Nat → Int} {p : Nat} {s s' : Int} (H : Hid (Rd w0 A n 1 (fun i _ => .int .u8 (z i)) ∧ (∀ i, i < n → 0 ≤ z i ∧ z i ≤ 255) ∧ n ≤ maxLen)) (hx : Ext w0 w) (hb : w0.heap.size ≤ b) (hbw : b < w.heap.size)
    (c0 : w.cell? ⟨b, 0, none⟩ = some (.slice A n c)) (c1 : w.cell? ⟨b, 1, none⟩ = some (.int .i64 p)) (c2 : w.cell? ⟨b, 2, none⟩ = some (.int .u64 s)) (hp : p ≤ m)
    (f0 : w.frozen? ⟨b, 0, none⟩ = false) (f1 : w.frozen? ⟨b, 1, none⟩ = false) (f2 : w.frozen? ⟨b, 2, none⟩ = false) (s0 : 0 ≤ s') (s1 : s' < 18446744073709551616) (x y : World) :
    Cur w0 (gw (((gw w x).setCell ⟨b, 1, none⟩ (.int .i64 ((p : Int) + 1))).setCell ⟨b, 2, none⟩ (.int .u64 s')) y) b (m + 1) ∧
    w.grownBy (gw (((gw w x).setCell ⟨b, 1, none⟩ (.int .i64 ((p : Int) + 1))).setCell ⟨b, 2, none⟩ (.int .u64 s')) y) (some b) := by
  have hbg : b < (gw w x).heap.size := gw_lt _ _ _ hbw
  have hs : b < (((gw w x).setCell ⟨b, 1, none⟩ (.int .i64 ((p : Int) + 1))).setCell ⟨b, 2, none⟩ (.int .u64 s')).heap.size := by simpa using hbg
  refine ⟨⟨A, n, c, z, p + 1, s', H.out, ?_, hb, gw_lt _ _ _ hs, ?_, ?_, ?_, by omega, s0, s1, ?_, ?_, ?_⟩, ?_⟩
  · exact (((hx.gw x).setCell (p := ⟨b, 1, none⟩) hb _).setCell (p := ⟨b, 2, none⟩) hb _).gw y
  · rw [gw_cell _ _ _ hs]; simp [go_sem, hbw, c0]
  · rw [gw_cell _ _ _ hs]; simp [go_sem, hbw, c1]
  · rw [gw_cell _ _ _ hs]; simp [go_sem, hbw, c2]
  · rw [gw_frozen _ _ _ hs]; simp [go_sem, hbw, f0]
  · rw [gw_frozen _ _ _ hs]; simp [go_sem, hbw, f1]
  · rw [gw_frozen _ _ _ hs]; simp [go_sem, hbw, f2]
  · exact grownBy_trans (grownBy_trans (grownBy_trans (grownBy_ext (ext_gw w x) _) (grownBy_set _ _ _)) (grownBy_set _ _ _)) (grownBy_ext (ext_gw _ y) _)
theorem u64_in (x : Int) : 0 ≤ IntKind.u64.wrap x ∧ IntKind.u64.wrap x < 18446744073709551616 := by
  rw [IntKind.wrap_u64]
  omega
theorem low255 (s : Int) (h0 : 0 ≤ s) (h1 : s < 18446744073709551616) : 0 ≤ wrap64 (bits .and .u64 (s / 1099511627776) 255) ∧ wrap64 (bits .and .u64 (s / 1099511627776) 255) ≤ 255 := by
  have h2 := u64_and (s / 1099511627776) 255 (by omega) (by omega) (by omega) (by omega)
  have h3 : (s / 1099511627776).toNat &&& (255 : Int).toNat ≤ 255 := Nat.and_le_right
  rw [h2]
  generalize (s / 1099511627776).toNat &&& (255 : Int).toNat = q at *
  simp only [wrap64]
  omega
set_option maxRecDepth 100000 in
set_option maxHeartbeats 1000000 in
theorem next_any (w0 w : World) (b m : Nat) (h : Cur w0 w b m) (hm : m ≤ 1000000000000) : Calls Tryd.prog 75 #[.pointer (some ⟨b, 0, none⟩)] w (CurRet w0 w b (m + 1) 0 255) := by
  obtain ⟨A, n, c, z, p, s, H0, hx, hb, hbw, c0, c1, c2, hp, hs0, hs1, f0, f1, f2⟩ := h
  have HX := Lib.hid hx
  have HZ := Lib.hid H0
  obtain ⟨hr, hz, hn⟩ := H0
  have HR := Lib.hid hr
  clear hr
  have HS := fun s' h0 h1 x y => Lib.hid (Cur.step (s' := s') HZ hx hb hbw c0 c1 c2 hp f0 f1 f2 h0 h1 x y)
  have HSS := Lib.hid HS
  clear HS
  unfold maxLen at hn
  by_cases hlt : p < n
  · obtain ⟨g, off, rfl, hg, hc⟩ := HR.out (by omega)
    obtain ⟨zp, hzp⟩ : ∃ y, z p = y := ⟨_, rfl⟩
    have d0 : w0.cell? ⟨g, off + p, none⟩ = some (.int .u8 zp) := by
      have h := hc p 0 hlt (by omega)
      rw [Nat.add_zero, Nat.mul_one] at h
      rw [h]
      show some (Value.int IntKind.u8 (z p)) = _
      rw [hzp]
    obtain ⟨z0, z1⟩ := hz p hlt
    rw [hzp] at z0 z1
    have hgw := Nat.lt_of_lt_of_le hg hx.size_le
    rw [← hx.cell (p := ⟨g, off + p, none⟩) hg] at d0
    have hne : g ≠ b := by omega
    have i0 : (0 : Int) ≤ (p : Int) := by omega
    have i1 : (p : Int) < (n : Int) := by omega
    have i2 : (p : Int) + 1 ≤ (n : Int) := by omega
    have e1 : wrap64 zp = zp := by simp [wrap64]; omega
    clear hc hx hzp
    go_enter Tryd.func75, Tryd.ntmps75
    go_wp2_with fail
    first | refine wp_region_grow2 (by kernel_rfl) (by kernel_rfl) ?_ | refine wp_region_grow (by kernel_rfl) (by kernel_rfl) ?_
    repeat (go_big_quiet_step (fail))
    refine wpQuiet_nil ?_
    rintro _ ⟨xq, rfl⟩
    go_wp2_with fail
    first | refine wp_region_grow2 (by kernel_rfl) (by kernel_rfl) ?_ | refine wp_region_grow (by kernel_rfl) (by kernel_rfl) ?_
    repeat (go_big_quiet_step (fail))
    refine wpQuiet_nil ?_
    rintro _ ⟨xq, rfl⟩
    go_wp2_with fail
    first | refine wp_region_grow2 (by kernel_rfl) (by kernel_rfl) ?_ | refine wp_region_grow (by kernel_rfl) (by kernel_rfl) ?_
    repeat (go_big_quiet_step (fail))
    refine wpQuiet_nil ?_
    rintro _ ⟨xq, rfl⟩
    go_wp2_with fail
    go_ret
    exact ⟨zp, by first | rfl | rw [e1], z0, z1, (HSS.out _ (u64_in _).1 (u64_in _).2 _ _).out⟩
  · have i0 : (0 : Int) ≤ (p : Int) := by omega
    have i1 : (n : Int) ≤ (p : Int) := by omega
    have i2 : (n : Int) < (p : Int) + 1 := by omega
    clear hx
    go_enter Tryd.func75, Tryd.ntmps75
    go_wp2_with fail
    first | refine wp_region_grow2 (by kernel_rfl) (by kernel_rfl) ?_ | refine wp_region_grow (by kernel_rfl) (by kernel_rfl) ?_
    repeat (go_big_quiet_step (fail))
    refine wpQuiet_nil ?_
    rintro _ ⟨xq, rfl⟩
    go_wp2_with fail
    first | refine wp_region_grow2 (by kernel_rfl) (by kernel_rfl) ?_ | refine wp_region_grow (by kernel_rfl) (by kernel_rfl) ?_
    repeat (go_big_quiet_step (fail))
    refine wpQuiet_nil ?_
    rintro _ ⟨xq, rfl⟩
    go_wp2_with fail
    go_ret
    exact ⟨_, rfl, (low255 _ (u64_in _).1 (u64_in _).2).1, (low255 _ (u64_in _).1 (u64_in _).2).2, (HSS.out _ (u64_in _).1 (u64_in _).2 _ _).out⟩
theorem CurRet.first {w0 w1 w2 : World} {b m : Nat} {lo hi : Int} {e : Ending} {w' : World} (h : w1.grownBy w2 (some b)) (k : CurRet w0 w2 b m lo hi e w') : CurRet w0 w1 b m lo hi e w' := by
  obtain ⟨x, h1, h2, h3, h4, h5⟩ := k
  exact ⟨x, h1, h2, h3, h4, grownBy_trans h h5⟩
theorem mod_in (x n : Int) (hn : 0 < n) : 0 ≤ x % n ∧ x % n ≤ n - 1 := by
  have h1 := Int.emod_nonneg x (show n ≠ 0 by omega)
  have h2 := Int.emod_lt_of_pos x hn
  exact ⟨h1, by omega⟩
set_option maxHeartbeats 1000000 in
theorem pick_any (w0 w : World) (b m : Nat) (n : Int) (h : Cur w0 w b m) (hm : m ≤ 100000000000) (hn : 1 ≤ n) (hn1 : n ≤ 1000000) : Calls Tryd.prog 55 #[.pointer (some ⟨b, 0, none⟩), .int .i64 n] w (CurRet w0 w b (m + 2) 0 (n - 1)) := by
  by_cases h1 : n ≤ 1
  · go_enter Tryd.func55, Tryd.ntmps55
    go_wp2_with fail
    go_ret
    exact ⟨0, rfl, by omega, by omega, h.mono (by omega), World.grownBy.refl _ _⟩
  · by_cases h2 : n ≤ 200
    · go_enter Tryd.func55, Tryd.ntmps55
      go_wp2_with fail
      refine (next_any w0 _ b m h (by omega)).mono ?_
      rintro e w1 ⟨x, rfl, x0, x1, hc, hg⟩
      have hq : ¬ n = 0 := by omega
      go_wp2_with fail
      go_ret
      exact ⟨_, rfl, (mod_in x n (by omega)).1, (mod_in x n (by omega)).2, hc.mono (by omega), hg⟩
    · go_enter Tryd.func55, Tryd.ntmps55
      go_wp2_with fail
      refine (next_any w0 _ b m h (by omega)).mono ?_
      rintro e w1 ⟨x, rfl, x0, x1, hc, hg⟩
      go_wp2_with fail
      refine (next_any w0 _ b (m + 1) hc (by omega)).mono ?_
      rintro e w2 ⟨y, rfl, y0, y1, hc2, hg2⟩
      have hq : ¬ n = 0 := by omega
      go_wp2_with fail
      go_ret
      exact ⟨_, rfl, (mod_in (x * 256 + y) n (by omega)).1, (mod_in (x * 256 + y) n (by omega)).2, hc2, grownBy_trans hg hg2⟩
/-- The same for a yes or no. -/
def CurRetB (w0 w : World) (b m : Nat) (e : Ending) (w' : World) : Prop :=
  ∃ x : Bool, e = .returned (.bool x) ∧ Cur w0 w' b m ∧ w.grownBy w' (some b)
theorem one_any (w0 w : World) (b m : Nat) (n : Int) (h : Cur w0 w b m) (hm : m ≤ 100000000000) (hn : 1 ≤ n) (hn1 : n ≤ 1000000) : Calls Tryd.prog 58 #[.pointer (some ⟨b, 0, none⟩), .int .i64 n] w (CurRetB w0 w b (m + 2)) := by
  go_enter Tryd.func58, Tryd.ntmps58
  go_wp2_with fail
  refine (pick_any w0 _ b m n h hm hn hn1).mono ?_
  rintro e w1 ⟨x, rfl, x0, x1, hc, hg⟩
  go_wp2_with fail
  go_ret
  exact ⟨_, rfl, hc, hg⟩
set_option maxHeartbeats 1000000 in
theorem among_any (w0 w : World) (b m : Nat) (l : List Int) (lo hi : Int) (g : Nat) (n c : Nat) (h : Cur w0 w b m) (hm : m ≤ 100000000000) (hn : n = l.length) (h0 : 0 < n) (h1 : n ≤ 1000000) (hl : ∀ x, x ∈ l → lo ≤ x ∧ x ≤ hi) (hg : g < w.heap.size) (hgb : g ≠ b)
    (hc : ∀ (i : Nat) x, l[i]? = some x → w.cell? ⟨g, i, none⟩ = some (.int .i64 x)) :
    Calls Tryd.prog 54 #[.pointer (some ⟨b, 0, none⟩), .slice (some ⟨g, 0, none⟩) n c] w (CurRet w0 w b (m + 2) lo hi) := by
  have HL := Lib.hid hl
  have HC := Lib.hid hc
  have HN := Lib.hid hn
  clear hl hc hn
  go_enter Tryd.func54, Tryd.ntmps54
  go_wp2_with fail
  refine (pick_any w0 _ b m (n : Int) h hm (by omega) (by omega)).mono ?_
  rintro e w1 ⟨y, rfl, y0, y1, hcu, hgr⟩
  obtain ⟨k, rfl⟩ : ∃ k : Nat, y = (k : Int) := ⟨y.toNat, by omega⟩
  have hk : k < l.length := by have := HN.out; omega
  have d0 := hgr.cell (HC.out k _ (List.getElem?_eq_getElem hk)) (fun h => hgb (Option.some.inj h))
  have HB := Lib.hid (HL.out _ (List.getElem_mem hk))
  generalize l[k] = x at *
  have i1 : (k : Int) < (n : Int) := by omega
  have hgw := Nat.lt_of_lt_of_le hg hgr.size
  go_wp2_with fail
  go_ret
  exact ⟨x, rfl, HB.out.1, HB.out.2, hcu, hgr⟩
/-- Over a list that was written where it is wanted. -/
theorem among_lit (w0 w : World) (b m : Nat) (l : List Int) (lo hi : Int) {t : TypeId} {g n c : Nat} {cs : Array Value} (h : Cur w0 w b m) (hg : g = w.heap.size) (hcs : (l.map (Value.int .i64)).toArray = cs) (hn : n = l.length) (hm : m ≤ 100000000000) (h0 : 0 < n) (h1 : n ≤ 1000000) (hl : ∀ x, x ∈ l → lo ≤ x ∧ x ≤ hi) :
    Calls Tryd.prog 54 #[.pointer (some ⟨b, 0, none⟩), .slice (some ⟨g, 0, none⟩) n c] (w.alloc (.cells cs t)) (CurRet w0 w b (m + 2) lo hi) := by
  subst hg hcs
  have hx := Ext.alloc (Ext.refl w) (Obj.cells (l.map (Value.int .i64)).toArray t)
  refine (among_any w0 _ b m l lo hi w.heap.size n c (h.ext hx) hm hn h0 h1 hl (by simp) (by have := h.lt.2; omega) (fun i x hi => by
    simp [go_sem, hi])).mono ?_
  rintro e w' ⟨x, r1, r2, r3, r4, r5⟩
  exact ⟨x, r1, r2, r3, r4, grownBy_trans (grownBy_ext hx _) r5⟩
/-- A local struct of two numbers, in a block of its own. -/
def Loc2 (w : World) (s : Nat) (x y : Int) : Prop := s < w.heap.size ∧ w.cell? ⟨s, 0, none⟩ = some (.int .i64 x) ∧ w.cell? ⟨s, 1, none⟩ = some (.int .i64 y) ∧ w.frozen? ⟨s, 0, none⟩ = false ∧ w.frozen? ⟨s, 1, none⟩ = false
theorem Loc2.kept {w w' : World} {s b : Nat} {x y : Int} (h : Loc2 w s x y) (hg : w.grownBy w' (some b)) (hne : s ≠ b) : Loc2 w' s x y := by
  obtain ⟨h0, h1, h2, h3, h4⟩ := h
  have q : some s ≠ some b := fun h => hne (Option.some.inj h)
  exact ⟨Nat.lt_of_lt_of_le h0 hg.size, hg.cell h1 q, hg.cell h2 q, by rw [hg.frozen_far _ h0 q]; exact h3, by rw [hg.frozen_far _ h0 q]; exact h4⟩
theorem Loc2.ext {w w' : World} {s : Nat} {x y : Int} (h : Loc2 w s x y) (hx : Ext w w') : Loc2 w' s x y := by
  obtain ⟨h0, h1, h2, h3, h4⟩ := h
  exact ⟨Nat.lt_of_lt_of_le h0 hx.size_le, by rw [hx.cell h0]; exact h1, by rw [hx.cell h0]; exact h2, by rw [hx.frozen h0]; exact h3, by rw [hx.frozen h0]; exact h4⟩
theorem loc2_new (w : World) (x y : Int) (t : TypeId) : Loc2 (w.alloc (.cells #[.int .i64 x, .int .i64 y] t)) w.heap.size x y := ⟨by simp, by simp [go_sem], by simp [go_sem], by simp [go_sem], by simp [go_sem]⟩
/-- A store into a newer block of the call's own. -/
theorem Cur.set {w0 w : World} {b m s : Nat} (h : Cur w0 w b m) (hs : w0.heap.size ≤ s) (hne : s ≠ b) (i : Nat) (u : Value) : Cur w0 (w.setCell ⟨s, i, none⟩ u) b m := by
  have hg : w.grownBy (w.setCell ⟨s, i, none⟩ u) (some s) := grownBy_set w ⟨s, i, none⟩ u
  obtain ⟨A, n, c, z, p, s', a1, a2, a3, a4, a5, a6, a7, a8, a9, a10, f0, f1, f2⟩ := h
  have q : some b ≠ some s := fun h => hne (Option.some.inj h).symm
  exact ⟨A, n, c, z, p, s', a1, a2.setCell (p := ⟨s, i, none⟩) hs u, a3, Nat.lt_of_lt_of_le a4 hg.size, hg.cell a5 q, hg.cell a6 q, hg.cell a7 q, a8, a9, a10, by rw [hg.frozen_far _ a4 q]; exact f0, by rw [hg.frozen_far _ a4 q]; exact f1, by rw [hg.frozen_far _ a4 q]; exact f2⟩
theorem grown_set {w w' : World} {row : Option Nat} (h : w.grownBy w' row) {s : Nat} (hs : w.heap.size ≤ s) (i : Nat) (u : Value) : w.grownBy (w'.setCell ⟨s, i, none⟩ u) row := by
  have hg : w'.grownBy (w'.setCell ⟨s, i, none⟩ u) (some s) := grownBy_set w' ⟨s, i, none⟩ u
  exact ⟨hg.os.trans h.os, hg.tape.trans h.tape, hg.output.trans h.output, Nat.le_trans h.size hg.size, fun k hk hne => (hg.block k (Nat.lt_of_lt_of_le hk h.size) (fun h => by have := Option.some.inj h; omega)).trans (h.block k hk hne)⟩
theorem grown_alloc {w w' : World} {row : Option Nat} (h : w.grownBy w' row) (o : Obj) : w.grownBy (w'.alloc o) row := grownBy_trans h (World.grownBy_alloc w' o row)
/-- Bytes that a drawing reads. -/
def Code (w : World) (A : Option Addr) (n : Nat) : Prop := ∃ z : Nat → Int, Rd w A n 1 (fun i _ => .int .u8 (z i)) ∧ (∀ i, i < n → 0 ≤ z i ∧ z i ≤ 255) ∧ n ≤ maxLen
theorem Code.ext {w w' : World} {A : Option Addr} {n : Nat} (h : Code w A n) (hx : Ext w w') : Code w' A n := by
  obtain ⟨z, h1, h2⟩ := h
  exact ⟨z, h1.ext hx, h2⟩
theorem cur_new {w w1 : World} {A : Option Addr} {n : Nat} (h : Code w A n) (hx : Ext w w1) (c : Nat) (t : TypeId) {g : Nat} (hg : g = w1.heap.size) : Cur w (w1.alloc (.cells #[.slice A n c, .int .i64 0, .int .u64 0] t)) g 0 := by
  subst hg
  obtain ⟨z, h1, h2⟩ := h
  exact ⟨A, n, c, z, 0, 0, ⟨h1, h2⟩, hx.alloc _, hx.size_le, by simp, by simp [go_sem], by simp [go_sem], by simp [go_sem], Nat.le_refl _, by decide, by decide, by simp [go_sem], by simp [go_sem], by simp [go_sem]⟩
end Go.Proofs.YtpmbnfoilhfobaaDoor
