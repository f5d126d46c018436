/- The drawings of the laws on ponds. -/
import Derived.Test.YtkgnfmdeimaedaaPondsD
namespace Go.Proofs.Ytkgnfmdeimaedaa
open Go.RowKit
set_option linter.unusedVariables false

/-- A method of the cursor that gives some number. -/
def CurRetX (w0 w : World) (b m : Nat) (e : Ending) (w' : World) : Prop := ∃ x : Int, e = .returned (.int .i64 x) ∧ Cur w0 w' b m ∧ w.grownBy w' (some b)
set_option maxHeartbeats 1000000 in
theorem pondId_any (w0 w : World) (b m : Nat) (A : Option Addr) (n c : Nat) (p : Nat → Pd) (h : Cur w0 w b m) (hm : m ≤ 1000000000) (hcm : c ≤ maxLen) (hnc : n ≤ c) (hn : n ≤ 100) (hr : Rd w A n 6 (pdF p)) (hne : ∀ a, A = some a → a.block ≠ b) :
    Calls Try.prog 75 #[.pointer (some ⟨b, 0, none⟩), .slice A n c] w (CurRetX w0 w b (m + 6)) := by
  have HNE := Lib.hid hne
  clear hne
  by_cases hn0 : n = 0
  · subst hn0
    clear hr
    go_enter Try.func75, Try.ntmps75
    go_wp2_with fail
    refine (among_lit w0 _ b m [0, 1, 50] 0 50 h rfl rfl rfl (by omega) (by decide) (by decide) (by decide)).mono ?_
    rintro e w1 ⟨x, rfl, x0, x1, h1, g1⟩
    go_wp2_with fail
    go_ret
    exact ⟨x, rfl, h1.mono (by omega), g1⟩
  · have i0 : 0 < n := by omega
    have i1 : (0 : Int) < (n : Int) := by omega
    have i2 : ((n : Int) == 0) = false := by simp; omega
    go_enter Try.func75, Try.ntmps75
    go_wp2_with fail
    refine (one_any w0 _ b m 10 h (by omega) (by omega) (by omega)).mono ?_
    rintro e w1 ⟨z, rfl, h1, g1⟩
    cases z
    · go_wp2_with fail
      refine (pick_any w0 _ b _ (n : Int) h1 (by omega) (by omega) (by omega)).mono ?_
      rintro e w2 ⟨k, rfl, k0, k1, h2, g2⟩
      replace hr := (hr.farP g1 HNE.out).farP g2 HNE.out
      obtain ⟨q, rfl⟩ : ∃ q : Nat, k = (q : Int) := ⟨k.toNat, by omega⟩
      obtain ⟨g, off, rfl, hg, c0, _⟩ := hr.atPond (show q < n by omega)
      have i3 : (q : Int) < (n : Int) := by omega
      clear hr i2
      go_wp2_with fail
      go_ret
      exact ⟨_, rfl, h2.mono (by omega), grownBy_trans g1 g2⟩
    · go_wp2_with fail
      refine (among_lit w0 _ b _ [0, 1, 50] 0 50 h1 rfl rfl rfl (by omega) (by decide) (by decide) (by decide)).mono ?_
      rintro e w2 ⟨x, rfl, x0, x1, h2, g2⟩
      go_wp2_with fail
      go_ret
      exact ⟨x, rfl, h2.mono (by omega), grownBy_trans g1 g2⟩
/-- A drawn list of ponds. -/
def DrawnPonds1 (w : World) (e : Ending) (w' : World) : Prop :=
  ∃ (A : Option Addr) (n c : Nat) (p : Nat → Pd) (x : Int), e = .returned (.tuple #[.slice A n c, .int .i64 x]) ∧ c ≤ maxLen ∧ n ≤ c ∧ n ≤ 100 ∧ Rd w' A n 6 (pdF p) ∧ Ext w w'
def DrawnPonds2 (w : World) (e : Ending) (w' : World) : Prop :=
  ∃ (A : Option Addr) (n c : Nat) (p : Nat → Pd) (x y : Int), e = .returned (.tuple #[.slice A n c, .int .i64 x, .int .i64 y]) ∧ c ≤ maxLen ∧ n ≤ c ∧ n ≤ 100 ∧ Rd w' A n 6 (pdF p) ∧ Ext w w'
set_option maxHeartbeats 1000000 in
theorem drawHolds_any (w : World) (A : Option Addr) (n c : Nat) (h : Code w A n) : Calls Try.prog 48 #[.slice A n c] w (DrawnPonds1 w) := by
  go_enter Try.func48, Try.ntmps48
  go_wp2_with fail
  refine (ponds_any w _ _ 0 (cur_new h (Ext.refl w) c _ rfl) (by omega)).mono ?_
  rintro e w1 ⟨A1, n1, c1, p, rfl, hcm, hnc, hn, hr, hne, hc, _⟩
  go_wp2_with fail
  refine (pondId_any w _ _ _ A1 n1 c1 p hc (by omega) hcm hnc hn hr hne).mono ?_
  rintro e w2 ⟨x, rfl, hc2, hg2⟩
  replace hr := hr.farP hg2 hne
  have hb := hc2.base
  go_wp2_with fail
  go_ret2
  exact ⟨A1, n1, c1, p, x, rfl, hcm, hnc, hn, hr, hb⟩
theorem drawOuter_any (w : World) (A : Option Addr) (n c : Nat) (h : Code w A n) : Calls Try.prog 44 #[.slice A n c] w (DrawnPonds1 w) := by
  go_enter Try.func44, Try.ntmps44
  go_wp2_with fail
  refine (drawHolds_any w A n c h).mono ?_
  rintro e w1 ⟨A1, n1, c1, p, x, rfl, hcm, hnc, hn, hr, hb⟩
  go_wp2_with fail
  go_ret2
  exact ⟨A1, n1, c1, p, x, rfl, hcm, hnc, hn, hr, hb⟩
set_option maxHeartbeats 1000000 in
theorem drawBank_any (w : World) (A : Option Addr) (n c : Nat) (h : Code w A n) : Calls Try.prog 47 #[.slice A n c] w (DrawnPonds2 w) := by
  go_enter Try.func47, Try.ntmps47
  go_wp2_with fail
  refine (ponds_any w _ _ 0 (cur_new h (Ext.refl w) c _ rfl) (by omega)).mono ?_
  rintro e w1 ⟨A1, n1, c1, p, rfl, hcm, hnc, hn, hr, hne, hc, _⟩
  go_wp2_with fail
  refine (pondId_any w _ _ _ A1 n1 c1 p hc (by omega) hcm hnc hn hr hne).mono ?_
  rintro e w2 ⟨x, rfl, hc2, hg2⟩
  replace hr := hr.farP hg2 hne
  go_wp2_with fail
  refine (pondId_any w _ _ _ A1 n1 c1 p hc2 (by omega) hcm hnc hn hr hne).mono ?_
  rintro e w3 ⟨y, rfl, hc3, hg3⟩
  replace hr := hr.farP hg3 hne
  have hb := hc3.base
  go_wp2_with fail
  go_ret3
  exact ⟨A1, n1, c1, p, x, y, rfl, hcm, hnc, hn, hr, hb⟩
theorem drawChain_any (w : World) (A : Option Addr) (n c : Nat) (h : Code w A n) : Calls Try.prog 53 #[.slice A n c] w (DrawnPonds2 w) := by
  go_enter Try.func53, Try.ntmps53
  go_wp2_with fail
  refine (drawBank_any w A n c h).mono ?_
  rintro e w1 ⟨A1, n1, c1, p, x, y, rfl, hcm, hnc, hn, hr, hb⟩
  go_wp2_with fail
  go_ret3
  exact ⟨A1, n1, c1, p, x, y, rfl, hcm, hnc, hn, hr, hb⟩
theorem drawJoin_any (w : World) (A : Option Addr) (n c : Nat) (h : Code w A n) : Calls Try.prog 54 #[.slice A n c] w (DrawnPonds2 w) := by
  go_enter Try.func54, Try.ntmps54
  go_wp2_with fail
  refine (drawBank_any w A n c h).mono ?_
  rintro e w1 ⟨A1, n1, c1, p, x, y, rfl, hcm, hnc, hn, hr, hb⟩
  go_wp2_with fail
  go_ret3
  exact ⟨A1, n1, c1, p, x, y, rfl, hcm, hnc, hn, hr, hb⟩
set_option maxHeartbeats 1000000 in
theorem drawCut_any (w : World) (A : Option Addr) (n c : Nat) (h : Code w A n) : Calls Try.prog 56 #[.slice A n c] w (DrawnPonds2 w) := by
  go_enter Try.func56, Try.ntmps56
  go_wp2_with fail
  refine (ponds_any w _ _ 0 (cur_new h (Ext.refl w) c _ rfl) (by omega)).mono ?_
  rintro e w1 ⟨A1, n1, c1, p, rfl, hcm, hnc, hn, hr, hne, hc, _⟩
  go_wp2_with fail
  refine (pondId_any w _ _ _ A1 n1 c1 p hc (by omega) hcm hnc hn hr hne).mono ?_
  rintro e w2 ⟨x, rfl, hc2, hg2⟩
  replace hr := hr.farP hg2 hne
  go_wp2_with fail
  refine (among_lit w _ _ _ [1, 2, 3, 3, 19, 0, 20] 0 20 hc2 rfl rfl rfl (by omega) (by decide) (by decide) (by decide)).mono ?_
  rintro e w3 ⟨y, rfl, y0, y1, hc3, hg3⟩
  replace hr := hr.farP hg3 hne
  have hb := hc3.base
  go_wp2_with fail
  go_ret3
  exact ⟨A1, n1, c1, p, x, y, rfl, hcm, hnc, hn, hr, hb⟩
theorem lit_cells (w1 : World) (l : List Int) {t : TypeId} {cs : Array Value} (hcs : (l.map (Value.int .i64)).toArray = cs) (i : Nat) (x : Int) (hi : l[i]? = some x) : (w1.alloc (.cells cs t)).cell? ⟨w1.heap.size, i, none⟩ = some (.int .i64 x) := by
  subst hcs
  simp [go_sem, hi]
theorem pondAt_part (w0 w : World) (b m : Nat) (l : List Int) {g c q : Nat} (h : Cur w0 w b m) (hg : g < w.heap.size) (hgb : g ≠ b) (hl : ∀ x, x ∈ l → -1 ≤ x ∧ x ≤ 50) (hlen : l.length = 8) (hq : 6 ≤ q ∧ q ≤ 8) (hm : m ≤ 100000000000)
    (hc : ∀ (i : Nat) x, l[i]? = some x → w.cell? ⟨g, i, none⟩ = some (.int .i64 x)) :
    Calls Try.prog 76 #[.pointer (some ⟨b, 0, none⟩), .slice (some ⟨g, 0, none⟩) q c] w (CurRet w0 w b (m + 2) (-1) 50) :=
  among_any w0 w b m (l.take q) (-1) 50 g q c h hm (by rw [List.length_take]; omega) (by omega) (by omega) (fun x hx => hl x (List.mem_of_mem_take hx)) hg hgb (fun i x hi => hc i x (by
    rw [List.getElem?_take] at hi
    split at hi
    · exact hi
    · cases hi))
set_option maxHeartbeats 2000000 in
theorem drawPondAt_any (w : World) (A : Option Addr) (n c : Nat) (h : Code w A n) : Calls Try.prog 49 #[.slice A n c] w (DrawnPonds2 w) := by
  go_enter Try.func49, Try.ntmps49
  go_wp2_with fail
  refine (ponds_any w _ _ 0 (cur_new h (Ext.refl w) c _ rfl) (by omega)).mono ?_
  rintro e w1 ⟨A1, n1, c1, p, rfl, hcm, hnc, hn, hr, hne, hc, _⟩
  clear h
  have hb1 := hc.lt.2
  have HNE := Lib.hid hne
  clear hne
  go_wp2_with fail
  refine (pick_any w _ _ _ 24 (hc.ext (Ext.alloc (Ext.refl w1) _)) (by omega) (by omega) (by omega)).mono ?_
  rintro e w2 ⟨x, rfl, x0, x1, hc2, hg2⟩
  have C2 := Lib.hid (fun i u hi => hg2.cell (lit_cells w1 [0, 3, 4, 7, 11, 49, -1, 50] rfl i u hi) (fun h => by have : w1.heap.size = w.heap.size := Option.some.inj h; omega))
  replace hr := (hr.ext (Ext.alloc (Ext.refl w1) _)).farP hg2 HNE.out
  have hl2 : w1.heap.size < w2.heap.size := Nat.lt_of_lt_of_le (by simp) hg2.size
  clear hg2
  obtain ⟨q, hq⟩ : ∃ q : Nat, x / 11 = (q : Int) := ⟨(x / 11).toNat, by omega⟩
  have hq2 : q ≤ 2 := by omega
  go_wp2_with fail
  refine (pondAt_part w w2 w.heap.size _ [0, 3, 4, 7, 11, 49, -1, 50] (g := w1.heap.size) (q := 6 + q) hc2 hl2 (by omega) (by decide) rfl (by omega) (by omega) C2.out).mono ?_
  rintro e w3 ⟨u, rfl, u0, u1, hc3, hg3⟩
  replace hr := hr.farP hg3 HNE.out
  have hb3 := hc3.lt.2
  clear hg3 hq hq2 x0 x1 hc2 C2
  go_wp2_with fail
  refine (pick_any w _ _ _ 24 (hc3.ext (Ext.alloc (Ext.refl w3) _)) (by omega) (by omega) (by omega)).mono ?_
  rintro e w4 ⟨y, rfl, y0, y1, hc4, hg4⟩
  have C4 := Lib.hid (fun i u hi => hg4.cell (lit_cells w3 [0, 2, 3, 8, 30, 49, -1, 50] rfl i u hi) (fun h => by have : w3.heap.size = w.heap.size := Option.some.inj h; omega))
  replace hr := (hr.ext (Ext.alloc (Ext.refl w3) _)).farP hg4 HNE.out
  have hl4 : w3.heap.size < w4.heap.size := Nat.lt_of_lt_of_le (by simp) hg4.size
  clear hg4
  obtain ⟨q, hq⟩ : ∃ q : Nat, y / 11 = (q : Int) := ⟨(y / 11).toNat, by omega⟩
  have hq2 : q ≤ 2 := by omega
  go_wp2_with fail
  refine (pondAt_part w w4 w.heap.size _ [0, 2, 3, 8, 30, 49, -1, 50] (g := w3.heap.size) (q := 6 + q) hc4 hl4 (by omega) (by decide) rfl (by omega) (by omega) C4.out).mono ?_
  rintro e w5 ⟨z, rfl, z0, z1, hc5, hg5⟩
  replace hr := hr.farP hg5 HNE.out
  have hb := hc5.base
  clear hg5 hq hq2 y0 y1 hc4 C4
  go_wp2_with fail
  go_ret3
  exact ⟨A1, n1, c1, p, u, z, rfl, hcm, hnc, hn, hr, hb⟩
def DrawnPond (w : World) (e : Ending) (w' : World) : Prop :=
  ∃ x : Pd, e = .returned (.agg #[.int .i64 x.id, .int .i64 x.left, .int .i64 x.top, .int .i64 x.wide, .int .i64 x.high, .int .i64 x.depth]) ∧ Ext w w'
set_option maxRecDepth 100000 in
set_option maxHeartbeats 4000000 in
theorem drawIsPond_any (w : World) (A : Option Addr) (n c : Nat) (h : Code w A n) : Calls Try.prog 50 #[.slice A n c] w (DrawnPond w) := by
  go_enter Try.func50, Try.ntmps50
  go_wp2_with fail
  have hx1 := Ext.alloc (Ext.refl w) (Obj.cells #[.int .i64 0, .int .i64 0, .int .i64 0, .int .i64 0, .int .i64 0, .int .i64 0] 51)
  have hc := cur_new h hx1 c 72 (g := w.heap.size + 1) (by simp)
  have hx2 := Ext.alloc (Ext.refl (w.alloc (.cells #[.int .i64 0, .int .i64 0, .int .i64 0, .int .i64 0, .int .i64 0, .int .i64 0] 51))) (Obj.cells #[.slice A n c, .int .i64 0, .int .u64 0] 72)
  have L1 := (locp_new w 0 0 0 0 0 0 51).ext hx2
  clear hx1 hx2
  refine (among_lit w _ _ 0 [1, 42, 99] 1 99 hc (by simp) rfl rfl (by omega) (by decide) (by decide) (by decide)).mono ?_
  rintro e w1 ⟨a, rfl, a0, a1, h2, g2⟩
  replace L1 := L1.kept g2 (by omega)
  clear hc g2 h
  go_wp2_with fail
  refine (pond_any w _ _ _ a h2 (by omega)).mono ?_
  rintro e w2 ⟨x, rfl, h3, g3⟩
  replace L1 := L1.kept g3 (by omega)
  obtain ⟨b0, b1, b2, b3, b4, b5, b6, b7, b8, b9, b10, b11, b12⟩ := L1
  have hbase := h3.base
  clear h2 g3 h3
  go_wp2_with fail
  exact bodyPost_ret (v := .agg #[.int .i64 x.id, .int .i64 x.left, .int .i64 x.top, .int .i64 x.wide, .int .i64 x.high, .int .i64 x.depth]) (by simp [results, Try.results50, go_sem, *]) rfl ⟨x, rfl, by repeat (first | exact hbase | refine Ext.setCell ?_ (Nat.le_refl _) _)⟩
end Go.Proofs.Ytkgnfmdeimaedaa
