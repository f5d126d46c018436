/- The drawings of tides. -/
import Derived.Test.YtgehoihfiboeeaaCurS
import Derived.Test.YtgehoihfiboeeaaMarkS
import Derived.Deep.Cut
import Derived.Deep.CutBlock
namespace Go.Proofs.Ytgehoihfiboeeaa
open Go.RowKit
set_option linter.unusedVariables false

/-- A method of the cursor that gives a list of marks. -/
def MarksRet (w0 w : World) (b m : Nat) (e : Ending) (w' : World) : Prop :=
  ∃ (A : Option Addr) (n c : Nat) (p : Nat → Mk), e = .returned (.slice A n c) ∧ c ≤ maxLen ∧ n ≤ c ∧ n ≤ 100 ∧ 1 ≤ n ∧ Rd w' A n 2 (mkF p) ∧ (∀ a, A = some a → a.block ≠ b) ∧ Cur w0 w' b m ∧ w.grownBy w' (some b)
theorem mkF_put (p : Nat → Mk) (x : Mk) (n i j : Nat) (h : i < n) : mkF (fun i => if i = n then x else p i) i j = mkF p i j := by
  have h2 : ¬ i = n := by omega
  simp only [mkF, if_neg h2]
theorem mkF_new (p : Nat → Mk) (x : Mk) (n j : Nat) (hj : j < 2) : (#[.int .i64 x.t, .int .i64 x.h] : Array Value)[j]? = some (mkF (fun i => if i = n then x else p i) n j) := by
  match j, hj with
  | 0, _ => simp [mkF]
  | 1, _ => simp [mkF]
set_option maxRecDepth 100000 in
set_option maxHeartbeats 1000000 in
theorem tide_any (w0 w : World) (b m : Nat) (h : Cur w0 w b m) (hm : m ≤ 1000000000) : Calls Try.prog 60 #[.pointer (some ⟨b, 0, none⟩)] w (MarksRet w0 w b (m + 100)) := by
  have hbw := h.lt
  go_enter Try.func60, Try.ntmps60
  go_wp2_with fail
  refine (among_lit w0 _ b m [-200, 0, 50, 100, 300] (-200) 300 h rfl rfl rfl (by omega) (by decide) (by decide) (by decide)).mono ?_
  rintro e w1 ⟨x, rfl, x0, x1, h1, g1⟩
  go_wp2_with fail
  have hxA := Ext.alloc (Ext.refl w1) (Obj.cells #[.int .i64 0, .int .i64 x] 77)
  have hown := own_new (e := 77) (base := w.heap.size) (size := 2) (n := 1) (f := mkF fun _ => ⟨0, x⟩) w1 #[.int .i64 0, .int .i64 x] w1.heap.size rfl g1.size (by decide) rfl (fun i j hi hj => by
    obtain rfl : i = 0 := by omega
    match j, hj with
    | 0, _ => rfl
    | 1, _ => rfl)
  have gA := grown_alloc g1 (.cells #[.int .i64 0, .int .i64 x] 77)
  refine (among_lit w0 _ b (m + 2) [1, 60, 180, 360] 1 360 (h1.ext hxA) (by simp) rfl rfl (by omega) (by decide) (by decide) (by decide)).mono ?_
  rintro e w2 ⟨z, rfl, z0, z1, h2, g2⟩
  replace hown := hown.far g2 hbw.2
  replace g2 := grownBy_trans gA g2
  clear h h1 g1 gA hxA x0 x1
  go_wp2_with fail
  refine (pick_any w0 _ b (m + 4) 4 h2 (by omega) (by omega) (by omega)).mono ?_
  rintro e w3 ⟨k, rfl, k0, k1, h3, g3⟩
  replace hown := hown.far g3 hbw.2
  replace g3 := grownBy_trans g2 g3
  clear h2 g2
  obtain ⟨q0, rfl⟩ : ∃ q : Nat, k = (q : Int) := ⟨k.toNat, by omega⟩
  go_upto_block 0 with fail
  go_cut [3] from 4 (fun s3 wx => ∃ (n : Nat) (p : Nat → Mk), OwnS wx w.heap.size 77 2 s3 n (mkF p) ∧ 1 ≤ n ∧ n ≤ 4 ∧ Cur w0 wx b (m + 22) ∧ w.grownBy wx (some b))
  case first =>
    go_wp2_with fail
    go_loopw [3, 4, 5] (fun s3 s4 s5 wr => ∃ (q n : Nat) (t : Int) (p : Nat → Mk), s5 = .int .i64 (q : Int) ∧ q ≤ 3 ∧ s4 = .int .i64 t ∧ 1 ≤ t ∧ t + 400 * q ≤ 1560 ∧ OwnS wr w.heap.size 77 2 s3 n (mkF p) ∧ 1 ≤ n ∧ n + q ≤ 4 ∧ Cur w0 wr b (m + 22 - 4 * q) ∧ w.grownBy wr (some b)) (fun _ _ i _ => (intOf i).toNat)
    case atStart => exact ⟨q0, 1, z, _, rfl, by omega, rfl, by omega, by omega, hown, by omega, by omega, h3.mono (by omega), g3⟩
    case round =>
      obtain ⟨q, n, t, p, rfl, hq, rfl, t0, t1, hown, hn1, hnq, hc, hg⟩ := hrel
      clear h3 g3
      by_cases hq0 : 0 < q
      · have hqi : (0 : Int) < (q : Int) := by omega
        by_cases ht : t < 1440
        · go_wp2_with fail
          refine (among_lit w0 _ b _ [-300, -200, 0, 100, 200, 300, 500] (-300) 500 hc rfl rfl rfl (by omega) (by decide) (by decide) (by decide)).mono ?_
          rintro e w4 ⟨y, rfl, y0, y1, h4, g4⟩
          replace hown := hown.far g4 hbw.2
          replace g4 := grownBy_trans hg g4
          clear hc hg
          have hown2 := hown.congr (f' := mkF fun i => if i = n then ⟨t, y⟩ else p i) (fun i j hi _ => mkF_put p ⟨t, y⟩ n i j hi)
          go_wp2_with (at_builtin; refine wpList_append_C rfl _ _ elMark rfl rfl hown2 rfl rfl rfl (mkF_new p ⟨t, y⟩ n) (mkF_one _ _) (by omega) g4.size ?_)
          intro v' w' hown3 gown
          replace h4 := hown.cur gown hbw.2 (by omega) h4
          replace g4 := hown.since gown (Nat.le_refl _) g4
          clear hown hown2 gown
          go_wp2_with fail
          refine (among_lit w0 _ b _ [1, 60, 360, 400] 1 400 h4 rfl rfl rfl (by omega) (by decide) (by decide) (by decide)).mono ?_
          rintro e w5 ⟨d, rfl, d0, d1, h5, g5⟩
          replace hown3 := hown3.far g5 hbw.2
          replace g5 := grownBy_trans g4 g5
          clear h4 g4
          go_wp2_with fail
          go_roundw
          case rel => exact ⟨q - 1, n + 1, t + d, _, by go_num, by omega, rfl, by omega, by omega, hown3, by omega, by omega, h5.mono (by omega), g5⟩
          case measure => simp [intOf]; omega
        · have ht2 : 1440 ≤ t := by omega
          go_wp2_with fail
          go_meet
          case rel => exact ⟨n, p, hown, hn1, by omega, hc.mono (by omega), hg⟩
      · have hqi : (q : Int) = 0 := by omega
        have hq3 : q = 0 := by omega
        subst hq3
        go_wp2_with fail
        go_meet
        case rel => exact ⟨n, p, hown, hn1, by omega, hc.mono (by omega), hg⟩
  case rest =>
    clear hown h3 g3
    obtain ⟨n, p, hown, n0, n1, hc, hg⟩ := hcut
    go_wp2_with fail
    refine (among_lit w0 _ b _ [-200, 0, 100, 200] (-200) 200 hc rfl rfl rfl (by omega) (by decide) (by decide) (by decide)).mono ?_
    rintro e w4 ⟨y, rfl, y0, y1, h4, g4⟩
    replace hown := hown.far g4 hbw.2
    replace g4 := grownBy_trans hg g4
    clear hc hg
    have hown2 := hown.congr (f' := mkF fun i => if i = n then ⟨1440, y⟩ else p i) (fun i j hi _ => mkF_put p ⟨1440, y⟩ n i j hi)
    go_wp2_with (at_builtin; refine wpList_append_C rfl _ _ elMark rfl rfl hown2 rfl rfl rfl (mkF_new p ⟨1440, y⟩ n) (mkF_one _ _) (by omega) g4.size ?_)
    intro v' w' hown3 gown
    replace h4 := hown.cur gown hbw.2 (by omega) h4
    replace g4 := hown.since gown (Nat.le_refl _) g4
    clear hown hown2 gown
    obtain ⟨p', hp'⟩ : ∃ p' : Nat → Mk, p' = fun i => if i = n then ⟨1440, y⟩ else p i := ⟨_, rfl⟩
    rw [← hp'] at hown3
    clear hp'
    go_wp2_with fail
    refine (pick_any w0 _ b _ 32 h4 (by omega) (by omega) (by omega)).mono ?_
    rintro e w5 ⟨k, rfl, k0, k1, h5, g5⟩
    replace hown3 := hown3.far g5 hbw.2
    replace g5 := grownBy_trans g4 g5
    clear h4 g4
    by_cases hk2 : k = 2
    · subst hk2
      clear hown3
      go_wp2_with fail
      have hown := own_new (e := 77) (base := w.heap.size) (size := 2) (n := 1) (f := mkF fun _ => ⟨0, 0⟩) w5 #[.int .i64 0, .int .i64 0] w5.heap.size rfl g5.size (by decide) rfl (fun i j hi hj => by
        obtain rfl : i = 0 := by omega
        match j, hj with
        | 0, _ => rfl
        | 1, _ => rfl)
      have h6 := h5.ext (Ext.alloc (Ext.refl w5) (Obj.cells #[.int .i64 0, .int .i64 0] 77))
      have g6 := grown_alloc g5 (.cells #[.int .i64 0, .int .i64 0] 77)
      clear h5 g5
      go_loopw [3] (fun s3 wr => ∃ (n : Nat) (p : Nat → Mk), OwnS wr w.heap.size 77 2 s3 n (mkF p) ∧ 1 ≤ n ∧ n ≤ 12 ∧ Cur w0 wr b (m + 30 + 2 * n) ∧ w.grownBy wr (some b)) (fun s _ => match s with | .slice _ n _ => 20 - n | _ => 0)
      case atStart => exact ⟨1, _, hown, by omega, by omega, h6.mono (by omega), g6⟩
      case round =>
        obtain ⟨n, p, hown, n0, n1, hc, hg⟩ := hrel
        clear h6 g6
        obtain ⟨A0, cap, rfl, hnc, hcm, _⟩ := hown.form
        go_wp2_with fail
        refine (pick_any w0 _ b _ 2 hc (by omega) (by omega) (by omega)).mono ?_
        rintro e w6 ⟨x, rfl, x0, x1, h6, g6⟩
        replace hown := hown.far g6 hbw.2
        replace g6 := grownBy_trans hg g6
        clear hc hg
        by_cases hlt : (n : Int) < 11 + x
        · have hown2 := hown.congr (f' := mkF fun i => if i = n then ⟨100 * (n : Int), 50 * ((n : Int) % 3)⟩ else p i) (fun i j hi _ => mkF_put p ⟨100 * (n : Int), 50 * ((n : Int) % 3)⟩ n i j hi)
          go_wp2_with (at_builtin; refine wpList_append_C rfl _ _ elMark rfl rfl hown2 rfl rfl rfl (mkF_new p ⟨100 * (n : Int), 50 * ((n : Int) % 3)⟩ n) (mkF_one _ _) (by omega) g6.size ?_)
          intro v' w' hown3 gown
          replace h6 := hown.cur gown hbw.2 (by omega) h6
          replace g6 := hown.since gown (Nat.le_refl _) g6
          clear hown hown2 gown
          obtain ⟨A1, cap1, rfl, hnc1, hcm1, _⟩ := hown3.form
          go_wp2_with fail
          go_roundw
          case rel => exact ⟨n + 1, _, hown3, by omega, by omega, h6.mono (by omega), g6⟩
          case measure =>
            show 20 - (n + 1) < 20 - n
            omega
        · have hown2 := hown.congr (f' := mkF fun i => if i = n then ⟨1440, 0⟩ else p i) (fun i j hi _ => mkF_put p ⟨1440, 0⟩ n i j hi)
          go_wp2_with (at_builtin; refine wpList_append_C rfl _ _ elMark rfl rfl hown2 rfl rfl rfl (mkF_new p ⟨1440, 0⟩ n) (mkF_one _ _) (by omega) g6.size ?_)
          intro v' w' hown3 gown
          replace h6 := hown.cur gown hbw.2 (by omega) h6
          replace g6 := hown.since gown (Nat.le_refl _) g6
          clear hown hown2 gown
          obtain ⟨A1, cap1, rfl, hnc1, hcm1, hform⟩ := hown3.form
          obtain ⟨g, rfl, hob, hgb, hgl, hcell⟩ := hform (by omega)
          clear hown3 hform
          go_wp2_with fail
          go_ret
          exact ⟨_, n + 1, cap1, _, rfl, hcm1, hnc1, by omega, by omega, fun _ => ⟨g, 0, rfl, hgl, fun i j hi hj => by rw [Nat.zero_add]; exact (hcell i j hi hj).1⟩, fun a ha => by injection ha with ha; rw [← ha]; show g ≠ b; omega, h6.mono (by omega), g6⟩
    · obtain ⟨A0, cap, rfl, hnc, hcm, hform⟩ := hown3.form
      obtain ⟨g, rfl, hob, hgb, hgl, hcell⟩ := hform (by omega)
      have hq2 : (k == 2) = false := by simpa using hk2
      by_cases hk1 : k = 1
      · subst hk1
        clear hown3 hform
        have hn1 : 1 ≤ n + 1 := by omega
        have hc1 : 1 ≤ cap := by omega
        go_wp2_with fail
        go_ret
        exact ⟨_, 1, cap, p', rfl, hcm, hc1, by omega, by omega, fun _ => ⟨g, 0, rfl, hgl, fun i j hi hj => by rw [Nat.zero_add]; exact (hcell i j (by omega) hj).1⟩, fun a ha => by injection ha with ha; rw [← ha]; show g ≠ b; omega, h5.mono (by omega), g5⟩
      · have hq1 : (k == 1) = false := by simpa using hk1
        by_cases hk0 : k = 0
        · subst hk0
          clear hform hcell hgl hob
          go_wp2_with fail
          refine (among_lit w0 _ b _ [0, 1] 0 1 h5 rfl rfl rfl (by omega) (by decide) (by decide) (by decide)).mono ?_
          rintro e w6 ⟨u, rfl, u0, u1, h6, g6⟩
          replace hown3 := hown3.far g6 hbw.2
          replace g6 := grownBy_trans g5 g6
          clear h5 g5
          go_wp2_with fail
          refine (among_lit w0 _ b _ [501, -501] (-501) 501 h6 rfl rfl rfl (by omega) (by decide) (by decide) (by decide)).mono ?_
          rintro e w7 ⟨v, rfl, v0, v1, h7, g7⟩
          replace hown3 := hown3.far g7 hbw.2
          replace g7 := grownBy_trans g6 g7
          clear h6 g6
          have hfin : OwnS ((w7.setCell ⟨g, 0, none⟩ (.int .i64 u)).setCell ⟨g, 1, none⟩ (.int .i64 v)) w.heap.size 77 2 (.slice (some ⟨g, 0, none⟩) (n + 1) cap) (n + 1) (mkF fun i => if i = 0 then ⟨u, v⟩ else p' i) :=
            (OwnS.put (i := 0) (fun j => if j = 0 then .int .i64 u else .int .i64 v) hown3 (by omega) 2 (Nat.le_refl _)).1.congr (fun i j _ hj => by
              by_cases hi : i = 0
              · subst hi
                match j, hj with
                | 0, _ => simp [mkF]
                | 1, _ => simp [mkF]
              · simp [mkF, hi])
          obtain ⟨A1, cap1, hv, _, _, hf1⟩ := hown3.form
          injection hv with hA _ hcp
          subst hA hcp
          obtain ⟨g1, hg1, _, _, hgl1, hcell1⟩ := hf1 (by omega)
          injection hg1 with hg1
          injection hg1 with hg1 _ _
          subst hg1
          have c0 : w7.cell? ⟨g, 0, none⟩ = some (mkF p' 0 0) := (hcell1 0 0 (by omega) (by omega)).1
          have c1 : w7.cell? ⟨g, 1, none⟩ = some (mkF p' 0 1) := (hcell1 0 1 (by omega) (by omega)).1
          have f0 : w7.frozen? ⟨g, 0, none⟩ = false := (hcell1 0 0 (by omega) (by omega)).2
          have f1 : w7.frozen? ⟨g, 1, none⟩ = false := (hcell1 0 1 (by omega) (by omega)).2
          obtain ⟨A2, cap2, hv2, _, _, hr2⟩ := hfin.rd
          injection hv2 with hA2 _ hcp2
          subst hA2 hcp2
          have HR2 := Lib.hid hr2
          clear hf1 hcell1 hown3 hfin hr2
          go_wp2_with fail
          go_ret
          exact ⟨_, n + 1, cap, _, rfl, hcm, hnc, by omega, by omega, HR2.out, fun a ha => by injection ha with ha; rw [← ha]; show g ≠ b; omega, ((h7.set (by omega) (by omega) _ _).set (by omega) (by omega) _ _).mono (by omega), grown_set (grown_set g7 (by omega) _ _) (by omega) _ _⟩
        · have hq0 : (k == 0) = false := by simpa using hk0
          clear hown3 hform
          go_wp2_with fail
          go_ret
          exact ⟨_, n + 1, cap, p', rfl, hcm, hnc, by omega, by omega, fun _ => ⟨g, 0, rfl, hgl, fun i j hi hj => by rw [Nat.zero_add]; exact (hcell i j hi hj).1⟩, fun a ha => by injection ha with ha; rw [← ha]; show g ≠ b; omega, h5.mono (by omega), g5⟩
theorem Rd.far {w w' : World} {A : Option Addr} {n k b : Nat} {f : Nat → Nat → Value} (h : Rd w A n k f) (hg : w.grownBy w' (some b)) (hne : ∀ a, A = some a → a.block ≠ b) : Rd w' A n k f := fun hn => by
  obtain ⟨g, off, hA, hgl, hc⟩ := h hn
  exact ⟨g, off, hA, Nat.lt_of_lt_of_le hgl hg.size, fun i j hi hj => hg.cell (hc i j hi hj) (fun h' => hne _ hA (Option.some.inj h'))⟩
set_option maxHeartbeats 1000000 in
theorem height4_any (w0 w : World) (b m : Nat) (h : Cur w0 w b m) (hm : m ≤ 1000000000) : Calls Try.prog 61 #[.pointer (some ⟨b, 0, none⟩)] w (CurRet w0 w b (m + 2) (-501) 501) := by
  go_enter Try.func61, Try.ntmps61
  go_wp2_with fail
  refine (among_lit w0 _ b m [0, 0, 50, 100, -100, 150, 200, 300, 500, -500, 501, -501] (-501) 501 h rfl rfl rfl (by omega) (by decide) (by decide) (by decide)).mono ?_
  rintro e w1 ⟨x, rfl, x0, x1, h1, g1⟩
  go_wp2_with fail
  go_ret
  exact ⟨x, rfl, x0, x1, h1, g1⟩
/-- A drawn list of marks. -/
def DrawnMarks (w : World) (e : Ending) (w' : World) : Prop :=
  ∃ (A : Option Addr) (n c : Nat) (p : Nat → Mk), e = .returned (.slice A n c) ∧ c ≤ maxLen ∧ n ≤ c ∧ n ≤ 100 ∧ Rd w' A n 2 (mkF p) ∧ Ext w w'
def DrawnMarks1 (w : World) (e : Ending) (w' : World) : Prop :=
  ∃ (A : Option Addr) (n c : Nat) (p : Nat → Mk) (x : Int), e = .returned (.tuple #[.slice A n c, .int .i64 x]) ∧ c ≤ maxLen ∧ n ≤ c ∧ n ≤ 100 ∧ Rd w' A n 2 (mkF p) ∧ Ext w w'
def DrawnMarks2 (w : World) (e : Ending) (w' : World) : Prop :=
  ∃ (A : Option Addr) (n c : Nat) (p : Nat → Mk) (x y : Int), e = .returned (.tuple #[.slice A n c, .int .i64 x, .int .i64 y]) ∧ c ≤ maxLen ∧ n ≤ c ∧ n ≤ 100 ∧ Rd w' A n 2 (mkF p) ∧ Ext w w'
theorem drawIsTide_any (w : World) (A : Option Addr) (n c : Nat) (h : Code w A n) : Calls Try.prog 80 #[.slice A n c] w (DrawnMarks w) := by
  go_enter Try.func80, Try.ntmps80
  go_wp2_with fail
  refine (tide_any w _ _ 0 (cur_new h (Ext.refl w) c _ rfl) (by omega)).mono ?_
  rintro e w1 ⟨A1, n1, c1, p, rfl, hcm, hnc, hn, _, hr, hne, hc, hg⟩
  have hb := hc.base
  go_wp2_with fail
  go_ret
  exact ⟨A1, n1, c1, p, rfl, hcm, hnc, hn, hr, hb⟩
theorem drawHighest_any (w : World) (A : Option Addr) (n c : Nat) (h : Code w A n) : Calls Try.prog 41 #[.slice A n c] w (DrawnMarks w) := by
  go_enter Try.func41, Try.ntmps41
  go_wp2_with fail
  refine (drawIsTide_any w A n c h).mono ?_
  rintro e w1 ⟨A1, n1, c1, p, rfl, hcm, hnc, hn, hr, hb⟩
  go_wp2_with fail
  go_ret
  exact ⟨A1, n1, c1, p, rfl, hcm, hnc, hn, hr, hb⟩
theorem drawTurns_any (w : World) (A : Option Addr) (n c : Nat) (h : Code w A n) : Calls Try.prog 43 #[.slice A n c] w (DrawnMarks w) := by
  go_enter Try.func43, Try.ntmps43
  go_wp2_with fail
  refine (drawIsTide_any w A n c h).mono ?_
  rintro e w1 ⟨A1, n1, c1, p, rfl, hcm, hnc, hn, hr, hb⟩
  go_wp2_with fail
  go_ret
  exact ⟨A1, n1, c1, p, rfl, hcm, hnc, hn, hr, hb⟩
set_option maxHeartbeats 1000000 in
theorem drawMinutes_any (w : World) (A : Option Addr) (n c : Nat) (h : Code w A n) : Calls Try.prog 19 #[.slice A n c] w (DrawnMarks2 w) := by
  go_enter Try.func19, Try.ntmps19
  go_wp2_with fail
  refine (tide_any w _ _ 0 (cur_new h (Ext.refl w) c _ rfl) (by omega)).mono ?_
  rintro e w1 ⟨A1, n1, c1, p, rfl, hcm, hnc, hn, _, hr, hne, hc, _⟩
  go_wp2_with fail
  refine (height4_any w _ _ _ hc (by omega)).mono ?_
  rintro e w2 ⟨x, rfl, x0, x1, hc2, hg2⟩
  replace hr := hr.far hg2 hne
  go_wp2_with fail
  refine (height4_any w _ _ _ hc2 (by omega)).mono ?_
  rintro e w3 ⟨y, rfl, y0, y1, hc3, hg3⟩
  replace hr := hr.far hg3 hne
  have hb := hc3.base
  go_wp2_with fail
  go_ret3
  exact ⟨A1, n1, c1, p, x, y, rfl, hcm, hnc, hn, hr, hb⟩
set_option maxHeartbeats 1000000 in
theorem drawArea_any (w : World) (A : Option Addr) (n c : Nat) (h : Code w A n) : Calls Try.prog 38 #[.slice A n c] w (DrawnMarks1 w) := by
  go_enter Try.func38, Try.ntmps38
  go_wp2_with fail
  refine (tide_any w _ _ 0 (cur_new h (Ext.refl w) c _ rfl) (by omega)).mono ?_
  rintro e w1 ⟨A1, n1, c1, p, rfl, hcm, hnc, hn, _, hr, hne, hc, _⟩
  go_wp2_with fail
  refine (height4_any w _ _ _ hc (by omega)).mono ?_
  rintro e w2 ⟨x, rfl, x0, x1, hc2, hg2⟩
  replace hr := hr.far hg2 hne
  have hb := hc2.base
  go_wp2_with fail
  go_ret2
  exact ⟨A1, n1, c1, p, x, rfl, hcm, hnc, hn, hr, hb⟩
set_option maxHeartbeats 1000000 in
theorem drawShift_any (w : World) (A : Option Addr) (n c : Nat) (h : Code w A n) : Calls Try.prog 33 #[.slice A n c] w (DrawnMarks1 w) := by
  go_enter Try.func33, Try.ntmps33
  go_wp2_with fail
  refine (tide_any w _ _ 0 (cur_new h (Ext.refl w) c _ rfl) (by omega)).mono ?_
  rintro e w1 ⟨A1, n1, c1, p, rfl, hcm, hnc, hn, _, hr, hne, hc, _⟩
  go_wp2_with fail
  refine (among_lit w _ _ _ [0, 1, 50, -100, 400, 1000, 1001, -1001] (-1001) 1001 hc rfl rfl rfl (by omega) (by decide) (by decide) (by decide)).mono ?_
  rintro e w2 ⟨x, rfl, x0, x1, hc2, hg2⟩
  replace hr := hr.far hg2 hne
  have hb := hc2.base
  go_wp2_with fail
  go_ret2
  exact ⟨A1, n1, c1, p, x, rfl, hcm, hnc, hn, hr, hb⟩
set_option maxHeartbeats 1000000 in
theorem drawTideAt_any (w : World) (A : Option Addr) (n c : Nat) (h : Code w A n) : Calls Try.prog 29 #[.slice A n c] w (DrawnMarks1 w) := by
  go_enter Try.func29, Try.ntmps29
  go_wp2_with fail
  refine (tide_any w _ _ 0 (cur_new h (Ext.refl w) c _ rfl) (by omega)).mono ?_
  rintro e w1 ⟨A1, n1, c1, p, rfl, hcm, hnc, hn, n0, hr, hne, hc, _⟩
  obtain ⟨g, off, rfl, hgl, d0, d1⟩ := hr.atMark (show n1 / 2 < n1 by omega)
  have i0 : (0 : Int) ≤ (n1 : Int) / 2 := by omega
  have i1 : (n1 : Int) / 2 < (n1 : Int) := by omega
  have i2 : ((n1 : Int) / 2).toNat = n1 / 2 := by omega
  go_wp2_with fail
  refine (among_lit w _ _ _ [0, 1, 60, 61, 359, 720, 1440, 1441, -1, (p (n1 / 2)).t] (min (-1) (p (n1 / 2)).t) (max 1441 (p (n1 / 2)).t) hc rfl rfl rfl (by omega) (by simp) (by simp) (by
    intro x hx
    simp only [List.mem_cons, List.not_mem_nil, or_false] at hx
    omega)).mono ?_
  rintro e w2 ⟨x, rfl, x0, x1, hc2, hg2⟩
  replace hr := hr.far hg2 hne
  have hb := hc2.base
  clear x0 x1 i2
  go_wp2_with fail
  go_ret2
  exact ⟨_, n1, c1, p, x, rfl, hcm, hnc, hn, hr, hb⟩
end Go.Proofs.Ytgehoihfiboeeaa
