/- Lists of ponds: what says whether they are ponds. -/
import Derived.Test.YtkgnfmdeimaedaaCommon
namespace Go.Proofs.Ytkgnfmdeimaedaa
open Go.RowKit
set_option linter.unusedVariables false

def okP (m : Nat → Pd) (i : Nat) : Prop := pondP (m i).id (m i).left (m i).top (m i).wide (m i).high (m i).depth ∧ (0 < i → (m (i - 1)).id < (m i).id) ∧ ∀ k, k < i → overB (m k) (m i) = false
def pondsP (n : Nat) (m : Nat → Pd) : Prop := n ≤ 10 ∧ ∀ i, i < n → okP m i
open Classical in
noncomputable def pondsB (n : Nat) (m : Nat → Pd) : Bool := decide (pondsP n m)
open Classical in
theorem pondsB_iff {n : Nat} {m : Nat → Pd} : pondsB n m = true ↔ pondsP n m := by unfold pondsB; exact decide_eq_true_iff
theorem pondsB_bad {n i : Nat} {m : Nat → Pd} (hi : i < n) (h : ¬ okP m i) : pondsB n m = false := Bool.eq_false_iff.2 fun hb => h ((pondsB_iff.1 hb).2 i hi)
theorem pondsB_big {n : Nat} {m : Nat → Pd} (hn : ¬ n ≤ 10) : pondsB n m = false := Bool.eq_false_iff.2 fun hb => hn (pondsB_iff.1 hb).1
theorem small_of {x : Pd} (h : pondP x.id x.left x.top x.wide x.high x.depth) : smallP x := by
  obtain ⟨_, h1, h2, h3, h4, _⟩ := h
  exact ⟨by omega, by omega, by omega, by omega⟩
/-- A copy of a pond in a block of its own. -/
def PdAt (w : World) (B : Nat) (x : Pd) : Prop := B < w.heap.size ∧ w.cell? ⟨B, 0, none⟩ = some (.int .i64 x.id) ∧ w.cell? ⟨B, 1, none⟩ = some (.int .i64 x.left) ∧ w.cell? ⟨B, 2, none⟩ = some (.int .i64 x.top) ∧ w.cell? ⟨B, 3, none⟩ = some (.int .i64 x.wide) ∧ w.cell? ⟨B, 4, none⟩ = some (.int .i64 x.high) ∧ w.cell? ⟨B, 5, none⟩ = some (.int .i64 x.depth)
theorem PdAt.ext {w w' : World} {B : Nat} {x : Pd} (h : PdAt w B x) (hx : Ext w w') : PdAt w' B x := by
  obtain ⟨h0, h1, h2, h3, h4, h5, h6⟩ := h
  exact ⟨Nat.lt_of_lt_of_le h0 hx.size_le, (hx.cell h0).trans h1, (hx.cell h0).trans h2, (hx.cell h0).trans h3, (hx.cell h0).trans h4, (hx.cell h0).trans h5, (hx.cell h0).trans h6⟩
theorem PdAt.new (w : World) (x : Pd) (t : TypeId) : PdAt (w.alloc (.cells #[.int .i64 x.id, .int .i64 x.left, .int .i64 x.top, .int .i64 x.wide, .int .i64 x.high, .int .i64 x.depth] t)) w.heap.size x :=
  ⟨by simp, by simp [go_sem], by simp [go_sem], by simp [go_sem], by simp [go_sem], by simp [go_sem], by simp [go_sem]⟩
set_option maxHeartbeats 4000000 in
theorem l3Good_any (A : Option Addr) (n c : Nat) (m : Nat → Pd) (w : World) (hc : c ≤ maxLen) (hnc : n ≤ c) (hr : Rd w A n 6 (pdF m)) : Calls Try.prog 57 #[.slice A n c] w fun e w' => e = .returned (.bool (pondsB n m)) ∧ Ext w w' := by
  unfold maxLen at *
  go_enter Try.func57, Try.ntmps57
  go_wp2
  go_loopw [3, 5] (fun i _ wr => ∃ k : Nat, i = .int .i64 k ∧ k ≤ n ∧ k ≤ 11 ∧ (∀ j, j < k → okP m j) ∧ ∃ y, wr = gw w y) (fun i _ _ => n - (intOf i).toNat)
  case atStart => exact ⟨0, rfl, Nat.zero_le _, by omega, fun j hj => absurd hj (Nat.not_lt_zero j), (Ext.refl w).to_gw⟩
  case round =>
    obtain ⟨k, rfl, hk, hk11, hok, y, rfl⟩ := hrel
    have HO := Lib.hid hok
    clear hok
    by_cases hlt2 : k < n ∧ k ≤ 10
    · obtain ⟨hlt, hk10⟩ := hlt2
      cases hB : pondB (m k).id (m k).left (m k).top (m k).wide (m k).high (m k).depth
      · obtain ⟨g, off, rfl, hg, c0, c1, c2, c3, c4, c5⟩ := hr.atPond hlt
        have i0 : (0 : Int) ≤ (k : Int) := by omega
        have i1 : (k : Int) < (n : Int) := by omega
        have HX := Lib.hid (show pondsB n m = false from pondsB_bad hlt fun h => by rw [pondB_iff.2 h.1] at hB; cases hB)
        go_wp2_with fail
        refine wp_region_grow (by kernel_rfl) (by kernel_rfl) ?_
        repeat (go_big_quiet_step (first | (go_at_call 80; exact grow_of (l3One_any _ _ _ _ _ _ _))))
        refine wpQuiet_nil ?_
        rintro _ ⟨xq, rfl⟩
        go_wp2
        all_goals go_ret
        all_goals exact ⟨ret_bool (by rw [HX.out]; first | done | rfl | exact decide_eq_false (by omega) | exact decide_eq_true (by omega)), by repeat (with_reducible first | exact Ext.refl _ | refine Ext.setCell ?_ (by first | (simp; done) | (simp; omega)) _ | refine Ext.alloc ?_ _ | refine Ext.gw ?_ _ | refine Ext.drew ?_)⟩
      · have HOKp := Lib.hid (pondB_iff.1 hB)
        match k, hlt, hk, hk10, HOKp, hB, HO with
        | 0, hlt, hk, hk10, HOKp, hB, HO =>
          obtain ⟨g, off, rfl, hg, c0, c1, c2, c3, c4, c5⟩ := hr.atPond hlt
          simp only [Nat.zero_mul, Nat.add_zero] at c0 c1 c2 c3 c4 c5
          have i1 : (0 : Int) < (n : Int) := by omega
          go_wp2_with fail
          have hPd0 := PdAt.new (gw w y) (m (0)) 51
          refine wp_region_grow (by kernel_rfl) (by kernel_rfl) ?_
          repeat (go_big_quiet_step (first | (go_at_call 80; exact grow_of (l3One_any _ _ _ _ _ _ _))))
          refine wpQuiet_nil ?_
          rintro _ ⟨xq, rfl⟩
          have hPd := hPd0.ext (ext_gw _ xq)
          clear hPd0
          go_wp2
          clear hB
          go_loopw [5] (fun j wr => ∃ q : Nat, j = .int .i64 q ∧ q ≤ 0 ∧ Hid (∀ z, z < q → overB (m z) (m (0)) = false) ∧ PdAt wr (gw w y).heap.size (m (0)) ∧ ∃ y, wr = gw w y) (fun j _ => (0) - (intOf j).toNat)
          case atStart => exact ⟨0, rfl, Nat.zero_le _, Lib.hid (fun z hz => absurd hz (Nat.not_lt_zero z)), hPd, Ext.to_gw (by repeat (with_reducible first | exact Ext.refl _ | refine Ext.setCell ?_ (by first | (simp; done) | (simp; omega)) _ | refine Ext.alloc ?_ _ | refine Ext.gw ?_ _ | refine Ext.drew ?_))⟩
          case round =>
            obtain ⟨q, rfl, hq, HQ, hpd2, y3, rfl⟩ := hrel
            clear hPd
            have HPD := Lib.hid hpd2
            by_cases hqk : q < 0
            · exact absurd hqk (Nat.not_lt_zero q)
            · have hqe : q = 0 := by omega
              have HOK := Lib.hid (show okP m (0) from ⟨HOKp.out, fun h => absurd h (Nat.lt_irrefl 0), fun z hz => HQ.out z (by omega)⟩)
              subst hqe
              clear hpd2 HPD
              go_wp2
              go_roundw
              case rel =>
                refine ⟨0 + 1, by go_num, by omega, by omega, fun i hi => ?_, Ext.to_gw (by repeat (with_reducible first | exact Ext.refl _ | refine Ext.setCell ?_ (by first | (simp; done) | (simp; omega)) _ | refine Ext.alloc ?_ _ | refine Ext.gw ?_ _ | refine Ext.drew ?_))⟩
                by_cases he : i = 0
                · rw [he]; exact HOK.out
                · exact HO.out i (by omega)
              case measure => first | (simp [intOf]; done) | (simp [intOf]; omega)
        | l + 1, hlt, hk, hk10, HOKp, hB, HO =>
          obtain ⟨g, off, hA, hg, c0, c1, c2, c3, c4, c5⟩ := hr.atPond hlt
          obtain ⟨g', off', hA', hg', d0, _⟩ := hr.atPond (show l < n by omega)
          subst hA
          injection hA' with hA'
          injection hA' with e1 e2 _
          subst e1 e2
          have i0 : (0 : Int) ≤ (l : Int) := by omega
          have i1 : (l : Int) + 1 < (n : Int) := by omega
          have i2 : (l : Int) < (n : Int) := by omega
          by_cases hd : (m l).id < (m (l + 1)).id
          · have hd2 : decide ((m (l + 1)).id ≤ (m l).id) = false := by simp; omega
            have HD := Lib.hid hd
            go_wp2_with fail
            have hPd0 := PdAt.new (gw w y) (m (l + 1)) 51
            refine wp_region_grow (by kernel_rfl) (by kernel_rfl) ?_
            repeat (go_big_quiet_step (first | (go_at_call 80; exact grow_of (l3One_any _ _ _ _ _ _ _))))
            refine wpQuiet_nil ?_
            rintro _ ⟨xq, rfl⟩
            have hPd := hPd0.ext (ext_gw _ xq)
            clear hPd0
            go_wp2
            clear hB
            go_loopw [5] (fun j wr => ∃ q : Nat, j = .int .i64 q ∧ q ≤ l + 1 ∧ Hid (∀ z, z < q → overB (m z) (m (l + 1)) = false) ∧ PdAt wr (gw w y).heap.size (m (l + 1)) ∧ ∃ y, wr = gw w y) (fun j _ => (l + 1) - (intOf j).toNat)
            case atStart => exact ⟨0, rfl, Nat.zero_le _, Lib.hid (fun z hz => absurd hz (Nat.not_lt_zero z)), hPd, Ext.to_gw (by repeat (with_reducible first | exact Ext.refl _ | refine Ext.setCell ?_ (by first | (simp; done) | (simp; omega)) _ | refine Ext.alloc ?_ _ | refine Ext.gw ?_ _ | refine Ext.drew ?_))⟩
            case round =>
              obtain ⟨q, rfl, hq, HQ, hpd2, y3, rfl⟩ := hrel
              clear hPd
              have HPD := Lib.hid hpd2
              by_cases hqk : q < l + 1
              · obtain ⟨g3, off3, hA3, _, e0, e1, e2, e3, e4, e5⟩ := hr.atPond (show q < n by omega)
                injection hA3 with hA3
                injection hA3 with hA4 hA5 _
                subst hA4 hA5
                obtain ⟨hB0, b0, b1, b2, b3, b4, b5⟩ := hpd2
                have HS1 := Lib.hid (small_of HOKp.out)
                have HS2 := Lib.hid (small_of (HO.out q (by omega)).1)
                have HC1 : Hid (_) := Lib.hid (show (-1000 ≤ (m q).left ∧ (m q).left ≤ 1000) ∧ (-1000 ≤ (m q).wide ∧ (m q).wide ≤ 1000) ∧ (-1000 ≤ (m (l + 1)).left ∧ (m (l + 1)).left ≤ 1000) ∧ (-1000 ≤ (m (l + 1)).wide ∧ (m (l + 1)).wide ≤ 1000) from ⟨HS2.out.1, HS2.out.2.2.1, HS1.out.1, HS1.out.2.2.1⟩)
                have HC2 : Hid (_) := Lib.hid (show (-1000 ≤ (m q).top ∧ (m q).top ≤ 1000) ∧ (-1000 ≤ (m q).high ∧ (m q).high ≤ 1000) ∧ (-1000 ≤ (m (l + 1)).top ∧ (m (l + 1)).top ≤ 1000) ∧ (-1000 ≤ (m (l + 1)).high ∧ (m (l + 1)).high ≤ 1000) from ⟨HS2.out.2.1, HS2.out.2.2.2, HS1.out.2.1, HS1.out.2.2.2⟩)
                have q0 : (0 : Int) ≤ (q : Int) := by omega
                have q1 : (q : Int) < ((l + 1 : Nat) : Int) := by omega
                have q2 : (q : Int) < (n : Int) := by omega
                by_cases o1 : 0 < commonV (m q).left (m q).wide (m (l + 1)).left (m (l + 1)).wide
                · by_cases o2 : 0 < commonV (m q).top (m q).high (m (l + 1)).top (m (l + 1)).high
                  · have hov : overB (m q) (m (l + 1)) = true := (by
                      show (decide (0 < commonV (m q).left (m q).wide (m (l + 1)).left (m (l + 1)).wide) && decide (0 < commonV (m q).top (m q).high (m (l + 1)).top (m (l + 1)).high)) = true
                      rw [decide_eq_true o1, decide_eq_true o2]; rfl)
                    have HX := Lib.hid (show pondsB n m = false from pondsB_bad hlt fun h => by have := h.2.2 q hqk; rw [hov] at this; cases this)
                    clear hov
                    go_wp2_with (go_at_call 81; refine (l3Common_any _ _ _ _ _ (by first | with_reducible exact HC1.out | with_reducible exact HC2.out)).mono ?_; rintro e wc ⟨rfl, rfl⟩)
                    all_goals go_ret
                    all_goals exact ⟨ret_bool (by rw [HX.out]; first | done | rfl | exact decide_eq_false (by omega) | exact decide_eq_true (by omega)), by repeat (with_reducible first | exact Ext.refl _ | refine Ext.setCell ?_ (by first | (simp; done) | (simp; omega)) _ | refine Ext.alloc ?_ _ | refine Ext.gw ?_ _ | refine Ext.drew ?_)⟩
                  · have HQ0 := Lib.hid (show overB (m q) (m (l + 1)) = false from (by
                      show (decide (0 < commonV (m q).left (m q).wide (m (l + 1)).left (m (l + 1)).wide) && decide (0 < commonV (m q).top (m q).high (m (l + 1)).top (m (l + 1)).high)) = false
                      rw [decide_eq_false o2, Bool.and_false]))
                    have o3 : commonV (m q).top (m q).high (m (l + 1)).top (m (l + 1)).high ≤ 0 := by omega
                    have o4 : decide (0 < commonV (m q).top (m q).high (m (l + 1)).top (m (l + 1)).high) = false := decide_eq_false o2
                    go_wp2_with (go_at_call 81; refine (l3Common_any _ _ _ _ _ (by first | with_reducible exact HC1.out | with_reducible exact HC2.out)).mono ?_; rintro e wc ⟨rfl, rfl⟩)
                    go_roundw
                    case rel => exact ⟨q + 1, by go_num, by omega, Lib.hid (fun z hz => by
                      by_cases he : z = q
                      · rw [he]; exact HQ0.out
                      · exact HQ.out z (by omega)), HPD.out.ext (by repeat (with_reducible first | exact Ext.refl _ | refine Ext.setCell ?_ (by first | (simp; done) | (simp; omega)) _ | refine Ext.alloc ?_ _ | refine Ext.gw ?_ _ | refine Ext.drew ?_)), Ext.to_gw (by repeat (with_reducible first | exact Ext.refl _ | refine Ext.setCell ?_ (by first | (simp; done) | (simp; omega)) _ | refine Ext.alloc ?_ _ | refine Ext.gw ?_ _ | refine Ext.drew ?_))⟩
                    case measure => first | (simp [intOf]; done) | (simp [intOf]; omega)
                · have HQ0 := Lib.hid (show overB (m q) (m (l + 1)) = false from (by
                    show (decide (0 < commonV (m q).left (m q).wide (m (l + 1)).left (m (l + 1)).wide) && decide (0 < commonV (m q).top (m q).high (m (l + 1)).top (m (l + 1)).high)) = false
                    rw [decide_eq_false o1, Bool.false_and]))
                  have o3 : commonV (m q).left (m q).wide (m (l + 1)).left (m (l + 1)).wide ≤ 0 := by omega
                  have o4 : decide (0 < commonV (m q).left (m q).wide (m (l + 1)).left (m (l + 1)).wide) = false := decide_eq_false o1
                  go_wp2_with (go_at_call 81; refine (l3Common_any _ _ _ _ _ (by first | with_reducible exact HC1.out | with_reducible exact HC2.out)).mono ?_; rintro e wc ⟨rfl, rfl⟩)
                  go_roundw
                  case rel => exact ⟨q + 1, by go_num, by omega, Lib.hid (fun z hz => by
                    by_cases he : z = q
                    · rw [he]; exact HQ0.out
                    · exact HQ.out z (by omega)), HPD.out.ext (by repeat (with_reducible first | exact Ext.refl _ | refine Ext.setCell ?_ (by first | (simp; done) | (simp; omega)) _ | refine Ext.alloc ?_ _ | refine Ext.gw ?_ _ | refine Ext.drew ?_)), Ext.to_gw (by repeat (with_reducible first | exact Ext.refl _ | refine Ext.setCell ?_ (by first | (simp; done) | (simp; omega)) _ | refine Ext.alloc ?_ _ | refine Ext.gw ?_ _ | refine Ext.drew ?_))⟩
                  case measure => first | (simp [intOf]; done) | (simp [intOf]; omega)
              · have hqe : q = l + 1 := by omega
                have HOK := Lib.hid (show okP m (l + 1) from ⟨HOKp.out, fun _ => HD.out, fun z hz => HQ.out z (by omega)⟩)
                subst hqe
                clear hpd2 HPD
                go_wp2
                go_roundw
                case rel =>
                  refine ⟨l + 1 + 1, by go_num, by omega, by omega, fun i hi => ?_, Ext.to_gw (by repeat (with_reducible first | exact Ext.refl _ | refine Ext.setCell ?_ (by first | (simp; done) | (simp; omega)) _ | refine Ext.alloc ?_ _ | refine Ext.gw ?_ _ | refine Ext.drew ?_))⟩
                  by_cases he : i = l + 1
                  · rw [he]; exact HOK.out
                  · exact HO.out i (by omega)
                case measure => first | (simp [intOf]; done) | (simp [intOf]; omega)
          · have HX := Lib.hid (show pondsB n m = false from pondsB_bad hlt fun h => hd (h.2.1 (by omega)))
            have hd2 : decide ((m (l + 1)).id ≤ (m l).id) = true := by simp; omega
            go_wp2_with fail
            refine wp_region_grow (by kernel_rfl) (by kernel_rfl) ?_
            repeat (go_big_quiet_step (first | (go_at_call 80; exact grow_of (l3One_any _ _ _ _ _ _ _))))
            refine wpQuiet_nil ?_
            rintro _ ⟨xq, rfl⟩
            go_wp2
            all_goals go_ret
            all_goals exact ⟨ret_bool (by rw [HX.out]; first | done | rfl | exact decide_eq_false (by omega) | exact decide_eq_true (by omega)), by repeat (with_reducible first | exact Ext.refl _ | refine Ext.setCell ?_ (by first | (simp; done) | (simp; omega)) _ | refine Ext.alloc ?_ _ | refine Ext.gw ?_ _ | refine Ext.drew ?_)⟩
    · by_cases hn10 : n ≤ 10
      · obtain rfl : k = n := by omega
        have HX := Lib.hid (show pondsB k m = true from pondsB_iff.2 ⟨hn10, HO.out⟩)
        have hn11 : (k : Int) ≤ 10 := by omega
        go_wp2
        all_goals go_ret
        all_goals exact ⟨ret_bool (by rw [HX.out]; first | done | rfl | exact decide_eq_false (by omega) | exact decide_eq_true (by omega)), by repeat (with_reducible first | exact Ext.refl _ | refine Ext.setCell ?_ (by first | (simp; done) | (simp; omega)) _ | refine Ext.alloc ?_ _ | refine Ext.gw ?_ _ | refine Ext.drew ?_)⟩
      · have HX := Lib.hid (show pondsB n m = false from pondsB_big hn10)
        have hk12 : k = n ∨ k = 11 := by omega
        have hk13 : (10 : Int) < (k : Int) := by omega
        have hn11 : (10 : Int) < (n : Int) := by omega
        clear hlt2 hk12
        go_wp2
        all_goals go_ret
        all_goals exact ⟨ret_bool (by rw [HX.out]; first | done | rfl | exact decide_eq_false (by omega) | exact decide_eq_true (by omega)), by repeat (with_reducible first | exact Ext.refl _ | refine Ext.setCell ?_ (by first | (simp; done) | (simp; omega)) _ | refine Ext.alloc ?_ _ | refine Ext.gw ?_ _ | refine Ext.drew ?_)⟩
set_option maxHeartbeats 4000000 in
theorem arePonds_any (A : Option Addr) (n c : Nat) (m : Nat → Pd) (w : World) (hc : c ≤ maxLen) (hnc : n ≤ c) (hr : Rd w A n 6 (pdF m)) : Calls Try.prog 18 #[.slice A n c] w fun e w' => e = .returned (.bool (pondsB n m)) ∧ Ext w w' := by
  unfold maxLen at *
  by_cases hn10 : n ≤ 10
  · skip
    go_enter Try.func18, Try.ntmps18
    go_wp2
    go_loopw [3, 7, 8, 14] (fun _ _ _ i wr => ∃ k : Nat, i = .int .i64 k ∧ k ≤ n ∧ (∀ j, j < k → okP m j) ∧ ∃ y, wr = gw w y) (fun _ _ _ i _ => n - (intOf i).toNat)
    case atStart => exact ⟨0, rfl, Nat.zero_le _, fun j hj => absurd hj (Nat.not_lt_zero j), (Ext.refl w).to_gw⟩
    case round =>
      obtain ⟨k, rfl, hk, hok, y, rfl⟩ := hrel
      have HO := Lib.hid hok
      clear hok
      by_cases hlt : k < n
      · skip
        cases hB : pondB (m k).id (m k).left (m k).top (m k).wide (m k).high (m k).depth
        · obtain ⟨g, off, rfl, hg, c0, c1, c2, c3, c4, c5⟩ := hr.atPond hlt
          have i0 : (0 : Int) ≤ (k : Int) := by omega
          have i1 : (k : Int) < (n : Int) := by omega
          have HX := Lib.hid (show pondsB n m = false from pondsB_bad hlt fun h => by rw [pondB_iff.2 h.1] at hB; cases hB)
          go_wp2_with fail
          refine wp_region_grow (by kernel_rfl) (by kernel_rfl) ?_
          repeat (go_big_quiet_step (first | (go_at_call 51; exact grow_of (isPond_any _ _ _ _ _ _ _))))
          refine wpQuiet_nil ?_
          rintro _ ⟨xq, rfl⟩
          go_wp2
          all_goals go_ret
          all_goals exact ⟨ret_bool (by rw [HX.out]; first | done | rfl | exact decide_eq_false (by omega) | exact decide_eq_true (by omega)), by repeat (with_reducible first | exact Ext.refl _ | refine Ext.setCell ?_ (by first | (simp; done) | (simp; omega)) _ | refine Ext.alloc ?_ _ | refine Ext.gw ?_ _ | refine Ext.drew ?_)⟩
        · have HOKp := Lib.hid (pondB_iff.1 hB)
          match k, hlt, hk, HOKp, hB, HO with
          | 0, hlt, hk, HOKp, hB, HO =>
            obtain ⟨g, off, rfl, hg, c0, c1, c2, c3, c4, c5⟩ := hr.atPond hlt
            simp only [Nat.zero_mul, Nat.add_zero] at c0 c1 c2 c3 c4 c5
            have i1 : (0 : Int) < (n : Int) := by omega
            go_wp2_with fail
            have hPd0 := PdAt.new (gw w y) (m (0)) 51
            refine wp_region_grow (by kernel_rfl) (by kernel_rfl) ?_
            repeat (go_big_quiet_step (first | (go_at_call 51; exact grow_of (isPond_any _ _ _ _ _ _ _))))
            refine wpQuiet_nil ?_
            rintro _ ⟨xq, rfl⟩
            have hPd := hPd0.ext (ext_gw _ xq)
            clear hPd0
            go_wp2
            clear hB
            go_loopw [7, 8, 41] (fun _ _ j wr => ∃ q : Nat, j = .int .i64 q ∧ q ≤ 0 ∧ Hid (∀ z, z < q → overB (m z) (m (0)) = false) ∧ PdAt wr (gw w y).heap.size (m (0)) ∧ ∃ y, wr = gw w y) (fun _ _ j _ => (0) - (intOf j).toNat)
            case atStart => exact ⟨0, rfl, Nat.zero_le _, Lib.hid (fun z hz => absurd hz (Nat.not_lt_zero z)), hPd, Ext.to_gw (by repeat (with_reducible first | exact Ext.refl _ | refine Ext.setCell ?_ (by first | (simp; done) | (simp; omega)) _ | refine Ext.alloc ?_ _ | refine Ext.gw ?_ _ | refine Ext.drew ?_))⟩
            case round =>
              obtain ⟨q, rfl, hq, HQ, hpd2, y3, rfl⟩ := hrel
              clear hPd
              have HPD := Lib.hid hpd2
              by_cases hqk : q < 0
              · exact absurd hqk (Nat.not_lt_zero q)
              · have hqe : q = 0 := by omega
                have HOK := Lib.hid (show okP m (0) from ⟨HOKp.out, fun h => absurd h (Nat.lt_irrefl 0), fun z hz => HQ.out z (by omega)⟩)
                subst hqe
                clear hpd2 HPD
                go_wp2
                go_roundw
                case rel =>
                  refine ⟨0 + 1, by go_num, by omega, fun i hi => ?_, Ext.to_gw (by repeat (with_reducible first | exact Ext.refl _ | refine Ext.setCell ?_ (by first | (simp; done) | (simp; omega)) _ | refine Ext.alloc ?_ _ | refine Ext.gw ?_ _ | refine Ext.drew ?_))⟩
                  by_cases he : i = 0
                  · rw [he]; exact HOK.out
                  · exact HO.out i (by omega)
                case measure => first | (simp [intOf]; done) | (simp [intOf]; omega)
          | l + 1, hlt, hk, HOKp, hB, HO =>
            obtain ⟨g, off, hA, hg, c0, c1, c2, c3, c4, c5⟩ := hr.atPond hlt
            obtain ⟨g', off', hA', hg', d0, _⟩ := hr.atPond (show l < n by omega)
            subst hA
            injection hA' with hA'
            injection hA' with e1 e2 _
            subst e1 e2
            have i0 : (0 : Int) ≤ (l : Int) := by omega
            have i1 : (l : Int) + 1 < (n : Int) := by omega
            have i2 : (l : Int) < (n : Int) := by omega
            by_cases hd : (m l).id < (m (l + 1)).id
            · have hd2 : decide ((m (l + 1)).id ≤ (m l).id) = false := by simp; omega
              have HD := Lib.hid hd
              go_wp2_with fail
              have hPd0 := PdAt.new (gw w y) (m (l + 1)) 51
              refine wp_region_grow (by kernel_rfl) (by kernel_rfl) ?_
              repeat (go_big_quiet_step (first | (go_at_call 51; exact grow_of (isPond_any _ _ _ _ _ _ _))))
              refine wpQuiet_nil ?_
              rintro _ ⟨xq, rfl⟩
              have hPd := hPd0.ext (ext_gw _ xq)
              clear hPd0
              go_wp2
              clear hB
              go_loopw [7, 8, 41] (fun _ _ j wr => ∃ q : Nat, j = .int .i64 q ∧ q ≤ l + 1 ∧ Hid (∀ z, z < q → overB (m z) (m (l + 1)) = false) ∧ PdAt wr (gw w y).heap.size (m (l + 1)) ∧ ∃ y, wr = gw w y) (fun _ _ j _ => (l + 1) - (intOf j).toNat)
              case atStart => exact ⟨0, rfl, Nat.zero_le _, Lib.hid (fun z hz => absurd hz (Nat.not_lt_zero z)), hPd, Ext.to_gw (by repeat (with_reducible first | exact Ext.refl _ | refine Ext.setCell ?_ (by first | (simp; done) | (simp; omega)) _ | refine Ext.alloc ?_ _ | refine Ext.gw ?_ _ | refine Ext.drew ?_))⟩
              case round =>
                obtain ⟨q, rfl, hq, HQ, hpd2, y3, rfl⟩ := hrel
                clear hPd
                have HPD := Lib.hid hpd2
                by_cases hqk : q < l + 1
                · obtain ⟨g3, off3, hA3, _, e0, e1, e2, e3, e4, e5⟩ := hr.atPond (show q < n by omega)
                  injection hA3 with hA3
                  injection hA3 with hA4 hA5 _
                  subst hA4 hA5
                  obtain ⟨hB0, b0, b1, b2, b3, b4, b5⟩ := hpd2
                  have HS1 := Lib.hid (small_of HOKp.out)
                  have HS2 := Lib.hid (small_of (HO.out q (by omega)).1)
                  have HC1 : Hid (_) := Lib.hid (show (-1000 ≤ (m q).left ∧ (m q).left ≤ 1000) ∧ (-1000 ≤ (m q).wide ∧ (m q).wide ≤ 1000) ∧ (-1000 ≤ (m (l + 1)).left ∧ (m (l + 1)).left ≤ 1000) ∧ (-1000 ≤ (m (l + 1)).wide ∧ (m (l + 1)).wide ≤ 1000) from ⟨HS2.out.1, HS2.out.2.2.1, HS1.out.1, HS1.out.2.2.1⟩)
                  have HC2 : Hid (_) := Lib.hid (show (-1000 ≤ (m q).top ∧ (m q).top ≤ 1000) ∧ (-1000 ≤ (m q).high ∧ (m q).high ≤ 1000) ∧ (-1000 ≤ (m (l + 1)).top ∧ (m (l + 1)).top ≤ 1000) ∧ (-1000 ≤ (m (l + 1)).high ∧ (m (l + 1)).high ≤ 1000) from ⟨HS2.out.2.1, HS2.out.2.2.2, HS1.out.2.1, HS1.out.2.2.2⟩)
                  have q0 : (0 : Int) ≤ (q : Int) := by omega
                  have q1 : (q : Int) < ((l + 1 : Nat) : Int) := by omega
                  have q2 : (q : Int) < (n : Int) := by omega
                  by_cases o1 : 0 < colV (m (l + 1)) (m q)
                  · by_cases o2 : 0 < rowV (m (l + 1)) (m q)
                    · have hov : overB (m q) (m (l + 1)) = true := (overB_comm (m q) (m (l + 1))).trans (by
                        show (decide (0 < colV (m (l + 1)) (m q)) && decide (0 < rowV (m (l + 1)) (m q))) = true
                        rw [decide_eq_true o1, decide_eq_true o2]; rfl)
                      have HX := Lib.hid (show pondsB n m = false from pondsB_bad hlt fun h => by have := h.2.2 q hqk; rw [hov] at this; cases this)
                      clear hov
                      go_wp2_with (go_at_call 59; refine (overlaps_any (m (l + 1)) (m q) _ HS1.out HS2.out).mono ?_; rintro e wc ⟨rfl, hxc⟩; obtain ⟨xc, rfl⟩ := hxc.to_gw; clear hxc)
                      all_goals go_ret
                      all_goals exact ⟨ret_bool (by rw [HX.out]; first | done | rfl | exact decide_eq_false (by omega) | exact decide_eq_true (by omega)), by repeat (with_reducible first | exact Ext.refl _ | refine Ext.setCell ?_ (by first | (simp; done) | (simp; omega)) _ | refine Ext.alloc ?_ _ | refine Ext.gw ?_ _ | refine Ext.drew ?_)⟩
                    · have HQ0 := Lib.hid (show overB (m q) (m (l + 1)) = false from (overB_comm (m q) (m (l + 1))).trans (by
                        show (decide (0 < colV (m (l + 1)) (m q)) && decide (0 < rowV (m (l + 1)) (m q))) = false
                        rw [decide_eq_false o2, Bool.and_false]))
                      have o3 : rowV (m (l + 1)) (m q) ≤ 0 := by omega
                      have o4 : decide (0 < rowV (m (l + 1)) (m q)) = false := decide_eq_false o2
                      go_wp2_with (go_at_call 59; refine (overlaps_any (m (l + 1)) (m q) _ HS1.out HS2.out).mono ?_; rintro e wc ⟨rfl, hxc⟩; obtain ⟨xc, rfl⟩ := hxc.to_gw; clear hxc)
                      go_roundw
                      case rel => exact ⟨q + 1, by go_num, by omega, Lib.hid (fun z hz => by
                        by_cases he : z = q
                        · rw [he]; exact HQ0.out
                        · exact HQ.out z (by omega)), HPD.out.ext (by repeat (with_reducible first | exact Ext.refl _ | refine Ext.setCell ?_ (by first | (simp; done) | (simp; omega)) _ | refine Ext.alloc ?_ _ | refine Ext.gw ?_ _ | refine Ext.drew ?_)), Ext.to_gw (by repeat (with_reducible first | exact Ext.refl _ | refine Ext.setCell ?_ (by first | (simp; done) | (simp; omega)) _ | refine Ext.alloc ?_ _ | refine Ext.gw ?_ _ | refine Ext.drew ?_))⟩
                      case measure => first | (simp [intOf]; done) | (simp [intOf]; omega)
                  · have HQ0 := Lib.hid (show overB (m q) (m (l + 1)) = false from (overB_comm (m q) (m (l + 1))).trans (by
                      show (decide (0 < colV (m (l + 1)) (m q)) && decide (0 < rowV (m (l + 1)) (m q))) = false
                      rw [decide_eq_false o1, Bool.false_and]))
                    have o3 : colV (m (l + 1)) (m q) ≤ 0 := by omega
                    have o4 : decide (0 < colV (m (l + 1)) (m q)) = false := decide_eq_false o1
                    go_wp2_with (go_at_call 59; refine (overlaps_any (m (l + 1)) (m q) _ HS1.out HS2.out).mono ?_; rintro e wc ⟨rfl, hxc⟩; obtain ⟨xc, rfl⟩ := hxc.to_gw; clear hxc)
                    go_roundw
                    case rel => exact ⟨q + 1, by go_num, by omega, Lib.hid (fun z hz => by
                      by_cases he : z = q
                      · rw [he]; exact HQ0.out
                      · exact HQ.out z (by omega)), HPD.out.ext (by repeat (with_reducible first | exact Ext.refl _ | refine Ext.setCell ?_ (by first | (simp; done) | (simp; omega)) _ | refine Ext.alloc ?_ _ | refine Ext.gw ?_ _ | refine Ext.drew ?_)), Ext.to_gw (by repeat (with_reducible first | exact Ext.refl _ | refine Ext.setCell ?_ (by first | (simp; done) | (simp; omega)) _ | refine Ext.alloc ?_ _ | refine Ext.gw ?_ _ | refine Ext.drew ?_))⟩
                    case measure => first | (simp [intOf]; done) | (simp [intOf]; omega)
                · have hqe : q = l + 1 := by omega
                  have HOK := Lib.hid (show okP m (l + 1) from ⟨HOKp.out, fun _ => HD.out, fun z hz => HQ.out z (by omega)⟩)
                  subst hqe
                  clear hpd2 HPD
                  go_wp2
                  go_roundw
                  case rel =>
                    refine ⟨l + 1 + 1, by go_num, by omega, fun i hi => ?_, Ext.to_gw (by repeat (with_reducible first | exact Ext.refl _ | refine Ext.setCell ?_ (by first | (simp; done) | (simp; omega)) _ | refine Ext.alloc ?_ _ | refine Ext.gw ?_ _ | refine Ext.drew ?_))⟩
                    by_cases he : i = l + 1
                    · rw [he]; exact HOK.out
                    · exact HO.out i (by omega)
                  case measure => first | (simp [intOf]; done) | (simp [intOf]; omega)
            · have HX := Lib.hid (show pondsB n m = false from pondsB_bad hlt fun h => hd (h.2.1 (by omega)))
              have hd2 : decide ((m (l + 1)).id ≤ (m l).id) = true := by simp; omega
              go_wp2_with fail
              refine wp_region_grow (by kernel_rfl) (by kernel_rfl) ?_
              repeat (go_big_quiet_step (first | (go_at_call 51; exact grow_of (isPond_any _ _ _ _ _ _ _))))
              refine wpQuiet_nil ?_
              rintro _ ⟨xq, rfl⟩
              go_wp2
              all_goals go_ret
              all_goals exact ⟨ret_bool (by rw [HX.out]; first | done | rfl | exact decide_eq_false (by omega) | exact decide_eq_true (by omega)), by repeat (with_reducible first | exact Ext.refl _ | refine Ext.setCell ?_ (by first | (simp; done) | (simp; omega)) _ | refine Ext.alloc ?_ _ | refine Ext.gw ?_ _ | refine Ext.drew ?_)⟩
      · obtain rfl : k = n := by omega
        have HX := Lib.hid (show pondsB k m = true from pondsB_iff.2 ⟨hn10, HO.out⟩)
        go_wp2
        all_goals go_ret
        all_goals exact ⟨ret_bool (by rw [HX.out]; first | done | rfl | exact decide_eq_false (by omega) | exact decide_eq_true (by omega)), by repeat (with_reducible first | exact Ext.refl _ | refine Ext.setCell ?_ (by first | (simp; done) | (simp; omega)) _ | refine Ext.alloc ?_ _ | refine Ext.gw ?_ _ | refine Ext.drew ?_)⟩
  · have HX := Lib.hid (show pondsB n m = false from pondsB_big hn10)
    have hn11 : (10 : Int) < (n : Int) := by omega
    clear hr
    go_enter Try.func18, Try.ntmps18
    go_wp2
    all_goals go_ret
    all_goals exact ⟨ret_bool (by rw [HX.out]; first | done | rfl | exact decide_eq_false (by omega) | exact decide_eq_true (by omega)), by repeat (with_reducible first | exact Ext.refl _ | refine Ext.setCell ?_ (by first | (simp; done) | (simp; omega)) _ | refine Ext.alloc ?_ _ | refine Ext.gw ?_ _ | refine Ext.drew ?_)⟩
theorem specArePonds_any (A : Option Addr) (n c : Nat) (m : Nat → Pd) (w : World) (hc : c ≤ maxLen) (hnc : n ≤ c) (hr : Rd w A n 6 (pdF m)) : Calls Try.prog 16 #[.slice A n c] w fun e w' => e = .returned (.bool (pondsB n m)) ∧ Ext w w' := by
  have HR := Lib.hid hr
  have HC := Lib.hid hc
  have HN := Lib.hid hnc
  clear hr hc hnc
  go_enter Try.func16, Try.ntmps16
  go_wp2_with (first | (go_at_call 57; refine (l3Good_any _ _ _ _ _ HC.out HN.out (by first | exact HR.out | exact HR.out.ext (ext_gw _ _))).mono ?_; rintro e w1 ⟨rfl, hx⟩; (try replace hx := Ext.flat hx); obtain ⟨x, rfl⟩ := hx.to_gw; clear hx))
  go_ret
  exact ⟨rfl, by repeat (with_reducible first | exact Ext.refl _ | refine Ext.setCell ?_ (by first | (simp; done) | (simp; omega)) _ | refine Ext.alloc ?_ _ | refine Ext.gw ?_ _ | refine Ext.drew ?_)⟩
end Go.Proofs.Ytkgnfmdeimaedaa
