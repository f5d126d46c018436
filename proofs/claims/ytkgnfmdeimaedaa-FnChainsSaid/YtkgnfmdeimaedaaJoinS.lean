/- JoinPonds: the contracts of the reference. -/
import Derived.Test.YtkgnfmdeimaedaaJoinL
import Derived.Deep.Cut
import Derived.Deep.RegionHeld3
namespace Go.Proofs.Ytkgnfmdeimaedaa
open Go.RowKit
set_option linter.unusedVariables false

/-- A local pond that may be written. -/
def LocQ (w : World) (b : Nat) (x : Pd) : Prop := PdAt w b x ∧ w.frozen? ⟨b, 0, none⟩ = false ∧ w.frozen? ⟨b, 1, none⟩ = false ∧ w.frozen? ⟨b, 2, none⟩ = false ∧ w.frozen? ⟨b, 3, none⟩ = false ∧ w.frozen? ⟨b, 4, none⟩ = false ∧ w.frozen? ⟨b, 5, none⟩ = false
theorem LocQ.ext {w w' : World} {b : Nat} {x : Pd} (h : LocQ w b x) (hx : Ext w w') : LocQ w' b x := by
  obtain ⟨h0, h1, h2, h3, h4, h5, h6⟩ := h
  exact ⟨h0.ext hx, (hx.frozen h0.1).trans h1, (hx.frozen h0.1).trans h2, (hx.frozen h0.1).trans h3, (hx.frozen h0.1).trans h4, (hx.frozen h0.1).trans h5, (hx.frozen h0.1).trans h6⟩
theorem LocQ.new (w : World) (x : Pd) (t : TypeId) : LocQ (w.alloc (.cells #[.int .i64 x.id, .int .i64 x.left, .int .i64 x.top, .int .i64 x.wide, .int .i64 x.high, .int .i64 x.depth] t)) w.heap.size x :=
  ⟨PdAt.new w x t, by simp [go_sem], by simp [go_sem], by simp [go_sem], by simp [go_sem], by simp [go_sem], by simp [go_sem]⟩
theorem PdAt.far {w : World} {B b i : Nat} {x : Pd} {u : Value} (h : PdAt w B x) (hne : B ≠ b) : PdAt (w.setCell ⟨b, i, none⟩ u) B x := by
  obtain ⟨h0, h1, h2, h3, h4, h5, h6⟩ := h
  have hg : w.grownBy (w.setCell ⟨b, i, none⟩ u) (some b) := grownBy_set w ⟨b, i, none⟩ u
  have q : some B ≠ some b := fun h => hne (Option.some.inj h)
  exact ⟨Nat.lt_of_lt_of_le h0 hg.size, hg.cell h1 q, hg.cell h2 q, hg.cell h3 q, hg.cell h4 q, hg.cell h5 q, hg.cell h6 q⟩
theorem LocQ.setWide {w : World} {b : Nat} {x : Pd} (h : LocQ w b x) (v : Int) : LocQ (w.setCell ⟨b, 3, none⟩ (.int .i64 v)) b { x with wide := v } := by
  obtain ⟨⟨h0, h1, h2, h3, h4, h5, h6⟩, f0, f1, f2, f3, f4, f5⟩ := h
  refine ⟨⟨by simpa using h0, ?_, ?_, ?_, ?_, ?_, ?_⟩, ?_, ?_, ?_, ?_, ?_, ?_⟩ <;> simp [go_sem, *]
theorem LocQ.setHigh {w : World} {b : Nat} {x : Pd} (h : LocQ w b x) (v : Int) : LocQ (w.setCell ⟨b, 4, none⟩ (.int .i64 v)) b { x with high := v } := by
  obtain ⟨⟨h0, h1, h2, h3, h4, h5, h6⟩, f0, f1, f2, f3, f4, f5⟩ := h
  refine ⟨⟨by simpa using h0, ?_, ?_, ?_, ?_, ?_, ?_⟩, ?_, ?_, ?_, ?_, ?_, ?_⟩ <;> simp [go_sem, *]
theorem pdF_cells (F : Nat → Pd) (t : Nat) (X : Pd) (h : F t = X) (q : Nat) (hq : q < 6) : ([.int .i64 X.id, .int .i64 X.left, .int .i64 X.top, .int .i64 X.wide, .int .i64 X.high, .int .i64 X.depth] : List Value)[q]? = some (pdF F t q) := by
  subst h
  match q, hq with
  | 0, _ => simp [pdF]
  | 1, _ => simp [pdF]
  | 2, _ => simp [pdF]
  | 3, _ => simp [pdF]
  | 4, _ => simp [pdF]
  | 5, _ => simp [pdF]
theorem boxJ_cells (F : Nat → Pd) (t : Nat) (a : Int) (x y : Pd) (h : F t = boxJ a x y) (q : Nat) (hq : q < 6) : ([.int .i64 a, .int .i64 (min x.left y.left), .int .i64 (min x.top y.top), .int .i64 (boxW x y), .int .i64 (boxH x y), .int .i64 (min x.depth y.depth)] : List Value)[q]? = some (pdF F t q) :=
  pdF_cells F t (boxJ a x y) h q hq
/-- How many have been laid at list's index j, where k is left out. -/
def cntJ (k j : Nat) : Nat := if k < j then j - 1 else j
theorem joinM_at (m : Nat → Pd) (i k j : Nat) (a : Int) (hj : j ≠ k) : joinM m i k a (cntJ k j) = setM m i (boxJ a (m i) (m k)) j := by
  unfold joinM delM cntJ
  by_cases h : k < j
  · rw [if_pos h, if_neg (by omega), show j - 1 + 1 = j by omega]
  · rw [if_neg h, if_pos (by omega)]
theorem box_bd {x y : Pd} (hx : pondP x.id x.left x.top x.wide x.high x.depth) (hy : pondP y.id y.left y.top y.wide y.high y.depth) :
    (1 ≤ boxW x y ∧ boxW x y ≤ 50) ∧ (1 ≤ boxH x y ∧ boxH x y ≤ 50) ∧ (0 ≤ boxW x y * boxH x y ∧ boxW x y * boxH x y ≤ 2500) ∧ (0 ≤ x.wide * x.high ∧ x.wide * x.high ≤ 400) ∧ (0 ≤ y.wide * y.high ∧ y.wide * y.high ≤ 400) := by
  obtain ⟨_, a1, a2, a3, a4, a5, a6, _⟩ := hx
  obtain ⟨_, b1, b2, b3, b4, b5, b6, _⟩ := hy
  have h1 : 1 ≤ boxW x y ∧ boxW x y ≤ 50 := by unfold boxW; omega
  have h2 : 1 ≤ boxH x y ∧ boxH x y ≤ 50 := by unfold boxH; omega
  refine ⟨h1, h2, ⟨Int.mul_nonneg (by omega) (by omega), ?_⟩, cells_bd a3.1 a3.2 a4.1 a4.2, cells_bd b3.1 b3.2 b4.1 b4.2⟩
  have h3 := Int.mul_le_mul_of_nonneg_right h1.2 (show 0 ≤ boxH x y by omega)
  omega
set_option maxHeartbeats 2000000 in
theorem specJoin_no (A : Option Addr) (n c : Nat) (m : Nat → Pd) (a b : Int) (w : World) (hc : c ≤ maxLen) (hnc : n ≤ c) (hr : Rd w A n 6 (pdF m)) (h : bkC n m a b = false) : Calls Try.prog 39 #[.slice A n c, .int .i64 a, .int .i64 b] w (RetS 51 6 0 (pdF m) false w) := by
  have HR := Lib.hid hr
  have HC := Lib.hid hc
  have HN := Lib.hid hnc
  unfold maxLen at hc
  have hcase : findPondV n m a = -1 ∨ (∃ i : Nat, findPondV n m a = (i : Int)) ∧ (findPondV n m b = -1 ∨ findPondV n m b = findPondV n m a) := by
    cases hv : pondsB n m
    · exact .inl (if_neg (by rw [hv]; simp))
    · have ha : findPondV n m a = findPond n m a := if_pos hv
      have hb : findPondV n m b = findPond n m b := if_pos hv
      rw [ha, hb]
      rcases findPond_bd n m a with h1 | ⟨i, h1, _⟩
      · exact .inl h1
      · refine .inr ⟨⟨i, h1⟩, ?_⟩
        rcases findPond_bd n m b with h2 | ⟨k, h2, _⟩
        · exact .inl h2
        · by_cases he : findPond n m b = findPond n m a
          · exact .inr he
          · rw [bkC_yes hv ⟨by omega, by omega, fun hh => he hh.symm⟩] at h
            cases h
  rcases hcase with h1 | ⟨⟨i, h1⟩, h2⟩
  · have HJ := Lib.hid h1
    obtain ⟨zb, hzb⟩ : ∃ z, findPondV n m b = z := ⟨_, rfl⟩
    have HK := Lib.hid hzb
    clear hr h h1 hzb
    go_enter Try.func39, Try.ntmps39
    go_wp2_with (first | (go_at_call 63; refine (l3Find_is _ _ _ _ _ _ _ HC.out HN.out (by first | exact HR.out | exact HR.out.ext (ext_gw _ _)) (by first | with_reducible exact HJ.out | with_reducible exact HK.out)).mono ?_; rintro e w1 ⟨rfl, hx⟩; (try replace hx := Ext.flat hx); obtain ⟨x, rfl⟩ := hx.to_gw; clear hx))
    go_ret2
    exact ⟨_, rfl, (own_empty _ _ rfl (by simp)), by repeat (with_reducible first | exact Ext.refl _ | refine Ext.setCell ?_ (by first | (simp; done) | (simp; omega)) _ | refine Ext.alloc ?_ _ | refine Ext.gw ?_ _ | refine Ext.drew ?_)⟩
  · have HJ := Lib.hid h1
    have i0 : (0 : Int) ≤ (i : Int) := by omega
    rcases h2 with h2 | h2
    · have HK := Lib.hid h2
      clear hr h h1 h2
      go_enter Try.func39, Try.ntmps39
      go_wp2_with (first | (go_at_call 63; refine (l3Find_is _ _ _ _ _ _ _ HC.out HN.out (by first | exact HR.out | exact HR.out.ext (ext_gw _ _)) (by first | with_reducible exact HJ.out | with_reducible exact HK.out)).mono ?_; rintro e w1 ⟨rfl, hx⟩; (try replace hx := Ext.flat hx); obtain ⟨x, rfl⟩ := hx.to_gw; clear hx))
      go_ret2
      exact ⟨_, rfl, (own_empty _ _ rfl (by simp)), by repeat (with_reducible first | exact Ext.refl _ | refine Ext.setCell ?_ (by first | (simp; done) | (simp; omega)) _ | refine Ext.alloc ?_ _ | refine Ext.gw ?_ _ | refine Ext.drew ?_)⟩
    · rw [h1] at h2
      have HK := Lib.hid h2
      clear hr h h1 h2
      go_enter Try.func39, Try.ntmps39
      go_wp2_with (first | (go_at_call 63; refine (l3Find_is _ _ _ _ _ _ _ HC.out HN.out (by first | exact HR.out | exact HR.out.ext (ext_gw _ _)) (by first | with_reducible exact HJ.out | with_reducible exact HK.out)).mono ?_; rintro e w1 ⟨rfl, hx⟩; (try replace hx := Ext.flat hx); obtain ⟨x, rfl⟩ := hx.to_gw; clear hx))
      go_ret2
      exact ⟨_, rfl, (own_empty _ _ rfl (by simp)), by repeat (with_reducible first | exact Ext.refl _ | refine Ext.setCell ?_ (by first | (simp; done) | (simp; omega)) _ | refine Ext.alloc ?_ _ | refine Ext.gw ?_ _ | refine Ext.drew ?_)⟩
set_option maxRecDepth 100000 in
set_option maxHeartbeats 40000000 in
theorem specJoin_go (A : Option Addr) (n c : Nat) (m : Nat → Pd) (a b : Int) (w : World) (hc : c ≤ maxLen) (hnc : n ≤ c) (hr : Rd w A n 6 (pdF m)) (hv : pondsB n m = true) (i k : Nat) (hi : findPond n m a = (i : Int)) (hk : findPond n m b = (k : Int)) (hin : i < n) (hkn : k < n) (hik : i ≠ k)
    (ok : Bool) (N : Nat) (hok : (fitB (m i) (m k) && pondsB (n - 1) (joinM m i k a)) = ok) (hN : N = if ok = true then n - 1 else 0) : Calls Try.prog 39 #[.slice A n c, .int .i64 a, .int .i64 b] w (RetS 51 6 N (pdF (joinM m i k a)) ok w) := by
  have HOK := Lib.hid hok
  have HNN := Lib.hid hN
  clear hok hN
  have HR := Lib.hid hr
  have HC := Lib.hid hc
  have HN := Lib.hid hnc
  have HJ : Hid (findPondV n m a = (i : Int)) := Lib.hid (by rw [show findPondV n m a = findPond n m a from if_pos hv]; exact hi)
  have HK : Hid (findPondV n m b = (k : Int)) := Lib.hid (by rw [show findPondV n m b = findPond n m b from if_pos hv]; exact hk)
  have hvp := pondsB_iff.1 hv
  have HV := Lib.hid hvp
  have hn10 := hvp.1
  unfold maxLen at hc
  obtain ⟨g, off, rfl, hg, c0, c1, c2, c3, c4, c5⟩ := hr.atPond hin
  obtain ⟨g2, off2, hA2, _, e0, e1, e2, e3, e4, e5⟩ := hr.atPond hkn
  injection hA2 with hA2
  injection hA2 with f1 f2 _
  subst f1 f2
  have i0 : (0 : Int) ≤ (i : Int) := by omega
  have i1 : (i : Int) < (n : Int) := by omega
  have k0 : (0 : Int) ≤ (k : Int) := by omega
  have k1 : (k : Int) < (n : Int) := by omega
  have k2 : ((i : Int) == (k : Int)) = false := by simp; omega
  clear hi hk hv hvp
  go_enter Try.func39, Try.ntmps39
  go_upto_region 4 with (first | (go_at_call 63; refine (l3Find_is _ _ _ _ _ _ _ HC.out HN.out (by first | exact HR.out | exact HR.out.ext (ext_gw _ _)) (by first | with_reducible exact HJ.out | with_reducible exact HK.out)).mono ?_; rintro e w1 ⟨rfl, hx⟩; (try replace hx := Ext.flat hx); obtain ⟨x, rfl⟩ := hx.to_gw; clear hx))
  go_cut [10, 11] from 15 (fun s10 s11 wx => ∃ b1 b2, s10 = .pointer (some ⟨b1, 0, none⟩) ∧ s11 = .pointer (some ⟨b2, 0, none⟩) ∧ PdAt wx b1 (m i) ∧ PdAt wx b2 (m k) ∧ Ext w wx)
  case first =>
    as_aux_lemma =>
      go_big_region
      all_goals
        go_wp2
        go_meet
        case rel =>
          refine ⟨_, _, rfl, rfl, ?_, ?_, ?_⟩
          · unfold PdAt
            refine ⟨?_, ?_, ?_, ?_, ?_, ?_, ?_⟩ <;> simp [go_sem]
          · unfold PdAt
            refine ⟨?_, ?_, ?_, ?_, ?_, ?_, ?_⟩ <;> simp [go_sem]
          · exact (by repeat (with_reducible first | exact Ext.refl _ | refine Ext.setCell ?_ (by first | (simp; done) | (simp; omega)) _ | refine Ext.alloc ?_ _ | refine Ext.gw ?_ _ | refine Ext.drew ?_))
  case rest =>
    · skip
      obtain ⟨b1, b2, rfl, rfl, P1, P2, hx⟩ := hcut
      have HP1 := Lib.hid P1
      have HP2 := Lib.hid P2
      obtain ⟨p0, p1, p2, p3, p4, p5, p6⟩ := P1
      obtain ⟨q0, q1, q2, q3, q4, q5, q6⟩ := P2
      clear c0 c1 c2 c3 c4 c5 e0 e1 e2 e3 e4 e5
      go_upto_region 5 with fail
      go_cut [12] from 15 (fun s12 wx => ∃ b3, s12 = .pointer (some ⟨b3, 0, none⟩) ∧ wc.heap.size ≤ b3 ∧ LocQ wx b3 ⟨a, min (m i).left (m k).left, min (m i).top (m k).top, 0, 0, min (m i).depth (m k).depth⟩ ∧ Ext wc wx)
      case first =>
        as_aux_lemma =>
          have HS := Lib.hid (show ∀ W, Ext wc W → W.cell? ⟨b1, 1, none⟩ = some (.int .i64 (m i).left) ∧ W.cell? ⟨b1, 2, none⟩ = some (.int .i64 (m i).top) ∧ W.cell? ⟨b1, 5, none⟩ = some (.int .i64 (m i).depth) ∧ W.cell? ⟨b2, 1, none⟩ = some (.int .i64 (m k).left) ∧ W.cell? ⟨b2, 2, none⟩ = some (.int .i64 (m k).top) ∧ W.cell? ⟨b2, 5, none⟩ = some (.int .i64 (m k).depth) from
            fun W hW => ⟨(hW.cell p0).trans p2, (hW.cell p0).trans p3, (hW.cell p0).trans p6, (hW.cell q0).trans q2, (hW.cell q0).trans q3, (hW.cell q0).trans q6⟩)
          go_region_held3 (fun w' => w'.cell? ⟨b1, 1, none⟩ = some (.int .i64 (m i).left) ∧ w'.cell? ⟨b1, 2, none⟩ = some (.int .i64 (m i).top) ∧ w'.cell? ⟨b1, 5, none⟩ = some (.int .i64 (m i).depth) ∧ w'.cell? ⟨b2, 1, none⟩ = some (.int .i64 (m k).left) ∧ w'.cell? ⟨b2, 2, none⟩ = some (.int .i64 (m k).top) ∧ w'.cell? ⟨b2, 5, none⟩ = some (.int .i64 (m k).depth))
            (first | (exact HS.out _ (by repeat (with_reducible first | assumption | exact Ext.refl _ | refine Ext.drewN ?_ _ | refine Ext.drew ?_ | refine Ext.alloc ?_ _ | refine Ext.setCell ?_ (by first | (simp; done) | (simp; omega)) _))) | go_keep)
            ((go_at_call 68; refine (l1Least_any _ _ _).mono ?_; rintro e w1 ⟨rfl, rfl⟩))
          go_goals
          all_goals
            go_wp2_with fail
            go_meet
            case rel =>
              refine ⟨_, rfl, ?_, ?_, ?_⟩
              · simp
              · unfold LocQ PdAt
                refine ⟨⟨?_, ?_, ?_, ?_, ?_, ?_, ?_⟩, ?_, ?_, ?_, ?_, ?_, ?_⟩ <;> simp [go_sem]
              · exact (by repeat (with_reducible first | exact Ext.refl _ | refine Ext.setCell ?_ (by first | (simp; done) | (simp; omega)) _ | refine Ext.alloc ?_ _ | refine Ext.gw ?_ _ | refine Ext.drew ?_))
      case rest =>
        · skip
          obtain ⟨b3, rfl, hb3, L3, hx5⟩ := hcut
          replace P1 := HP1.out.ext hx5
          replace P2 := HP2.out.ext hx5
          have n13 : b1 ≠ b3 := by have := HP1.out.1; omega
          have n23 : b2 ≠ b3 := by have := HP2.out.1; omega
          have hb3w : w.heap.size ≤ b3 := Nat.le_trans hx.size_le hb3
          replace hx := hx.trans hx5
          clear HP1 HP2 hx5 hb3 p0 p1 p2 p3 p4 p5 p6 q0 q1 q2 q3 q4 q5 q6
          obtain ⟨_, il, it, iw, ih, ilw, ith, _⟩ := (HV.out.2 i hin).1
          obtain ⟨_, kl, kt, kw, kh, klw, kth, _⟩ := (HV.out.2 k hkn).1
          go_upto_region 6 with fail
          go_cut [] from 15 (fun wx => LocQ wx b3 ⟨a, min (m i).left (m k).left, min (m i).top (m k).top, boxW (m i) (m k), 0, min (m i).depth (m k).depth⟩ ∧ PdAt wx b1 (m i) ∧ PdAt wx b2 (m k) ∧ Ext w wx)
          case first =>
            as_aux_lemma =>
              have HP1 := Lib.hid P1
              have HP2 := Lib.hid P2
              have HL := Lib.hid L3
              obtain ⟨p0, p1, p2, p3, p4, p5, p6⟩ := P1
              obtain ⟨q0, q1, q2, q3, q4, q5, q6⟩ := P2
              obtain ⟨⟨r0, r1, r2, r3, r4, r5, r6⟩, f0, f1, f2, f3, f4, f5⟩ := L3
              refine wp_region_grow_tail 15 (by kernel_rfl) (by kernel_rfl) ?_
              simp only [List.take_succ_cons, List.take_zero, List.drop_succ_cons, List.drop_zero]
              repeat (go_big_quiet_step (first | (go_at_call 69; exact grow_same (l1Most_any _ _ _))))
              refine wpQuiet_nil ?_
              rintro _ ⟨xq, rfl⟩
              go_wp2
              go_meet
              case rel => exact ⟨(HL.out.ext (ext_gw _ xq)).setWide _, (HP1.out.ext (ext_gw _ xq)).far n13, (HP2.out.ext (ext_gw _ xq)).far n23, (hx.gw xq).setCell hb3w _⟩
          case rest =>
            · skip
              obtain ⟨L3, P1, P2, hx⟩ := hcut
              go_upto_region 7 with fail
              go_cut [] from 15 (fun wx => LocQ wx b3 (boxJ a (m i) (m k)) ∧ PdAt wx b1 (m i) ∧ PdAt wx b2 (m k) ∧ Ext w wx)
              case first =>
                as_aux_lemma =>
                  have HP1 := Lib.hid P1
                  have HP2 := Lib.hid P2
                  have HL := Lib.hid L3
                  obtain ⟨p0, p1, p2, p3, p4, p5, p6⟩ := P1
                  obtain ⟨q0, q1, q2, q3, q4, q5, q6⟩ := P2
                  obtain ⟨⟨r0, r1, r2, r3, r4, r5, r6⟩, f0, f1, f2, f3, f4, f5⟩ := L3
                  refine wp_region_grow_tail 15 (by kernel_rfl) (by kernel_rfl) ?_
                  simp only [List.take_succ_cons, List.take_zero, List.drop_succ_cons, List.drop_zero]
                  repeat (go_big_quiet_step (first | (go_at_call 69; exact grow_same (l1Most_any _ _ _))))
                  refine wpQuiet_nil ?_
                  rintro _ ⟨xq, rfl⟩
                  go_wp2
                  go_meet
                  case rel => exact ⟨(HL.out.ext (ext_gw _ xq)).setHigh _, (HP1.out.ext (ext_gw _ xq)).far n13, (HP2.out.ext (ext_gw _ xq)).far n23, (hx.gw xq).setCell hb3w _⟩
              case rest =>
                · skip
                  obtain ⟨L3, P1, P2, hx⟩ := hcut
                  obtain ⟨p0, p1, p2, p3, p4, p5, p6⟩ := P1
                  obtain ⟨q0, q1, q2, q3, q4, q5, q6⟩ := P2
                  obtain ⟨⟨r0, r1, r2, r3, r4, r5, r6⟩, _⟩ := L3
                  replace r1 : wc.cell? ⟨b3, 0, none⟩ = some (.int .i64 a) := r1
                  replace r2 : wc.cell? ⟨b3, 1, none⟩ = some (.int .i64 (min (m i).left (m k).left)) := r2
                  replace r3 : wc.cell? ⟨b3, 2, none⟩ = some (.int .i64 (min (m i).top (m k).top)) := r3
                  replace r4 : wc.cell? ⟨b3, 3, none⟩ = some (.int .i64 (boxW (m i) (m k))) := r4
                  replace r5 : wc.cell? ⟨b3, 4, none⟩ = some (.int .i64 (boxH (m i) (m k))) := r5
                  replace r6 : wc.cell? ⟨b3, 5, none⟩ = some (.int .i64 (min (m i).depth (m k).depth)) := r6
                  obtain ⟨⟨W0, W1⟩, ⟨H0, H1⟩, ⟨S0, S1⟩, ⟨T0, T1⟩, ⟨V0, V1⟩⟩ := box_bd (HV.out.2 i hin).1 (HV.out.2 k hkn).1
                  clear il it iw ih ilw ith kl kt kw kh klw kth
                  cases hf : fitB (m i) (m k)
                  · have hq := of_decide_eq_false (show decide (boxW (m i) (m k) * boxH (m i) (m k) = (m i).wide * (m i).high + (m k).wide * (m k).high) = false from hf)
                    have hq2 : (boxW (m i) (m k) * boxH (m i) (m k) == (m i).wide * (m i).high + (m k).wide * (m k).high) = false := by simpa using hq
                    have HF := Lib.hid (show ok = false by rw [← HOK.out, hf]; rfl)
                    clear hf hq
                    go_wp2
                    go_ret2
                    have h1 := HF.out
                    have h2 := HNN.out
                    rw [h1, if_neg (by simp)] at h2
                    rw [h1, h2]
                    exact ⟨_, rfl, own_empty _ _ rfl hx.size_le, hx.alloc _⟩
                  · have hq := of_decide_eq_true (show decide (boxW (m i) (m k) * boxH (m i) (m k) = (m i).wide * (m i).high + (m k).wide * (m k).high) = true from hf)
                    have hq2 : (boxW (m i) (m k) * boxH (m i) (m k) == (m i).wide * (m i).high + (m k).wide * (m k).high) = true := by simpa using hq
                    have HF := Lib.hid (show pondsB (n - 1) (joinM m i k a) = ok by rw [← HOK.out, hf]; rfl)
                    clear hf HOK
                    go_wp2
                    clear hq hq2 W0 W1 H0 H1 S0 S1 T0 T1 V0 V1 p0 p1 p2 p3 p4 p5 p6 q0 q1 q2 q3 q4 q5 q6
                    have hw3 := hx.size_le
                    replace hr := hr.ext hx
                    go_loopw [13, 14] (fun s13 s14 wr => ∃ j : Nat, s14 = .int .i64 j ∧ j ≤ n ∧ OwnS wr wc.heap.size 51 6 s13 (cntJ k j) (pdF (joinM m i k a)) ∧ ∃ y, wr = gw wc y) (fun _ s14 _ => n - (intOf s14).toNat)
                    case atStart => exact ⟨0, rfl, Nat.zero_le _, by rw [show cntJ k 0 = 0 from if_neg (Nat.not_lt_zero k)]; exact own_empty _ _ rfl (Nat.le_refl _), ((Ext.refl _).alloc _).to_gw⟩
                    case round =>
                      obtain ⟨j, rfl, hj, hown, y, rfl⟩ := hrel
                      have hcb : cntJ k j ≤ n := by unfold cntJ; split <;> omega
                      by_cases hlt : j < n
                      · obtain ⟨g', off', hA', hg', c0, c1, c2, c3, c4, c5⟩ := hr.atPond hlt
                        injection hA' with hA'
                        injection hA' with e1 e2 _
                        subst e1 e2
                        have j0 : (0 : Int) ≤ (j : Int) := by omega
                        have j1 : (j : Int) < (n : Int) := by omega
                        by_cases hji : j = i
                        · have HA := Lib.hid ((joinM_at m i k j a (by omega)).trans (if_pos hji))
                          have HC1 := Lib.hid (show cntJ k (j + 1) = cntJ k j + 1 by unfold cntJ; split <;> split <;> omega)
                          subst hji
                          clear c0 c1 c2 c3 c4 c5 L3 P1 P2 HF HJ HK HV HR HNN
                          go_wp2_with (at_builtin; refine wpList_append_G wc wc.heap.size rfl (by repeat (with_reducible first | exact Ext.refl _ | refine Ext.setCell ?_ (by first | (simp; done) | (simp; omega)) _ | refine Ext.alloc ?_ _ | refine Ext.gw ?_ _ | refine Ext.drew ?_)) rfl _ _ elPond rfl rfl hown _ _ rfl rfl (by omega) ?_ ?_ ?_)
                          · exact fun q hq => boxJ_cells (joinM m j k a) (cntJ k j) a (m j) (m k) HA.out q hq
                          · exact fun q hq => pdF_one _ _ q hq
                          · intro v' z hown3
                            clear hown
                            go_wp2
                            go_roundw
                            case rel => exact ⟨j + 1, by go_num, by omega, by rw [HC1.out]; exact hown3, z, rfl⟩
                            case measure => simp [intOf]; omega
                        · have q1 : ((j : Int) == (i : Int)) = false := by simp; omega
                          by_cases hjk : j = k
                          · have HC1 := Lib.hid (show cntJ k (j + 1) = cntJ k j by unfold cntJ; split <;> split <;> omega)
                            subst hjk
                            clear c0 c1 c2 c3 c4 c5
                            go_wp2
                            go_roundw
                            case rel => exact ⟨j + 1, by go_num, by omega, by rw [HC1.out]; exact hown, y, rfl⟩
                            case measure => simp [intOf]; omega
                          · have q2 : ((j : Int) == (k : Int)) = false := by simp; omega
                            have HA := Lib.hid ((joinM_at m i k j a hjk).trans (if_neg hji))
                            have HC1 := Lib.hid (show cntJ k (j + 1) = cntJ k j + 1 by unfold cntJ; split <;> split <;> omega)
                            clear hji hjk L3 P1 P2 HF HJ HK HV HR HNN r0 r1 r2 r3 r4 r5 r6
                            go_wp2_with (at_builtin; refine wpList_append_G wc wc.heap.size rfl (by repeat (with_reducible first | exact Ext.refl _ | refine Ext.setCell ?_ (by first | (simp; done) | (simp; omega)) _ | refine Ext.alloc ?_ _ | refine Ext.gw ?_ _ | refine Ext.drew ?_)) rfl _ _ elPond rfl rfl hown _ _ rfl rfl (by omega) ?_ ?_ ?_)
                            · exact fun q hq => pdF_cells (joinM m i k a) (cntJ k j) (m j) HA.out q hq
                            · exact fun q hq => pdF_one _ _ q hq
                            · intro v' z hown3
                              clear hown
                              go_wp2
                              go_roundw
                              case rel => exact ⟨j + 1, by go_num, by omega, by rw [HC1.out]; exact hown3, z, rfl⟩
                              case measure => simp [intOf]; omega
                      · obtain rfl : j = n := by omega
                        rw [show cntJ k j = j - 1 from if_pos hkn] at hown
                        obtain ⟨A3, c3, rfl, hc3, hnc3, hr3⟩ := hown.rd
                        replace hx := hx.gw y
                        replace hown := hown.lower hw3
                        go_wp2_with fail
                        refine (l3Good_any A3 (j - 1) c3 (joinM m i k a) _ hc3 hnc3 hr3).mono ?_
                        rintro e w5 ⟨rfl, hx5⟩
                        replace hown := hown.ext hx5
                        replace hx := hx.trans hx5
                        rw [HF.out]
                        clear hx5 hr3 hr
                        dsimp only
                        cases ok
                        · go_wp2
                          go_ret2
                          have h2 := HNN.out
                          rw [if_neg (by simp)] at h2
                          rw [h2]
                          exact ⟨_, rfl, own_empty _ _ rfl hx.size_le, hx.alloc _⟩
                        · go_wp2
                          go_ret2
                          have h2 := HNN.out
                          rw [if_pos (by simp)] at h2
                          rw [h2]
                          exact ⟨_, rfl, hown, hx⟩
end Go.Proofs.Ytkgnfmdeimaedaa
