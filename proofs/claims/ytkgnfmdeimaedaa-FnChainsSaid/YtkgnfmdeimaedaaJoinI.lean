/- JoinPonds: the contracts of the program. -/
import Derived.Test.YtkgnfmdeimaedaaJoinS
import Derived.Test.YtkgnfmdeimaedaaPondC
import Derived.Deep.CutBlock
namespace Go.Proofs.Ytkgnfmdeimaedaa
open Go.RowKit
set_option linter.unusedVariables false

instance (x y : Pd) : Decidable (stackP x y) := by unfold stackP; infer_instance
instance (x y : Pd) : Decidable (rowP x y) := by unfold rowP; infer_instance
/-- What impl.JoinPonds lays before it looks which way the two lie. -/
def preJ (a : Int) (x y : Pd) : Pd := ⟨a, min x.left y.left, min x.top y.top, x.wide, x.high, min x.depth y.depth⟩
theorem preJ_stack {a : Int} {x y : Pd} (h : PosP x y) (hs : stackP x y) : ({ preJ a x y with high := x.high + y.high } : Pd) = boxJ a x y := by
  obtain ⟨e1, e2, _⟩ := stack_box h hs
  unfold preJ boxJ
  rw [e1, e2]
theorem preJ_row {a : Int} {x y : Pd} (h : PosP x y) (hs : rowP x y) : ({ preJ a x y with wide := x.wide + y.wide } : Pd) = boxJ a x y := by
  obtain ⟨e1, e2, _⟩ := row_box h hs
  unfold preJ boxJ
  rw [e1, e2]
theorem run_min_plain (ts : Array TypeId) (t : TypeId) (x y : Int) (W : World) : (Builtin.min_ ts t #[.int .i64 x, .int .i64 y]).run Try.prog W = .ok (.int .i64 (min x y)) W := by
  rw [run_min_int2]
  congr 2
  omega
set_option maxHeartbeats 4000000 in
theorem implJoin_no (A : Option Addr) (n c : Nat) (m : Nat → Pd) (a b : Int) (w : World) (hc : c ≤ maxLen) (hnc : n ≤ c) (hr : Rd w A n 6 (pdF m)) (h : bkC n m a b = false) : Calls Try.prog 40 #[.slice A n c, .int .i64 a, .int .i64 b] w (RetS 51 6 0 (pdF m) false w) := by
  have HR := Lib.hid hr
  have HC := Lib.hid hc
  have HN := Lib.hid hnc
  unfold maxLen at hc
  cases hv : pondsB n m
  · obtain ⟨za, hza⟩ : ∃ z, findPond n m a = z := ⟨_, rfl⟩
    obtain ⟨zb, hzb⟩ : ∃ z, findPond n m b = z := ⟨_, rfl⟩
    have HJ := Lib.hid hza
    have HK := Lib.hid hzb
    clear hr h hza hzb
    go_enter Try.func40, Try.ntmps40
    go_wp2_with (first | (go_at_call 64; refine (pondAt_is _ _ _ _ _ _ _ HC.out HN.out (by first | exact HR.out | exact HR.out.ext (ext_gw _ _)) (by first | with_reducible exact HJ.out | with_reducible exact HK.out)).mono ?_; rintro e w1 ⟨rfl, hx⟩; (try replace hx := Ext.flat hx); obtain ⟨x, rfl⟩ := hx.to_gw; clear hx) | (go_at_call 18; refine (arePonds_any _ _ _ _ _ HC.out HN.out (by first | exact HR.out | exact HR.out.ext (ext_gw _ _))).mono ?_; rintro e w1 ⟨rfl, hx⟩; (try replace hx := Ext.flat hx); obtain ⟨x, rfl⟩ := hx.to_gw; clear hx))
    go_ret2
    exact ⟨_, rfl, OwnS.nil, by repeat (with_reducible first | exact Ext.refl _ | refine Ext.setCell ?_ (by first | (simp; done) | (simp; omega)) _ | refine Ext.alloc ?_ _ | refine Ext.gw ?_ _ | refine Ext.drew ?_)⟩
  · have hcase : findPond n m a = -1 ∨ (∃ i : Nat, findPond n m a = (i : Int)) ∧ (findPond n m b = -1 ∨ findPond n m b = findPond n m a) := by
      rcases findPond_bd n m a with h1 | ⟨i, h1, _⟩
      · exact .inl h1
      · refine .inr ⟨⟨i, h1⟩, ?_⟩
        rcases findPond_bd n m b with h2 | ⟨k, h2, _⟩
        · exact .inl h2
        · by_cases he : findPond n m b = findPond n m a
          · exact .inr he
          · rw [bkC_yes hv ⟨by omega, by omega, fun hh => he hh.symm⟩] at h
            cases h
    rcases hcase with h1 | ⟨⟨i, h1⟩, h2⟩
    · have HJ := Lib.hid h1
      obtain ⟨zb, hzb⟩ : ∃ z, findPond n m b = z := ⟨_, rfl⟩
      have HK := Lib.hid hzb
      clear hr h h1 hzb
      go_enter Try.func40, Try.ntmps40
      go_wp2_with (first | (go_at_call 64; refine (pondAt_is _ _ _ _ _ _ _ HC.out HN.out (by first | exact HR.out | exact HR.out.ext (ext_gw _ _)) (by first | with_reducible exact HJ.out | with_reducible exact HK.out)).mono ?_; rintro e w1 ⟨rfl, hx⟩; (try replace hx := Ext.flat hx); obtain ⟨x, rfl⟩ := hx.to_gw; clear hx) | (go_at_call 18; refine (arePonds_any _ _ _ _ _ HC.out HN.out (by first | exact HR.out | exact HR.out.ext (ext_gw _ _))).mono ?_; rintro e w1 ⟨rfl, hx⟩; (try replace hx := Ext.flat hx); obtain ⟨x, rfl⟩ := hx.to_gw; clear hx))
      go_ret2
      exact ⟨_, rfl, OwnS.nil, by repeat (with_reducible first | exact Ext.refl _ | refine Ext.setCell ?_ (by first | (simp; done) | (simp; omega)) _ | refine Ext.alloc ?_ _ | refine Ext.gw ?_ _ | refine Ext.drew ?_)⟩
    · have HJ := Lib.hid h1
      have i0 : (0 : Int) ≤ (i : Int) := by omega
      rcases h2 with h2 | h2
      · have HK := Lib.hid h2
        clear hr h h1 h2
        go_enter Try.func40, Try.ntmps40
        go_wp2_with (first | (go_at_call 64; refine (pondAt_is _ _ _ _ _ _ _ HC.out HN.out (by first | exact HR.out | exact HR.out.ext (ext_gw _ _)) (by first | with_reducible exact HJ.out | with_reducible exact HK.out)).mono ?_; rintro e w1 ⟨rfl, hx⟩; (try replace hx := Ext.flat hx); obtain ⟨x, rfl⟩ := hx.to_gw; clear hx) | (go_at_call 18; refine (arePonds_any _ _ _ _ _ HC.out HN.out (by first | exact HR.out | exact HR.out.ext (ext_gw _ _))).mono ?_; rintro e w1 ⟨rfl, hx⟩; (try replace hx := Ext.flat hx); obtain ⟨x, rfl⟩ := hx.to_gw; clear hx))
        go_ret2
        exact ⟨_, rfl, OwnS.nil, by repeat (with_reducible first | exact Ext.refl _ | refine Ext.setCell ?_ (by first | (simp; done) | (simp; omega)) _ | refine Ext.alloc ?_ _ | refine Ext.gw ?_ _ | refine Ext.drew ?_)⟩
      · rw [h1] at h2
        have HK := Lib.hid h2
        clear hr h h1 h2
        go_enter Try.func40, Try.ntmps40
        go_wp2_with (first | (go_at_call 64; refine (pondAt_is _ _ _ _ _ _ _ HC.out HN.out (by first | exact HR.out | exact HR.out.ext (ext_gw _ _)) (by first | with_reducible exact HJ.out | with_reducible exact HK.out)).mono ?_; rintro e w1 ⟨rfl, hx⟩; (try replace hx := Ext.flat hx); obtain ⟨x, rfl⟩ := hx.to_gw; clear hx) | (go_at_call 18; refine (arePonds_any _ _ _ _ _ HC.out HN.out (by first | exact HR.out | exact HR.out.ext (ext_gw _ _))).mono ?_; rintro e w1 ⟨rfl, hx⟩; (try replace hx := Ext.flat hx); obtain ⟨x, rfl⟩ := hx.to_gw; clear hx))
        go_ret2
        exact ⟨_, rfl, OwnS.nil, by repeat (with_reducible first | exact Ext.refl _ | refine Ext.setCell ?_ (by first | (simp; done) | (simp; omega)) _ | refine Ext.alloc ?_ _ | refine Ext.gw ?_ _ | refine Ext.drew ?_)⟩
set_option maxRecDepth 100000 in
set_option maxHeartbeats 8000000 in
theorem implJoin_go (A : Option Addr) (n c : Nat) (m : Nat → Pd) (a b : Int) (w : World) (hc : c ≤ maxLen) (hnc : n ≤ c) (hr : Rd w A n 6 (pdF m)) (hv : pondsB n m = true) (i k : Nat) (hi : findPond n m a = (i : Int)) (hk : findPond n m b = (k : Int)) (hin : i < n) (hkn : k < n) (hik : i ≠ k)
    (ok : Bool) (N : Nat) (hok : (fitB (m i) (m k) && pondsB (n - 1) (joinM m i k a)) = ok) (hN : N = if ok = true then n - 1 else 0) : Calls Try.prog 40 #[.slice A n c, .int .i64 a, .int .i64 b] w (RetS 51 6 N (pdF (joinM m i k a)) ok w) := by
  have HOK := Lib.hid hok
  have HNN := Lib.hid hN
  clear hok hN
  have HR := Lib.hid hr
  have HC := Lib.hid hc
  have HN := Lib.hid hnc
  have HJ : Hid (findPond n m a = (i : Int)) := Lib.hid hi
  have HK : Hid (findPond n m b = (k : Int)) := Lib.hid hk
  have hvp := pondsB_iff.1 hv
  have HV := Lib.hid hvp
  have hn10 := hvp.1
  unfold maxLen at hc
  obtain ⟨g, off, rfl, hg, c0, c1, c2, c3, c4, c5⟩ := hr.atPond hin
  obtain ⟨g2, off2, hA2, _, e0, e1, e2, e3, e4, e5⟩ := hr.atPond hkn
  injection hA2 with hA2
  injection hA2 with f1 f2 _
  subst f1 f2
  have i0 : (0 : Int) ≤ (i : Int) := by omega
  have i1 : (i : Int) < (n : Int) := by omega
  have k0 : (0 : Int) ≤ (k : Int) := by omega
  have k1 : (k : Int) < (n : Int) := by omega
  have k2 : ((i : Int) == (k : Int)) = false := by simp; omega
  clear hi hk hvp
  go_enter Try.func40, Try.ntmps40
  go_upto_region 4 with (first | (go_at_call 64; refine (pondAt_is _ _ _ _ _ _ _ HC.out HN.out (by first | exact HR.out | exact HR.out.ext (ext_gw _ _)) (by first | with_reducible exact HJ.out | with_reducible exact HK.out)).mono ?_; rintro e w1 ⟨rfl, hx⟩; (try replace hx := Ext.flat hx); obtain ⟨x, rfl⟩ := hx.to_gw; clear hx) | (go_at_call 18; refine (arePonds_any _ _ _ _ _ HC.out HN.out (by first | exact HR.out | exact HR.out.ext (ext_gw _ _))).mono ?_; rintro e w1 ⟨rfl, hx⟩; (try replace hx := Ext.flat hx); obtain ⟨x, rfl⟩ := hx.to_gw; clear hx))
  clear hv
  go_cut [10, 11] from 15 (fun s10 s11 wx => ∃ b1 b2, s10 = .pointer (some ⟨b1, 0, none⟩) ∧ s11 = .pointer (some ⟨b2, 0, none⟩) ∧ PdAt wx b1 (m i) ∧ PdAt wx b2 (m k) ∧ Ext w wx)
  case first =>
    · skip
      go_big_region
      all_goals
        go_wp2
        go_meet
        case rel =>
          refine ⟨_, _, rfl, rfl, ?_, ?_, ?_⟩
          · unfold PdAt
            refine ⟨?_, ?_, ?_, ?_, ?_, ?_, ?_⟩ <;> simp [go_sem]
          · unfold PdAt
            refine ⟨?_, ?_, ?_, ?_, ?_, ?_, ?_⟩ <;> simp [go_sem]
          · exact (by repeat (with_reducible first | exact Ext.refl _ | refine Ext.setCell ?_ (by first | (simp; done) | (simp; omega)) _ | refine Ext.alloc ?_ _ | refine Ext.gw ?_ _ | refine Ext.drew ?_))
  case rest =>
    · skip
      obtain ⟨b1, b2, rfl, rfl, P1, P2, hx⟩ := hcut
      have HP1 := Lib.hid P1
      have HP2 := Lib.hid P2
      obtain ⟨p0, p1, p2, p3, p4, p5, p6⟩ := P1
      obtain ⟨q0, q1, q2, q3, q4, q5, q6⟩ := P2
      clear c0 c1 c2 c3 c4 c5 e0 e1 e2 e3 e4 e5
      go_upto_region 5 with fail
      go_cut [12] from 15 (fun s12 wx => ∃ b3, s12 = .pointer (some ⟨b3, 0, none⟩) ∧ wc.heap.size ≤ b3 ∧ LocQ wx b3 (preJ a (m i) (m k)) ∧ Ext wc wx)
      case first =>
        · skip
          have hmin : ∀ (ts : Array TypeId) (t : TypeId) (x y : Int) (W : World), (Builtin.min_ ts t #[.int .i64 x, .int .i64 y]).run Try.prog W = .ok (.int .i64 (min x y)) W := run_min_plain
          go_wp2
          go_meet
          case rel => exact ⟨_, rfl, Nat.le_refl _, LocQ.new _ (preJ a (m i) (m k)) _, (Ext.refl _).alloc _⟩
      case rest =>
        · skip
          obtain ⟨b3, rfl, hb3, L3, hx5⟩ := hcut
          replace P1 := HP1.out.ext hx5
          replace P2 := HP2.out.ext hx5
          have n13 : b1 ≠ b3 := by have := HP1.out.1; omega
          have n23 : b2 ≠ b3 := by have := HP2.out.1; omega
          have hb3w : w.heap.size ≤ b3 := Nat.le_trans hx.size_le hb3
          replace hx := hx.trans hx5
          clear HP1 HP2 hx5 hb3 p0 p1 p2 p3 p4 p5 p6 q0 q1 q2 q3 q4 q5 q6
          have HP1 := Lib.hid P1
          have HP2 := Lib.hid P2
          have HL := Lib.hid L3
          obtain ⟨p0, p1, p2, p3, p4, p5, p6⟩ := P1
          obtain ⟨q0, q1, q2, q3, q4, q5, q6⟩ := P2
          clear L3
          go_wp2_with fail
          refine (bank_any (m i) (m k) _ (small_at HV.out hin) (small_at HV.out hkn)).mono ?_
          rintro e w6 ⟨rfl, hx6⟩
          have P1 := HP1.out.ext hx6
          have P2 := HP2.out.ext hx6
          have L3 := HL.out.ext hx6
          replace hx := hx.trans hx6
          clear HP1 HP2 HL hx6 p0 p1 p2 p3 p4 p5 p6 q0 q1 q2 q3 q4 q5 q6
          have HPS := Lib.hid (pos_at HV.out hin hkn hik)
          have HFI := Lib.hid (fit_iff HPS.out)
          obtain ⟨_, il, it, iw, ih, ilw, ith, _⟩ := (HV.out.2 i hin).1
          obtain ⟨_, kl, kt, kw, kh, klw, kth, _⟩ := (HV.out.2 k hkn).1
          dsimp only
          obtain ⟨tS, hTS⟩ : ∃ t, decide (stackP (m i) (m k)) = t := ⟨_, rfl⟩
          obtain ⟨tR, hTR⟩ : ∃ t, decide (rowP (m i) (m k)) = t := ⟨_, rfl⟩
          have HTS := Lib.hid hTS
          have HTR := Lib.hid hTR
          clear hTS hTR
          go_upto_block 0 with fail
          go_cut [] from 69 (fun wx => fitB (m i) (m k) = true ∧ LocQ wx b3 (boxJ a (m i) (m k)) ∧ Ext w wx)
          case first =>
            · skip
              go_upto_region 8 with fail
              go_cut [69] from 70 (fun s wx => s = .bool tS ∧ PdAt wx b1 (m i) ∧ PdAt wx b2 (m k) ∧ LocQ wx b3 (preJ a (m i) (m k)) ∧ Ext w wx)
              case first =>
                · skip
                  have G1 := Lib.hid P1
                  have G2 := Lib.hid P2
                  have G3 := Lib.hid L3
                  obtain ⟨p0, p1, p2, p3, p4, p5, p6⟩ := P1
                  obtain ⟨q0, q1, q2, q3, q4, q5, q6⟩ := P2
                  cases t1 : ((m i).left == (m k).left)
                  · have HD := Lib.hid (show decide (stackP (m i) (m k)) = false from decide_eq_false (fun h => by have := beq_eq_false_iff_ne.1 t1; exact this h.1))
                    go_wp2
                    go_meet
                    case rel => exact ⟨congrArg Value.bool (HD.out.symm.trans HTS.out), G1.out, G2.out, G3.out, hx⟩
                  · have HS1 := Lib.hid (beq_iff_eq.1 t1)
                    cases t2 : ((m i).wide == (m k).wide)
                    · have HD := Lib.hid (show decide (stackP (m i) (m k)) = false from decide_eq_false (fun h => by have := beq_eq_false_iff_ne.1 t2; exact this h.2.1))
                      go_wp2
                      go_meet
                      case rel => exact ⟨congrArg Value.bool (HD.out.symm.trans HTS.out), G1.out, G2.out, G3.out, hx⟩
                    · have HS2 := Lib.hid (beq_iff_eq.1 t2)
                      cases t3 : (bankV (m i) (m k) == (m i).wide)
                      · have HD := Lib.hid (show decide (stackP (m i) (m k)) = false from decide_eq_false (fun h => by have := beq_eq_false_iff_ne.1 t3; exact this h.2.2))
                        go_wp2
                        go_meet
                        case rel => exact ⟨congrArg Value.bool (HD.out.symm.trans HTS.out), G1.out, G2.out, G3.out, hx⟩
                      · have HD := Lib.hid (show decide (stackP (m i) (m k)) = true from decide_eq_true ⟨HS1.out, HS2.out, beq_iff_eq.1 t3⟩)
                        go_wp2
                        go_meet
                        case rel => exact ⟨congrArg Value.bool (HD.out.symm.trans HTS.out), G1.out, G2.out, G3.out, hx⟩
              case rest =>
                · skip
                  clear P1 P2 L3 hx
                  obtain ⟨rfl, P1, P2, L3, hx⟩ := hcut
                  have HL := Lib.hid L3
                  cases tS
                  rotate_left
                  · have HS := Lib.hid (of_decide_eq_true HTS.out)
                    obtain ⟨⟨r0, r1, r2, r3, r4, r5, r6⟩, f0, f1, f2, f3, f4, f5⟩ := L3
                    replace r5 : _ = some (Value.int .i64 (m i).high) := r5
                    obtain ⟨q0, q1, q2, q3, q4, q5, q6⟩ := P2
                    clear r1 r2 r3 r4 r6
                    go_wp2
                    go_meet
                    case rel => exact ⟨HFI.out.2 (.inl HS.out), by rw [← preJ_stack HPS.out HS.out]; exact HL.out.setHigh _, hx.setCell hb3w _⟩
                  · have HS := Lib.hid (of_decide_eq_false HTS.out)
                    go_upto_region 10 with fail
                    go_cut [94] from 95 (fun s wx => s = .bool tR ∧ PdAt wx b1 (m i) ∧ PdAt wx b2 (m k) ∧ LocQ wx b3 (preJ a (m i) (m k)) ∧ Ext w wx)
                    case first =>
                      · skip
                        have G1 := Lib.hid P1
                        have G2 := Lib.hid P2
                        have G3 := Lib.hid L3
                        obtain ⟨p0, p1, p2, p3, p4, p5, p6⟩ := P1
                        obtain ⟨q0, q1, q2, q3, q4, q5, q6⟩ := P2
                        cases t1 : ((m i).top == (m k).top)
                        · have HD := Lib.hid (show decide (rowP (m i) (m k)) = false from decide_eq_false (fun h => by have := beq_eq_false_iff_ne.1 t1; exact this h.1))
                          go_wp2
                          go_meet
                          case rel => exact ⟨congrArg Value.bool (HD.out.symm.trans HTR.out), G1.out, G2.out, G3.out, hx⟩
                        · have HS1 := Lib.hid (beq_iff_eq.1 t1)
                          cases t2 : ((m i).high == (m k).high)
                          · have HD := Lib.hid (show decide (rowP (m i) (m k)) = false from decide_eq_false (fun h => by have := beq_eq_false_iff_ne.1 t2; exact this h.2.1))
                            go_wp2
                            go_meet
                            case rel => exact ⟨congrArg Value.bool (HD.out.symm.trans HTR.out), G1.out, G2.out, G3.out, hx⟩
                          · have HS2 := Lib.hid (beq_iff_eq.1 t2)
                            cases t3 : (bankV (m i) (m k) == (m i).high)
                            · have HD := Lib.hid (show decide (rowP (m i) (m k)) = false from decide_eq_false (fun h => by have := beq_eq_false_iff_ne.1 t3; exact this h.2.2))
                              go_wp2
                              go_meet
                              case rel => exact ⟨congrArg Value.bool (HD.out.symm.trans HTR.out), G1.out, G2.out, G3.out, hx⟩
                            · have HD := Lib.hid (show decide (rowP (m i) (m k)) = true from decide_eq_true ⟨HS1.out, HS2.out, beq_iff_eq.1 t3⟩)
                              go_wp2
                              go_meet
                              case rel => exact ⟨congrArg Value.bool (HD.out.symm.trans HTR.out), G1.out, G2.out, G3.out, hx⟩
                    case rest =>
                      · skip
                        clear P1 P2 L3 hx HL
                        obtain ⟨rfl, P1, P2, L3, hx⟩ := hcut
                        have HL := Lib.hid L3
                        cases tR
                        rotate_left
                        · have HS2 := Lib.hid (of_decide_eq_true HTR.out)
                          obtain ⟨⟨r0, r1, r2, r3, r4, r5, r6⟩, f0, f1, f2, f3, f4, f5⟩ := L3
                          replace r4 : _ = some (Value.int .i64 (m i).wide) := r4
                          obtain ⟨q0, q1, q2, q3, q4, q5, q6⟩ := P2
                          clear r1 r2 r3 r5 r6
                          go_wp2
                          go_meet
                          case rel => exact ⟨HFI.out.2 (.inr HS2.out), by rw [← preJ_row HPS.out HS2.out]; exact HL.out.setWide _, hx.setCell hb3w _⟩
                        · have HF := Lib.hid (show ok = false by
                            have h1 : fitB (m i) (m k) = false := Bool.eq_false_iff.2 (fun h => (HFI.out.1 h).elim HS.out (of_decide_eq_false HTR.out))
                            rw [← HOK.out, h1]
                            rfl)
                          go_wp2
                          go_ret2
                          have h2 := HNN.out
                          rw [HF.out, if_neg (by simp)] at h2
                          rw [HF.out, h2]
                          exact ⟨_, rfl, OwnS.nil, hx⟩
          case rest =>
            · skip
              clear L3 hx
              obtain ⟨hfit, L3, hx⟩ := hcut
              have HF := Lib.hid (show pondsB (n - 1) (joinM m i k a) = ok by rw [← HOK.out, hfit]; rfl)
              clear hfit HOK P1 P2 il it iw ih ilw ith kl kt kw kh klw kth
              have hr6 := HR.out.ext hx
              go_wp2_with fail
              refine (clonePond_any g off n c m _ HC.out HN.out hr6 (by omega) (by omega)).mono ?_
              rintro e w7 ⟨v1, rfl, hown, hx7⟩
              replace hown := hown.lower hx.size_le
              replace L3 := L3.ext hx7
              replace hx := hx.trans hx7
              clear hx7 hr6
              obtain ⟨A1, cap1, rfl, hcap0, hcap1, hform⟩ := hown.form
              obtain ⟨g1, rfl, _, hg1b, hg1, hcell⟩ := hform (by omega)
              clear hform
              obtain ⟨d0, f0⟩ := hcell i 0 hin (by omega)
              obtain ⟨d1, f1⟩ := hcell i 1 hin (by omega)
              obtain ⟨d2, f2⟩ := hcell i 2 hin (by omega)
              obtain ⟨d3, f3⟩ := hcell i 3 hin (by omega)
              obtain ⟨d4, f4⟩ := hcell i 4 hin (by omega)
              obtain ⟨d5, f5⟩ := hcell i 5 hin (by omega)
              rw [Nat.add_zero] at d0 f0
              clear hcell
              have HP : Hid (∀ t q, t < n → q < 6 → pdF (setM m i (boxJ a (m i) (m k))) t q = if t = i ∧ q < 6 then pdF (fun _ => boxJ a (m i) (m k)) 0 q else pdF m t q) := Lib.hid (fun t q _ hq => by
                by_cases h : t = i
                · rw [if_pos ⟨h, hq⟩]; exact pdF_at2 (if_pos h) q
                · rw [if_neg (fun hh => h hh.1)]; exact pdF_at2 (if_neg h) q)
              obtain ⟨⟨r0, r1, r2, r3, r4, r5, r6⟩, _⟩ := L3
              replace r1 : w7.cell? ⟨b3, 0, none⟩ = some (.int .i64 a) := r1
              replace r2 : w7.cell? ⟨b3, 1, none⟩ = some (.int .i64 (min (m i).left (m k).left)) := r2
              replace r3 : w7.cell? ⟨b3, 2, none⟩ = some (.int .i64 (min (m i).top (m k).top)) := r3
              replace r4 : w7.cell? ⟨b3, 3, none⟩ = some (.int .i64 (boxW (m i) (m k))) := r4
              replace r5 : w7.cell? ⟨b3, 4, none⟩ = some (.int .i64 (boxH (m i) (m k))) := r5
              replace r6 : w7.cell? ⟨b3, 5, none⟩ = some (.int .i64 (min (m i).depth (m k).depth)) := r6
              dsimp only
              go_upto_region 13 with fail
              go_cut [] from 121 (fun wx => OwnS wx w.heap.size 51 6 (.slice (some ⟨g1, 0, none⟩) n cap1) n (pdF (setM m i (boxJ a (m i) (m k)))) ∧ Ext w wx)
              case first =>
                · skip
                  go_wp2
                  go_meet
                  case rel =>
                    exact ⟨(hown.put (pdF (fun _ => boxJ a (m i) (m k)) 0) hin 6 (Nat.le_refl _)).1.congr HP.out, (((((hx.setCell hg1b _).setCell hg1b _).setCell hg1b _).setCell hg1b _).setCell hg1b _).setCell hg1b _⟩
              case rest =>
                · skip
                  clear hown hx
                  obtain ⟨hown, hx⟩ := hcut
                  clear d0 d1 d2 d3 d4 d5 f0 f1 f2 f3 f4 f5 r0 r1 r2 r3 r4 r5 r6 HP
                  unfold maxLen at hcap1
                  go_wp2_with fail
                  refine (deletePond_any g1 n cap1 k w.heap.size (setM m i (boxJ a (m i) (m k))) _ hown hkn (by omega)).mono ?_
                  rintro e w8 ⟨rfl, hown8, hg8⟩
                  replace hx := hown.ext_of hx (Nat.le_refl _) hg8
                  clear hown hg8
                  obtain ⟨A3, c3, hv3, hc3, hnc3, hr3⟩ := hown8.rd
                  injection hv3 with e1 _ e2
                  subst e1 e2
                  dsimp only
                  go_wp2_with fail
                  refine (arePonds_any _ (n - 1) cap1 (joinM m i k a) _ hc3 hnc3 hr3).mono ?_
                  rintro e w9 ⟨rfl, hx9⟩
                  replace hown8 := hown8.ext hx9
                  replace hx := hx.trans hx9
                  rw [HF.out]
                  clear hx9 hr3 hc3 hnc3
                  dsimp only
                  cases ok
                  · go_wp2
                    go_ret2
                    have h2 := HNN.out
                    rw [if_neg (by simp)] at h2
                    rw [h2]
                    exact ⟨_, rfl, OwnS.nil, hx⟩
                  · go_wp2
                    go_ret2
                    have h2 := HNN.out
                    rw [if_pos (by simp)] at h2
                    rw [h2]
                    exact ⟨_, rfl, hown8, hx⟩
end Go.Proofs.Ytkgnfmdeimaedaa
