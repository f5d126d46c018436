/- How far the ponds lie: the contract of the reference's l3Steps. -/
import Derived.Test.YtkgnfmdeimaedaaChainL
import Derived.Test.YtkgnfmdeimaedaaNeigh
namespace Go.Proofs.Ytkgnfmdeimaedaa
open Go.RowKit
set_option linter.unusedVariables false

theorem OwnS.at1 {w : World} {base e n g cap i : Nat} {p : Nat → Int} (h : OwnS w base e 1 (.slice (some ⟨g, 0, none⟩) n cap) n (mk1 p)) (hi : i < n) :
    base ≤ g ∧ g < w.heap.size ∧ w.cell? ⟨g, i, none⟩ = some (.int .i64 (p i)) ∧ w.frozen? ⟨g, i, none⟩ = false := by
  obtain ⟨A0, cap0, hv, _, _, hform⟩ := h.form
  injection hv with hA _ hc
  subst hA hc
  obtain ⟨g0, hg0, _, hb, hgl, hcell⟩ := hform (by omega)
  injection hg0 with hg0
  injection hg0 with hg0 _ _
  subst hg0
  obtain ⟨e0, f0⟩ := hcell i 0 hi (by omega)
  rw [Nat.add_zero, Nat.mul_one] at e0 f0
  exact ⟨hb, hgl, e0, f0⟩
theorem OwnS.set1 {w : World} {base e n g cap i : Nat} {p : Nat → Int} (h : OwnS w base e 1 (.slice (some ⟨g, 0, none⟩) n cap) n (mk1 p)) (hi : i < n) (v : Int) :
    OwnS (w.setCell ⟨g, i, none⟩ (.int .i64 v)) base e 1 (.slice (some ⟨g, 0, none⟩) n cap) n (mk1 fun t => if t = i then v else p t) := by
  have a1 := (h.stored hi (j := 0) (by omega) (.int .i64 v)).congr (f' := mk1 fun t => if t = i then v else p t) (fun q j _ hj => by
    obtain rfl : j = 0 := by omega
    by_cases hq : q = i
    · simp [mk1, hq]
    · simp [mk1, hq])
  rw [Nat.add_zero, Nat.mul_one] at a1
  exact a1
set_option maxHeartbeats 4000000 in
theorem l3Steps_any (A : Option Addr) (n c : Nat) (m : Nat → Pd) (t : Nat) (w : World) (hc : c ≤ maxLen) (hnc : n ≤ c) (hr : Rd w A n 6 (pdF m)) (hv : pondsP n m) (ht : t < n) :
    Calls Try.prog 71 #[.slice A n c, .int .i64 t] w (fun e w' => RetO 3 1 n (mk1 (farV n (adjM m) t)) w e w' ∧ Far n (adjM m) t (farV n (adjM m) t)) := by
  have HV := Lib.hid hv
  have hn10 := hv.1
  unfold maxLen at hc
  have hmk : (Instr.makeSlice 35 (.int .i64 (n : Int)) (.int .i64 (n : Int))).run Try.prog w = .ok (.slice (some ⟨w.heap.size, 0, none⟩) n n) (w.alloc (.cells (madeCells (Value.cells (.int .i64 0)) (n * 1)) 3)) := run_make_S elInt n (by omega) w
  have h0 := own_made (e := 3) (n := n) elInt.hz w (by unfold maxLen; omega)
  have hx0 := Ext.alloc (Ext.refl w) (Obj.cells (madeCells (Value.cells (.int .i64 0)) (n * 1)) 3)
  rw [Nat.mul_one] at h0 hx0
  clear hv
  go_enter Try.func71, Try.ntmps71
  go_wp2
  clear hmk
  go_loopw [6] (fun i wr => ∃ k : Nat, i = .int .i64 k ∧ k ≤ n ∧ OwnS wr w.heap.size 3 1 (.slice (some ⟨w.heap.size, 0, none⟩) n n) n (mk1 fun q => if q < k then -1 else 0) ∧ ∃ y, wr = gw w y) (fun i _ => n - (intOf i).toNat)
  case atStart => exact ⟨0, rfl, by omega, h0.congr (fun i j _ hj => by obtain rfl : j = 0 := (by omega); rfl), hx0.to_gw⟩
  case round =>
    obtain ⟨k, rfl, hk, hown, y, rfl⟩ := hrel
    clear h0 hx0
    by_cases hlt : k < n
    · obtain ⟨_, hg1, e0, f0⟩ := hown.at1 hlt
      have i0 : (0 : Int) ≤ (k : Int) := by omega
      have i1 : (k : Int) < (n : Int) := by omega
      go_wp2
      go_roundw
      case rel =>
        refine ⟨k + 1, by go_num, by omega, (hown.set1 hlt (-1)).congr (fun q j _ _ => ?_), Ext.to_gw ((by repeat (with_reducible first | exact Ext.refl _ | refine Ext.setCell ?_ (by first | (simp; done) | (simp; omega)) _ | refine Ext.alloc ?_ _ | refine Ext.gw ?_ _ | refine Ext.drew ?_) : Ext w _))⟩
        show Value.int .i64 (if q < k + 1 then -1 else 0) = .int .i64 (if q = k then -1 else if q < k then -1 else 0)
        congr 1
        by_cases h1 : q = k
        · rw [if_pos (by omega), if_pos h1]
        · by_cases h2 : q < k
          · rw [if_pos (by omega), if_neg h1, if_pos h2]
          · rw [if_neg (by omega), if_neg h1, if_neg h2]
      case measure => simp [intOf]; omega
    · obtain rfl : k = n := by omega
      obtain ⟨_, hg1, e0, f0⟩ := hown.at1 ht
      have t0 : (0 : Int) ≤ (t : Int) := by omega
      have t1 : (t : Int) < (k : Int) := by omega
      go_wp2
      clear e0 f0
      go_loopw [7] (fun s wr => ∃ (r : Nat) (f : Nat → Int), s = .int .i64 r ∧ r ≤ k ∧ OwnS wr w.heap.size 3 1 (.slice (some ⟨w.heap.size, 0, none⟩) k k) k (mk1 f) ∧ Lev k (adjM m) t r r 0 0 f ∧ ∃ y, wr = gw w y) (fun s _ => k - (intOf s).toNat)
      case atStart => exact ⟨0, _, rfl, by omega, hown.set1 ht 0, Lev.start ht (if_pos rfl) (fun i hi hne => (if_neg hne).trans (if_pos hi)), Ext.to_gw ((by repeat (with_reducible first | exact Ext.refl _ | refine Ext.setCell ?_ (by first | (simp; done) | (simp; omega)) _ | refine Ext.alloc ?_ _ | refine Ext.gw ?_ _ | refine Ext.drew ?_) : Ext w _))⟩
      case round =>
        clear hown hg1
        obtain ⟨r, f, rfl, hrk, hown, HL, y2, rfl⟩ := hrel
        by_cases hr2 : r < k
        · have r0 : (0 : Int) ≤ (r : Int) := by omega
          have r1 : (r : Int) < (k : Int) := by omega
          go_wp2
          go_loopw [8] (fun s wr => ∃ (i : Nat) (f : Nat → Int), s = .int .i64 i ∧ i ≤ k ∧ OwnS wr w.heap.size 3 1 (.slice (some ⟨w.heap.size, 0, none⟩) k k) k (mk1 f) ∧ Lev k (adjM m) t (r + 1) r i 0 f ∧ ∃ y, wr = gw w y) (fun s _ => k - (intOf s).toNat)
          case atStart => exact ⟨0, f, rfl, by omega, hown, HL.open, y2, rfl⟩
          case round =>
            clear hown HL
            obtain ⟨i, f, rfl, hik, hown, HL, y3, rfl⟩ := hrel
            by_cases hi2 : i < k
            · have i0 : (0 : Int) ≤ (i : Int) := by omega
              have i1 : (i : Int) < (k : Int) := by omega
              have H1 := Lib.hid (small_at HV.out hi2)
              obtain ⟨g, off, rfl, hg, c0, c1, c2, c3, c4, c5⟩ := hr.atPond hi2
              go_wp2
              go_loopw [9] (fun s wr => ∃ (l : Nat) (f : Nat → Int), s = .int .i64 l ∧ l ≤ k ∧ OwnS wr w.heap.size 3 1 (.slice (some ⟨w.heap.size, 0, none⟩) k k) k (mk1 f) ∧ Lev k (adjM m) t (r + 1) r i l f ∧ ∃ y, wr = gw w y) (fun s _ => k - (intOf s).toNat)
              case atStart => exact ⟨0, f, rfl, by omega, hown, HL, y3, rfl⟩
              case round =>
                clear hown HL
                obtain ⟨l, f, rfl, hlk, hown, HL, y4, rfl⟩ := hrel
                obtain ⟨_, hg1, e0, f0⟩ := hown.at1 hi2
                clear f0
                by_cases hl2 : l < k
                · have l0 : (0 : Int) ≤ (l : Int) := by omega
                  have l1 : (l : Int) < (k : Int) := by omega
                  by_cases hfi : f i = (r : Int)
                  · have HFI := Lib.hid hfi
                    rw [hfi] at e0
                    clear hfi
                    obtain ⟨_, _, e1, f1⟩ := hown.at1 hl2
                    have H2 := Lib.hid (small_at HV.out hl2)
                    obtain ⟨g', off', hA', _, d0, d1, d2, d3, d4, d5⟩ := hr.atPond hl2
                    injection hA' with hA'
                    injection hA' with e1' e2' _
                    subst e1' e2'
                    by_cases hfl : f l < 0
                    · by_cases hbk : 0 < bankV (m i) (m l)
                      · have HL2 := Lib.hid (HL.mark hi2 hl2 HFI.out hfl hbk)
                        clear HL
                        go_wp2_with fail
                        refine wp_region_grow (by kernel_rfl) (by kernel_rfl) ?_
                        repeat (go_big_quiet_step (first | (go_at_call 65; exact grow_of (l3Bank_any (m i) (m l) _ H1.out H2.out))))
                        refine wpQuiet_nil ?_
                        rintro _ ⟨xq, rfl⟩
                        replace hown := hown.ext (show Ext (gw w y4) (gw _ xq) from ext_gw _ xq)
                        go_wp2
                        go_roundw
                        case rel => exact ⟨l + 1, _, by go_num, by omega, hown.set1 hl2 _, HL2.out, Ext.to_gw ((by repeat (with_reducible first | exact Ext.refl _ | refine Ext.setCell ?_ (by first | (simp; done) | (simp; omega)) _ | refine Ext.alloc ?_ _ | refine Ext.gw ?_ _ | refine Ext.drew ?_) : Ext w _))⟩
                        case measure => simp [intOf]; omega
                      · have HL2 := Lib.hid (HL.keep (.inr hbk))
                        have q3 : bankV (m i) (m l) ≤ 0 := by omega
                        clear HL hbk
                        go_wp2_with fail
                        refine wp_region_grow (by kernel_rfl) (by kernel_rfl) ?_
                        repeat (go_big_quiet_step (first | (go_at_call 65; exact grow_of (l3Bank_any (m i) (m l) _ H1.out H2.out))))
                        refine wpQuiet_nil ?_
                        rintro _ ⟨xq, rfl⟩
                        replace hown := hown.ext (show Ext (gw w y4) (gw _ xq) from ext_gw _ xq)
                        go_wp2
                        go_roundw
                        case rel => exact ⟨l + 1, _, by go_num, by omega, hown, HL2.out, Ext.to_gw ((by repeat (with_reducible first | exact Ext.refl _ | refine Ext.setCell ?_ (by first | (simp; done) | (simp; omega)) _ | refine Ext.alloc ?_ _ | refine Ext.gw ?_ _ | refine Ext.drew ?_) : Ext w _))⟩
                        case measure => simp [intOf]; omega
                    · have q3 : 0 ≤ f l := by omega
                      have q4 : decide (f l < 0) = false := decide_eq_false hfl
                      have HL2 := Lib.hid (HL.keep (.inl q3))
                      clear HL hfl
                      go_wp2_with fail
                      refine wp_region_grow (by kernel_rfl) (by kernel_rfl) ?_
                      repeat (go_big_quiet_step (fail))
                      refine wpQuiet_nil ?_
                      rintro _ ⟨xq, rfl⟩
                      replace hown := hown.ext (show Ext (gw w y4) (gw _ xq) from ext_gw _ xq)
                      go_wp2
                      go_roundw
                      case rel => exact ⟨l + 1, _, by go_num, by omega, hown, HL2.out, Ext.to_gw ((by repeat (with_reducible first | exact Ext.refl _ | refine Ext.setCell ?_ (by first | (simp; done) | (simp; omega)) _ | refine Ext.alloc ?_ _ | refine Ext.gw ?_ _ | refine Ext.drew ?_) : Ext w _))⟩
                      case measure => simp [intOf]; omega
                  · have q4 : (f i == (r : Int)) = false := beq_eq_false_iff_ne.2 hfi
                    have HL2 := Lib.hid (HL.skip hi2 (fun h => absurd h hfi))
                    clear HL hfi
                    go_wp2
                    go_roundw
                    case rel => exact ⟨i + 1, _, by go_num, by omega, hown, HL2.out, y4, rfl⟩
                    case measure => simp [intOf]; omega
                · obtain rfl : l = k := by omega
                  have HL2 := Lib.hid (HL.skip hi2 (fun _ => Nat.le_refl _))
                  clear HL e0
                  go_wp2
                  go_roundw
                  case rel => exact ⟨i + 1, _, by go_num, by omega, hown, HL2.out, y4, rfl⟩
                  case measure => simp [intOf]; omega
            · obtain rfl : i = k := by omega
              have HL2 := Lib.hid HL.shut
              clear HL
              go_wp2
              go_roundw
              case rel => exact ⟨r + 1, _, by go_num, by omega, hown, HL2.out, y3, rfl⟩
              case measure => simp [intOf]; omega
        · obtain rfl : r = k := by omega
          have HF := HL.far
          have hown2 : OwnS (gw w y2) w.heap.size 3 1 (.slice (some ⟨w.heap.size, 0, none⟩) r r) r (mk1 (farV r (adjM m) t)) := hown.congr (fun i j hi _ => by
            show Value.int .i64 _ = .int .i64 _
            rw [HF.is.eq HF i hi])
          have HF2 := Lib.hid HF.is
          clear HL HF hown
          go_wp2
          go_ret
          exact ⟨⟨_, rfl, hown2, ext_gw _ _⟩, HF2.out⟩
end Go.Proofs.Ytkgnfmdeimaedaa
