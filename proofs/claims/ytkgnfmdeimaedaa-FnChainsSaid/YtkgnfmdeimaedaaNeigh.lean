/- NeighborsOf: the contracts. -/
import Derived.Test.YtkgnfmdeimaedaaOuter
import Derived.Test.YtkgnfmdeimaedaaIntL
namespace Go.Proofs.Ytkgnfmdeimaedaa
open Go.RowKit
set_option linter.unusedVariables false

def nearTo (m : Nat → Pd) (j : Nat) : Nat → List Int
  | 0 => []
  | k + 1 => if k ≠ j ∧ 0 < bankV (m j) (m k) then nearTo m j k ++ [(m k).id] else nearTo m j k
theorem near_len (m : Nat → Pd) (j k : Nat) : (nearTo m j k).length ≤ k := by
  induction k with
  | zero => exact Nat.le_refl _
  | succ k ih =>
    unfold nearTo
    split
    · rw [List.length_append]
      exact Nat.succ_le_succ ih
    · exact Nat.le_succ_of_le ih
set_option maxHeartbeats 2000000 in
theorem specNeigh_no (A : Option Addr) (n c : Nat) (m : Nat → Pd) (id : Int) (w : World) (hc : c ≤ maxLen) (hnc : n ≤ c) (hr : Rd w A n 6 (pdF m)) (h : fndB n m id = false) : Calls Try.prog 30 #[.slice A n c, .int .i64 id] w (RetS 3 1 (0) (mkL ([])) false w) := by
  have HR := Lib.hid hr
  have HC := Lib.hid hc
  have HN := Lib.hid hnc
  have HR2 := Lib.hid (hr.ext (Ext.alloc (Ext.refl w) (.cells #[] 3)))
  unfold maxLen at hc
  cases hv : pondsB n m
  · skip
    have HJ : Hid (findPondV n m id = -1) := Lib.hid (if_neg (by rw [hv]; simp))
    clear hr h
    go_enter Try.func30, Try.ntmps30
    go_wp2_with (first | (go_at_call 63; refine (l3Find_is _ _ _ _ _ _ _ HC.out HN.out (by first | exact HR.out | exact HR2.out | exact HR.out.ext (ext_gw _ _)) HJ.out).mono ?_; rintro e w1 ⟨rfl, hx⟩; (try replace hx := Ext.flat hx); obtain ⟨x, rfl⟩ := hx.to_gw; clear hx))
    go_ret2
    exact ⟨_, rfl, (own_empty _ _ rfl (Nat.le_refl _)).ext (ext_gw _ _), by repeat (with_reducible first | exact Ext.refl _ | refine Ext.setCell ?_ (by first | (simp; done) | (simp; omega)) _ | refine Ext.alloc ?_ _ | refine Ext.gw ?_ _ | refine Ext.drew ?_)⟩
  · have hvp := pondsB_iff.1 hv
    rcases findPond_bd n m id with hf | ⟨j, hj, hjn, hid⟩
    · have HJ : Hid (findPondV n m id = -1) := Lib.hid (by rw [show findPondV n m id = findPond n m id from if_pos hv]; exact hf)
      clear hr h hf hvp
      go_enter Try.func30, Try.ntmps30
      go_wp2_with (first | (go_at_call 63; refine (l3Find_is _ _ _ _ _ _ _ HC.out HN.out (by first | exact HR.out | exact HR2.out | exact HR.out.ext (ext_gw _ _)) HJ.out).mono ?_; rintro e w1 ⟨rfl, hx⟩; (try replace hx := Ext.flat hx); obtain ⟨x, rfl⟩ := hx.to_gw; clear hx))
      go_ret2
      exact ⟨_, rfl, (own_empty _ _ rfl (Nat.le_refl _)).ext (ext_gw _ _), by repeat (with_reducible first | exact Ext.refl _ | refine Ext.setCell ?_ (by first | (simp; done) | (simp; omega)) _ | refine Ext.alloc ?_ _ | refine Ext.gw ?_ _ | refine Ext.drew ?_)⟩
    · clear hid
      have HJ : Hid (findPondV n m id = (j : Int)) := Lib.hid (by rw [show findPondV n m id = findPond n m id from if_pos hv]; exact hj)
      exact absurd (fndB_yes hv hj) (by rw [h]; simp)
set_option maxHeartbeats 4000000 in
theorem specNeigh_yes (A : Option Addr) (n c : Nat) (m : Nat → Pd) (id : Int) (w : World) (hc : c ≤ maxLen) (hnc : n ≤ c) (hr : Rd w A n 6 (pdF m)) (h : fndB n m id = true) (j : Nat) (hjn : j < n) (hj : findPond n m id = (j : Int)) : Calls Try.prog 30 #[.slice A n c, .int .i64 id] w (RetS 3 1 ((nearTo m j n).length) (mkL (nearTo m j n)) true w) := by
  have HR := Lib.hid hr
  have HC := Lib.hid hc
  have HN := Lib.hid hnc
  have HR2 := Lib.hid (hr.ext (Ext.alloc (Ext.refl w) (.cells #[] 3)))
  unfold maxLen at hc
  have hv : pondsB n m = true := by
    cases hv : pondsB n m
    · rw [fndB_off hv] at h; cases h
    · rfl
  have hvp := pondsB_iff.1 hv
  have HJ : Hid (findPondV n m id = (j : Int)) := Lib.hid (by rw [show findPondV n m id = findPond n m id from if_pos hv]; exact hj)
  have HV := Lib.hid hvp
  have H1 := Lib.hid (small_at hvp hjn)
  have hn10 := hvp.1
  obtain ⟨g, off, rfl, hg, c0, c1, c2, c3, c4, c5⟩ := hr.atPond hjn
  have j0 : (0 : Int) ≤ (j : Int) := by omega
  have j1 : (j : Int) < (n : Int) := by omega
  clear hj hvp h
  go_enter Try.func30, Try.ntmps30
  go_wp2_with (first | (go_at_call 63; refine (l3Find_is _ _ _ _ _ _ _ HC.out HN.out (by first | exact HR.out | exact HR2.out | exact HR.out.ext (ext_gw _ _)) HJ.out).mono ?_; rintro e w1 ⟨rfl, hx⟩; (try replace hx := Ext.flat hx); obtain ⟨x, rfl⟩ := hx.to_gw; clear hx))
  clear hv
  have hx0 := ext_gw (w.alloc (Obj.cells #[] 3)) x
  go_loopw [6, 8] (fun v i wr => ∃ k : Nat, i = .int .i64 k ∧ k ≤ n ∧ OwnS wr w.heap.size 3 1 v (nearTo m j k).length (mkL (nearTo m j k)) ∧ ∃ y, wr = gw w y) (fun _ i _ => n - (intOf i).toNat)
  case atStart => exact ⟨0, rfl, by omega, (own_empty _ _ rfl (Nat.le_refl _)).ext hx0, (Ext.trans (Ext.alloc (Ext.refl _) _) hx0).to_gw⟩
  case round =>
    obtain ⟨k, rfl, hk, hown, y, rfl⟩ := hrel
    clear hx0
    have HL := Lib.hid (near_len m j k)
    by_cases hlt : k < n
    · obtain ⟨g', off', hA', hg', d0, d1, d2, d3, d4, d5⟩ := hr.atPond hlt
      injection hA' with hA'
      injection hA' with e1 e2 _
      subst e1 e2
      have i0 : (0 : Int) ≤ (k : Int) := by omega
      have i1 : (k : Int) < (n : Int) := by omega
      by_cases hkj : k = j
      · have HE := Lib.hid (show nearTo m j (k + 1) = nearTo m j k from if_neg (fun h => h.1 hkj))
        subst hkj
        go_wp2_with fail
        refine wp_region_grow (by kernel_rfl) (by kernel_rfl) ?_
        repeat (go_big_quiet_step (first | (go_at_call 65; exact grow_of (l3Bank_any (m j) (m k) _ H1.out H2.out))))
        refine wpQuiet_nil ?_
        rintro _ ⟨xq, rfl⟩
        replace hown := hown.ext (show Ext (gw w y) (gw _ xq) from ext_gw _ xq)
        go_wp2
        go_roundw
        case rel => exact ⟨k + 1, by go_num, by omega, by rw [HE.out]; exact hown, ((by repeat (with_reducible first | exact Ext.refl _ | refine Ext.setCell ?_ (by first | (simp; done) | (simp; omega)) _ | refine Ext.alloc ?_ _ | refine Ext.gw ?_ _ | refine Ext.drew ?_) : Ext w _)).to_gw⟩
        case measure => simp [intOf]; omega
      · have H2 := Lib.hid (small_at HV.out hlt)
        have hb2 := bankV_bd H1.out H2.out
        have q1 : ((k : Int) != (j : Int)) = true := by simp; omega
        have q2 : (k != j) = true := by simp; omega
        by_cases hbk : 0 < bankV (m j) (m k)
        · have HE := Lib.hid (show nearTo m j (k + 1) = nearTo m j k ++ [(m k).id] from if_pos ⟨hkj, hbk⟩)
          clear hkj
          go_wp2_with fail
          refine wp_region_grow (by kernel_rfl) (by kernel_rfl) ?_
          repeat (go_big_quiet_step (first | (go_at_call 65; exact grow_of (l3Bank_any (m j) (m k) _ H1.out H2.out))))
          refine wpQuiet_nil ?_
          rintro _ ⟨xq, rfl⟩
          replace hown := hown.ext (show Ext (gw w y) (gw _ xq) from ext_gw _ xq)
          go_wp2_with (at_builtin; refine wpList_append_G w w.heap.size rfl (by repeat (with_reducible first | exact Ext.refl _ | refine Ext.setCell ?_ (by first | (simp; done) | (simp; omega)) _ | refine Ext.alloc ?_ _ | refine Ext.gw ?_ _ | refine Ext.drew ?_)) rfl _ _ elInt rfl rfl (hown.congr (mkL_app _ ((m k).id : Int))) _ _ rfl rfl (by have := HL.out; omega) ?_ ?_ ?_)
          · intro j hj
            match j, hj with
            | 0, _ => exact (congrArg some (mkL_last _ _ _)).symm
          · intro j hj
            rw [mkL_last]
            rfl
          · intro v' z hown3
            clear hown
            go_wp2
            go_roundw
            case rel => exact ⟨k + 1, by go_num, by omega, by rw [HE.out, List.length_append]; exact hown3, z, rfl⟩
            case measure => simp [intOf]; omega
        · have HE := Lib.hid (show nearTo m j (k + 1) = nearTo m j k from if_neg (fun h => hbk h.2))
          have q3 : bankV (m j) (m k) ≤ 0 := by omega
          clear hkj
          go_wp2_with fail
          refine wp_region_grow (by kernel_rfl) (by kernel_rfl) ?_
          repeat (go_big_quiet_step (first | (go_at_call 65; exact grow_of (l3Bank_any (m j) (m k) _ H1.out H2.out))))
          refine wpQuiet_nil ?_
          rintro _ ⟨xq, rfl⟩
          replace hown := hown.ext (show Ext (gw w y) (gw _ xq) from ext_gw _ xq)
          go_wp2
          go_roundw
          case rel => exact ⟨k + 1, by go_num, by omega, by rw [HE.out]; exact hown, ((by repeat (with_reducible first | exact Ext.refl _ | refine Ext.setCell ?_ (by first | (simp; done) | (simp; omega)) _ | refine Ext.alloc ?_ _ | refine Ext.gw ?_ _ | refine Ext.drew ?_) : Ext w _)).to_gw⟩
          case measure => simp [intOf]; omega
    · obtain rfl : k = n := by omega
      go_wp2
      go_ret2
      exact ⟨_, rfl, hown, ext_gw _ _⟩
set_option maxHeartbeats 2000000 in
theorem implNeigh_no (A : Option Addr) (n c : Nat) (m : Nat → Pd) (id : Int) (w : World) (hc : c ≤ maxLen) (hnc : n ≤ c) (hr : Rd w A n 6 (pdF m)) (h : fndB n m id = false) : Calls Try.prog 31 #[.slice A n c, .int .i64 id] w (RetS 3 1 (0) (mkL ([])) false w) := by
  have HR := Lib.hid hr
  have HC := Lib.hid hc
  have HN := Lib.hid hnc
  have HR2 := Lib.hid (hr.ext (Ext.alloc (Ext.refl w) (.cells #[] 3)))
  unfold maxLen at hc
  cases hv : pondsB n m
  · skip
    have HJ : Hid (findPond n m id = findPond n m id) := Lib.hid rfl
    clear hr h
    go_enter Try.func31, Try.ntmps31
    go_wp2_with (first | (go_at_call 64; refine (pondAt_is _ _ _ _ _ _ _ HC.out HN.out (by first | exact HR.out | exact HR2.out | exact HR.out.ext (ext_gw _ _)) HJ.out).mono ?_; rintro e w1 ⟨rfl, hx⟩; (try replace hx := Ext.flat hx); obtain ⟨x, rfl⟩ := hx.to_gw; clear hx) | (go_at_call 18; refine (arePonds_any _ _ _ _ _ HC.out HN.out (by first | exact HR.out | exact HR2.out | exact HR.out.ext (ext_gw _ _))).mono ?_; rintro e w1 ⟨rfl, hx⟩; (try replace hx := Ext.flat hx); obtain ⟨x, rfl⟩ := hx.to_gw; clear hx))
    go_ret2
    exact ⟨_, rfl, OwnS.nil, by repeat (with_reducible first | exact Ext.refl _ | refine Ext.setCell ?_ (by first | (simp; done) | (simp; omega)) _ | refine Ext.alloc ?_ _ | refine Ext.gw ?_ _ | refine Ext.drew ?_)⟩
  · have hvp := pondsB_iff.1 hv
    rcases findPond_bd n m id with hf | ⟨j, hj, hjn, hid⟩
    · have HJ : Hid (findPond n m id = -1) := Lib.hid (by exact hf)
      clear hr h hf hvp
      go_enter Try.func31, Try.ntmps31
      go_wp2_with (first | (go_at_call 64; refine (pondAt_is _ _ _ _ _ _ _ HC.out HN.out (by first | exact HR.out | exact HR2.out | exact HR.out.ext (ext_gw _ _)) HJ.out).mono ?_; rintro e w1 ⟨rfl, hx⟩; (try replace hx := Ext.flat hx); obtain ⟨x, rfl⟩ := hx.to_gw; clear hx) | (go_at_call 18; refine (arePonds_any _ _ _ _ _ HC.out HN.out (by first | exact HR.out | exact HR2.out | exact HR.out.ext (ext_gw _ _))).mono ?_; rintro e w1 ⟨rfl, hx⟩; (try replace hx := Ext.flat hx); obtain ⟨x, rfl⟩ := hx.to_gw; clear hx))
      go_ret2
      exact ⟨_, rfl, OwnS.nil, by repeat (with_reducible first | exact Ext.refl _ | refine Ext.setCell ?_ (by first | (simp; done) | (simp; omega)) _ | refine Ext.alloc ?_ _ | refine Ext.gw ?_ _ | refine Ext.drew ?_)⟩
    · clear hid
      have HJ : Hid (findPond n m id = (j : Int)) := Lib.hid (by exact hj)
      exact absurd (fndB_yes hv hj) (by rw [h]; simp)
set_option maxHeartbeats 4000000 in
theorem implNeigh_yes (A : Option Addr) (n c : Nat) (m : Nat → Pd) (id : Int) (w : World) (hc : c ≤ maxLen) (hnc : n ≤ c) (hr : Rd w A n 6 (pdF m)) (h : fndB n m id = true) (j : Nat) (hjn : j < n) (hj : findPond n m id = (j : Int)) : Calls Try.prog 31 #[.slice A n c, .int .i64 id] w (RetS 3 1 ((nearTo m j n).length) (mkL (nearTo m j n)) true w) := by
  have HR := Lib.hid hr
  have HC := Lib.hid hc
  have HN := Lib.hid hnc
  have HR2 := Lib.hid (hr.ext (Ext.alloc (Ext.refl w) (.cells #[] 3)))
  unfold maxLen at hc
  have hv : pondsB n m = true := by
    cases hv : pondsB n m
    · rw [fndB_off hv] at h; cases h
    · rfl
  have hvp := pondsB_iff.1 hv
  have HJ : Hid (findPond n m id = (j : Int)) := Lib.hid (by exact hj)
  have HV := Lib.hid hvp
  have H1 := Lib.hid (small_at hvp hjn)
  have hn10 := hvp.1
  obtain ⟨g, off, rfl, hg, c0, c1, c2, c3, c4, c5⟩ := hr.atPond hjn
  have j0 : (0 : Int) ≤ (j : Int) := by omega
  have j1 : (j : Int) < (n : Int) := by omega
  clear hj hvp h
  go_enter Try.func31, Try.ntmps31
  go_wp2_with (first | (go_at_call 64; refine (pondAt_is _ _ _ _ _ _ _ HC.out HN.out (by first | exact HR.out | exact HR2.out | exact HR.out.ext (ext_gw _ _)) HJ.out).mono ?_; rintro e w1 ⟨rfl, hx⟩; (try replace hx := Ext.flat hx); obtain ⟨x, rfl⟩ := hx.to_gw; clear hx) | (go_at_call 18; refine (arePonds_any _ _ _ _ _ HC.out HN.out (by first | exact HR.out | exact HR2.out | exact HR.out.ext (ext_gw _ _))).mono ?_; rintro e w1 ⟨rfl, hx⟩; (try replace hx := Ext.flat hx); obtain ⟨x, rfl⟩ := hx.to_gw; clear hx))
  clear hv
  go_loopw [7, 22] (fun v i wr => ∃ k : Nat, i = .int .i64 k ∧ k ≤ n ∧ OwnS wr w.heap.size 3 1 v (nearTo m j k).length (mkL (nearTo m j k)) ∧ ∃ y, wr = gw w y) (fun _ i _ => n - (intOf i).toNat)
  case atStart => exact ⟨0, rfl, by omega, OwnS.nil, Ext.to_gw (by repeat (with_reducible first | exact Ext.refl _ | refine Ext.setCell ?_ (by first | (simp; done) | (simp; omega)) _ | refine Ext.alloc ?_ _ | refine Ext.gw ?_ _ | refine Ext.drew ?_))⟩
  case round =>
    obtain ⟨k, rfl, hk, hown, y, rfl⟩ := hrel
    have HL := Lib.hid (near_len m j k)
    by_cases hlt : k < n
    · obtain ⟨g', off', hA', hg', d0, d1, d2, d3, d4, d5⟩ := hr.atPond hlt
      injection hA' with hA'
      injection hA' with e1 e2 _
      subst e1 e2
      have i0 : (0 : Int) ≤ (k : Int) := by omega
      have i1 : (k : Int) < (n : Int) := by omega
      by_cases hkj : k = j
      · have HE := Lib.hid (show nearTo m j (k + 1) = nearTo m j k from if_neg (fun h => h.1 hkj))
        subst hkj
        go_wp2_with fail
        refine wp_region_grow (by kernel_rfl) (by kernel_rfl) ?_
        repeat (go_big_quiet_step (first | (go_at_call 66; exact grow_of (bank_is' (m k) (m j) _ H2.out H1.out))))
        refine wpQuiet_nil ?_
        rintro _ ⟨xq, rfl⟩
        replace hown := hown.ext (show Ext (gw w y) (gw _ xq) from ((Ext.refl _).alloc (Obj.cells #[.int .i64 (m k).id, .int .i64 (m k).left, .int .i64 (m k).top, .int .i64 (m k).wide, .int .i64 (m k).high, .int .i64 (m k).depth] 51)).trans (ext_gw _ xq))
        go_wp2
        go_roundw
        case rel => exact ⟨k + 1, by go_num, by omega, by rw [HE.out]; exact hown, ((by repeat (with_reducible first | exact Ext.refl _ | refine Ext.setCell ?_ (by first | (simp; done) | (simp; omega)) _ | refine Ext.alloc ?_ _ | refine Ext.gw ?_ _ | refine Ext.drew ?_) : Ext w _)).to_gw⟩
        case measure => simp [intOf]; omega
      · have H2 := Lib.hid (small_at HV.out hlt)
        have hb2 := bankV_bd H1.out H2.out
        have q1 : ((k : Int) != (j : Int)) = true := by simp; omega
        have q2 : (k != j) = true := by simp; omega
        by_cases hbk : 0 < bankV (m j) (m k)
        · have HE := Lib.hid (show nearTo m j (k + 1) = nearTo m j k ++ [(m k).id] from if_pos ⟨hkj, hbk⟩)
          clear hkj
          go_wp2_with fail
          refine wp_region_grow (by kernel_rfl) (by kernel_rfl) ?_
          repeat (go_big_quiet_step (first | (go_at_call 66; exact grow_of (bank_is' (m k) (m j) _ H2.out H1.out))))
          refine wpQuiet_nil ?_
          rintro _ ⟨xq, rfl⟩
          replace hown := hown.ext (show Ext (gw w y) (gw _ xq) from ((Ext.refl _).alloc (Obj.cells #[.int .i64 (m k).id, .int .i64 (m k).left, .int .i64 (m k).top, .int .i64 (m k).wide, .int .i64 (m k).high, .int .i64 (m k).depth] 51)).trans (ext_gw _ xq))
          go_wp2_with (at_builtin; refine wpList_append_G w w.heap.size rfl (by repeat (with_reducible first | exact Ext.refl _ | refine Ext.setCell ?_ (by first | (simp; done) | (simp; omega)) _ | refine Ext.alloc ?_ _ | refine Ext.gw ?_ _ | refine Ext.drew ?_)) rfl _ _ elInt rfl rfl (hown.congr (mkL_app _ ((m k).id : Int))) _ _ rfl rfl (by have := HL.out; omega) ?_ ?_ ?_)
          · intro j hj
            match j, hj with
            | 0, _ => exact (congrArg some (mkL_last _ _ _)).symm
          · intro j hj
            rw [mkL_last]
            rfl
          · intro v' z hown3
            clear hown
            go_wp2
            go_roundw
            case rel => exact ⟨k + 1, by go_num, by omega, by rw [HE.out, List.length_append]; exact hown3, z, rfl⟩
            case measure => simp [intOf]; omega
        · have HE := Lib.hid (show nearTo m j (k + 1) = nearTo m j k from if_neg (fun h => hbk h.2))
          have q3 : bankV (m j) (m k) ≤ 0 := by omega
          clear hkj
          go_wp2_with fail
          refine wp_region_grow (by kernel_rfl) (by kernel_rfl) ?_
          repeat (go_big_quiet_step (first | (go_at_call 66; exact grow_of (bank_is' (m k) (m j) _ H2.out H1.out))))
          refine wpQuiet_nil ?_
          rintro _ ⟨xq, rfl⟩
          replace hown := hown.ext (show Ext (gw w y) (gw _ xq) from ((Ext.refl _).alloc (Obj.cells #[.int .i64 (m k).id, .int .i64 (m k).left, .int .i64 (m k).top, .int .i64 (m k).wide, .int .i64 (m k).high, .int .i64 (m k).depth] 51)).trans (ext_gw _ xq))
          go_wp2
          go_roundw
          case rel => exact ⟨k + 1, by go_num, by omega, by rw [HE.out]; exact hown, ((by repeat (with_reducible first | exact Ext.refl _ | refine Ext.setCell ?_ (by first | (simp; done) | (simp; omega)) _ | refine Ext.alloc ?_ _ | refine Ext.gw ?_ _ | refine Ext.drew ?_) : Ext w _)).to_gw⟩
          case measure => simp [intOf]; omega
    · obtain rfl : k = n := by omega
      go_wp2
      go_ret2
      exact ⟨_, rfl, hown, ext_gw _ _⟩
end Go.Proofs.Ytkgnfmdeimaedaa
