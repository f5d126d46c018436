/- The pond laws' comparing and looking up in lists. -/
import Derived.Test.YtkgnfmdeimaedaaIntL
import Derived.Test.YtkgnfmdeimaedaaPondS
namespace Go.Proofs.Ytkgnfmdeimaedaa
open Go.RowKit
set_option linter.unusedVariables false

theorem rInts_any (v1 v2 : Value) (n : Nat) (p : Nat → Int) (w : World) {b1 b2 e1 e2 : Nat} (h1 : OwnS w b1 e1 1 v1 n (mk1 p)) (h2 : OwnS w b2 e2 1 v2 n (mk1 p)) :
    Calls Try.prog 45 #[v1, v2] w fun e w' => e = .returned (.bool true) ∧ Ext w w' := by
  obtain ⟨A, c, rfl, hc, hnc, hr⟩ := h1.rd
  obtain ⟨A', c', rfl, hc', hnc', hr'⟩ := h2.rd
  clear h1 h2
  unfold maxLen at *
  go_enter Try.func45, Try.ntmps45
  go_wp2
  go_loopw [5] (fun i wr => ∃ k : Nat, i = .int .i64 k ∧ k ≤ n ∧ ∃ y, wr = gw w y) (fun i _ => n - (intOf i).toNat)
  case atStart => exact ⟨0, rfl, Nat.zero_le _, (Ext.refl w).to_gw⟩
  case round =>
    obtain ⟨k, rfl, hk, y, rfl⟩ := hrel
    by_cases hlt : k < n
    · obtain ⟨g, off, rfl, hg, c0⟩ := hr.at1 hlt
      obtain ⟨g', off', rfl, hg', c0'⟩ := hr'.at1 hlt
      have i0 : (0 : Int) ≤ (k : Int) := by omega
      have i1 : (k : Int) < (n : Int) := by omega
      go_wp2_with fail
      first | refine wp_region_grow2 (by kernel_rfl) (by kernel_rfl) ?_ | refine wp_region_grow (by kernel_rfl) (by kernel_rfl) ?_
      repeat (go_big_quiet_step (fail))
      refine wpQuiet_nil ?_
      rintro _ ⟨xq, rfl⟩
      go_wp2
      go_roundw
      case rel => exact ⟨k + 1, by go_num, by omega, _, rfl⟩
      case measure => simp [intOf]; omega
    · go_wp2
      go_ret
      exact ⟨rfl, ext_gw _ _⟩
theorem rHas_any (A : Option Addr) (n c : Nat) (l : List Int) (x : Int) (w : World) (hn : n = l.length) (hn2 : n ≤ 1000000) (hr : Rd w A n 1 (mkL l)) :
    Calls Try.prog 46 #[.slice A n c, .int .i64 x] w fun e w' => e = .returned (.bool (decide (x ∈ l))) ∧ Ext w w' := by
  have HN := Lib.hid hn
  clear hn
  go_enter Try.func46, Try.ntmps46
  go_wp2
  go_loopw [5] (fun i wr => ∃ k : Nat, i = .int .i64 k ∧ k ≤ n ∧ Hid (∀ i, i < k → l.getD i 0 ≠ x) ∧ ∃ y, wr = gw w y) (fun i _ => n - (intOf i).toNat)
  case atStart => exact ⟨0, rfl, Nat.zero_le _, Lib.hid fun i hi => absurd hi (Nat.not_lt_zero i), (Ext.refl w).to_gw⟩
  case round =>
    obtain ⟨k, rfl, hk, HK, y, rfl⟩ := hrel
    by_cases hlt : k < n
    · obtain ⟨g, off, rfl, hg, c0⟩ := Rd.at1 (p := fun i => l.getD i 0) hr hlt
      replace c0 : w.cell? ⟨g, off + k, none⟩ = some (.int .i64 (l.getD k 0)) := c0
      obtain ⟨u, hu⟩ : ∃ u, l.getD k 0 = u := ⟨_, rfl⟩
      rw [hu] at c0
      have HU := Lib.hid hu
      clear hu
      have i0 : (0 : Int) ≤ (k : Int) := by omega
      have i1 : (k : Int) < (n : Int) := by omega
      by_cases he : u = x
      · have HM := Lib.hid (show decide (x ∈ l) = true from decide_eq_true (by
          have h1 := HU.out
          have h2 : k < l.length := by have := HN.out; omega
          rw [List.getD_eq_getElem?_getD, List.getElem?_eq_getElem h2] at h1
          rw [← he, ← h1]
          exact List.getElem_mem h2))
        subst he
        go_wp2
        go_ret
        exact ⟨ret_bool HM.out.symm, ext_gw _ _⟩
      · have hb : (u == x) = false := by simpa using he
        have HE := Lib.hid he
        clear he
        go_wp2
        go_roundw
        case rel =>
          exact ⟨k + 1, by go_num, by omega, Lib.hid (fun i hi => by
            by_cases hik : i = k
            · rw [hik, HU.out]; exact HE.out
            · exact HK.out i (by omega)), _, rfl⟩
        case measure => simp [intOf]; omega
    · have HM := Lib.hid (show decide (x ∈ l) = false from decide_eq_false fun hm => by
        obtain ⟨i, hi, he⟩ := List.getElem_of_mem hm
        have h1 := HK.out i (by have := HN.out; omega)
        rw [List.getD_eq_getElem?_getD, List.getElem?_eq_getElem hi] at h1
        exact h1 he)
      go_wp2
      go_ret
      exact ⟨ret_bool HM.out.symm, ext_gw _ _⟩
set_option maxHeartbeats 1000000 in
theorem rPonds_any (v1 v2 : Value) (n : Nat) (p : Nat → Pd) (w : World) {b1 b2 e1 e2 : Nat} (h1 : OwnS w b1 e1 6 v1 n (pdF p)) (h2 : OwnS w b2 e2 6 v2 n (pdF p)) :
    Calls Try.prog 55 #[v1, v2] w fun e w' => e = .returned (.bool true) ∧ Ext w w' := by
  obtain ⟨A, c, rfl, hc, hnc, hr⟩ := h1.rd
  obtain ⟨A', c', rfl, hc', hnc', hr'⟩ := h2.rd
  clear h1 h2
  unfold maxLen at *
  go_enter Try.func55, Try.ntmps55
  go_wp2
  go_loopw [5] (fun i wr => ∃ k : Nat, i = .int .i64 k ∧ k ≤ n ∧ ∃ y, wr = gw w y) (fun i _ => n - (intOf i).toNat)
  case atStart => exact ⟨0, rfl, Nat.zero_le _, (Ext.refl w).to_gw⟩
  case round =>
    obtain ⟨k, rfl, hk, y, rfl⟩ := hrel
    by_cases hlt : k < n
    · obtain ⟨g, off, rfl, hg, c0, c1, c2, c3, c4, c5⟩ := hr.atPond hlt
      obtain ⟨g', off', rfl, hg', d0, d1, d2, d3, d4, d5⟩ := hr'.atPond hlt
      have i0 : (0 : Int) ≤ (k : Int) := by omega
      have i1 : (k : Int) < (n : Int) := by omega
      go_wp2_with fail
      first | refine wp_region_grow2 (by kernel_rfl) (by kernel_rfl) ?_ | refine wp_region_grow (by kernel_rfl) (by kernel_rfl) ?_
      repeat (go_big_quiet_step (fail))
      refine wpQuiet_nil ?_
      rintro _ ⟨xq, rfl⟩
      go_wp2
      go_roundw
      case rel => exact ⟨k + 1, by go_num, by omega, _, rfl⟩
      case measure => simp [intOf]; omega
    · go_wp2
      go_ret
      exact ⟨rfl, ext_gw _ _⟩
theorem rbig_no (A : Option Addr) (n c : Nat) (w : World) (h : n ≤ 65536) : Calls Try.prog 43 #[.slice A n c] w fun e w' => e = .returned (.bool false) ∧ Ext w w' := by
  go_enter Try.func43, Try.ntmps43
  go_wp2
  go_ret
  exact ⟨by first | rfl | (congr 2; simp; omega), by repeat (with_reducible first | exact Ext.refl _ | refine Ext.setCell ?_ (by first | (simp; done) | (simp; omega)) _ | refine Ext.alloc ?_ _ | refine Ext.gw ?_ _ | refine Ext.drew ?_)⟩
theorem rbig_yes (A : Option Addr) (n c : Nat) (w : World) (h : 65536 < n) : Calls Try.prog 43 #[.slice A n c] w fun e w' => e = .returned (.bool true) ∧ Ext w w' := by
  go_enter Try.func43, Try.ntmps43
  go_wp2
  go_ret
  exact ⟨by first | rfl | (congr 2; simp; omega), by repeat (with_reducible first | exact Ext.refl _ | refine Ext.setCell ?_ (by first | (simp; done) | (simp; omega)) _ | refine Ext.alloc ?_ _ | refine Ext.gw ?_ _ | refine Ext.drew ?_)⟩
end Go.Proofs.Ytkgnfmdeimaedaa
