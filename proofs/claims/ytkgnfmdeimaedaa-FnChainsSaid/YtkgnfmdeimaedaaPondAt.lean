/- Where in a list an id is: the contracts. -/
import Derived.Test.YtkgnfmdeimaedaaPonds
namespace Go.Proofs.Ytkgnfmdeimaedaa
open Go.RowKit
set_option linter.unusedVariables false

def fndPond (m : Nat → Pd) (id : Int) : Nat → Nat → Int
  | 0, _ => -1
  | f + 1, i => if (m i).id = id then (i : Int) else fndPond m id f (i + 1)
def findPond (n : Nat) (m : Nat → Pd) (id : Int) : Int := fndPond m id n 0
theorem fndPond_bd (m : Nat → Pd) (id : Int) (f i : Nat) : fndPond m id f i = -1 ∨ ∃ j : Nat, fndPond m id f i = (j : Int) ∧ i ≤ j ∧ j < i + f ∧ (m j).id = id := by
  induction f generalizing i with
  | zero => exact .inl rfl
  | succ f ih =>
    unfold fndPond
    by_cases h : (m i).id = id
    · rw [if_pos h]
      exact .inr ⟨i, rfl, Nat.le_refl _, by omega, h⟩
    · rw [if_neg h]
      rcases ih (i + 1) with h1 | ⟨j, h1, h2, h3, h4⟩
      · exact .inl h1
      · exact .inr ⟨j, h1, by omega, by omega, h4⟩
theorem findPond_bd (n : Nat) (m : Nat → Pd) (id : Int) : findPond n m id = -1 ∨ ∃ j : Nat, findPond n m id = (j : Int) ∧ j < n ∧ (m j).id = id := by
  rcases fndPond_bd m id n 0 with h | ⟨j, h1, _, h3, h4⟩
  · exact .inl h
  · exact .inr ⟨j, h1, by omega, h4⟩
noncomputable def findPondV (n : Nat) (m : Nat → Pd) (id : Int) : Int := if pondsB n m = true then findPond n m id else -1
set_option maxHeartbeats 2000000 in
theorem specPondFind_any (A : Option Addr) (n c : Nat) (m : Nat → Pd) (id : Int) (w : World) (hc : c ≤ maxLen) (hnc : n ≤ c) (hr : Rd w A n 6 (pdF m)) :
    Calls Try.prog 63 #[.slice A n c, .int .i64 id] w fun e w' => e = .returned (.int .i64 (findPondV n m id)) ∧ Ext w w' := by
  have HR := Lib.hid hr
  have HC := Lib.hid hc
  have HN := Lib.hid hnc
  unfold maxLen at *
  unfold findPondV
  cases hv : pondsB n m
  · rw [if_neg (by simp)]
    by_cases hz : n = 0
    · subst hz
      go_enter Try.func63, Try.ntmps63
      go_wp2
      go_loopw [5] (fun i wr => i = .int .i64 0 ∧ wr = w) (fun _ _ => 0)
      case atStart => exact ⟨rfl, rfl⟩
      case round =>
        obtain ⟨rfl, rfl⟩ := hrel
        go_wp2
        go_ret
        exact ⟨rfl, by repeat (with_reducible first | exact Ext.refl _ | refine Ext.setCell ?_ (by first | (simp; done) | (simp; omega)) _ | refine Ext.alloc ?_ _ | refine Ext.gw ?_ _ | refine Ext.drew ?_)⟩
    · have hz0 : (0 : Int) < (n : Int) := by omega
      clear hz
      go_enter Try.func63, Try.ntmps63
      go_wp2
      go_loopw [5] (fun i wr => i = .int .i64 0 ∧ wr = w) (fun _ _ => 0)
      case atStart => exact ⟨rfl, rfl⟩
      case round =>
        obtain ⟨rfl, rfl⟩ := hrel
        go_wp2_with (go_at_call 57; refine (l3Good_any _ _ _ _ _ HC.out HN.out HR.out).mono ?_; rintro e w1 ⟨rfl, hx⟩; obtain ⟨x, rfl⟩ := hx.to_gw; clear hx)
        go_ret
        exact ⟨rfl, by repeat (with_reducible first | exact Ext.refl _ | refine Ext.setCell ?_ (by first | (simp; done) | (simp; omega)) _ | refine Ext.alloc ?_ _ | refine Ext.gw ?_ _ | refine Ext.drew ?_)⟩
  · rw [if_pos rfl]
    go_enter Try.func63, Try.ntmps63
    go_wp2
    go_loopw [5] (fun i wr => ∃ k : Nat, i = .int .i64 k ∧ k ≤ n ∧ Hid (fndPond m id (n - k) k = findPond n m id) ∧ ∃ y, wr = gw w y) (fun i _ => n - (intOf i).toNat)
    case atStart => exact ⟨0, rfl, Nat.zero_le _, Lib.hid rfl, (Ext.refl w).to_gw⟩
    case round =>
      obtain ⟨k, rfl, hk, HD, y, rfl⟩ := hrel
      by_cases hlt : k < n
      · obtain ⟨g, off, rfl, hg, c0, c1, c2, c3, c4, c5⟩ := hr.atPond hlt
        have i0 : (0 : Int) ≤ (k : Int) := by omega
        have i1 : (k : Int) < (n : Int) := by omega
        by_cases he : (m k).id = id
        · have HS := Lib.hid (show findPond n m id = (k : Int) by
            rw [← HD.out, show n - k = (n - k - 1) + 1 by omega]
            unfold fndPond
            rw [if_pos he])
          have q : ((m k).id == id) = true := by simp [he]
          clear he
          go_wp2_with (go_at_call 57; refine (l3Good_any _ _ _ _ _ HC.out HN.out (HR.out.ext (ext_gw _ _))).mono ?_; rintro e w1 ⟨rfl, hx⟩; (try replace hx := Ext.flat hx); obtain ⟨x, rfl⟩ := hx.to_gw; clear hx)
          go_ret
          exact ⟨(by rw [HS.out]; first | done | rfl), by repeat (with_reducible first | exact Ext.refl _ | refine Ext.setCell ?_ (by first | (simp; done) | (simp; omega)) _ | refine Ext.alloc ?_ _ | refine Ext.gw ?_ _ | refine Ext.drew ?_)⟩
        · have HS := Lib.hid (show fndPond m id (n - (k + 1)) (k + 1) = findPond n m id by
            rw [← HD.out, show n - k = (n - (k + 1)) + 1 by omega]
            conv => rhs; unfold fndPond
            rw [if_neg he])
          have q : ((m k).id == id) = false := by simp [he]
          clear he
          go_wp2_with (go_at_call 57; refine (l3Good_any _ _ _ _ _ HC.out HN.out (HR.out.ext (ext_gw _ _))).mono ?_; rintro e w1 ⟨rfl, hx⟩; (try replace hx := Ext.flat hx); obtain ⟨x, rfl⟩ := hx.to_gw; clear hx)
          go_roundw
          case rel => exact ⟨k + 1, by go_num, by omega, HS, ((by repeat (with_reducible first | exact Ext.refl _ | refine Ext.setCell ?_ (by first | (simp; done) | (simp; omega)) _ | refine Ext.alloc ?_ _ | refine Ext.gw ?_ _ | refine Ext.drew ?_) : Ext w _)).to_gw⟩
          case measure => simp [intOf]; omega
      · have HS := Lib.hid (show findPond n m id = -1 by
          rw [← HD.out, show n - k = 0 by omega]
          rfl)
        have i1 : (n : Int) ≤ (k : Int) := by omega
        go_wp2
        go_ret
        exact ⟨(by rw [HS.out]; first | done | rfl), ext_gw _ _⟩
theorem pondIs_any (x : Pd) (b : Nat) (id : Int) (w : World) (hb : b < w.heap.size) (hcell : w.cell? ⟨b, 0, none⟩ = some (.int .i64 id)) :
    Calls Try.prog 83 #[.agg #[.int .i64 x.id, .int .i64 x.left, .int .i64 x.top, .int .i64 x.wide, .int .i64 x.high, .int .i64 x.depth], .pointer (some ⟨b, 0, none⟩)] w fun e w' => e = .returned (.bool (x.id == id)) ∧ Ext w w' := by
  go_enter Try.func83, Try.ntmps83
  go_wp2
  go_ret
  exact ⟨rfl, by repeat (with_reducible first | exact Ext.refl _ | refine Ext.setCell ?_ (by first | (simp; done) | (simp; omega)) _ | refine Ext.alloc ?_ _ | refine Ext.gw ?_ _ | refine Ext.drew ?_)⟩
set_option maxHeartbeats 2000000 in
theorem indexFuncPond_any (A : Option Addr) (n c b : Nat) (m : Nat → Pd) (id : Int) (w : World) (hc : c ≤ maxLen) (hnc : n ≤ c) (hr : Rd w A n 6 (pdF m)) (hb : b < w.heap.size) (hcell : w.cell? ⟨b, 0, none⟩ = some (.int .i64 id)) :
    Calls Try.prog 72 #[.slice A n c, .func (.func 83) #[] #[.pointer (some ⟨b, 0, none⟩)]] w fun e w' => e = .returned (.int .i64 (findPond n m id)) ∧ Ext w w' := by
  unfold maxLen at *
  go_enter Try.func72, Try.ntmps72
  go_wp2
  go_loopw [5, 8] (fun _ i wr => ∃ k : Nat, i = .int .i64 k ∧ k ≤ n ∧ Hid (fndPond m id (n - k) k = findPond n m id) ∧ ∃ y, wr = gw w y) (fun _ i _ => n - (intOf i).toNat)
  case atStart => exact ⟨0, rfl, Nat.zero_le _, Lib.hid rfl, (Ext.refl w).to_gw⟩
  case round =>
    obtain ⟨k, rfl, hk, HD, y, rfl⟩ := hrel
    by_cases hlt : k < n
    · obtain ⟨g, off, rfl, hg, c0, c1, c2, c3, c4, c5⟩ := hr.atPond hlt
      have i0 : (0 : Int) ≤ (k : Int) := by omega
      have i1 : (k : Int) < (n : Int) := by omega
      by_cases he : (m k).id = id
      · have HS := Lib.hid (show findPond n m id = (k : Int) by
          rw [← HD.out, show n - k = (n - k - 1) + 1 by omega]
          unfold fndPond
          rw [if_pos he])
        have q : ((m k).id == id) = true := by simp [he]
        clear he
        go_wp2_with fail
        refine (pondIs_any (m k) b id _ (gw_lt _ _ _ hb) ((gw_cell _ _ _ hb).trans hcell)).mono ?_
        rintro e w1 ⟨rfl, hx⟩
        obtain ⟨x, rfl⟩ := (Ext.flat hx).to_gw
        clear hx
        go_wp2
        go_ret
        exact ⟨(by rw [HS.out]; first | done | rfl), by repeat (with_reducible first | exact Ext.refl _ | refine Ext.setCell ?_ (by first | (simp; done) | (simp; omega)) _ | refine Ext.alloc ?_ _ | refine Ext.gw ?_ _ | refine Ext.drew ?_)⟩
      · have HS := Lib.hid (show fndPond m id (n - (k + 1)) (k + 1) = findPond n m id by
          rw [← HD.out, show n - k = (n - (k + 1)) + 1 by omega]
          conv => rhs; unfold fndPond
          rw [if_neg he])
        have q : ((m k).id == id) = false := by simp [he]
        clear he
        go_wp2_with fail
        refine (pondIs_any (m k) b id _ (gw_lt _ _ _ hb) ((gw_cell _ _ _ hb).trans hcell)).mono ?_
        rintro e w1 ⟨rfl, hx⟩
        obtain ⟨x, rfl⟩ := (Ext.flat hx).to_gw
        clear hx
        go_wp2
        go_roundw
        case rel => exact ⟨k + 1, by go_num, by omega, HS, ((by repeat (with_reducible first | exact Ext.refl _ | refine Ext.setCell ?_ (by first | (simp; done) | (simp; omega)) _ | refine Ext.alloc ?_ _ | refine Ext.gw ?_ _ | refine Ext.drew ?_) : Ext w _)).to_gw⟩
        case measure => simp [intOf]; omega
    · have HS := Lib.hid (show findPond n m id = -1 by
        rw [← HD.out, show n - k = 0 by omega]
        rfl)
      go_wp2
      go_ret
      exact ⟨(by rw [HS.out]; first | done | rfl), ext_gw _ _⟩
theorem pondAt_any (A : Option Addr) (n c : Nat) (m : Nat → Pd) (id : Int) (w : World) (hc : c ≤ maxLen) (hnc : n ≤ c) (hr : Rd w A n 6 (pdF m)) :
    Calls Try.prog 64 #[.slice A n c, .int .i64 id] w fun e w' => e = .returned (.int .i64 (findPond n m id)) ∧ Ext w w' := by
  have hx0 := Ext.alloc (Ext.refl w) (Obj.cells #[.int .i64 id] 3)
  go_enter Try.func64, Try.ntmps64
  go_wp2_with fail
  refine (indexFuncPond_any A n c w.heap.size m id _ hc hnc (hr.ext hx0) (by simp) (by simp [go_sem])).mono ?_
  rintro e w1 ⟨rfl, hx⟩
  replace hx := hx0.trans hx
  obtain ⟨x, rfl⟩ := hx.to_gw
  clear hx
  go_wp2
  go_ret
  exact ⟨rfl, by repeat (with_reducible first | exact Ext.refl _ | refine Ext.setCell ?_ (by first | (simp; done) | (simp; omega)) _ | refine Ext.alloc ?_ _ | refine Ext.gw ?_ _ | refine Ext.drew ?_)⟩
end Go.Proofs.Ytkgnfmdeimaedaa
