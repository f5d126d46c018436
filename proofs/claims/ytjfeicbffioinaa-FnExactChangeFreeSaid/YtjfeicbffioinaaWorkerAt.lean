/- Where in a list an id is: the contracts. -/
import Derived.Test.YtjfeicbffioinaaWorkers
namespace Go.Proofs.Ytjfeicbffioinaa
open Go.RowKit
set_option linter.unusedVariables false

def fndWorker (m : Nat → Wk) (id : Int) : Nat → Nat → Int
  | 0, _ => -1
  | f + 1, i => if (m i).id = id then (i : Int) else fndWorker m id f (i + 1)
def findWorker (n : Nat) (m : Nat → Wk) (id : Int) : Int := fndWorker m id n 0
theorem fndWorker_bd (m : Nat → Wk) (id : Int) (f i : Nat) : fndWorker m id f i = -1 ∨ ∃ j : Nat, fndWorker m id f i = (j : Int) ∧ i ≤ j ∧ j < i + f ∧ (m j).id = id := by
  induction f generalizing i with
  | zero => exact .inl rfl
  | succ f ih =>
    unfold fndWorker
    by_cases h : (m i).id = id
    · rw [if_pos h]
      exact .inr ⟨i, rfl, Nat.le_refl _, by omega, h⟩
    · rw [if_neg h]
      rcases ih (i + 1) with h1 | ⟨j, h1, h2, h3, h4⟩
      · exact .inl h1
      · exact .inr ⟨j, h1, by omega, by omega, h4⟩
theorem findWorker_bd (n : Nat) (m : Nat → Wk) (id : Int) : findWorker n m id = -1 ∨ ∃ j : Nat, findWorker n m id = (j : Int) ∧ j < n ∧ (m j).id = id := by
  rcases fndWorker_bd m id n 0 with h | ⟨j, h1, _, h3, h4⟩
  · exact .inl h
  · exact .inr ⟨j, h1, by omega, h4⟩
noncomputable def findWorkerV (n : Nat) (m : Nat → Wk) (id : Int) : Int := if workersB n m = true then findWorker n m id else -1
set_option maxHeartbeats 2000000 in
theorem specWorkerFind_any (A : Option Addr) (n c : Nat) (m : Nat → Wk) (id : Int) (w : World) (hc : c ≤ maxLen) (hnc : n ≤ c) (hr : Rd w A n 5 (wkF m)) :
    Calls Try.prog 53 #[.slice A n c, .int .i64 id] w fun e w' => e = .returned (.int .i64 (findWorkerV n m id)) ∧ Ext w w' := by
  have HR := Lib.hid hr
  have HC := Lib.hid hc
  have HN := Lib.hid hnc
  unfold maxLen at *
  unfold findWorkerV
  cases hv : workersB n m
  · rw [if_neg (by simp)]
    by_cases hz : n = 0
    · subst hz
      go_enter Try.func53, Try.ntmps53
      go_wp2
      go_loopw [5] (fun i wr => i = .int .i64 0 ∧ wr = w) (fun _ _ => 0)
      case atStart => exact ⟨rfl, rfl⟩
      case round =>
        obtain ⟨rfl, rfl⟩ := hrel
        go_wp2
        go_ret
        exact ⟨rfl, by repeat (with_reducible first | exact Ext.refl _ | refine Ext.setCell ?_ (by first | (simp; done) | (simp; omega)) _ | refine Ext.alloc ?_ _ | refine Ext.gw ?_ _ | refine Ext.drew ?_)⟩
    · have hz0 : (0 : Int) < (n : Int) := by omega
      clear hz
      go_enter Try.func53, Try.ntmps53
      go_wp2
      go_loopw [5] (fun i wr => i = .int .i64 0 ∧ wr = w) (fun _ _ => 0)
      case atStart => exact ⟨rfl, rfl⟩
      case round =>
        obtain ⟨rfl, rfl⟩ := hrel
        go_wp2_with (go_at_call 39; refine (l5Good_any _ _ _ _ _ HC.out HN.out HR.out).mono ?_; rintro e w1 ⟨rfl, hx⟩; obtain ⟨x, rfl⟩ := hx.to_gw; clear hx)
        go_ret
        exact ⟨rfl, by repeat (with_reducible first | exact Ext.refl _ | refine Ext.setCell ?_ (by first | (simp; done) | (simp; omega)) _ | refine Ext.alloc ?_ _ | refine Ext.gw ?_ _ | refine Ext.drew ?_)⟩
  · rw [if_pos rfl]
    go_enter Try.func53, Try.ntmps53
    go_wp2
    go_loopw [5] (fun i wr => ∃ k : Nat, i = .int .i64 k ∧ k ≤ n ∧ Hid (fndWorker m id (n - k) k = findWorker n m id) ∧ ∃ y, wr = gw w y) (fun i _ => n - (intOf i).toNat)
    case atStart => exact ⟨0, rfl, Nat.zero_le _, Lib.hid rfl, (Ext.refl w).to_gw⟩
    case round =>
      obtain ⟨k, rfl, hk, HD, y, rfl⟩ := hrel
      by_cases hlt : k < n
      · obtain ⟨g, off, rfl, hg, c0, c1, c2, c3, c4⟩ := hr.atWorker hlt
        have i0 : (0 : Int) ≤ (k : Int) := by omega
        have i1 : (k : Int) < (n : Int) := by omega
        by_cases he : (m k).id = id
        · have HS := Lib.hid (show findWorker n m id = (k : Int) by
            rw [← HD.out, show n - k = (n - k - 1) + 1 by omega]
            unfold fndWorker
            rw [if_pos he])
          have q : ((m k).id == id) = true := by simp [he]
          clear he
          go_wp2_with (go_at_call 39; refine (l5Good_any _ _ _ _ _ HC.out HN.out (HR.out.ext (ext_gw _ _))).mono ?_; rintro e w1 ⟨rfl, hx⟩; (try replace hx := Ext.flat hx); obtain ⟨x, rfl⟩ := hx.to_gw; clear hx)
          go_ret
          exact ⟨(by rw [HS.out]; first | done | rfl), by repeat (with_reducible first | exact Ext.refl _ | refine Ext.setCell ?_ (by first | (simp; done) | (simp; omega)) _ | refine Ext.alloc ?_ _ | refine Ext.gw ?_ _ | refine Ext.drew ?_)⟩
        · have HS := Lib.hid (show fndWorker m id (n - (k + 1)) (k + 1) = findWorker n m id by
            rw [← HD.out, show n - k = (n - (k + 1)) + 1 by omega]
            conv => rhs; unfold fndWorker
            rw [if_neg he])
          have q : ((m k).id == id) = false := by simp [he]
          clear he
          go_wp2_with (go_at_call 39; refine (l5Good_any _ _ _ _ _ HC.out HN.out (HR.out.ext (ext_gw _ _))).mono ?_; rintro e w1 ⟨rfl, hx⟩; (try replace hx := Ext.flat hx); obtain ⟨x, rfl⟩ := hx.to_gw; clear hx)
          go_roundw
          case rel => exact ⟨k + 1, by go_num, by omega, HS, ((by repeat (with_reducible first | exact Ext.refl _ | refine Ext.setCell ?_ (by first | (simp; done) | (simp; omega)) _ | refine Ext.alloc ?_ _ | refine Ext.gw ?_ _ | refine Ext.drew ?_) : Ext w _)).to_gw⟩
          case measure => simp [intOf]; omega
      · have HS := Lib.hid (show findWorker n m id = -1 by
          rw [← HD.out, show n - k = 0 by omega]
          rfl)
        have i1 : (n : Int) ≤ (k : Int) := by omega
        go_wp2
        go_ret
        exact ⟨(by rw [HS.out]; first | done | rfl), ext_gw _ _⟩
theorem workerIs_any (x : Wk) (b : Nat) (id : Int) (w : World) (hb : b < w.heap.size) (hcell : w.cell? ⟨b, 0, none⟩ = some (.int .i64 id)) :
    Calls Try.prog 61 #[.agg #[.int .i64 x.id, .int .i64 x.gang, .int .i64 x.rakes, .bool x.cart, .int .i64 x.free], .pointer (some ⟨b, 0, none⟩)] w fun e w' => e = .returned (.bool (x.id == id)) ∧ Ext w w' := by
  go_enter Try.func61, Try.ntmps61
  go_wp2
  go_ret
  exact ⟨rfl, by repeat (with_reducible first | exact Ext.refl _ | refine Ext.setCell ?_ (by first | (simp; done) | (simp; omega)) _ | refine Ext.alloc ?_ _ | refine Ext.gw ?_ _ | refine Ext.drew ?_)⟩
set_option maxHeartbeats 2000000 in
theorem indexFuncWorker_any (A : Option Addr) (n c b : Nat) (m : Nat → Wk) (id : Int) (w : World) (hc : c ≤ maxLen) (hnc : n ≤ c) (hr : Rd w A n 5 (wkF m)) (hb : b < w.heap.size) (hcell : w.cell? ⟨b, 0, none⟩ = some (.int .i64 id)) :
    Calls Try.prog 60 #[.slice A n c, .func (.func 61) #[] #[.pointer (some ⟨b, 0, none⟩)]] w fun e w' => e = .returned (.int .i64 (findWorker n m id)) ∧ Ext w w' := by
  unfold maxLen at *
  go_enter Try.func60, Try.ntmps60
  go_wp2
  go_loopw [5, 8] (fun _ i wr => ∃ k : Nat, i = .int .i64 k ∧ k ≤ n ∧ Hid (fndWorker m id (n - k) k = findWorker n m id) ∧ ∃ y, wr = gw w y) (fun _ i _ => n - (intOf i).toNat)
  case atStart => exact ⟨0, rfl, Nat.zero_le _, Lib.hid rfl, (Ext.refl w).to_gw⟩
  case round =>
    obtain ⟨k, rfl, hk, HD, y, rfl⟩ := hrel
    by_cases hlt : k < n
    · obtain ⟨g, off, rfl, hg, c0, c1, c2, c3, c4⟩ := hr.atWorker hlt
      have i0 : (0 : Int) ≤ (k : Int) := by omega
      have i1 : (k : Int) < (n : Int) := by omega
      by_cases he : (m k).id = id
      · have HS := Lib.hid (show findWorker n m id = (k : Int) by
          rw [← HD.out, show n - k = (n - k - 1) + 1 by omega]
          unfold fndWorker
          rw [if_pos he])
        have q : ((m k).id == id) = true := by simp [he]
        clear he
        go_wp2_with fail
        refine (workerIs_any (m k) b id _ (gw_lt _ _ _ hb) ((gw_cell _ _ _ hb).trans hcell)).mono ?_
        rintro e w1 ⟨rfl, hx⟩
        obtain ⟨x, rfl⟩ := (Ext.flat hx).to_gw
        clear hx
        go_wp2
        go_ret
        exact ⟨(by rw [HS.out]; first | done | rfl), by repeat (with_reducible first | exact Ext.refl _ | refine Ext.setCell ?_ (by first | (simp; done) | (simp; omega)) _ | refine Ext.alloc ?_ _ | refine Ext.gw ?_ _ | refine Ext.drew ?_)⟩
      · have HS := Lib.hid (show fndWorker m id (n - (k + 1)) (k + 1) = findWorker n m id by
          rw [← HD.out, show n - k = (n - (k + 1)) + 1 by omega]
          conv => rhs; unfold fndWorker
          rw [if_neg he])
        have q : ((m k).id == id) = false := by simp [he]
        clear he
        go_wp2_with fail
        refine (workerIs_any (m k) b id _ (gw_lt _ _ _ hb) ((gw_cell _ _ _ hb).trans hcell)).mono ?_
        rintro e w1 ⟨rfl, hx⟩
        obtain ⟨x, rfl⟩ := (Ext.flat hx).to_gw
        clear hx
        go_wp2
        go_roundw
        case rel => exact ⟨k + 1, by go_num, by omega, HS, ((by repeat (with_reducible first | exact Ext.refl _ | refine Ext.setCell ?_ (by first | (simp; done) | (simp; omega)) _ | refine Ext.alloc ?_ _ | refine Ext.gw ?_ _ | refine Ext.drew ?_) : Ext w _)).to_gw⟩
        case measure => simp [intOf]; omega
    · have HS := Lib.hid (show findWorker n m id = -1 by
        rw [← HD.out, show n - k = 0 by omega]
        rfl)
      go_wp2
      go_ret
      exact ⟨(by rw [HS.out]; first | done | rfl), ext_gw _ _⟩
theorem workerAt_any (A : Option Addr) (n c : Nat) (m : Nat → Wk) (id : Int) (w : World) (hc : c ≤ maxLen) (hnc : n ≤ c) (hr : Rd w A n 5 (wkF m)) :
    Calls Try.prog 54 #[.slice A n c, .int .i64 id] w fun e w' => e = .returned (.int .i64 (findWorker n m id)) ∧ Ext w w' := by
  have hx0 := Ext.alloc (Ext.refl w) (Obj.cells #[.int .i64 id] 3)
  go_enter Try.func54, Try.ntmps54
  go_wp2_with fail
  refine (indexFuncWorker_any A n c w.heap.size m id _ hc hnc (hr.ext hx0) (by simp) (by simp [go_sem])).mono ?_
  rintro e w1 ⟨rfl, hx⟩
  replace hx := hx0.trans hx
  obtain ⟨x, rfl⟩ := hx.to_gw
  clear hx
  go_wp2
  go_ret
  exact ⟨rfl, by repeat (with_reducible first | exact Ext.refl _ | refine Ext.setCell ?_ (by first | (simp; done) | (simp; omega)) _ | refine Ext.alloc ?_ _ | refine Ext.gw ?_ _ | refine Ext.drew ?_)⟩
end Go.Proofs.Ytjfeicbffioinaa
