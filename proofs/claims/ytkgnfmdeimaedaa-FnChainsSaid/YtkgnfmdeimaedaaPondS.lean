/- Slices of ponds: what they read as, and the contracts of the laws' helpers on them. -/
import Derived.Test.YtkgnfmdeimaedaaOwn
import Derived.Test.YtkgnfmdeimaedaaRows
import Derived.Test.YtkgnfmdeimaedaaWorkPond
namespace Go.Proofs.Ytkgnfmdeimaedaa
open Go.RowKit
set_option linter.unusedVariables false

structure Pd where
  id : Int
  left : Int
  top : Int
  wide : Int
  high : Int
  depth : Int
def pdF (m : Nat → Pd) : Nat → Nat → Value := fun i j => match j with
  | 0 => .int .i64 (m i).id
  | 1 => .int .i64 (m i).left
  | 2 => .int .i64 (m i).top
  | 3 => .int .i64 (m i).wide
  | 4 => .int .i64 (m i).high
  | _ => .int .i64 (m i).depth
def pdFV (x : Pd) : Value := .agg #[.int .i64 x.id, .int .i64 x.left, .int .i64 x.top, .int .i64 x.wide, .int .i64 x.high, .int .i64 x.depth]
theorem elPond : ElemOk Try.prog 25 51 (.agg #[.int .i64 0, .int .i64 0, .int .i64 0, .int .i64 0, .int .i64 0, .int .i64 0]) 6 48 := ⟨Try.underlying25, info_parts (by kernel_rfl), rfl, by decide, by decide⟩
theorem Rd.atPond {w : World} {A : Option Addr} {n i : Nat} {m : Nat → Pd} (h : Rd w A n 6 (pdF m)) (hi : i < n) :
    ∃ g off, A = some ⟨g, off, none⟩ ∧ g < w.heap.size ∧ w.cell? ⟨g, off + i * 6, none⟩ = some (.int .i64 (m i).id) ∧ w.cell? ⟨g, off + i * 6 + 1, none⟩ = some (.int .i64 (m i).left) ∧ w.cell? ⟨g, off + i * 6 + 2, none⟩ = some (.int .i64 (m i).top) ∧ w.cell? ⟨g, off + i * 6 + 3, none⟩ = some (.int .i64 (m i).wide) ∧ w.cell? ⟨g, off + i * 6 + 4, none⟩ = some (.int .i64 (m i).high) ∧ w.cell? ⟨g, off + i * 6 + 5, none⟩ = some (.int .i64 (m i).depth) := by
  obtain ⟨g, off, hA, hg, hc⟩ := h (by omega)
  exact ⟨g, off, hA, hg, hc i 0 hi (by omega), hc i 1 hi (by omega), hc i 2 hi (by omega), hc i 3 hi (by omega), hc i 4 hi (by omega), hc i 5 hi (by omega)⟩
theorem pdF_one (m : Nat → Pd) (i j : Nat) (hj : j < 6) : (pdF m i j).oneCell' = true := by
  match j, hj with
  | 0, _ => rfl
  | 1, _ => rfl
  | 2, _ => rfl
  | 3, _ => rfl
  | 4, _ => rfl
  | 5, _ => rfl
/-- What came in reads as such a list. -/
theorem pdF_of {n : Nat} {f : Nat → Nat → Value} (h : ∀ i j k, i < n → [true, true, true, true, true, true][j]? = some k → FieldIs k (f i j)) : ∃ m : Nat → Pd, ∀ i j, i < n → j < 6 → pdF m i j = f i j := by
  have hx : ∀ i, ∃ x : Pd, i < n → ∀ j, j < 6 → pdF (fun _ => x) i j = f i j := by
    intro i
    by_cases hi : i < n
    · obtain ⟨x, hx⟩ : ∃ x : Pd, ∀ j, j < 6 → pdF (fun _ => x) i j = f i j := by
        have h1 := fun j k hk => h i j k hi hk
        clear h
        obtain ⟨q0, e0, _⟩ := h1 0 true rfl
        obtain ⟨q1, e1, _⟩ := h1 1 true rfl
        obtain ⟨q2, e2, _⟩ := h1 2 true rfl
        obtain ⟨q3, e3, _⟩ := h1 3 true rfl
        obtain ⟨q4, e4, _⟩ := h1 4 true rfl
        obtain ⟨q5, e5, _⟩ := h1 5 true rfl
        refine ⟨⟨q0, q1, q2, q3, q4, q5⟩, fun j hj => ?_⟩
        match j, hj with
        | 0, _ => exact e0.symm
        | 1, _ => exact e1.symm
        | 2, _ => exact e2.symm
        | 3, _ => exact e3.symm
        | 4, _ => exact e4.symm
        | 5, _ => exact e5.symm
      exact ⟨x, fun _ => hx⟩
    · exact ⟨⟨0, 0, 0, 0, 0, 0⟩, fun h => absurd h hi⟩
  exact ⟨fun i => (hx i).choose, fun i j hi hj => (hx i).choose_spec hi j hj⟩

theorem szPondS_yes (A : Option Addr) (n c : Nat) (w : World) (hn : n ≤ 1048576) : Calls Try.prog 15 #[.slice A n c, .int .i64 1048576] w fun e w' => e = .returned (.int .i64 (1048576 - (n : Int))) ∧ w = w' := by
  go_enter Try.func15, Try.ntmps15
  go_wp2
  go_ret
  exact ⟨rfl, rfl⟩
theorem szPondS_no (A : Option Addr) (n c : Nat) (w : World) (hn : 1048576 < n) (hm : n ≤ 9223372036854775807) : Calls Try.prog 15 #[.slice A n c, .int .i64 1048576] w fun e w' => e = .returned (.int .i64 (-1)) ∧ w = w' := by
  go_enter Try.func15, Try.ntmps15
  go_wp2
  go_ret
  exact ⟨rfl, rfl⟩

theorem eqPond_any (x0 : Int) (x1 : Int) (x2 : Int) (x3 : Int) (x4 : Int) (x5 : Int) (w : World) : Calls Try.prog 60 #[.agg #[.int .i64 x0, .int .i64 x1, .int .i64 x2, .int .i64 x3, .int .i64 x4, .int .i64 x5], .agg #[.int .i64 x0, .int .i64 x1, .int .i64 x2, .int .i64 x3, .int .i64 x4, .int .i64 x5]] w fun e w' => e = .returned (.bool true) ∧ Ext w w' := by
  go_enter Try.func60, Try.ntmps60
  go_wp2
  go_ret
  exact ⟨rfl, by repeat (with_reducible first | exact Ext.refl _ | refine Ext.setCell ?_ (by first | (simp; done) | (simp; omega)) _ | refine Ext.alloc ?_ _ | refine Ext.gw ?_ _ | refine Ext.drew ?_)⟩
theorem eqPondS_any (v1 v2 : Value) (n : Nat) (m : Nat → Pd) (w : World) {b1 b2 e1 e2 : Nat} (h1 : OwnS w b1 e1 6 v1 n (pdF m)) (h2 : OwnS w b2 e2 6 v2 n (pdF m)) :
    Calls Try.prog 19 #[v1, v2] w fun e w' => e = .returned (.bool true) ∧ Ext w w' := by
  obtain ⟨A, c, rfl, hc, hnc, hr⟩ := h1.rd
  obtain ⟨A', c', rfl, hc', hnc', hr'⟩ := h2.rd
  clear h1 h2
  unfold maxLen at *
  go_enter Try.func19, Try.ntmps19
  go_wp2
  go_loopw [5] (fun i wr => ∃ k : Nat, i = .int .i64 k ∧ k ≤ n ∧ ∃ y, wr = gw w y) (fun i _ => n - (intOf i).toNat)
  case atStart => exact ⟨0, rfl, Nat.zero_le _, (Ext.refl w).to_gw⟩
  case round =>
    obtain ⟨k, rfl, hk, y, rfl⟩ := hrel
    by_cases hlt : k < n
    · obtain ⟨g, off, rfl, hg, c0, c1, c2, c3, c4, c5⟩ := hr.atPond hlt
      obtain ⟨g', off', rfl, hg', c0', c1', c2', c3', c4', c5'⟩ := hr'.atPond hlt
      have i0 : (0 : Int) ≤ (k : Int) := by omega
      have i1 : (k : Int) < (n : Int) := by omega
      go_wp2_with fail
      first | refine wp_region_grow2 (by kernel_rfl) (by kernel_rfl) ?_ | refine wp_region_grow (by kernel_rfl) (by kernel_rfl) ?_
      repeat (go_big_quiet_step (first | (go_at_call 60; exact grow_of (eqPond_any _ _ _ _ _ _ _))))
      refine wpQuiet_nil ?_
      rintro _ ⟨xq, rfl⟩
      go_wp2
      go_roundw
      case rel => exact ⟨k + 1, by go_num, by omega, _, rfl⟩
      case measure => simp [intOf]; omega
    · go_wp2
      go_ret
      exact ⟨rfl, ext_gw _ _⟩

set_option maxHeartbeats 1000000 in
theorem toPondS_any (A : Option Addr) (n c : Nat) (m : Nat → Pd) (w : World) (hn : n ≤ 1048576) (hr : Rd w A n 6 (pdF m)) : Calls Try.prog 17 #[.slice A n c] w (RetO 51 6 n (pdF m) w) := by
  have hmk := run_make_S (P := Try.prog) elPond n (by omega)
  have h0 := own_made (e := 51) (n := n) elPond.hz w (by unfold maxLen; omega)
  have hx0 := Ext.alloc (Ext.refl w) (Obj.cells (madeCells (Value.cells (.agg #[.int .i64 0, .int .i64 0, .int .i64 0, .int .i64 0, .int .i64 0, .int .i64 0])) (n * 6)) 51)
  go_enter Try.func17, Try.ntmps17
  go_wp2
  clear hmk
  go_loopw [4] (fun i wr => ∃ k : Nat, i = .int .i64 k ∧ k ≤ n ∧ OwnS wr w.heap.size 51 6 (.slice (some ⟨w.heap.size, 0, none⟩) n n) n (fun i j => if i < k then pdF m i j else (Value.cells (.agg #[.int .i64 0, .int .i64 0, .int .i64 0, .int .i64 0, .int .i64 0, .int .i64 0]))[j]!) ∧ ∃ y, wr = gw w y) (fun i _ => n - (intOf i).toNat)
  case atStart => exact ⟨0, rfl, Nat.zero_le _, h0.congr (fun _ _ _ _ => by simp), hx0.to_gw⟩
  case round =>
    obtain ⟨k, rfl, hk, hown, y, rfl⟩ := hrel
    clear h0 hx0
    by_cases hlt : k < n
    · obtain ⟨g, off, rfl, hg, c0, c1, c2, c3, c4, c5⟩ := hr.atPond hlt
      have i0 : (0 : Int) ≤ (k : Int) := by omega
      have i1 : (k : Int) < (n : Int) := by omega
      go_wp2_with fail
      refine (toPond_any _ _ _ _ _ _ _).mono ?_
      rintro e w1 ⟨rfl, hx⟩
      replace hown := hown.ext hx
      obtain ⟨x, rfl⟩ := (Ext.flat hx).to_gw
      clear hx
      obtain ⟨A0, cap0, hv, _, _, hform⟩ := hown.form
      injection hv with hA _ hc
      subst hA hc
      obtain ⟨g0, hg0, _, _, _, hcell⟩ := hform (by omega)
      injection hg0 with hg0
      injection hg0 with hg0 _ _
      subst hg0
      obtain ⟨d0, f0⟩ := hcell k 0 hlt (by omega)
      obtain ⟨d1, f1⟩ := hcell k 1 hlt (by omega)
      obtain ⟨d2, f2⟩ := hcell k 2 hlt (by omega)
      obtain ⟨d3, f3⟩ := hcell k 3 hlt (by omega)
      obtain ⟨d4, f4⟩ := hcell k 4 hlt (by omega)
      obtain ⟨d5, f5⟩ := hcell k 5 hlt (by omega)
      rw [Nat.add_zero] at d0 f0
      clear hform hcell
      go_wp2
      go_roundw
      case rel =>
        obtain ⟨a1, _⟩ := hown.put_next hlt
        exact ⟨k + 1, by go_num, by omega, a1, ((ext_gw w x).put (Nat.le_refl _) (k * 6) (pdF m k) 6).to_gw⟩
      case measure => simp [intOf]; omega
    · obtain rfl : k = n := by omega
      go_wp2
      go_ret
      exact ⟨_, rfl, hown.congr (fun i j hi _ => by simp [hi]), ext_gw _ _⟩
end Go.Proofs.Ytkgnfmdeimaedaa
