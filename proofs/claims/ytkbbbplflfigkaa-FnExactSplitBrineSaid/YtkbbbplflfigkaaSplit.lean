/- SplitBrine: the contracts. -/
import Derived.Test.YtkbbbplflfigkaaIntFns
import Derived.Test.YtkbbbplflfigkaaOwn
namespace Go.Proofs.Ytkbbbplflfigkaa
open Go.RowKit

def splitP (a b p : Int) : Prop := ((0 ≤ a ∧ a ≤ 1000000) ∧ (0 ≤ b ∧ b ≤ 1000000)) ∧ 1 ≤ p ∧ p ≤ 20
def shareV (a p k : Int) : Int := if k < a % p then a / p + 1 else a / p
theorem l2Share_any (a p k : Int) (w : World) (a0 : 0 ≤ a) (a1 : a ≤ 1000000) (p0 : 0 < p) (p1 : p ≤ 1000000) : Calls Try.prog 70 #[.int .i64 a, .int .i64 p, .int .i64 k] w fun e w' => e = .returned (.int .i64 (shareV a p k)) ∧ w = w' := by
  have q0 : 0 ≤ a / p := Int.ediv_nonneg a0 (by omega)
  have q1 : a / p ≤ a := Int.ediv_le_self _ a0
  by_cases h : k < a % p
  · rw [show shareV a p k = a / p + 1 from if_pos h]
    go_enter Try.func70, Try.ntmps70
    go_wp2
    go_ret
    exact ⟨rfl, rfl⟩
  · rw [show shareV a p k = a / p from if_neg h]
    go_enter Try.func70, Try.ntmps70
    go_wp2
    go_ret
    exact ⟨rfl, rfl⟩
theorem share_any (a p k : Int) (w : World) (a0 : 0 ≤ a) (a1 : a ≤ 1000000) (p0 : 0 < p) (p1 : p ≤ 1000000) : Calls Try.prog 71 #[.int .i64 a, .int .i64 p, .int .i64 k] w fun e w' => e = .returned (.int .i64 (shareV a p k)) ∧ w = w' := by
  have q0 : 0 ≤ a / p := Int.ediv_nonneg a0 (by omega)
  have q1 : a / p ≤ a := Int.ediv_le_self _ a0
  by_cases h : k < a % p
  · rw [show shareV a p k = a / p + 1 from if_pos h]
    go_enter Try.func71, Try.ntmps71
    go_wp2
    go_ret
    exact ⟨rfl, rfl⟩
  · rw [show shareV a p k = a / p from if_neg h]
    go_enter Try.func71, Try.ntmps71
    go_wp2
    go_ret
    exact ⟨rfl, rfl⟩
def splitF (a b p : Int) : Nat → Nat → Value := mk2 (fun i => shareV a p i) (fun i => shareV b p i)
/-- A call that hands back a slice and a bool: the slice is the call's own, n elements that hold f. -/
def RetS (e : TypeId) (size n : Nat) (f : Nat → Nat → Value) (ok : Bool) (w : World) (en : Ending) (w' : World) : Prop :=
  ∃ v, en = .returned (.tuple #[v, .bool ok]) ∧ OwnS w' w.heap.size e size v n f ∧ Ext w w'
theorem elBrine : ElemOk Try.prog 55 26 (.agg #[.int .i64 0, .int .i64 0]) 2 16 := ⟨Try.underlying55, info_parts (by kernel_rfl), rfl, by decide, by decide⟩

set_option maxHeartbeats 400000 in
theorem specSplit_yes (a b p : Int) (w : World) (h : splitP a b p) : Calls Try.prog 39 #[.agg #[.int .i64 a, .int .i64 b], .int .i64 p] w (RetS 26 2 p.toNat (splitF a b p) true w) := by
  obtain ⟨⟨⟨a0, a1⟩, b0, b1⟩, p0, p1⟩ := h
  have hb : brineB a b = true := brineB_iff.2 ⟨⟨a0, a1⟩, b0, b1⟩
  have hi : inB p 1 20 = true := inB_pos p0 p1
  go_enter Try.func39, Try.ntmps39
  go_wp2_with (first | (go_at_call 49; refine (l2Brine_any _ _ _).mono ?_; rintro e w1 ⟨rfl, hx⟩; (try replace hx := Ext.flat hx); obtain ⟨x, rfl⟩ := hx.to_gw; clear hx) | (go_at_call 63; refine (l1In_any _ _ _ _).mono ?_; rintro e w1 ⟨rfl, rfl⟩))
  obtain ⟨q, rfl⟩ : ∃ q : Nat, p = q := ⟨p.toNat, by omega⟩
  have hx0 := ext_gw ((w.alloc (Obj.cells #[Value.int IntKind.i64 a, Value.int IntKind.i64 b] 26)).alloc (Obj.cells #[] 26)) x
  go_loopw [6, 7] (fun v i wr => ∃ k : Nat, i = .int .i64 k ∧ k ≤ q ∧ ∃ y, wr = gw (w.alloc (Obj.cells #[Value.int IntKind.i64 a, Value.int IntKind.i64 b] 26)) y ∧ OwnS wr (w.heap.size + 1) 26 2 v k (splitF a b q)) (fun _ i _ => q - (intOf i).toNat)
  case atStart => exact ⟨0, rfl, by omega, _, (Ext.trans (Ext.alloc (Ext.refl _) _) hx0).to_gw.choose_spec, (own_empty _ _ (by simp) (by simp)).ext hx0⟩
  case round =>
    obtain ⟨k, rfl, hk, y, rfl, hown⟩ := hrel
    clear hx0
    by_cases hlt : k < q
    · go_wp2_with fail
      refine wp_region_grow_tail1 12 _ rfl rfl (by kernel_rfl) (by decide) (by kernel_rfl) (fun _ _ _ => rfl) ?_
      simp only [Act.put, Act.eval, List.setIfInBounds_toArray, List.set_cons_zero, List.set_cons_succ, List.take_succ_cons, List.take_zero, List.drop_succ_cons, List.drop_zero]
      repeat (go_big_quiet_step (first | (go_at_call 70; exact grow_same (l2Share_any _ _ _ _ (by omega) (by omega) (by omega) (by omega)))))
      refine wpQuiet_nil ?_
      rintro _ ⟨xq, rfl⟩
      have hown2 := hown.ext (ext_gw _ xq)
      go_wp2_with (at_builtin; refine wpList_append_G _ (w.heap.size + 1) (by simp) ((ext_gw _ y).gw xq) rfl _ _ elBrine rfl rfl hown2 _ _ rfl rfl (by omega) ?_ ?_ ?_)
      · intro j hj
        match j, hj with
        | 0, _ => rfl
        | 1, _ => rfl
      · intro j hj
        match j, hj with
        | 0, _ => rfl
        | 1, _ => rfl
      · intro v' z hown3
        clear hown hown2
        go_wp2
        go_roundw
        case rel => exact ⟨k + 1, by go_num, by omega, z, rfl, hown3⟩
        case measure => simp [intOf]; omega
    · obtain rfl : k = q := by omega
      go_wp2
      go_ret2
      exact ⟨_, rfl, hown.lower (by simp), by repeat (with_reducible first | exact Ext.refl _ | refine Ext.setCell ?_ (by first | (simp; done) | (simp; omega)) _ | refine Ext.alloc ?_ _ | refine Ext.gw ?_ _ | refine Ext.drew ?_)⟩
set_option maxHeartbeats 400000 in
theorem implSplit_yes (a b p : Int) (w : World) (h : splitP a b p) : Calls Try.prog 40 #[.agg #[.int .i64 a, .int .i64 b], .int .i64 p] w (RetS 26 2 p.toNat (splitF a b p) true w) := by
  obtain ⟨⟨⟨a0, a1⟩, b0, b1⟩, p0, p1⟩ := h
  have hb : brineB a b = true := brineB_iff.2 ⟨⟨a0, a1⟩, b0, b1⟩
  have hi : inB p 1 20 = true := inB_pos p0 p1
  go_enter Try.func40, Try.ntmps40
  go_wp2_with (first | (go_at_call 19; refine (isBrine_any _ _ _).mono ?_; rintro e w1 ⟨rfl, hx⟩; (try replace hx := Ext.flat hx); obtain ⟨x, rfl⟩ := hx.to_gw; clear hx) | (go_at_call 50; refine (within_any _ _ _ _).mono ?_; rintro e w1 ⟨rfl, rfl⟩))
  obtain ⟨q, rfl⟩ : ∃ q : Nat, p = q := ⟨p.toNat, by omega⟩
  go_loopw [6, 7, 17] (fun v _ i wr => ∃ k : Nat, i = .int .i64 k ∧ k ≤ q ∧ ∃ y, wr = gw (w.alloc (Obj.cells #[Value.int IntKind.i64 a, Value.int IntKind.i64 b] 26)) y ∧ OwnS wr (w.heap.size + 1) 26 2 v k (splitF a b q)) (fun _ _ i _ => q - (intOf i).toNat)
  case atStart => exact ⟨0, rfl, by omega, _, rfl, OwnS.nil⟩
  case round =>
    obtain ⟨k, rfl, hk, y, rfl, hown⟩ := hrel
    by_cases hlt : k < q
    · go_wp2_with fail
      refine wp_region_grow_tail1 12 _ rfl rfl (by kernel_rfl) (by decide) (by kernel_rfl) (fun _ _ _ => rfl) ?_
      simp only [Act.put, Act.eval, List.setIfInBounds_toArray, List.set_cons_zero, List.set_cons_succ, List.take_succ_cons, List.take_zero, List.drop_succ_cons, List.drop_zero]
      repeat (go_big_quiet_step (first | (go_at_call 71; exact grow_same (share_any _ _ _ _ (by omega) (by omega) (by omega) (by omega)))))
      refine wpQuiet_nil ?_
      rintro _ ⟨xq, rfl⟩
      have hown2 := hown.ext (ext_gw _ xq)
      go_wp2_with (at_builtin; refine wpList_append_G _ (w.heap.size + 1) (by simp) ((ext_gw _ y).gw xq) rfl _ _ elBrine rfl rfl hown2 _ _ rfl rfl (by omega) ?_ ?_ ?_)
      · intro j hj
        match j, hj with
        | 0, _ => rfl
        | 1, _ => rfl
      · intro j hj
        match j, hj with
        | 0, _ => rfl
        | 1, _ => rfl
      · intro v' z hown3
        clear hown hown2
        go_wp2
        go_roundw
        case rel => exact ⟨k + 1, by go_num, by omega, z, rfl, hown3⟩
        case measure => simp [intOf]; omega
    · obtain rfl : k = q := by omega
      go_wp2
      go_ret2
      exact ⟨_, rfl, hown.lower (by simp), by repeat (with_reducible first | exact Ext.refl _ | refine Ext.setCell ?_ (by first | (simp; done) | (simp; omega)) _ | refine Ext.alloc ?_ _ | refine Ext.gw ?_ _ | refine Ext.drew ?_)⟩
theorem specSplit_no (a b p : Int) (w : World) (h : ¬ splitP a b p) : Calls Try.prog 39 #[.agg #[.int .i64 a, .int .i64 b], .int .i64 p] w (RetS 26 2 0 (splitF a b p) false w) := by
  by_cases hb : brineB a b = true
  · have hi : inB p 1 20 = false := inB_neg (fun hn => h ⟨brineB_iff.1 hb, hn⟩)
    clear h
    go_enter Try.func39, Try.ntmps39
    go_wp2_with (first | (go_at_call 49; refine (l2Brine_any _ _ _).mono ?_; rintro e w1 ⟨rfl, hx⟩; (try replace hx := Ext.flat hx); obtain ⟨x, rfl⟩ := hx.to_gw; clear hx) | (go_at_call 63; refine (l1In_any _ _ _ _).mono ?_; rintro e w1 ⟨rfl, rfl⟩))
    go_ret2
    exact ⟨_, rfl, (own_empty _ _ (by simp) (by simp)).ext (ext_gw _ _), by repeat (with_reducible first | exact Ext.refl _ | refine Ext.setCell ?_ (by first | (simp; done) | (simp; omega)) _ | refine Ext.alloc ?_ _ | refine Ext.gw ?_ _ | refine Ext.drew ?_)⟩
  · have hb : brineB a b = false := by simpa using hb
    clear h
    go_enter Try.func39, Try.ntmps39
    go_wp2_with (first | (go_at_call 49; refine (l2Brine_any _ _ _).mono ?_; rintro e w1 ⟨rfl, hx⟩; (try replace hx := Ext.flat hx); obtain ⟨x, rfl⟩ := hx.to_gw; clear hx) | (go_at_call 63; refine (l1In_any _ _ _ _).mono ?_; rintro e w1 ⟨rfl, rfl⟩))
    go_ret2
    exact ⟨_, rfl, (own_empty _ _ (by simp) (by simp)).ext (ext_gw _ _), by repeat (with_reducible first | exact Ext.refl _ | refine Ext.setCell ?_ (by first | (simp; done) | (simp; omega)) _ | refine Ext.alloc ?_ _ | refine Ext.gw ?_ _ | refine Ext.drew ?_)⟩
theorem implSplit_no (a b p : Int) (w : World) (h : ¬ splitP a b p) : Calls Try.prog 40 #[.agg #[.int .i64 a, .int .i64 b], .int .i64 p] w (RetS 26 2 0 (splitF a b p) false w) := by
  by_cases hb : brineB a b = true
  · have hi : inB p 1 20 = false := inB_neg (fun hn => h ⟨brineB_iff.1 hb, hn⟩)
    clear h
    go_enter Try.func40, Try.ntmps40
    go_wp2_with (first | (go_at_call 19; refine (isBrine_any _ _ _).mono ?_; rintro e w1 ⟨rfl, hx⟩; (try replace hx := Ext.flat hx); obtain ⟨x, rfl⟩ := hx.to_gw; clear hx) | (go_at_call 50; refine (within_any _ _ _ _).mono ?_; rintro e w1 ⟨rfl, rfl⟩))
    go_ret2
    exact ⟨_, rfl, OwnS.nil, by repeat (with_reducible first | exact Ext.refl _ | refine Ext.setCell ?_ (by first | (simp; done) | (simp; omega)) _ | refine Ext.alloc ?_ _ | refine Ext.gw ?_ _ | refine Ext.drew ?_)⟩
  · have hb : brineB a b = false := by simpa using hb
    clear h
    go_enter Try.func40, Try.ntmps40
    go_wp2_with (first | (go_at_call 19; refine (isBrine_any _ _ _).mono ?_; rintro e w1 ⟨rfl, hx⟩; (try replace hx := Ext.flat hx); obtain ⟨x, rfl⟩ := hx.to_gw; clear hx) | (go_at_call 50; refine (within_any _ _ _ _).mono ?_; rintro e w1 ⟨rfl, rfl⟩))
    go_ret2
    exact ⟨_, rfl, OwnS.nil, by repeat (with_reducible first | exact Ext.refl _ | refine Ext.setCell ?_ (by first | (simp; done) | (simp; omega)) _ | refine Ext.alloc ?_ _ | refine Ext.gw ?_ _ | refine Ext.drew ?_)⟩
end Go.Proofs.Ytkbbbplflfigkaa
