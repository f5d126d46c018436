/- BrineText: the contracts and the walk of its law. -/
import Derived.Test.YtpmbnfoilhfobaaDoorTab
import Derived.Test.YtpmbnfoilhfobaaDoorBrines
namespace Go.Proofs.YtpmbnfoilhfobaaDoor
open Go.RowKit
set_option linter.unusedVariables false

def bText (a b : Int) : ByteArray := (⟨#[119]⟩ : ByteArray) ++ iB a ++ (⟨#[32, 115]⟩ : ByteArray) ++ iB b
def bTextV (a b : Int) : ByteArray := if brineB a b = true then bText a b else ⟨#[]⟩
set_option maxHeartbeats 1000000 in
theorem l2Text_any (a b : Int) (w : World) (h : (0 ≤ a ∧ a ≤ 1000000) ∧ (0 ≤ b ∧ b ≤ 1000000)) : Calls Tryd.prog 50 #[.agg #[.int .i64 a, .int .i64 b]] w fun e w' => e = .returned (.string (bText a b)) ∧ Ext w w' := by
  obtain ⟨⟨a0, a1⟩, b0, b1⟩ := h
  have hza := iB_size (n := a) (by omega) (by omega)
  have hzb := iB_size (n := b) (by omega) (by omega)
  go_enter Tryd.func50, Tryd.ntmps50
  go_wp2_with fail
  refine wp_region_grow (by kernel_rfl) (by kernel_rfl) ?_
  repeat (go_big_quiet_step (first | (go_at_call 57; exact grow_of (l1Num_any _ _ (by omega) (by omega)))))
  refine wpQuiet_nil ?_
  rintro _ ⟨xq, rfl⟩
  go_wp2
  go_ret
  exact ⟨rfl, by repeat (with_reducible first | exact Ext.refl _ | refine Ext.setCell ?_ (by first | (simp; done) | (simp; omega)) _ | refine Ext.alloc ?_ _ | refine Ext.gw ?_ _ | refine Ext.drew ?_)⟩
theorem specBrineText_any (a b : Int) (w : World) : Calls Tryd.prog 27 #[.agg #[.int .i64 a, .int .i64 b]] w fun e w' => e = .returned (.tuple #[.string (bTextV a b), .bool (brineB a b)]) ∧ Ext w w' := by
  unfold bTextV
  cases hb : brineB a b
  · rw [if_neg (by simp)]
    go_enter Tryd.func27, Tryd.ntmps27
    go_wp2_with (first | (go_at_call 49; refine (l2Brine_any _ _ _).mono ?_; rintro e w1 ⟨rfl, hx⟩; (try replace hx := Ext.flat hx); obtain ⟨x, rfl⟩ := hx.to_gw; clear hx))
    go_ret2
    exact ⟨rfl, by repeat (with_reducible first | exact Ext.refl _ | refine Ext.setCell ?_ (by first | (simp; done) | (simp; omega)) _ | refine Ext.alloc ?_ _ | refine Ext.gw ?_ _ | refine Ext.drew ?_)⟩
  · rw [if_pos rfl]
    have HB := Lib.hid (brineB_iff.1 hb)
    go_enter Tryd.func27, Tryd.ntmps27
    go_wp2_with (first | (go_at_call 49; refine (l2Brine_any _ _ _).mono ?_; rintro e w1 ⟨rfl, hx⟩; (try replace hx := Ext.flat hx); obtain ⟨x, rfl⟩ := hx.to_gw; clear hx) | (go_at_call 50; refine (l2Text_any _ _ _ HB.out).mono ?_; rintro e w1 ⟨rfl, hx⟩; (try replace hx := Ext.flat hx); obtain ⟨x, rfl⟩ := hx.to_gw; clear hx))
    go_ret2
    exact ⟨rfl, by repeat (with_reducible first | exact Ext.refl _ | refine Ext.setCell ?_ (by first | (simp; done) | (simp; omega)) _ | refine Ext.alloc ?_ _ | refine Ext.gw ?_ _ | refine Ext.drew ?_)⟩
set_option maxHeartbeats 1000000 in
theorem implBrineText_any (a b : Int) (w : World) (ht : TabW w) : Calls Tryd.prog 29 #[.agg #[.int .i64 a, .int .i64 b]] w fun e w' => e = .returned (.tuple #[.string (bTextV a b), .bool (brineB a b)]) ∧ Ext w w' := by
  have HT := Lib.hid ht
  clear ht
  unfold bTextV
  cases hb : brineB a b
  · rw [if_neg (by simp)]
    go_enter Tryd.func29, Tryd.ntmps29
    go_wp2_with (first | (go_at_call 65; refine (isBrine_any _ _ _).mono ?_; rintro e w1 ⟨rfl, hx⟩; (try replace hx := Ext.flat hx); obtain ⟨x, rfl⟩ := hx.to_gw; clear hx))
    go_ret2
    exact ⟨rfl, by repeat (with_reducible first | exact Ext.refl _ | refine Ext.setCell ?_ (by first | (simp; done) | (simp; omega)) _ | refine Ext.alloc ?_ _ | refine Ext.gw ?_ _ | refine Ext.drew ?_)⟩
  · rw [if_pos rfl]
    obtain ⟨⟨a0, a1⟩, b0, b1⟩ := brineB_iff.1 hb
    have hza := iB_size (n := a) (by omega) (by omega)
    have hzb := iB_size (n := b) (by omega) (by omega)
    go_enter Tryd.func29, Tryd.ntmps29
    go_wp2_with (first | (go_at_call 65; refine (isBrine_any _ _ _).mono ?_; rintro e w1 ⟨rfl, hx⟩; (try replace hx := Ext.flat hx); obtain ⟨x, rfl⟩ := hx.to_gw; clear hx))
    refine wp_region_grow (by kernel_rfl) (by kernel_rfl) ?_
    repeat (go_big_quiet_step (first | (go_at_call 46; exact grow_of (decimal_any _ _ (by omega) (by omega) (HT.out.ext (by repeat (with_reducible first | exact Ext.refl _ | refine Ext.setCell ?_ (by first | (simp; done) | (simp; omega)) _ | refine Ext.alloc ?_ _ | refine Ext.gw ?_ _ | refine Ext.drew ?_) : Ext w _))))))
    refine wpQuiet_nil ?_
    rintro _ ⟨xq, rfl⟩
    go_wp2
    go_ret2
    exact ⟨rfl, by repeat (with_reducible first | exact Ext.refl _ | refine Ext.setCell ?_ (by first | (simp; done) | (simp; omega)) _ | refine Ext.alloc ?_ _ | refine Ext.gw ?_ _ | refine Ext.drew ?_)⟩
theorem FnExactBrineText_walk (a b : Int) (w : World) (ht : TabW w) : Calls Tryd.prog 7 #[.agg #[.int .i64 a, .int .i64 b]] w fun e w' => e = .returned (.bool true) ∧ Ext w w' := by
  have HT := Lib.hid ht
  clear ht
  go_enter Tryd.func7, Tryd.ntmps7
  go_wp2_with (first | (go_at_call 28; refine (toBrine_any _ _ _).mono ?_; rintro e w1 ⟨rfl, hx⟩; (try replace hx := Ext.flat hx); obtain ⟨x, rfl⟩ := hx.to_gw; clear hx) | (go_at_call 27; refine (specBrineText_any _ _ _).mono ?_; rintro e w1 ⟨rfl, hx⟩; (try replace hx := Ext.flat hx); obtain ⟨x, rfl⟩ := hx.to_gw; clear hx) | (go_at_call 29; refine (implBrineText_any _ _ _ (HT.out.ext (by repeat (with_reducible first | exact Ext.refl _ | refine Ext.setCell ?_ (by first | (simp; done) | (simp; omega)) _ | refine Ext.alloc ?_ _ | refine Ext.gw ?_ _ | refine Ext.drew ?_) : Ext w _))).mono ?_; rintro e w1 ⟨rfl, hx⟩; (try replace hx := Ext.flat hx); obtain ⟨x, rfl⟩ := hx.to_gw; clear hx))
  go_ret
  exact ⟨rfl, by repeat (with_reducible first | exact Ext.refl _ | refine Ext.setCell ?_ (by first | (simp; done) | (simp; omega)) _ | refine Ext.alloc ?_ _ | refine Ext.gw ?_ _ | refine Ext.drew ?_)⟩
end Go.Proofs.YtpmbnfoilhfobaaDoor
