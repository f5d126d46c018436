/- FormatInt: the contracts and the walk of its law. -/
import Derived.Test.YtpmbnfoilhfobaaDoorTab
namespace Go.Proofs.YtpmbnfoilhfobaaDoor
open Go.RowKit
set_option linter.unusedVariables false

def fmtS (n : Int) : ByteArray := if inB n (-999999) 999999 = true then iB n else ⟨#[]⟩
theorem specFormat_any (n : Int) (w : World) : Calls Tryd.prog 20 #[.int .i64 n] w fun e w' => e = .returned (.tuple #[.string (fmtS n), .bool (inB n (-999999) 999999)]) ∧ Ext w w' := by
  unfold fmtS
  cases hb : inB n (-999999) 999999
  · rw [if_neg (by simp)]
    go_enter Tryd.func20, Tryd.ntmps20
    go_wp2_with (first | (go_at_call 56; refine (l1In_any _ _ _ _).mono ?_; rintro e w1 ⟨rfl, rfl⟩))
    go_ret2
    exact ⟨rfl, by repeat (with_reducible first | exact Ext.refl _ | refine Ext.setCell ?_ (by first | (simp; done) | (simp; omega)) _ | refine Ext.alloc ?_ _ | refine Ext.gw ?_ _ | refine Ext.drew ?_)⟩
  · rw [if_pos rfl]
    have HB := Lib.hid (inB_iff.1 hb)
    go_enter Tryd.func20, Tryd.ntmps20
    go_wp2_with (first | (go_at_call 56; refine (l1In_any _ _ _ _).mono ?_; rintro e w1 ⟨rfl, rfl⟩) | (go_at_call 57; refine (l1Num_any _ _ (by have := HB.out; omega) (by have := HB.out; omega)).mono ?_; rintro e w1 ⟨rfl, hx⟩; (try replace hx := Ext.flat hx); obtain ⟨x, rfl⟩ := hx.to_gw; clear hx))
    go_ret2
    exact ⟨rfl, by repeat (with_reducible first | exact Ext.refl _ | refine Ext.setCell ?_ (by first | (simp; done) | (simp; omega)) _ | refine Ext.alloc ?_ _ | refine Ext.gw ?_ _ | refine Ext.drew ?_)⟩
theorem implFormat_any (n : Int) (w : World) (ht : TabW w) : Calls Tryd.prog 19 #[.int .i64 n] w fun e w' => e = .returned (.tuple #[.string (fmtS n), .bool (inB n (-999999) 999999)]) ∧ Ext w w' := by
  have HT := Lib.hid ht
  clear ht
  unfold fmtS
  cases hb : inB n (-999999) 999999
  · rw [if_neg (by simp)]
    go_enter Tryd.func19, Tryd.ntmps19
    go_wp2_with (first | (go_at_call 45; refine (within_any _ _ _ _).mono ?_; rintro e w1 ⟨rfl, rfl⟩))
    go_ret2
    exact ⟨rfl, by repeat (with_reducible first | exact Ext.refl _ | refine Ext.setCell ?_ (by first | (simp; done) | (simp; omega)) _ | refine Ext.alloc ?_ _ | refine Ext.gw ?_ _ | refine Ext.drew ?_)⟩
  · rw [if_pos rfl]
    have HB := Lib.hid (inB_iff.1 hb)
    go_enter Tryd.func19, Tryd.ntmps19
    go_wp2_with (first | (go_at_call 45; refine (within_any _ _ _ _).mono ?_; rintro e w1 ⟨rfl, rfl⟩) | (go_at_call 46; refine (decimal_any _ _ (by have := HB.out; omega) (by have := HB.out; omega) HT.out).mono ?_; rintro e w1 ⟨rfl, hx⟩; (try replace hx := Ext.flat hx); obtain ⟨x, rfl⟩ := hx.to_gw; clear hx))
    go_ret2
    exact ⟨rfl, by repeat (with_reducible first | exact Ext.refl _ | refine Ext.setCell ?_ (by first | (simp; done) | (simp; omega)) _ | refine Ext.alloc ?_ _ | refine Ext.gw ?_ _ | refine Ext.drew ?_)⟩
theorem FnExactFormatInt_walk (n : Int) (w : World) (ht : TabW w) : Calls Tryd.prog 6 #[.int .i64 n] w fun e w' => e = .returned (.bool true) ∧ Ext w w' := by
  have HT := Lib.hid ht
  clear ht
  go_enter Tryd.func6, Tryd.ntmps6
  go_wp2_with (first | (go_at_call 20; refine (specFormat_any _ _).mono ?_; rintro e w1 ⟨rfl, hx⟩; (try replace hx := Ext.flat hx); obtain ⟨x, rfl⟩ := hx.to_gw; clear hx) | (go_at_call 19; refine (implFormat_any _ _ (HT.out.ext (ext_gw _ _))).mono ?_; rintro e w1 ⟨rfl, hx⟩; (try replace hx := Ext.flat hx); obtain ⟨x, rfl⟩ := hx.to_gw; clear hx))
  go_ret
  exact ⟨rfl, by repeat (with_reducible first | exact Ext.refl _ | refine Ext.setCell ?_ (by first | (simp; done) | (simp; omega)) _ | refine Ext.alloc ?_ _ | refine Ext.gw ?_ _ | refine Ext.drew ?_)⟩
end Go.Proofs.YtpmbnfoilhfobaaDoor
