/- The numeral of a number: the reference's and the program's, by the library's word for it. -/
import Derived.Test.YtpmbnfoilhfobaaDoorInts
import Derived.Test.YtpmbnfoilhfobaaDoorBytes
import Derived.Lib.ItoaNum
import Derived.Lib.ItoaLen
namespace Go.Proofs.YtpmbnfoilhfobaaDoor
open Go.RowKit
set_option linter.unusedVariables false

def iB (n : Int) : ByteArray := ⟨(Lib.itoa n).toArray⟩
theorem iB_size {n : Int} (h0 : -9223372036854775808 ≤ n) (h1 : n ≤ 9223372036854775807) : (iB n).size ≤ 21 := by
  have := Lib.itoa_length_le n h0 h1
  show (Lib.itoa n).toArray.size ≤ 21
  simpa using this
def digs : ByteArray := ⟨#[48, 49, 50, 51, 52, 53, 54, 55, 56, 57]⟩
theorem digs_at : ∀ i : Fin 10, digs.extract i.val (i.val + 1) = ⟨(Lib.decDigits i.val).toArray⟩ := by
  intro i
  rw [Lib.decDigits_one i.isLt]
  revert i
  decide +kernel
theorem itoa_nat (u : Nat) : Lib.itoa (u : Int) = Lib.decDigits u := by
  unfold Lib.itoa
  rw [if_neg (by omega), Int.toNat_natCast]
theorem digs_one {u : Nat} (h : u < 10) : digs.extract u (u + 1) = iB u := by
  unfold iB
  rw [itoa_nat]
  exact digs_at ⟨u, h⟩
theorem iB_step {u : Nat} (h : ¬ u < 10) : iB ((u / 10 : Nat) : Int) ++ digs.extract (u % 10) (u % 10 + 1) = iB u := by
  rw [digs_one (Nat.mod_lt _ (by omega))]
  unfold iB
  rw [itoa_nat, itoa_nat, itoa_nat, ByteArray.mk_append_mk]
  congr 2
  conv => rhs; rw [Lib.decDigits, dif_neg h]
  rw [Lib.decDigits_one (Nat.mod_lt _ (by omega))]
theorem iB_neg {n : Int} (h : n < 0) : (⟨#[45]⟩ : ByteArray) ++ iB (-n) = iB n := by
  obtain ⟨u, rfl⟩ : ∃ u : Nat, n = -(u : Int) := ⟨n.natAbs, by omega⟩
  rw [Int.neg_neg]
  unfold iB
  rw [itoa_nat]
  unfold Lib.itoa
  rw [if_pos h, Int.natAbs_neg, Int.natAbs_natCast]
  exact ByteArray.mk_append_mk [45] (Lib.decDigits u)
set_option maxHeartbeats 1000000 in
theorem l1Num_nat (u : Nat) : ∀ w, u ≤ 999999999999 → Calls Tryd.prog 57 #[.int .i64 (u : Int)] w fun e w' => e = .returned (.string (iB u)) ∧ Ext w w' := by
  induction u using Nat.strongRecOn with
  | _ u ih =>
  intro w hu
  by_cases h : u < 10
  · have h1 := digs_one h
    have h0 : digs.size = 10 := rfl
    unfold digs at h1
    have H1 := Lib.hid h1
    clear h1 h0 ih
    go_enter Tryd.func57, Tryd.ntmps57
    go_wp2_with fail
    go_ret
    exact ⟨by rw [← H1.out]; rfl, by repeat (with_reducible first | exact Ext.refl _ | refine Ext.setCell ?_ (by first | (simp; done) | (simp; omega)) _ | refine Ext.alloc ?_ _ | refine Ext.gw ?_ _ | refine Ext.drew ?_)⟩
  · have IH := Lib.hid (fun w => ih (u / 10) (by omega) w (by omega))
    rw [show ((u / 10 : Nat) : Int) = (u : Int) / 10 by omega] at IH
    have H1 := Lib.hid (iB_step h)
    rw [show ((u / 10 : Nat) : Int) = (u : Int) / 10 by omega] at H1
    have hz := iB_size (n := (u : Int) / 10) (by omega) (by omega)
    clear ih
    go_enter Tryd.func57, Tryd.ntmps57
    go_wp2_with fail
    first | refine wp_region_grow2 (by kernel_rfl) (by kernel_rfl) ?_ | refine wp_region_grow (by kernel_rfl) (by kernel_rfl) ?_
    repeat (go_big_quiet_step (first | (go_at_call 57; exact grow_of (IH.out _))))
    refine wpQuiet_nil ?_
    rintro _ ⟨xq, rfl⟩
    go_wp2
    go_ret
    exact ⟨by rw [← H1.out]; rfl, by repeat (with_reducible first | exact Ext.refl _ | refine Ext.setCell ?_ (by first | (simp; done) | (simp; omega)) _ | refine Ext.alloc ?_ _ | refine Ext.gw ?_ _ | refine Ext.drew ?_)⟩
theorem l1Num_any (n : Int) (w : World) (h0 : -999999999999 ≤ n) (h1 : n ≤ 999999999999) : Calls Tryd.prog 57 #[.int .i64 n] w fun e w' => e = .returned (.string (iB n)) ∧ Ext w w' := by
  by_cases h : 0 ≤ n
  · obtain ⟨u, rfl⟩ : ∃ u : Nat, n = (u : Int) := ⟨n.toNat, by omega⟩
    exact l1Num_nat u w (by omega)
  · have hneg : n < 0 := by omega
    clear h
    have HN := Lib.hid (fun w => l1Num_nat n.natAbs w (by omega))
    have HA := Lib.hid (show ((n.natAbs : Nat) : Int) = -n by omega)
    rw [HA.out] at HN
    have HS := Lib.hid (iB_neg (show n < 0 by omega))
    have hz := iB_size (n := -n) (by omega) (by omega)
    clear HA
    go_enter Tryd.func57, Tryd.ntmps57
    go_wp2_with (go_at_call 57; refine (HN.out _).mono ?_; rintro e w1 ⟨rfl, hx⟩; (try replace hx := Ext.flat hx); obtain ⟨x, rfl⟩ := hx.to_gw; clear hx)
    go_ret
    exact ⟨by rw [← HS.out]; rfl, by repeat (with_reducible first | exact Ext.refl _ | refine Ext.setCell ?_ (by first | (simp; done) | (simp; omega)) _ | refine Ext.alloc ?_ _ | refine Ext.gw ?_ _ | refine Ext.drew ?_)⟩
end Go.Proofs.YtpmbnfoilhfobaaDoor
