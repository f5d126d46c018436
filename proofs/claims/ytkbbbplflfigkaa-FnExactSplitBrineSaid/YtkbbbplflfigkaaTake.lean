/- TakePart: the contracts, and the walk of the law. -/
import Derived.Test.YtkbbbplflfigkaaIntFns
import Derived.Test.YtkbbbplflfigkaaTail
namespace Go.Proofs.Ytkbbbplflfigkaa
open Go.RowKit

def takeP (a b n : Int) : Prop := ((0 ≤ a ∧ a ≤ 1000000) ∧ (0 ≤ b ∧ b ≤ 1000000)) ∧ 0 ≤ n ∧ n ≤ a + b
def partS (a b n : Int) : Int := b * n / (a + b)
theorem partS_zero (a b : Int) : partS a b 0 = 0 := by unfold partS; rw [Int.mul_zero, Int.zero_ediv]
theorem part_facts {a b n : Int} (a0 : 0 ≤ a) (a1 : a ≤ 1000000) (b0 : 0 ≤ b) (b1 : b ≤ 1000000) (n0 : 0 ≤ n) (n1 : n ≤ a + b) :
    (0 ≤ b * n ∧ b * n ≤ 2000000000000) ∧ 0 ≤ partS a b n ∧ partS a b n ≤ b ∧ partS a b n ≤ n ∧ n - partS a b n ≤ a := by
  have m0 : 0 ≤ b * n := Int.mul_nonneg b0 n0
  have m1 : b * n ≤ 1000000 * 2000000 := Int.mul_le_mul b1 (by omega) n0 (by omega)
  refine ⟨⟨m0, by omega⟩, ?_⟩
  by_cases hm : a + b = 0
  · obtain rfl : n = 0 := by omega
    rw [partS_zero]
    omega
  · unfold partS
    have hp : 0 < a + b := by omega
    refine ⟨Int.ediv_nonneg m0 (by omega), ?_, ?_, ?_⟩
    · refine Int.ediv_le_of_le_mul hp ?_
      exact Int.mul_le_mul_of_nonneg_left n1 b0
    · refine Int.ediv_le_of_le_mul hp ?_
      rw [Int.mul_comm b n]
      exact Int.mul_le_mul_of_nonneg_left (by omega) n0
    · have h : n - a ≤ b * n / (a + b) := by
        rw [Int.le_ediv_iff_mul_le hp, Int.sub_mul, Int.mul_add, Int.mul_add, Int.mul_comm n b]
        have h1 : a * n ≤ a * (a + b) := Int.mul_le_mul_of_nonneg_left n1 a0
        rw [Int.mul_add, Int.mul_comm a n] at h1
        omega
      omega

theorem l2Part_any (a b n : Int) (w : World) (a0 : 0 ≤ a) (a1 : a ≤ 1000000) (b0 : 0 ≤ b) (b1 : b ≤ 1000000) (n0 : 0 ≤ n) (n1 : n ≤ a + b) :
    Calls Try.prog 64 #[.agg #[.int .i64 a, .int .i64 b], .int .i64 n] w fun e w' => e = .returned (.agg #[.int .i64 (n - partS a b n), .int .i64 (partS a b n)]) ∧ Ext w w' := by
  by_cases hz : n = 0
  · subst hz
    rw [partS_zero]
    go_enter Try.func64, Try.ntmps64
    go_wp2
    exact bodyPost_ret (v := .agg #[.int .i64 0, .int .i64 0]) (by simp [results, Try.results64, go_sem]) rfl ⟨rfl, by repeat (with_reducible first | exact Ext.refl _ | refine Ext.setCell ?_ (by first | (simp; done) | (simp; omega)) _ | refine Ext.alloc ?_ _ | refine Ext.gw ?_ _ | refine Ext.drew ?_)⟩
  · obtain ⟨⟨p0, p1⟩, q0, q1, q2, q3⟩ := part_facts a0 a1 b0 b1 n0 n1
    have hz : (n == 0) = false := by simp; omega
    have hm : 0 < a + b := by omega
    unfold partS at *
    go_enter Try.func64, Try.ntmps64
    go_wp2
    first | refine wp_region_grow2 (by kernel_rfl) (by kernel_rfl) ?_ | refine wp_region_grow (by kernel_rfl) (by kernel_rfl) ?_
    repeat (go_big_quiet_step (first | (go_at_call 56; exact grow_of (l2Mass_any _ _ _ (by omega) (by omega) (by omega) (by omega)))))
    refine wpQuiet_nil ?_
    rintro _ ⟨xq, rfl⟩
    go_wp2
    exact bodyPost_ret (v := .agg #[.int .i64 (n - b * n / (a + b)), .int .i64 (b * n / (a + b))]) (by simp [results, Try.results64, go_sem]) rfl ⟨rfl, by repeat (with_reducible first | exact Ext.refl _ | refine Ext.setCell ?_ (by first | (simp; done) | (simp; omega)) _ | refine Ext.alloc ?_ _ | refine Ext.gw ?_ _ | refine Ext.drew ?_)⟩
theorem part_any (a b n : Int) (w : World) (a0 : 0 ≤ a) (a1 : a ≤ 1000000) (b0 : 0 ≤ b) (b1 : b ≤ 1000000) (n0 : 0 ≤ n) (n1 : n ≤ a + b) :
    Calls Try.prog 66 #[.agg #[.int .i64 a, .int .i64 b], .int .i64 n] w fun e w' => e = .returned (.agg #[.int .i64 (n - partS a b n), .int .i64 (partS a b n)]) ∧ Ext w w' := by
  by_cases hz : n = 0
  · subst hz
    rw [partS_zero]
    go_enter Try.func66, Try.ntmps66
    go_wp2
    exact bodyPost_ret (v := .agg #[.int .i64 0, .int .i64 0]) (by simp [results, Try.results66, go_sem]) rfl ⟨rfl, by repeat (with_reducible first | exact Ext.refl _ | refine Ext.setCell ?_ (by first | (simp; done) | (simp; omega)) _ | refine Ext.alloc ?_ _ | refine Ext.gw ?_ _ | refine Ext.drew ?_)⟩
  · obtain ⟨⟨p0, p1⟩, q0, q1, q2, q3⟩ := part_facts a0 a1 b0 b1 n0 n1
    have hz : (n == 0) = false := by simp; omega
    have hm : 0 < a + b := by omega
    unfold partS at *
    go_enter Try.func66, Try.ntmps66
    go_wp2
    first | refine wp_region_grow2 (by kernel_rfl) (by kernel_rfl) ?_ | refine wp_region_grow (by kernel_rfl) (by kernel_rfl) ?_
    repeat (go_big_quiet_step (first | (go_at_call 58; exact grow_of (mass_any _ _ _ (by omega) (by omega) (by omega) (by omega)))))
    refine wpQuiet_nil ?_
    rintro _ ⟨xq, rfl⟩
    go_wp2
    exact bodyPost_ret (v := .agg #[.int .i64 (n - b * n / (a + b)), .int .i64 (b * n / (a + b))]) (by simp [results, Try.results66, go_sem]) rfl ⟨rfl, by repeat (with_reducible first | exact Ext.refl _ | refine Ext.setCell ?_ (by first | (simp; done) | (simp; omega)) _ | refine Ext.alloc ?_ _ | refine Ext.gw ?_ _ | refine Ext.drew ?_)⟩
theorem l2Left_any (a b c d : Int) (w : World) (a0 : 0 ≤ a) (a1 : a ≤ 1000000) (b0 : 0 ≤ b) (b1 : b ≤ 1000000) (c0 : 0 ≤ c) (c1 : c ≤ 2000000) (d0 : 0 ≤ d) (d1 : d ≤ 2000000) :
    Calls Try.prog 65 #[.agg #[.int .i64 a, .int .i64 b], .agg #[.int .i64 c, .int .i64 d]] w fun e w' => e = .returned (.agg #[.int .i64 (a - c), .int .i64 (b - d)]) ∧ Ext w w' := by
  go_enter Try.func65, Try.ntmps65
  go_wp2
  exact bodyPost_ret (v := .agg #[.int .i64 (a - c), .int .i64 (b - d)]) (by simp [results, Try.results65, go_sem]) rfl ⟨rfl, by repeat (with_reducible first | exact Ext.refl _ | refine Ext.setCell ?_ (by first | (simp; done) | (simp; omega)) _ | refine Ext.alloc ?_ _ | refine Ext.gw ?_ _ | refine Ext.drew ?_)⟩
theorem minus_any (a b c d : Int) (w : World) (a0 : 0 ≤ a) (a1 : a ≤ 1000000) (b0 : 0 ≤ b) (b1 : b ≤ 1000000) (c0 : 0 ≤ c) (c1 : c ≤ 2000000) (d0 : 0 ≤ d) (d1 : d ≤ 2000000) :
    Calls Try.prog 67 #[.agg #[.int .i64 a, .int .i64 b], .agg #[.int .i64 c, .int .i64 d]] w fun e w' => e = .returned (.agg #[.int .i64 (a - c), .int .i64 (b - d)]) ∧ Ext w w' := by
  go_enter Try.func67, Try.ntmps67
  go_wp2
  exact bodyPost_ret (v := .agg #[.int .i64 (a - c), .int .i64 (b - d)]) (by simp [results, Try.results67, go_sem]) rfl ⟨rfl, by repeat (with_reducible first | exact Ext.refl _ | refine Ext.setCell ?_ (by first | (simp; done) | (simp; omega)) _ | refine Ext.alloc ?_ _ | refine Ext.gw ?_ _ | refine Ext.drew ?_)⟩

theorem specTake_yes (a b n : Int) (w : World) (h : takeP a b n) : Calls Try.prog 34 #[.agg #[.int .i64 a, .int .i64 b], .int .i64 n] w fun e w' => e = .returned (.tuple #[.agg #[.int .i64 (n - partS a b n), .int .i64 (partS a b n)], .agg #[.int .i64 (a - (n - partS a b n)), .int .i64 (b - partS a b n)], .bool true]) ∧ Ext w w' := by
  obtain ⟨⟨⟨a0, a1⟩, b0, b1⟩, n0, n1⟩ := h
  have hb : brineB a b = true := brineB_iff.2 ⟨⟨a0, a1⟩, b0, b1⟩
  have hi : inB n 0 (a + b) = true := inB_pos n0 n1
  obtain ⟨_, q0, q1, q2, q3⟩ := part_facts a0 a1 b0 b1 n0 n1
  have hd : decide (a < n - partS a b n) = false := by simp; omega
  have hf : ∀ (x y : Int) (wx : World), (Instr.field 26 (.agg #[.int .i64 x, .int .i64 y]) 0).run Try.prog wx = .ok (.int .i64 x) wx := fun _ _ _ => by kernel_rfl
  go_enter Try.func34, Try.ntmps34
  go_wp2_with fail
  first | refine wp_region_grow2 (by kernel_rfl) (by kernel_rfl) ?_ | refine wp_region_grow (by kernel_rfl) (by kernel_rfl) ?_
  repeat (go_big_quiet_step (first | (go_at_call 49; exact grow_of (l2Brine_any _ _ _)) | (go_at_call 56; exact grow_of (l2Mass_any _ _ _ (by omega) (by omega) (by omega) (by omega))) | (go_at_call 63; exact grow_same (l1In_any _ _ _ _)) | (go_at_call 64; exact grow_of (l2Part_any _ _ _ _ (by omega) (by omega) (by omega) (by omega) (by omega) (by omega)))))
  refine wpQuiet_nil ?_
  rintro _ ⟨xq, rfl⟩
  go_wp2_with (first | (go_at_call 64; refine (l2Part_any _ _ _ _ (by omega) (by omega) (by omega) (by omega) (by omega) (by omega)).mono ?_; rintro e w1 ⟨rfl, hx⟩; (try replace hx := Ext.flat hx); obtain ⟨x, rfl⟩ := hx.to_gw; clear hx))
  first | refine wp_region_grow_tail2 4 (by kernel_rfl) (by kernel_rfl) ?_ | refine wp_region_grow_tail 4 (by kernel_rfl) (by kernel_rfl) ?_
  simp only [List.take_succ_cons, List.take_zero, List.drop_succ_cons, List.drop_zero]
  repeat (go_big_quiet_step (first | (go_at_call 65; exact grow_of (l2Left_any _ _ _ _ _ (by omega) (by omega) (by omega) (by omega) (by omega) (by omega) (by omega) (by omega)))))
  refine wpQuiet_nil ?_
  rintro _ ⟨xq, rfl⟩
  go_wp2
  exact bodyPost_ret (v := .tuple #[.agg #[.int .i64 (n - partS a b n), .int .i64 (partS a b n)], .agg #[.int .i64 (a - (n - partS a b n)), .int .i64 (b - partS a b n)], .bool true]) (by simp [results, Try.results34, go_sem]) rfl ⟨rfl, by repeat (with_reducible first | exact Ext.refl _ | refine Ext.setCell ?_ (by first | (simp; done) | (simp; omega)) _ | refine Ext.alloc ?_ _ | refine Ext.gw ?_ _ | refine Ext.drew ?_)⟩
theorem implTake_yes (a b n : Int) (w : World) (h : takeP a b n) : Calls Try.prog 35 #[.agg #[.int .i64 a, .int .i64 b], .int .i64 n] w fun e w' => e = .returned (.tuple #[.agg #[.int .i64 (n - partS a b n), .int .i64 (partS a b n)], .agg #[.int .i64 (a - (n - partS a b n)), .int .i64 (b - partS a b n)], .bool true]) ∧ Ext w w' := by
  obtain ⟨⟨⟨a0, a1⟩, b0, b1⟩, n0, n1⟩ := h
  have hb : brineB a b = true := brineB_iff.2 ⟨⟨a0, a1⟩, b0, b1⟩
  have hi : inB n 0 (a + b) = true := inB_pos n0 n1
  obtain ⟨_, q0, q1, q2, q3⟩ := part_facts a0 a1 b0 b1 n0 n1
  have hd : decide (a < n - partS a b n) = false := by simp; omega
  have hf : ∀ (x y : Int) (wx : World), (Instr.field 26 (.agg #[.int .i64 x, .int .i64 y]) 0).run Try.prog wx = .ok (.int .i64 x) wx := fun _ _ _ => by kernel_rfl
  go_enter Try.func35, Try.ntmps35
  go_wp2_with (first | (go_at_call 19; refine (isBrine_any _ _ _).mono ?_; rintro e w1 ⟨rfl, hx⟩; (try replace hx := Ext.flat hx); obtain ⟨x, rfl⟩ := hx.to_gw; clear hx) | (go_at_call 58; refine (mass_any _ _ _ (by omega) (by omega) (by omega) (by omega)).mono ?_; rintro e w1 ⟨rfl, hx⟩; (try replace hx := Ext.flat hx); obtain ⟨x, rfl⟩ := hx.to_gw; clear hx) | (go_at_call 50; refine (within_any _ _ _ _).mono ?_; rintro e w1 ⟨rfl, rfl⟩) | (go_at_call 66; refine (part_any _ _ _ _ (by omega) (by omega) (by omega) (by omega) (by omega) (by omega)).mono ?_; rintro e w1 ⟨rfl, hx⟩; (try replace hx := Ext.flat hx); obtain ⟨x, rfl⟩ := hx.to_gw; clear hx))
  first | refine wp_region_grow_tail2 4 (by kernel_rfl) (by kernel_rfl) ?_ | refine wp_region_grow_tail 4 (by kernel_rfl) (by kernel_rfl) ?_
  simp only [List.take_succ_cons, List.take_zero, List.drop_succ_cons, List.drop_zero]
  repeat (go_big_quiet_step (first | (go_at_call 67; exact grow_of (minus_any _ _ _ _ _ (by omega) (by omega) (by omega) (by omega) (by omega) (by omega) (by omega) (by omega)))))
  refine wpQuiet_nil ?_
  rintro _ ⟨xq, rfl⟩
  go_wp2
  exact bodyPost_ret (v := .tuple #[.agg #[.int .i64 (n - partS a b n), .int .i64 (partS a b n)], .agg #[.int .i64 (a - (n - partS a b n)), .int .i64 (b - partS a b n)], .bool true]) (by simp [results, Try.results35, go_sem]) rfl ⟨rfl, by repeat (with_reducible first | exact Ext.refl _ | refine Ext.setCell ?_ (by first | (simp; done) | (simp; omega)) _ | refine Ext.alloc ?_ _ | refine Ext.gw ?_ _ | refine Ext.drew ?_)⟩
theorem specTake_no (a b n : Int) (w : World) (h : ¬ takeP a b n) : Calls Try.prog 34 #[.agg #[.int .i64 a, .int .i64 b], .int .i64 n] w fun e w' => e = .returned (.tuple #[.agg #[.int .i64 0, .int .i64 0], .agg #[.int .i64 0, .int .i64 0], .bool false]) ∧ Ext w w' := by
  by_cases hb : brineB a b = true
  · obtain ⟨⟨a0, a1⟩, b0, b1⟩ := brineB_iff.1 hb
    have hi : inB n 0 (a + b) = false := inB_neg (fun hn => h ⟨⟨⟨a0, a1⟩, b0, b1⟩, hn⟩)
    clear h
    go_enter Try.func34, Try.ntmps34
    go_wp2_with fail
    first | refine wp_region_grow2 (by kernel_rfl) (by kernel_rfl) ?_ | refine wp_region_grow (by kernel_rfl) (by kernel_rfl) ?_
    repeat (go_big_quiet_step (first | (go_at_call 49; exact grow_of (l2Brine_any _ _ _)) | (go_at_call 56; exact grow_of (l2Mass_any _ _ _ (by omega) (by omega) (by omega) (by omega))) | (go_at_call 63; exact grow_same (l1In_any _ _ _ _)) | (go_at_call 64; exact grow_of (l2Part_any _ _ _ _ (by omega) (by omega) (by omega) (by omega) (by omega) (by omega)))))
    refine wpQuiet_nil ?_
    rintro _ ⟨xq, rfl⟩
    go_wp2_with (first | (go_at_call 64; refine (l2Part_any _ _ _ _ (by omega) (by omega) (by omega) (by omega) (by omega) (by omega)).mono ?_; rintro e w1 ⟨rfl, hx⟩; (try replace hx := Ext.flat hx); obtain ⟨x, rfl⟩ := hx.to_gw; clear hx))
    exact bodyPost_ret (v := .tuple #[.agg #[.int .i64 0, .int .i64 0], .agg #[.int .i64 0, .int .i64 0], .bool false]) (by simp [results, Try.results34, go_sem]) rfl ⟨rfl, by repeat (with_reducible first | exact Ext.refl _ | refine Ext.setCell ?_ (by first | (simp; done) | (simp; omega)) _ | refine Ext.alloc ?_ _ | refine Ext.gw ?_ _ | refine Ext.drew ?_)⟩
  · have hb : brineB a b = false := by simpa using hb
    clear h
    go_enter Try.func34, Try.ntmps34
    go_wp2_with fail
    first | refine wp_region_grow2 (by kernel_rfl) (by kernel_rfl) ?_ | refine wp_region_grow (by kernel_rfl) (by kernel_rfl) ?_
    repeat (go_big_quiet_step (first | (go_at_call 49; exact grow_of (l2Brine_any _ _ _)) | (go_at_call 56; exact grow_of (l2Mass_any _ _ _ (by omega) (by omega) (by omega) (by omega))) | (go_at_call 63; exact grow_same (l1In_any _ _ _ _)) | (go_at_call 64; exact grow_of (l2Part_any _ _ _ _ (by omega) (by omega) (by omega) (by omega) (by omega) (by omega)))))
    refine wpQuiet_nil ?_
    rintro _ ⟨xq, rfl⟩
    go_wp2_with (first | (go_at_call 64; refine (l2Part_any _ _ _ _ (by omega) (by omega) (by omega) (by omega) (by omega) (by omega)).mono ?_; rintro e w1 ⟨rfl, hx⟩; (try replace hx := Ext.flat hx); obtain ⟨x, rfl⟩ := hx.to_gw; clear hx))
    exact bodyPost_ret (v := .tuple #[.agg #[.int .i64 0, .int .i64 0], .agg #[.int .i64 0, .int .i64 0], .bool false]) (by simp [results, Try.results34, go_sem]) rfl ⟨rfl, by repeat (with_reducible first | exact Ext.refl _ | refine Ext.setCell ?_ (by first | (simp; done) | (simp; omega)) _ | refine Ext.alloc ?_ _ | refine Ext.gw ?_ _ | refine Ext.drew ?_)⟩
theorem implTake_no (a b n : Int) (w : World) (h : ¬ takeP a b n) : Calls Try.prog 35 #[.agg #[.int .i64 a, .int .i64 b], .int .i64 n] w fun e w' => e = .returned (.tuple #[.agg #[.int .i64 0, .int .i64 0], .agg #[.int .i64 0, .int .i64 0], .bool false]) ∧ Ext w w' := by
  by_cases hb : brineB a b = true
  · obtain ⟨⟨a0, a1⟩, b0, b1⟩ := brineB_iff.1 hb
    have hi : inB n 0 (a + b) = false := inB_neg (fun hn => h ⟨⟨⟨a0, a1⟩, b0, b1⟩, hn⟩)
    clear h
    go_enter Try.func35, Try.ntmps35
    go_wp2_with (first | (go_at_call 19; refine (isBrine_any _ _ _).mono ?_; rintro e w1 ⟨rfl, hx⟩; (try replace hx := Ext.flat hx); obtain ⟨x, rfl⟩ := hx.to_gw; clear hx) | (go_at_call 58; refine (mass_any _ _ _ (by omega) (by omega) (by omega) (by omega)).mono ?_; rintro e w1 ⟨rfl, hx⟩; (try replace hx := Ext.flat hx); obtain ⟨x, rfl⟩ := hx.to_gw; clear hx) | (go_at_call 50; refine (within_any _ _ _ _).mono ?_; rintro e w1 ⟨rfl, rfl⟩) | (go_at_call 66; refine (part_any _ _ _ _ (by omega) (by omega) (by omega) (by omega) (by omega) (by omega)).mono ?_; rintro e w1 ⟨rfl, hx⟩; (try replace hx := Ext.flat hx); obtain ⟨x, rfl⟩ := hx.to_gw; clear hx))
    exact bodyPost_ret (v := .tuple #[.agg #[.int .i64 0, .int .i64 0], .agg #[.int .i64 0, .int .i64 0], .bool false]) (by simp [results, Try.results35, go_sem]) rfl ⟨rfl, by repeat (with_reducible first | exact Ext.refl _ | refine Ext.setCell ?_ (by first | (simp; done) | (simp; omega)) _ | refine Ext.alloc ?_ _ | refine Ext.gw ?_ _ | refine Ext.drew ?_)⟩
  · have hb : brineB a b = false := by simpa using hb
    clear h
    go_enter Try.func35, Try.ntmps35
    go_wp2_with (first | (go_at_call 19; refine (isBrine_any _ _ _).mono ?_; rintro e w1 ⟨rfl, hx⟩; (try replace hx := Ext.flat hx); obtain ⟨x, rfl⟩ := hx.to_gw; clear hx) | (go_at_call 58; refine (mass_any _ _ _ (by omega) (by omega) (by omega) (by omega)).mono ?_; rintro e w1 ⟨rfl, hx⟩; (try replace hx := Ext.flat hx); obtain ⟨x, rfl⟩ := hx.to_gw; clear hx) | (go_at_call 50; refine (within_any _ _ _ _).mono ?_; rintro e w1 ⟨rfl, rfl⟩) | (go_at_call 66; refine (part_any _ _ _ _ (by omega) (by omega) (by omega) (by omega) (by omega) (by omega)).mono ?_; rintro e w1 ⟨rfl, hx⟩; (try replace hx := Ext.flat hx); obtain ⟨x, rfl⟩ := hx.to_gw; clear hx))
    exact bodyPost_ret (v := .tuple #[.agg #[.int .i64 0, .int .i64 0], .agg #[.int .i64 0, .int .i64 0], .bool false]) (by simp [results, Try.results35, go_sem]) rfl ⟨rfl, by repeat (with_reducible first | exact Ext.refl _ | refine Ext.setCell ?_ (by first | (simp; done) | (simp; omega)) _ | refine Ext.alloc ?_ _ | refine Ext.gw ?_ _ | refine Ext.drew ?_)⟩
theorem eqBrine_any (a b : Int) (w : World) : Calls Try.prog 36 #[.agg #[.int .i64 a, .int .i64 b], .agg #[.int .i64 a, .int .i64 b]] w fun e w' => e = .returned (.bool true) ∧ Ext w w' := by
  go_enter Try.func36, Try.ntmps36
  go_wp2
  go_ret
  exact ⟨rfl, by repeat (with_reducible first | exact Ext.refl _ | refine Ext.setCell ?_ (by first | (simp; done) | (simp; omega)) _ | refine Ext.alloc ?_ _ | refine Ext.gw ?_ _ | refine Ext.drew ?_)⟩
theorem FnExactTakePart_walk (a b n : Int) (w : World) : Calls Try.prog 11 #[.agg #[.int .i64 a, .int .i64 b], .int .i64 n] w fun e w' => e = .returned (.bool true) ∧ Ext w w' := by
  by_cases h : takeP a b n
  · have H := Lib.hid h
    clear h
    go_enter Try.func11, Try.ntmps11
    go_wp2_with (first | (go_at_call 18; refine (toBrine_any _ _ _).mono ?_; rintro e w1 ⟨rfl, hx⟩; (try replace hx := Ext.flat hx); obtain ⟨x, rfl⟩ := hx.to_gw; clear hx) | (go_at_call 34; refine (specTake_yes _ _ _ _ H.out).mono ?_; rintro e w1 ⟨rfl, hx⟩; (try replace hx := Ext.flat hx); obtain ⟨x, rfl⟩ := hx.to_gw; clear hx) | (go_at_call 35; refine (implTake_yes _ _ _ _ H.out).mono ?_; rintro e w1 ⟨rfl, hx⟩; (try replace hx := Ext.flat hx); obtain ⟨x, rfl⟩ := hx.to_gw; clear hx) | (go_at_call 36; refine (eqBrine_any _ _ _).mono ?_; rintro e w1 ⟨rfl, hx⟩; (try replace hx := Ext.flat hx); obtain ⟨x, rfl⟩ := hx.to_gw; clear hx))
    go_ret
    exact ⟨rfl, by repeat (with_reducible first | exact Ext.refl _ | refine Ext.setCell ?_ (by first | (simp; done) | (simp; omega)) _ | refine Ext.alloc ?_ _ | refine Ext.gw ?_ _ | refine Ext.drew ?_)⟩
  · have H := Lib.hid h
    clear h
    go_enter Try.func11, Try.ntmps11
    go_wp2_with (first | (go_at_call 18; refine (toBrine_any _ _ _).mono ?_; rintro e w1 ⟨rfl, hx⟩; (try replace hx := Ext.flat hx); obtain ⟨x, rfl⟩ := hx.to_gw; clear hx) | (go_at_call 34; refine (specTake_no _ _ _ _ H.out).mono ?_; rintro e w1 ⟨rfl, hx⟩; (try replace hx := Ext.flat hx); obtain ⟨x, rfl⟩ := hx.to_gw; clear hx) | (go_at_call 35; refine (implTake_no _ _ _ _ H.out).mono ?_; rintro e w1 ⟨rfl, hx⟩; (try replace hx := Ext.flat hx); obtain ⟨x, rfl⟩ := hx.to_gw; clear hx) | (go_at_call 36; refine (eqBrine_any _ _ _).mono ?_; rintro e w1 ⟨rfl, hx⟩; (try replace hx := Ext.flat hx); obtain ⟨x, rfl⟩ := hx.to_gw; clear hx))
    go_ret
    exact ⟨rfl, by repeat (with_reducible first | exact Ext.refl _ | refine Ext.setCell ?_ (by first | (simp; done) | (simp; omega)) _ | refine Ext.alloc ?_ _ | refine Ext.gw ?_ _ | refine Ext.drew ?_)⟩
end Go.Proofs.Ytkbbbplflfigkaa
