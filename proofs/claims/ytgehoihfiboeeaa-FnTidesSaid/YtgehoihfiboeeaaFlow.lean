/- Spans of minutes: plain words, an append of two numbers, the closures, the flow. -/
import Derived.Test.YtgehoihfiboeeaaTideAt
import Derived.Test.YtgehoihfiboeeaaIntL
namespace Go.Proofs.Ytgehoihfiboeeaa
open Go.RowKit
set_option linter.unusedVariables false

def spanStep (l : List Int) (k : Int) : List Int := if 0 < l.length ∧ l.getD (l.length - 1) 0 = k - 1 then l.set (l.length - 1) k else l ++ [k, k]
theorem spanStep_nil {l : List Int} {k : Int} (h : l.length = 0) : spanStep l k = l ++ [k, k] := if_neg (fun hh => by omega)
theorem spanStep_last {l : List Int} {k z : Int} {q : Nat} (hl : q + 1 = l.length) (hz : l.getD q 0 = z) (h : z = k - 1) : spanStep l k = l.set q k := by
  unfold spanStep
  rw [← hl, Nat.add_sub_cancel, if_pos ⟨by omega, by rw [hz]; exact h⟩]
theorem spanStep_new {l : List Int} {k z : Int} {q : Nat} (hl : q + 1 = l.length) (hz : l.getD q 0 = z) (h : ¬ z = k - 1) : spanStep l k = l ++ [k, k] := by
  unfold spanStep
  rw [← hl, Nat.add_sub_cancel, if_neg (fun hh => h (by rw [← hz]; exact hh.2))]
def spanL (p : Nat → Bool) : Nat → List Int
  | 0 => []
  | k + 1 => if p k = true then spanStep (spanL p k) k else spanL p k
theorem span_len (p : Nat → Bool) (k : Nat) : (spanL p k).length ≤ 2 * k := by
  induction k with
  | zero => exact Nat.le_refl _
  | succ k ih =>
    unfold spanL
    split
    · unfold spanStep
      split
      · rw [List.length_set]; omega
      · simp only [List.length_append, List.length_cons, List.length_nil]; omega
    · omega
theorem mkL_app2 (l : List Int) (x y : Int) (i j : Nat) (hi : i < l.length) (hj : j < 1) : mkL (l ++ [x, y]) i j = mkL l i j := by
  simp only [mkL, mk1, List.getD_eq_getElem?_getD, List.getElem?_append_left hi]
theorem mkL_set (l : List Int) (k : Nat) (x : Int) (hk : k < l.length) (i j : Nat) (hj : j < 1) : mkL (l.set k x) i j = if i = k ∧ j = 0 then .int .i64 x else mkL l i j := by
  obtain rfl : j = 0 := by omega
  simp only [mkL, mk1, List.getD_eq_getElem?_getD]
  by_cases h : i = k
  · subst h
    rw [if_pos (by simp), List.getElem?_set_self hk]
    rfl
  · rw [if_neg (fun hh => h hh.1), List.getElem?_set_ne (fun hh => h hh.symm)]
/-- 'append(s, x, y)' of two numbers that lie in a block made just before. -/
theorem wpList_append_2 {P : Program} {ops : Array Oper} {rest : List Oper} {o : Oper} {a : Act} {Q : Exit → Act → World → Prop} {w : World} (Wb : World) (base : Nat) (hbs : Wb.heap.size = base) (hW : Ext Wb w) (hgd : o.guard = none) (s x : Operand) {t e bytes : Nat} {z : Value} (hE : ElemOk P t e z 1 bytes)
    (ho : o.op = .call { callee := .builtin .append, args := #[s, x], argTypes := #[t, t] }) {N : Nat} {l : List Int} (hN : N = l.length) {v : Value} (hs : a.eval s = v) (hown : OwnS w base e 1 v N (mkL l))
    (p q : Int) (t' : TypeId) (hx : a.eval x = .slice (some ⟨w.heap.size, 0, none⟩) 2 2) (hn : N < 1000000)
    (h : ∀ v' y, OwnS (gw Wb y) base e 1 v' (N + 2) (mkL (l ++ [p, q])) → wpList P ops Q rest (a.put o.dst v') (gw Wb y)) :
    wpList P ops Q (o :: rest) a (w.alloc (.cells #[.int .i64 p, .int .i64 q] t')) := by
  subst hN
  obtain ⟨xs, h2, h3⟩ := hown
  obtain ⟨i, hi, hz, hsz, hby⟩ := hE.hi
  refine wpList_append_own (P := P) (w.alloc (.cells #[.int .i64 p, .int .i64 q] t')) hgd s x t ho base e i z 1 bytes hE.ht hi hz hsz hby hE.hz hE.pos v l.length xs hs (h2.alloc _) ⟨w.heap.size, 0, none⟩ 2 2 [.int .i64 p, .int .i64 q] hx rfl ?_ ?_ ?_ ?_ ?_ ?_
  · intro j u hu
    have e1 : (⟨w.heap.size, 0, none⟩ : Addr).add j = ⟨w.heap.size, j, none⟩ := by unfold Addr.add; split <;> simp_all
    rw [e1, World.cell?_alloc_new]
    simpa using hu
  · intro u hu
    simp only [List.mem_cons, List.not_mem_nil, or_false] at hu
    rcases hu with rfl | rfl <;> rfl
  · unfold maxLen; omega
  · have := hE.small
    calc (l.length + 2) * bytes ≤ 1000002 * 64 := Nat.mul_le_mul (by omega) this
      _ ≤ 140737488355328 := by omega
  · have := hW.size_le
    have e : (w.alloc (.cells #[.int .i64 p, .int .i64 q] t')).heap.size = w.heap.size + 1 := by simp
    omega
  · intro v' w' hown' hgrow _
    have hx2 : Ext Wb w' := (hW.alloc _).grown hgrow (fun k hk => by have := (h2.lt k hk).1; omega)
    obtain ⟨y, rfl⟩ := hx2.to_gw
    refine h v' y ⟨_, hown', fun i j hi' hj => ?_⟩
    obtain rfl : j = 0 := by omega
    have hlen : xs.length = l.length := by rw [h2.1, Nat.mul_one]
    rw [Nat.mul_one, Nat.add_zero]
    by_cases hin : i < l.length
    · rw [List.getElem?_append_left (by omega)]
      have h4 := h3 i 0 hin (by omega)
      rw [Nat.mul_one, Nat.add_zero] at h4
      rw [h4, mkL_app2 l p q i 0 hin (by omega)]
    · rw [List.getElem?_append_right (by omega), hlen]
      simp only [mkL, mk1, List.getD_eq_getElem?_getD]
      rw [List.getElem?_append_right (by omega)]
      rcases (show i = l.length ∨ i = l.length + 1 by omega) with rfl | rfl
      · rw [Nat.sub_self]; rfl
      · rw [show l.length + 1 - l.length = 1 by omega]; rfl
def mxV (s p : Int) : Int := if s < p then p else s
def inP (s p num den : Int) : Bool := decide (den * mxV s p < num)
def outP (s p num den : Int) : Bool := decide (s < p) && decide (num < den * p)
def flowV (s p num den : Int) : Int := if inP s p num den = true then 1 else if outP s p num den = true then -1 else 0
theorem flow_in (s p num den : Int) : (flowV s p num den != 1) = !inP s p num den := by
  unfold flowV
  cases inP s p num den
  · cases outP s p num den <;> rfl
  · rfl
theorem flow_out (s p num den : Int) : (flowV s p num den != -1) = !outP s p num den := by
  unfold flowV
  cases h : inP s p num den
  · cases outP s p num den <;> rfl
  · have ho : outP s p num den = false := by
      unfold inP mxV at h
      unfold outP
      by_cases hsp : s < p
      · rw [if_pos hsp] at h
        have h2 := of_decide_eq_true h
        rw [decide_eq_false (show ¬ num < den * p by omega), Bool.and_false]
      · rw [decide_eq_false hsp, Bool.false_and]
    rw [ho]
    rfl
theorem mulS {x y : Int} (x0 : -500 ≤ x) (x1 : x ≤ 500) (y0 : 0 ≤ y) (y1 : y ≤ 1440) : (-720000 ≤ x * y ∧ x * y ≤ 720000) ∧ (-720000 ≤ y * x ∧ y * x ≤ 720000) := by
  have h1 := Int.mul_le_mul_of_nonneg_right x1 y0
  have h2 := Int.mul_le_mul_of_nonneg_right x0 y0
  rw [Int.mul_comm y x]
  omega
theorem inClo_any (s p num den : Int) (b1 b2 : Nat) (w : World) (s0 : -500 ≤ s) (s1 : s ≤ 500) (p0 : -500 ≤ p) (p1 : p ≤ 500) (d0 : 0 ≤ den) (d1 : den ≤ 1440) (h1 : w.cell? ⟨b1, 0, none⟩ = some (.int .i64 s)) (h2 : w.cell? ⟨b2, 0, none⟩ = some (.int .i64 p)) :
    Calls Try.prog 64 #[.int .i64 num, .int .i64 den, .pointer (some ⟨b1, 0, none⟩), .pointer (some ⟨b2, 0, none⟩)] w fun e w' => e = .returned (.bool (inP s p num den)) ∧ w = w' := by
  have q1 := (mulS s0 s1 d0 d1).1
  have q2 := (mulS p0 p1 d0 d1).1
  unfold inP mxV
  by_cases hsp : s < p
  · rw [if_pos hsp, Int.mul_comm]
    go_enter Try.func64, Try.ntmps64
    go_wp2
    go_ret
    exact ⟨rfl, rfl⟩
  · rw [if_neg hsp, Int.mul_comm]
    go_enter Try.func64, Try.ntmps64
    go_wp2
    go_ret
    exact ⟨rfl, rfl⟩
theorem outClo_any (s p num den : Int) (b1 b2 : Nat) (w : World) (s0 : -500 ≤ s) (s1 : s ≤ 500) (p0 : -500 ≤ p) (p1 : p ≤ 500) (d0 : 0 ≤ den) (d1 : den ≤ 1440) (h1 : w.cell? ⟨b1, 0, none⟩ = some (.int .i64 p)) (h2 : w.cell? ⟨b2, 0, none⟩ = some (.int .i64 s)) :
    Calls Try.prog 70 #[.int .i64 num, .int .i64 den, .pointer (some ⟨b1, 0, none⟩), .pointer (some ⟨b2, 0, none⟩)] w fun e w' => e = .returned (.bool (outP s p num den)) ∧ w = w' := by
  have q2 := (mulS p0 p1 d0 d1).1
  unfold outP
  by_cases hsp : s < p
  · rw [decide_eq_true hsp, Bool.true_and, Int.mul_comm]
    go_enter Try.func70, Try.ntmps70
    go_wp2
    go_ret
    exact ⟨rfl, rfl⟩
  · rw [decide_eq_false hsp, Bool.false_and]
    go_enter Try.func70, Try.ntmps70
    go_wp2
    go_ret
    exact ⟨rfl, rfl⟩
set_option maxRecDepth 20000 in
set_option maxHeartbeats 2000000 in
theorem l4Flow_any (A : Option Addr) (n c : Nat) (m : Nat → Mk) (s p t : Int) (w : World) (hc : c ≤ maxLen) (hnc : n ≤ c) (hr : Rd w A n 2 (mkF m)) (hv : tideP n m) (s0 : -500 ≤ s) (s1 : s ≤ 500) (p0 : -500 ≤ p) (p1 : p ≤ 500) (t0 : 0 ≤ t) (t1 : t ≤ 1440) :
    Calls Try.prog 71 #[.slice A n c, .int .i64 s, .int .i64 p, .int .i64 t] w fun e w' => e = .returned (.int .i64 (flowV s p (atN n m t) (atD n m t))) ∧ Ext w w' := by
  have HR := Lib.hid hr
  have HC := Lib.hid hc
  have HN := Lib.hid hnc
  have HV := Lib.hid hv
  obtain ⟨⟨n0, n1⟩, d0, d1⟩ := at_bd hv t0 t1
  have q1 := (mulS s0 s1 (show 0 ≤ atD n m t by omega) d1).2
  have q2 := (mulS p0 p1 (show 0 ≤ atD n m t by omega) d1).2
  clear hr hc hnc hv
  unfold flowV inP outP mxV
  by_cases hsp : s < p
  · rw [if_pos hsp]
    have hmx : max s p = p := by omega
    by_cases h1 : atD n m t * p < atN n m t
    · rw [if_pos (decide_eq_true h1)]
      go_enter Try.func71, Try.ntmps71
      go_wp2_with (first | (go_at_call 76; refine (l4At_any _ _ _ _ _ _ HC.out HN.out (by first | exact HR.out | exact HR.out.ext (ext_gw _ _)) HV.out (by omega) (by omega)).mono ?_; rintro e w1 ⟨rfl, hx⟩; (try replace hx := Ext.flat hx); obtain ⟨x, rfl⟩ := hx.to_gw; clear hx) | (go_at_call 53; refine (l1Most_any _ _ _).mono ?_; rintro e w1 ⟨rfl, rfl⟩))
      go_ret
      exact ⟨rfl, by repeat (with_reducible first | exact Ext.refl _ | refine Ext.setCell ?_ (by first | (simp; done) | (simp; omega)) _ | refine Ext.alloc ?_ _ | refine Ext.gw ?_ _ | refine Ext.drew ?_)⟩
    · rw [if_neg (by simpa using h1)]
      by_cases h2 : atN n m t < atD n m t * p
      · rw [if_pos (by simp [hsp, h2])]
        go_enter Try.func71, Try.ntmps71
        go_wp2_with (first | (go_at_call 76; refine (l4At_any _ _ _ _ _ _ HC.out HN.out (by first | exact HR.out | exact HR.out.ext (ext_gw _ _)) HV.out (by omega) (by omega)).mono ?_; rintro e w1 ⟨rfl, hx⟩; (try replace hx := Ext.flat hx); obtain ⟨x, rfl⟩ := hx.to_gw; clear hx) | (go_at_call 53; refine (l1Most_any _ _ _).mono ?_; rintro e w1 ⟨rfl, rfl⟩))
        go_ret
        exact ⟨rfl, by repeat (with_reducible first | exact Ext.refl _ | refine Ext.setCell ?_ (by first | (simp; done) | (simp; omega)) _ | refine Ext.alloc ?_ _ | refine Ext.gw ?_ _ | refine Ext.drew ?_)⟩
      · rw [if_neg (by simp only [Bool.and_eq_true, decide_eq_true_eq]; omega)]
        go_enter Try.func71, Try.ntmps71
        go_wp2_with (first | (go_at_call 76; refine (l4At_any _ _ _ _ _ _ HC.out HN.out (by first | exact HR.out | exact HR.out.ext (ext_gw _ _)) HV.out (by omega) (by omega)).mono ?_; rintro e w1 ⟨rfl, hx⟩; (try replace hx := Ext.flat hx); obtain ⟨x, rfl⟩ := hx.to_gw; clear hx) | (go_at_call 53; refine (l1Most_any _ _ _).mono ?_; rintro e w1 ⟨rfl, rfl⟩))
        go_ret
        exact ⟨rfl, by repeat (with_reducible first | exact Ext.refl _ | refine Ext.setCell ?_ (by first | (simp; done) | (simp; omega)) _ | refine Ext.alloc ?_ _ | refine Ext.gw ?_ _ | refine Ext.drew ?_)⟩
  · rw [if_neg hsp]
    have hmx : max s p = s := by omega
    by_cases h1 : atD n m t * s < atN n m t
    · rw [if_pos (decide_eq_true h1)]
      go_enter Try.func71, Try.ntmps71
      go_wp2_with (first | (go_at_call 76; refine (l4At_any _ _ _ _ _ _ HC.out HN.out (by first | exact HR.out | exact HR.out.ext (ext_gw _ _)) HV.out (by omega) (by omega)).mono ?_; rintro e w1 ⟨rfl, hx⟩; (try replace hx := Ext.flat hx); obtain ⟨x, rfl⟩ := hx.to_gw; clear hx) | (go_at_call 53; refine (l1Most_any _ _ _).mono ?_; rintro e w1 ⟨rfl, rfl⟩))
      go_ret
      exact ⟨rfl, by repeat (with_reducible first | exact Ext.refl _ | refine Ext.setCell ?_ (by first | (simp; done) | (simp; omega)) _ | refine Ext.alloc ?_ _ | refine Ext.gw ?_ _ | refine Ext.drew ?_)⟩
    · rw [if_neg (by simpa using h1), if_neg (by simp only [Bool.and_eq_true, decide_eq_true_eq]; omega)]
      go_enter Try.func71, Try.ntmps71
      go_wp2_with (first | (go_at_call 76; refine (l4At_any _ _ _ _ _ _ HC.out HN.out (by first | exact HR.out | exact HR.out.ext (ext_gw _ _)) HV.out (by omega) (by omega)).mono ?_; rintro e w1 ⟨rfl, hx⟩; (try replace hx := Ext.flat hx); obtain ⟨x, rfl⟩ := hx.to_gw; clear hx) | (go_at_call 53; refine (l1Most_any _ _ _).mono ?_; rintro e w1 ⟨rfl, rfl⟩))
      go_ret
      exact ⟨rfl, by repeat (with_reducible first | exact Ext.refl _ | refine Ext.setCell ?_ (by first | (simp; done) | (simp; omega)) _ | refine Ext.alloc ?_ _ | refine Ext.gw ?_ _ | refine Ext.drew ?_)⟩
end Go.Proofs.Ytgehoihfiboeeaa
