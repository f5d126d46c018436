/- JoinStrings: the contracts and the walk of its law. -/
import Derived.Test.YtpmbnfoilhfobaaDoorHas
import Derived.Test.YtpmbnfoilhfobaaDoorEqS
import Derived.Test.YtpmbnfoilhfobaaDoorShJoin
namespace Go.Proofs.YtpmbnfoilhfobaaDoor
open Go.RowKit
set_option linter.unusedVariables false

/-- The bytes of the first k texts together. -/
def tS (l : List ByteArray) : Nat → Nat
  | 0 => 0
  | k + 1 => tS l k + (l.getD k ByteArray.empty).size
theorem tS_mono (l : List ByteArray) {i k : Nat} (h : i ≤ k) : tS l i ≤ tS l k := by
  induction k with
  | zero => obtain rfl : i = 0 := by omega
            exact Nat.le_refl _
  | succ k ih =>
    by_cases he : i = k + 1
    · rw [he]; exact Nat.le_refl _
    · have h2 := ih (by omega)
      show tS l i ≤ tS l k + _
      omega
/-- The first k texts, joined. -/
def jP (l : List ByteArray) (b : UInt8) : Nat → ByteArray
  | 0 => ⟨#[]⟩
  | k + 1 => (if k = 0 then jP l b k else jP l b k ++ (⟨#[b]⟩ : ByteArray)) ++ l.getD k ByteArray.empty
theorem jP_size (l : List ByteArray) (b : UInt8) (k : Nat) : (jP l b k).size = tS l k + (k - 1) := by
  induction k with
  | zero => rfl
  | succ k ih =>
    unfold jP tS
    by_cases h : k = 0
    · subst h
      rw [if_pos rfl, ByteArray.size_append]
      show 0 + _ = _
      simp [tS]
    · rw [if_neg h, ByteArray.size_append, ByteArray.size_append, ih]
      show _ + 1 + _ = _
      omega
theorem jP_list (l : List ByteArray) (b : UInt8) (k : Nat) (hk : k < l.length) : (jP l b (k + 1)).data.toList = Lib.join ((l.take (k + 1)).map (·.data.toList)) [b] := by
  induction k with
  | zero =>
    unfold jP
    rw [if_pos rfl]
    cases l with
    | nil => exact absurd hk (by decide)
    | cons x l =>
      simp only [List.take_succ_cons, List.take_zero, List.map_cons, List.map_nil, Lib.join_one]
      show ((⟨#[]⟩ : ByteArray) ++ x).data.toList = _
      simp [ByteArray.data_append]
  | succ k ih =>
    have h1 := ih (by omega)
    conv => lhs; unfold jP
    rw [if_neg (by omega)]
    simp only [ByteArray.data_append, Array.toList_append]
    rw [h1]
    cases l with
    | nil => exact absurd hk (by simp)
    | cons x l =>
      rw [List.take_succ_cons, List.take_succ_cons, List.map_cons, List.map_cons, Lib.join_cons, Lib.join_cons]
      have h2 : k < l.length := by simpa using hk
      have h3 : (l.map (·.data.toList))[k]? = some (l[k].data.toList) := by simp [h2]
      rw [List.map_take, List.map_take, Lib.joinTail_take_succ [b] _ k _ h3]
      simp [List.getD_eq_getElem?_getD, h2]
theorem jP_join (l : List ByteArray) (b : UInt8) (h : 0 < l.length) : jP l b l.length = ⟨(Lib.join (l.map (·.data.toList)) [b]).toArray⟩ := by
  obtain ⟨k, hk⟩ : ∃ k, l.length = k + 1 := ⟨l.length - 1, by omega⟩
  have h1 := jP_list l b k (by omega)
  rw [List.take_of_length_le (by omega)] at h1
  rw [hk]
  apply ByteArray.ext
  apply Array.toList_inj.1
  rw [h1]
open Classical in
/-- May these be joined at b? -/
noncomputable def jC (l : List ByteArray) (b : UInt8) : Bool := decide (0 < l.length ∧ (∀ i, i < l.length → hasB (l.getD i ByteArray.empty) b = false) ∧ tS l l.length + (l.length - 1) ≤ 4000)
noncomputable def jS (l : List ByteArray) (b : UInt8) : ByteArray := if jC l b = true then jP l b l.length else ⟨#[]⟩
open Classical in
theorem j_yes {l : List ByteArray} {b : UInt8} (h : 0 < l.length ∧ (∀ i, i < l.length → hasB (l.getD i ByteArray.empty) b = false) ∧ tS l l.length + (l.length - 1) ≤ 4000) : jC l b = true ∧ jS l b = jP l b l.length := by
  have h2 : jC l b = true := by unfold jC; exact decide_eq_true h
  exact ⟨h2, by unfold jS; rw [if_pos h2]⟩
open Classical in
theorem j_no {l : List ByteArray} {b : UInt8} (h : ¬ (0 < l.length ∧ (∀ i, i < l.length → hasB (l.getD i ByteArray.empty) b = false) ∧ tS l l.length + (l.length - 1) ≤ 4000)) : jC l b = false ∧ jS l b = ⟨#[]⟩ := by
  have h2 : jC l b = false := by unfold jC; exact decide_eq_false h
  exact ⟨h2, by unfold jS; rw [if_neg (by rw [h2]; simp)]⟩
set_option maxRecDepth 100000 in
set_option maxHeartbeats 4000000 in
theorem specJoin_any (A : Option Addr) (c : Nat) (l : List ByteArray) (b : UInt8) (w : World) (hc : c ≤ maxLen) (hnc : l.length ≤ c) (hr : Rd w A l.length 1 (mkS l)) (ht : tS l l.length ≤ 1048576) (hn : l.length ≤ 1048576) :
    Calls Tryd.prog 39 #[.slice A l.length c, .string ⟨#[b]⟩] w fun e w' => e = .returned (.tuple #[.string (jS l b), .bool (jC l b)]) ∧ Ext w w' := by
  unfold maxLen at *
  by_cases h0 : l.length = 0
  · have HX := Lib.hid (j_no (l := l) (b := b) (fun h => by omega))
    have q : ((l.length : Int) == 0) = true := by simp [h0]
    have q2 : (l.length == 0) = true := by simp [h0]
    have hz : l = [] := List.length_eq_zero_iff.1 h0
    subst hz
    clear h0
    go_enter Tryd.func39, Tryd.ntmps39
    go_wp2
    go_ret2
    exact ⟨by rw [HX.out.1, HX.out.2]; first | done | rfl, by repeat (with_reducible first | exact Ext.refl _ | refine Ext.setCell ?_ (by first | (simp; done) | (simp; omega)) _ | refine Ext.alloc ?_ _ | refine Ext.gw ?_ _ | refine Ext.drew ?_)⟩
  · have hpos : (0 : Int) < (l.length : Int) := by omega
    have q : ((l.length : Int) == 0) = false := by rw [Bool.eq_false_iff]; intro h; have := eq_of_beq h; omega
    have q2 : (l.length == 0) = false := by rw [Bool.eq_false_iff]; intro h; have := eq_of_beq h; omega
    have HT := Lib.hid ht
    go_enter Tryd.func39, Tryd.ntmps39
    go_wp2
    go_loopw [6, 7] (fun o i wr => ∃ k : Nat, k ≤ l.length ∧ i = .int .i64 k ∧ o = .string (jP l b k) ∧ Hid ((jP l b k).size ≤ 4000 ∧ ∀ j, j < k → hasB (l.getD j ByteArray.empty) b = false) ∧ ∃ y, wr = gw w y) (fun _ i _ => l.length - (intOf i).toNat)
    case atStart => exact ⟨0, Nat.zero_le _, rfl, rfl, Lib.hid ⟨Nat.zero_le _, fun j hj => absurd hj (Nat.not_lt_zero j)⟩, (Ext.refl w).to_gw⟩
    case round =>
      obtain ⟨k, hk, rfl, rfl, HD, y, rfl⟩ := hrel
      by_cases hlt : k < l.length
      · obtain ⟨g, off, rfl, hg, c0⟩ := hr.atS hlt
        obtain ⟨x, hx⟩ : ∃ x, l.getD k ByteArray.empty = x := ⟨_, rfl⟩
        rw [hx] at c0
        have i0 : (0 : Int) ≤ (k : Int) := by omega
        have i1 : (k : Int) < (l.length : Int) := by omega
        have hm1 : x.size ≤ 1048576 := by
          rw [← hx]
          have h1 := tS_mono l (show k + 1 ≤ l.length by omega)
          have h2 : tS l (k + 1) = tS l k + (l.getD k ByteArray.empty).size := rfl
          have := HT.out
          omega
        have HM := Lib.hid (show x.size ≤ maxLen by unfold maxLen; omega)
        have HXX := Lib.hid hx
        cases hh : hasB x b
        · have HH := Lib.hid hh
          have HE : Hid (jP l b (k + 1) = (if k = 0 then jP l b k else jP l b k ++ (⟨#[b]⟩ : ByteArray)) ++ x) := Lib.hid (by rw [← hx]; rfl)
          have hz1 := HD.out.1
          by_cases hk0 : k = 0
          · skip
            subst hk0
            rw [if_pos rfl] at HE
            rw [Nat.add_zero] at c0
            clear i0 i1
            have HZ := Lib.hid (show (jP l b (0 + 1)).size = (jP l b 0).size + x.size by rw [HE.out]; simp only [ByteArray.size_append]; first | done | rfl)
            by_cases h4 : (jP l b (0 + 1)).size ≤ 4000
            · have h5 : ((jP l b 0).size : Int) + (x.size : Int) ≤ 4000 := by have := HZ.out; omega
              have HD2 := Lib.hid (show (jP l b (0 + 1)).size ≤ 4000 ∧ ∀ j, j < 0 + 1 → hasB (l.getD j ByteArray.empty) b = false from ⟨h4, fun j hj => by
                by_cases he : j = 0
                · rw [he, HXX.out]; exact HH.out
                · exact HD.out.2 j (by omega)⟩)
              clear h4
              go_wp2_with fail
              first | refine wp_region_grow2 (by kernel_rfl) (by kernel_rfl) ?_ | refine wp_region_grow (by kernel_rfl) (by kernel_rfl) ?_
              repeat (go_big_quiet_step (first | (go_at_call 63; exact grow_same (by have h0 := fun wq => l1Stands_any x b wq HM.out; simp only [HH.out] at h0; exact h0 _))))
              refine wpQuiet_nil ?_
              rintro _ ⟨xq, rfl⟩
              go_wp2
              case roundEnd => exact ⟨⟨0 + 1, by omega, by go_num, by rw [HE.out], HD2, ⟨xq, rfl⟩⟩, by simp [intOf]; omega⟩
            · have h5 : 4000 < ((jP l b 0).size : Int) + (x.size : Int) := by have := HZ.out; omega
              have HX := Lib.hid (j_no (l := l) (b := b) (fun h => by
                have h6 := h.2.2
                have h7 := jP_size l b (0 + 1)
                have h8 := tS_mono l (show 0 + 1 ≤ l.length by omega)
                omega))
              clear h4
              go_wp2_with fail
              first | refine wp_region_grow2 (by kernel_rfl) (by kernel_rfl) ?_ | refine wp_region_grow (by kernel_rfl) (by kernel_rfl) ?_
              repeat (go_big_quiet_step (first | (go_at_call 63; exact grow_same (by have h0 := fun wq => l1Stands_any x b wq HM.out; simp only [HH.out] at h0; exact h0 _))))
              refine wpQuiet_nil ?_
              rintro _ ⟨xq, rfl⟩
              go_wp2
              go_ret2
              exact ⟨by rw [HX.out.1, HX.out.2]; first | done | rfl, by repeat (with_reducible first | exact Ext.refl _ | refine Ext.setCell ?_ (by first | (simp; done) | (simp; omega)) _ | refine Ext.alloc ?_ _ | refine Ext.gw ?_ _ | refine Ext.drew ?_)⟩
          · skip
            have hk1 : (0 : Int) < (k : Int) := by omega
            have hk2 : 0 < k := by omega
            have hk3 : ¬ k = 0 := hk0
            rw [if_neg hk0] at HE
            clear hk0
            have HZ := Lib.hid (show (jP l b (k + 1)).size = (jP l b k).size + 1 + x.size by rw [HE.out]; simp only [ByteArray.size_append]; first | done | rfl)
            by_cases h4 : (jP l b (k + 1)).size ≤ 4000
            · have h5 : ((jP l b k).size : Int) + 1 + (x.size : Int) ≤ 4000 := by have := HZ.out; omega
              have HD2 := Lib.hid (show (jP l b (k + 1)).size ≤ 4000 ∧ ∀ j, j < k + 1 → hasB (l.getD j ByteArray.empty) b = false from ⟨h4, fun j hj => by
                by_cases he : j = k
                · rw [he, HXX.out]; exact HH.out
                · exact HD.out.2 j (by omega)⟩)
              clear h4
              go_wp2_with fail
              first | refine wp_region_grow2 (by kernel_rfl) (by kernel_rfl) ?_ | refine wp_region_grow (by kernel_rfl) (by kernel_rfl) ?_
              repeat (go_big_quiet_step (first | (go_at_call 63; exact grow_same (by have h0 := fun wq => l1Stands_any x b wq HM.out; simp only [HH.out] at h0; exact h0 _))))
              refine wpQuiet_nil ?_
              rintro _ ⟨xq, rfl⟩
              go_wp2
              case roundEnd => exact ⟨⟨k + 1, by omega, by go_num, by rw [HE.out], HD2, ⟨xq, rfl⟩⟩, by simp [intOf]; omega⟩
            · have h5 : 4000 < ((jP l b k).size : Int) + 1 + (x.size : Int) := by have := HZ.out; omega
              have HX := Lib.hid (j_no (l := l) (b := b) (fun h => by
                have h6 := h.2.2
                have h7 := jP_size l b (k + 1)
                have h8 := tS_mono l (show k + 1 ≤ l.length by omega)
                omega))
              clear h4
              go_wp2_with fail
              first | refine wp_region_grow2 (by kernel_rfl) (by kernel_rfl) ?_ | refine wp_region_grow (by kernel_rfl) (by kernel_rfl) ?_
              repeat (go_big_quiet_step (first | (go_at_call 63; exact grow_same (by have h0 := fun wq => l1Stands_any x b wq HM.out; simp only [HH.out] at h0; exact h0 _))))
              refine wpQuiet_nil ?_
              rintro _ ⟨xq, rfl⟩
              go_wp2
              go_ret2
              exact ⟨by rw [HX.out.1, HX.out.2]; first | done | rfl, by repeat (with_reducible first | exact Ext.refl _ | refine Ext.setCell ?_ (by first | (simp; done) | (simp; omega)) _ | refine Ext.alloc ?_ _ | refine Ext.gw ?_ _ | refine Ext.drew ?_)⟩
        · have HX := Lib.hid (j_no (l := l) (b := b) (fun h => by have h9 := h.2.1 k hlt; rw [hx, hh] at h9; cases h9))
          clear hx
          have HT2 := Lib.hid hh
          go_wp2_with fail
          first | refine wp_region_grow2 (by kernel_rfl) (by kernel_rfl) ?_ | refine wp_region_grow (by kernel_rfl) (by kernel_rfl) ?_
          repeat (go_big_quiet_step (first | (go_at_call 63; exact grow_same (by have h0 := fun wq => l1Stands_any x b wq HM.out; simp only [HT2.out] at h0; exact h0 _))))
          refine wpQuiet_nil ?_
          rintro _ ⟨xq, rfl⟩
          go_wp2
          go_ret2
          exact ⟨by rw [HX.out.1, HX.out.2]; first | done | rfl, by repeat (with_reducible first | exact Ext.refl _ | refine Ext.setCell ?_ (by first | (simp; done) | (simp; omega)) _ | refine Ext.alloc ?_ _ | refine Ext.gw ?_ _ | refine Ext.drew ?_)⟩
      · have he : k = l.length := by omega
        have HX := Lib.hid (j_yes (l := l) (b := b) ⟨by omega, fun i hi => HD.out.2 i (by omega), by have h1 := jP_size l b l.length; have h2 := HD.out.1; rw [he] at h2; omega⟩)
        have HE := Lib.hid he
        have h5 : (l.length : Int) ≤ (k : Int) := by omega
        clear he
        go_wp2
        go_ret2
        exact ⟨by rw [HX.out.1, HX.out.2, ← HE.out]; first | done | rfl, ext_gw _ _⟩
set_option maxRecDepth 100000 in
set_option maxHeartbeats 4000000 in
theorem implJoin_any (A : Option Addr) (c : Nat) (l : List ByteArray) (b : UInt8) (w : World) (hc : c ≤ maxLen) (hnc : l.length ≤ c) (hr : Rd w A l.length 1 (mkS l)) (ht : tS l l.length ≤ 1048576) (hn : l.length ≤ 1048576) :
    Calls Tryd.prog 38 #[.slice A l.length c, .string ⟨#[b]⟩] w fun e w' => e = .returned (.tuple #[.string (jS l b), .bool (jC l b)]) ∧ Ext w w' := by
  have HR := Lib.hid hr
  have HN := Lib.hid hnc
  unfold maxLen at *
  by_cases h0 : l.length = 0
  · have HX := Lib.hid (j_no (l := l) (b := b) (fun h => by omega))
    have q : ((l.length : Int) == 0) = true := by simp [h0]
    have q2 : (l.length == 0) = true := by simp [h0]
    have hz : l = [] := List.length_eq_zero_iff.1 h0
    subst hz
    clear h0
    go_enter Tryd.func38, Tryd.ntmps38
    go_wp2
    go_ret2
    exact ⟨by rw [HX.out.1, HX.out.2]; first | done | rfl, by repeat (with_reducible first | exact Ext.refl _ | refine Ext.setCell ?_ (by first | (simp; done) | (simp; omega)) _ | refine Ext.alloc ?_ _ | refine Ext.gw ?_ _ | refine Ext.drew ?_)⟩
  · have hpos : (0 : Int) < (l.length : Int) := by omega
    have q : ((l.length : Int) == 0) = false := by rw [Bool.eq_false_iff]; intro h; have := eq_of_beq h; omega
    have q2 : (l.length == 0) = false := by rw [Bool.eq_false_iff]; intro h; have := eq_of_beq h; omega
    have HT := Lib.hid ht
    go_enter Tryd.func38, Tryd.ntmps38
    go_wp2
    go_loopw [6, 22] (fun s i wr => ∃ k : Nat, k ≤ l.length ∧ i = .int .i64 k ∧ s = .int .i64 ((l.length : Int) - 1 + (tS l k : Int)) ∧ Hid ((0 < k → l.length - 1 + tS l k ≤ 4000) ∧ ∀ j, j < k → hasB (l.getD j ByteArray.empty) b = false) ∧ ∃ y, wr = gw w y) (fun _ i _ => l.length - (intOf i).toNat)
    case atStart => exact ⟨0, Nat.zero_le _, rfl, by simp [tS], Lib.hid ⟨fun h => absurd h (Nat.lt_irrefl 0), fun j hj => absurd hj (Nat.not_lt_zero j)⟩, (Ext.refl w).to_gw⟩
    case round =>
      obtain ⟨k, hk, rfl, rfl, HD, y, rfl⟩ := hrel
      have hts : tS l k ≤ 1048576 := by have := tS_mono l hk; have := HT.out; omega
      by_cases hlt : k < l.length
      · obtain ⟨g, off, rfl, hg, c0⟩ := hr.atS hlt
        obtain ⟨x, hx⟩ : ∃ x, l.getD k ByteArray.empty = x := ⟨_, rfl⟩
        rw [hx] at c0
        have i0 : (0 : Int) ≤ (k : Int) := by omega
        have i1 : (k : Int) < (l.length : Int) := by omega
        have HE := Lib.hid (show tS l (k + 1) = tS l k + x.size by rw [← hx]; rfl)
        have hm1 : x.size ≤ 1048576 := by
          have h1 := tS_mono l (show k + 1 ≤ l.length by omega)
          have := HT.out
          have := HE.out
          omega
        have HXX := Lib.hid hx
        cases hh : hasB x b
        · have HH := Lib.hid hh
          by_cases h4 : l.length - 1 + tS l (k + 1) ≤ 4000
          · have h5 : (l.length : Int) - 1 + (tS l k : Int) + (x.size : Int) ≤ 4000 := by have := HE.out; omega
            have HD2 := Lib.hid (show (0 < k + 1 → l.length - 1 + tS l (k + 1) ≤ 4000) ∧ ∀ j, j < k + 1 → hasB (l.getD j ByteArray.empty) b = false from ⟨fun _ => h4, fun j hj => by
              by_cases he : j = k
              · rw [he, HXX.out]; exact HH.out
              · exact HD.out.2 j (by omega)⟩)
            clear h4
            go_wp2_with (go_at_call 61; refine (contains_any _ b _).mono ?_; rintro e w1 ⟨rfl, rfl⟩)
            go_roundw
            case rel => exact ⟨k + 1, by omega, by go_num, by rw [HE.out]; congr 1; omega, HD2, y, rfl⟩
            case measure => simp [intOf]; omega
          · have h5 : 4000 < (l.length : Int) - 1 + (tS l k : Int) + (x.size : Int) := by have := HE.out; omega
            have HX := Lib.hid (j_no (l := l) (b := b) (fun h => by
              have h6 := h.2.2
              have h8 := tS_mono l (show k + 1 ≤ l.length by omega)
              omega))
            clear h4
            go_wp2_with (go_at_call 61; refine (contains_any _ b _).mono ?_; rintro e w1 ⟨rfl, rfl⟩)
            go_ret2
            exact ⟨by rw [HX.out.1, HX.out.2]; first | done | rfl, ext_gw _ _⟩
        · have HX := Lib.hid (j_no (l := l) (b := b) (fun h => by have h9 := h.2.1 k hlt; rw [hx, hh] at h9; cases h9))
          clear hx
          go_wp2_with (go_at_call 61; refine (contains_any _ b _).mono ?_; rintro e w1 ⟨rfl, rfl⟩)
          go_ret2
          exact ⟨by rw [HX.out.1, HX.out.2]; first | done | rfl, ext_gw _ _⟩
      · have he : k = l.length := by omega
        subst he
        have hfin := HD.out.1 (by omega)
        have HX := Lib.hid (j_yes (l := l) (b := b) ⟨by omega, HD.out.2, by omega⟩)
        obtain ⟨g, off, hA, hg, hcell⟩ := hr (by omega)
        subst hA
        have HJ := Lib.hid ((fun w (hcells : ∀ (j : Nat) x, l[j]? = some x → w.cell? ⟨g, off + j, none⟩ = some (.string x)) hb => Tryd.strings_Join g off c l ⟨#[b]⟩ w hcells hb (by omega) hnc (by
          have h1 := jP_join l b (by omega)
          have h2 := jP_size l b l.length
          have h3 := congrArg ByteArray.size h1
          have h4 : (⟨(Lib.join (l.map (·.data.toList)) [b]).toArray⟩ : ByteArray).size = (Lib.join (l.map (·.data.toList)) [b]).length := by show (Lib.join _ _).toArray.size = _; simp
          show (Lib.join (l.map (·.data.toList)) [b]).length ≤ _
          omega)))
        have HC := Lib.hid (show ∀ (j : Nat) x, l[j]? = some x → (gw w y).cell? ⟨g, off + j, none⟩ = some (.string x) from fun j x hj => by
          have hjl := (List.getElem?_eq_some_iff.1 hj).1
          have h1 := hcell j 0 hjl (by omega)
          rw [Nat.mul_one, Nat.add_zero] at h1
          rw [gw_cell _ _ _ hg, h1]
          simp [mkS, List.getD_eq_getElem?_getD, hj])
        have HJJ := Lib.hid (jP_join l b (by omega))
        clear hcell hr
        go_wp2_with (go_at_call 68; refine (HJ.out _ HC.out (gw_lt _ _ _ hg)).mono ?_; rintro e w1 ⟨rfl, hx⟩; replace hx : Ext (gw w y) w1 := hx; replace hx := Ext.flat hx; obtain ⟨x, rfl⟩ := hx.to_gw; clear hx)
        go_ret2
        exact ⟨by rw [HX.out.1, HX.out.2, HJJ.out]; first | done | rfl, ext_gw _ _⟩
end Go.Proofs.YtpmbnfoilhfobaaDoor
