/- A text cut at each separator: the pieces; the reference's contract. -/
import Derived.Test.YtpmbnfoilhfobaaDoorOwn
import Derived.Test.YtpmbnfoilhfobaaDoorRows
import Derived.Test.YtpmbnfoilhfobaaDoorBytes
namespace Go.Proofs.YtpmbnfoilhfobaaDoor
open Go.RowKit
set_option linter.unusedVariables false

theorem elStr : ElemOk Tryd.prog 43 9 (.string ByteArray.empty) 1 16 := ⟨Tryd.underlying43, info_parts (by kernel_rfl), rfl, by decide, by decide⟩
/-- The cells of a slice of texts. -/
def mkS (l : List ByteArray) : Nat → Nat → Value := fun i _ => .string (l.getD i ByteArray.empty)
theorem mkS_app (l : List ByteArray) (x : ByteArray) (i j : Nat) (hi : i < l.length) (hj : j < 1) : mkS (l ++ [x]) i j = mkS l i j := by
  simp only [mkS, List.getD_eq_getElem?_getD, List.getElem?_append_left hi]
theorem mkS_last (l : List ByteArray) (x : ByteArray) (j : Nat) : mkS (l ++ [x]) l.length j = .string x := by
  simp [mkS, List.getD_eq_getElem?_getD]
theorem Rd.atS {w : World} {A : Option Addr} {n i : Nat} {l : List ByteArray} (h : Rd w A n 1 (mkS l)) (hi : i < n) :
    ∃ g off, A = some ⟨g, off, none⟩ ∧ g < w.heap.size ∧ w.cell? ⟨g, off + i, none⟩ = some (.string (l.getD i ByteArray.empty)) := by
  obtain ⟨g, off, hA, hg, hc⟩ := h (by omega)
  have := hc i 0 hi (by omega)
  rw [Nat.mul_one, Nat.add_zero] at this
  exact ⟨g, off, hA, hg, this⟩
/-- The pieces in front of place k, and where the next one begins. -/
def spP (s : ByteArray) (b : UInt8) : Nat → List ByteArray × Nat
  | 0 => ([], 0)
  | k + 1 => if s.data.toList.getD k 0 = b then ((spP s b k).1 ++ [s.extract (spP s b k).2 k], k + 1) else spP s b k
def spL (s : ByteArray) (b : UInt8) : List ByteArray := (spP s b s.size).1 ++ [s.extract (spP s b s.size).2 s.size]
theorem spP_le (s : ByteArray) (b : UInt8) (k : Nat) : (spP s b k).2 ≤ k ∧ (spP s b k).1.length ≤ k := by
  induction k with
  | zero => exact ⟨Nat.le_refl _, Nat.le_refl _⟩
  | succ k ih =>
    unfold spP
    split
    · exact ⟨Nat.le_refl _, by rw [List.length_append]; have := ih.2; simp; omega⟩
    · exact ⟨by omega, by omega⟩
theorem getD_at (s : ByteArray) (k : Nat) (h : k < s.size) : s.data.toList.getD k 0 = s[k] := by
  rw [List.getD_eq_getElem?_getD, List.getElem?_eq_getElem (by simpa using h)]
  simp only [Option.getD_some, Array.getElem_toList]
  rfl
theorem spP_hit {s : ByteArray} {b : UInt8} {k : Nat} (h : k < s.size) (he : s[k] = b) : spP s b (k + 1) = ((spP s b k).1 ++ [s.extract (spP s b k).2 k], k + 1) := by
  conv => lhs; unfold spP
  rw [if_pos (by rw [getD_at s k h]; exact he)]
theorem spP_miss {s : ByteArray} {b : UInt8} {k : Nat} (h : k < s.size) (he : s[k] ≠ b) : spP s b (k + 1) = spP s b k := by
  conv => lhs; unfold spP
  rw [if_neg (by rw [getD_at s k h]; exact he)]
set_option maxRecDepth 100000 in
set_option maxHeartbeats 2000000 in
theorem l1Split_any (s : ByteArray) (b : UInt8) (w : World) (hs : s.size ≤ 1048576) : Calls Tryd.prog 47 #[.string s, .int .u8 (b.toNat : Int)] w (RetO 9 1 (spL s b).length (mkS (spL s b)) w) := by
  go_enter Tryd.func47, Tryd.ntmps47
  go_wp2
  go_loopw [5, 6, 7] (fun v f i wr => ∃ k : Nat, k ≤ s.size ∧ i = .int .i64 k ∧ f = .int .i64 ((spP s b k).2 : Nat) ∧ OwnS wr w.heap.size 9 1 v (spP s b k).1.length (mkS (spP s b k).1) ∧ ∃ y, wr = gw w y) (fun _ _ i _ => s.size - (intOf i).toNat)
  case atStart => exact ⟨0, Nat.zero_le _, rfl, rfl, own_empty _ _ rfl (Nat.le_refl _), Ext.to_gw (by repeat (with_reducible first | exact Ext.refl _ | refine Ext.setCell ?_ (by first | (simp; done) | (simp; omega)) _ | refine Ext.alloc ?_ _ | refine Ext.gw ?_ _ | refine Ext.drew ?_))⟩
  case round =>
    obtain ⟨k, hk, rfl, rfl, hown, y, rfl⟩ := hrel
    have hf := (spP_le s b k).1
    have HL := Lib.hid (spP_le s b k).2
    by_cases hlt : k < s.size
    · by_cases he : s[k] = b
      · have HE := Lib.hid (spP_hit hlt he)
        have q2 : (s[k].toNat == b.toNat) = true := by rw [he]; simp
        have q : ((s[k].toNat : Int) == (b.toNat : Int)) = true := by rw [he]; simp
        have f0 : (0 : Int) ≤ ((spP s b k).2 : Int) := by omega
        have f1 : ((spP s b k).2 : Int) ≤ (k : Int) := by omega
        clear he
        go_wp2_with (at_builtin; refine wpList_append_G w w.heap.size rfl (by repeat (with_reducible first | exact Ext.refl _ | refine Ext.setCell ?_ (by first | (simp; done) | (simp; omega)) _ | refine Ext.alloc ?_ _ | refine Ext.gw ?_ _ | refine Ext.drew ?_)) rfl _ _ elStr rfl rfl (hown.congr (mkS_app _ (s.extract (spP s b k).2 k))) _ _ rfl rfl (by have := HL.out; omega) ?_ ?_ ?_)
        · intro j hj
          match j, hj with
          | 0, _ => rw [mkS_last]; rfl
        · intro j hj
          rw [mkS_last]
          rfl
        · intro v' z hown3
          clear hown
          go_wp2
          go_roundw
          case rel => exact ⟨k + 1, by omega, by go_num, by rw [HE.out]; go_num, by rw [HE.out, List.length_append]; exact hown3, z, rfl⟩
          case measure => simp [intOf]; omega
      · have HE := Lib.hid (spP_miss hlt he)
        have q2 : (s[k].toNat == b.toNat) = false := by simpa using fun h => he (UInt8.toNat_inj.1 h)
        have q : ((s[k].toNat : Int) == (b.toNat : Int)) = false := by rw [← q2]; rw [Bool.eq_iff_iff]; simp; omega
        clear he
        go_wp2
        go_roundw
        case rel => exact ⟨k + 1, by omega, by go_num, by rw [HE.out], by rw [HE.out]; exact hown, y, rfl⟩
        case measure => simp [intOf]; omega
    · obtain rfl : k = s.size := by omega
      have f0 : (0 : Int) ≤ ((spP s b s.size).2 : Int) := by omega
      have f1 : ((spP s b s.size).2 : Int) ≤ (s.size : Int) := by omega
      go_wp2_with (at_builtin; refine wpList_append_G w w.heap.size rfl (by repeat (with_reducible first | exact Ext.refl _ | refine Ext.setCell ?_ (by first | (simp; done) | (simp; omega)) _ | refine Ext.alloc ?_ _ | refine Ext.gw ?_ _ | refine Ext.drew ?_)) rfl _ _ elStr rfl rfl (hown.congr (mkS_app _ (s.extract (spP s b s.size).2 s.size))) _ _ rfl rfl (by have := HL.out; omega) ?_ ?_ ?_)
      · intro j hj
        match j, hj with
        | 0, _ => rw [mkS_last]; rfl
      · intro j hj
        rw [mkS_last]
        rfl
      · intro v' z hown3
        clear hown
        go_wp2
        go_ret
        exact ⟨_, rfl, by unfold spL; rw [List.length_append]; exact hown3, ext_gw _ _⟩
end Go.Proofs.YtpmbnfoilhfobaaDoor
