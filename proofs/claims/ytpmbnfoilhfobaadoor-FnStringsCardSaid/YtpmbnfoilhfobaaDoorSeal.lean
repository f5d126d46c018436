/- A text with its checksum behind it: the contracts and the walks of AppendChecksum's law. -/
import Derived.Test.YtpmbnfoilhfobaaDoorTab
import Derived.Test.YtpmbnfoilhfobaaDoorSums
import Derived.Test.YtpmbnfoilhfobaaDoorHas
namespace Go.Proofs.YtpmbnfoilhfobaaDoor
open Go.RowKit
set_option linter.unusedVariables false

def sealB (s : ByteArray) : ByteArray := s ++ (⟨#[35]⟩ : ByteArray) ++ iB (ck s.data.toList)
theorem ck_iB (s : ByteArray) : (iB (ck s.data.toList)).size ≤ 21 := by
  have := ck_bd s.data.toList
  exact iB_size (by omega) (by omega)
theorem sealB_size (s : ByteArray) : (sealB s).size = s.size + 1 + (iB (ck s.data.toList)).size := by
  unfold sealB
  simp [ByteArray.size_append]
  rfl
theorem l1Seal_any (s : ByteArray) (w : World) (hs : s.size ≤ 1048576) : Calls Tryd.prog 64 #[.string s] w fun e w' => e = .returned (.string (sealB s)) ∧ Ext w w' := by
  have hm : s.size ≤ maxLen := by unfold maxLen; omega
  have HC := Lib.hid (ck_bd s.data.toList)
  have hz := ck_iB s
  unfold sealB
  go_enter Tryd.func64, Tryd.ntmps64
  go_wp2_with (first | (go_at_call 77; refine (l1Sum_any _ _ hm).mono ?_; rintro e w1 ⟨rfl, rfl⟩) | (go_at_call 57; refine (l1Num_any _ _ (by have := HC.out; omega) (by have := HC.out; omega)).mono ?_; rintro e w1 ⟨rfl, hx⟩; (try replace hx := Ext.flat hx); obtain ⟨x, rfl⟩ := hx.to_gw; clear hx))
  go_ret
  exact ⟨rfl, by repeat (with_reducible first | exact Ext.refl _ | refine Ext.setCell ?_ (by first | (simp; done) | (simp; omega)) _ | refine Ext.alloc ?_ _ | refine Ext.gw ?_ _ | refine Ext.drew ?_)⟩
def appC (s : ByteArray) : Bool := decide (s.size ≤ 4000) && !hasB s 35 && decide ((sealB s).size ≤ 4000)
def appS (s : ByteArray) : ByteArray := if appC s = true then sealB s else ⟨#[]⟩
set_option maxHeartbeats 1000000 in
theorem specApp_any (s : ByteArray) (w : World) (hs : s.size ≤ 1048576) : Calls Tryd.prog 24 #[.string s] w fun e w' => e = .returned (.tuple #[.string (appS s), .bool (appC s)]) ∧ Ext w w' := by
  have hm : s.size ≤ maxLen := by unfold maxLen; omega
  have HS := Lib.hid hs
  unfold appS
  by_cases h1 : s.size ≤ 4000
  · cases h2 : hasB s 35
    · by_cases h3 : (sealB s).size ≤ 4000
      · rw [show appC s = true by simp [appC, h1, h2, h3], if_pos rfl]
        go_enter Tryd.func24, Tryd.ntmps24
        go_wp2_with (first | (go_at_call 63; refine (l1Stands_any _ 35 _ hm).mono ?_; rintro e w1 ⟨rfl, rfl⟩) | (go_at_call 64; refine (l1Seal_any _ _ HS.out).mono ?_; rintro e w1 ⟨rfl, hx⟩; (try replace hx := Ext.flat hx); obtain ⟨x, rfl⟩ := hx.to_gw; clear hx))
        go_ret2
        exact ⟨rfl, by repeat (with_reducible first | exact Ext.refl _ | refine Ext.setCell ?_ (by first | (simp; done) | (simp; omega)) _ | refine Ext.alloc ?_ _ | refine Ext.gw ?_ _ | refine Ext.drew ?_)⟩
      · rw [show appC s = false by simp [appC, h3], if_neg (by simp)]
        have h4 : 4000 < (sealB s).size := by omega
        clear h3
        go_enter Tryd.func24, Tryd.ntmps24
        go_wp2_with (first | (go_at_call 63; refine (l1Stands_any _ 35 _ hm).mono ?_; rintro e w1 ⟨rfl, rfl⟩) | (go_at_call 64; refine (l1Seal_any _ _ HS.out).mono ?_; rintro e w1 ⟨rfl, hx⟩; (try replace hx := Ext.flat hx); obtain ⟨x, rfl⟩ := hx.to_gw; clear hx))
        go_ret2
        exact ⟨rfl, by repeat (with_reducible first | exact Ext.refl _ | refine Ext.setCell ?_ (by first | (simp; done) | (simp; omega)) _ | refine Ext.alloc ?_ _ | refine Ext.gw ?_ _ | refine Ext.drew ?_)⟩
    · rw [show appC s = false by simp [appC, h2], if_neg (by simp)]
      go_enter Tryd.func24, Tryd.ntmps24
      go_wp2_with (first | (go_at_call 63; refine (l1Stands_any _ 35 _ hm).mono ?_; rintro e w1 ⟨rfl, rfl⟩))
      go_ret2
      exact ⟨rfl, by repeat (with_reducible first | exact Ext.refl _ | refine Ext.setCell ?_ (by first | (simp; done) | (simp; omega)) _ | refine Ext.alloc ?_ _ | refine Ext.gw ?_ _ | refine Ext.drew ?_)⟩
  · rw [show appC s = false by simp [appC, h1], if_neg (by simp)]
    have h4 : 4000 < s.size := by omega
    clear h1
    go_enter Tryd.func24, Tryd.ntmps24
    go_wp2
    go_ret2
    exact ⟨rfl, by repeat (with_reducible first | exact Ext.refl _ | refine Ext.setCell ?_ (by first | (simp; done) | (simp; omega)) _ | refine Ext.alloc ?_ _ | refine Ext.gw ?_ _ | refine Ext.drew ?_)⟩
set_option maxHeartbeats 1000000 in
theorem implApp_any (s : ByteArray) (w : World) (hs : s.size ≤ 1048576) (ht : TabW w) : Calls Tryd.prog 23 #[.string s] w fun e w' => e = .returned (.tuple #[.string (appS s), .bool (appC s)]) ∧ Ext w w' := by
  have HT := Lib.hid ht
  clear ht
  have hm : s.size ≤ maxLen := by unfold maxLen; omega
  have HC := Lib.hid (ck_bd s.data.toList)
  have hz := ck_iB s
  unfold appS
  by_cases h1 : s.size ≤ 4000
  · cases h2 : hasB s 35
    · have hsz := Lib.hid (sealB_size s)
      by_cases h3 : (sealB s).size ≤ 4000
      · rw [show appC s = true by simp [appC, h1, h2, h3], if_pos rfl]
        have h5 : s.size + 1 + (iB (ck s.data.toList)).size ≤ 4000 := by rw [← hsz.out]; exact h3
        unfold sealB
        clear h3
        go_enter Tryd.func23, Tryd.ntmps23
        go_wp2_with (first | (go_at_call 61; refine (contains_any _ 35 _).mono ?_; rintro e w1 ⟨rfl, rfl⟩) | (go_at_call 62; refine (checksum_any _ _ hm).mono ?_; rintro e w1 ⟨rfl, rfl⟩) | (go_at_call 46; refine (decimal_any _ _ (by have := HC.out; omega) (by have := HC.out; omega) HT.out).mono ?_; rintro e w1 ⟨rfl, hx⟩; (try replace hx := Ext.flat hx); obtain ⟨x, rfl⟩ := hx.to_gw; clear hx))
        go_ret2
        exact ⟨rfl, by repeat (with_reducible first | exact Ext.refl _ | refine Ext.setCell ?_ (by first | (simp; done) | (simp; omega)) _ | refine Ext.alloc ?_ _ | refine Ext.gw ?_ _ | refine Ext.drew ?_)⟩
      · rw [show appC s = false by simp [appC, h3], if_neg (by simp)]
        have h5 : 4000 < s.size + 1 + (iB (ck s.data.toList)).size := by rw [← hsz.out]; omega
        clear h3
        go_enter Tryd.func23, Tryd.ntmps23
        go_wp2_with (first | (go_at_call 61; refine (contains_any _ 35 _).mono ?_; rintro e w1 ⟨rfl, rfl⟩) | (go_at_call 62; refine (checksum_any _ _ hm).mono ?_; rintro e w1 ⟨rfl, rfl⟩) | (go_at_call 46; refine (decimal_any _ _ (by have := HC.out; omega) (by have := HC.out; omega) HT.out).mono ?_; rintro e w1 ⟨rfl, hx⟩; (try replace hx := Ext.flat hx); obtain ⟨x, rfl⟩ := hx.to_gw; clear hx))
        go_ret2
        exact ⟨rfl, by repeat (with_reducible first | exact Ext.refl _ | refine Ext.setCell ?_ (by first | (simp; done) | (simp; omega)) _ | refine Ext.alloc ?_ _ | refine Ext.gw ?_ _ | refine Ext.drew ?_)⟩
    · rw [show appC s = false by simp [appC, h2], if_neg (by simp)]
      go_enter Tryd.func23, Tryd.ntmps23
      go_wp2_with (first | (go_at_call 61; refine (contains_any _ 35 _).mono ?_; rintro e w1 ⟨rfl, rfl⟩))
      go_ret2
      exact ⟨rfl, by repeat (with_reducible first | exact Ext.refl _ | refine Ext.setCell ?_ (by first | (simp; done) | (simp; omega)) _ | refine Ext.alloc ?_ _ | refine Ext.gw ?_ _ | refine Ext.drew ?_)⟩
  · rw [show appC s = false by simp [appC, h1], if_neg (by simp)]
    have h4 : 4000 < s.size := by omega
    clear h1
    go_enter Tryd.func23, Tryd.ntmps23
    go_wp2
    go_ret2
    exact ⟨rfl, by repeat (with_reducible first | exact Ext.refl _ | refine Ext.setCell ?_ (by first | (simp; done) | (simp; omega)) _ | refine Ext.alloc ?_ _ | refine Ext.gw ?_ _ | refine Ext.drew ?_)⟩
theorem FnExactAppendChecksum_walk (s : ByteArray) (hm : s.size ≤ maxLen) (w : World) (ht : TabW w) : Calls Tryd.prog 9 #[.string s] w fun e w' => e = .returned (.bool true) ∧ Ext w w' := by
  have HT := Lib.hid ht
  clear ht
  unfold maxLen at hm
  by_cases hs : s.size ≤ 1048576
  · have HS := Lib.hid hs
    go_enter Tryd.func9, Tryd.ntmps9
    go_wp2_with (first | (go_at_call 24; refine (specApp_any _ _ HS.out).mono ?_; rintro e w1 ⟨rfl, hx⟩; (try replace hx := Ext.flat hx); obtain ⟨x, rfl⟩ := hx.to_gw; clear hx) | (go_at_call 23; refine (implApp_any _ _ HS.out (HT.out.ext (by repeat (with_reducible first | exact Ext.refl _ | refine Ext.setCell ?_ (by first | (simp; done) | (simp; omega)) _ | refine Ext.alloc ?_ _ | refine Ext.gw ?_ _ | refine Ext.drew ?_) : Ext w _))).mono ?_; rintro e w1 ⟨rfl, hx⟩; (try replace hx := Ext.flat hx); obtain ⟨x, rfl⟩ := hx.to_gw; clear hx))
    go_ret
    exact ⟨rfl, by repeat (with_reducible first | exact Ext.refl _ | refine Ext.setCell ?_ (by first | (simp; done) | (simp; omega)) _ | refine Ext.alloc ?_ _ | refine Ext.gw ?_ _ | refine Ext.drew ?_)⟩
  · have hs2 : 1048576 < s.size := by omega
    clear hs
    go_enter Tryd.func9, Tryd.ntmps9
    go_wp2
    go_ret
    exact ⟨rfl, by repeat (with_reducible first | exact Ext.refl _ | refine Ext.setCell ?_ (by first | (simp; done) | (simp; omega)) _ | refine Ext.alloc ?_ _ | refine Ext.gw ?_ _ | refine Ext.drew ?_)⟩
end Go.Proofs.YtpmbnfoilhfobaaDoor
