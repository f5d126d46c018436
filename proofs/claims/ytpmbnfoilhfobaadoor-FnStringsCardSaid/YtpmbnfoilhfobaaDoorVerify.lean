/- VerifyChecksum: the contracts and the walk of its law. -/
import Derived.Test.YtpmbnfoilhfobaaDoorSeal
import Derived.Test.YtpmbnfoilhfobaaDoorPieces
import Derived.Test.YtpmbnfoilhfobaaDoorShIdx
namespace Go.Proofs.YtpmbnfoilhfobaaDoor
open Go.RowKit
set_option linter.unusedVariables false

def headB (s : ByteArray) (c : UInt8) : ByteArray := ⟨(s.data.toList.takeWhile (· != c)).toArray⟩
theorem headB_list (s : ByteArray) (c : UInt8) : (headB s c).data.toList = s.data.toList.takeWhile (· != c) := by simp [headB]
theorem headB_size (s : ByteArray) (c : UInt8) : (headB s c).size ≤ s.size := by
  have h : (s.data.toList.takeWhile (· != c)).length ≤ s.data.toList.length := (List.takeWhile_prefix _).length_le
  show (s.data.toList.takeWhile (· != c)).toArray.size ≤ s.data.size
  simpa using h
theorem headB_has (s : ByteArray) (c : UInt8) : hasB (headB s c) c = false := by
  unfold hasB
  rw [headB_list, Bool.eq_false_iff]
  intro h
  have h2 := List.all_eq_true.1 (List.all_takeWhile (l := s.data.toList) (p := (· != c))) _ (List.contains_iff_mem.1 h)
  simp at h2
theorem take_while (l : List UInt8) (c : UInt8) (k : Nat) (h1 : ∀ x ∈ l.take k, x ≠ c) (h2 : ∀ r, l.drop k = r → r = [] ∨ r.head? = some c) : l.takeWhile (· != c) = l.take k := by
  conv => lhs; rw [← List.take_append_drop k l]
  rw [List.takeWhile_append_of_pos (fun x hx => by simpa using h1 x hx)]
  rcases h2 _ rfl with h | h
  · rw [h]; simp
  · cases hd : l.drop k with
    | nil => simp
    | cons a r =>
      rw [hd] at h
      injection h with h
      subst h
      simp
theorem extract_take (s : ByteArray) (k : Nat) : (s.extract 0 k).data.toList = s.data.toList.take k := by
  simp [ByteArray.data_extract]
theorem headB_at {s : ByteArray} {c : UInt8} {k : Nat} (h1 : ∀ x ∈ s.data.toList.take k, x ≠ c) (h2 : k = s.size ∨ ∃ h : k < s.size, s[k] = c) : s.extract 0 k = headB s c := by
  apply ByteArray.ext
  apply Array.toList_inj.1
  rw [extract_take, headB_list]
  refine (take_while _ _ _ h1 (fun r hr => ?_)).symm
  rcases h2 with h2 | ⟨h2, h3⟩
  · left; rw [← hr, h2]; exact List.drop_eq_nil_of_le (by simp)
  · right
    rw [← hr, List.head?_drop, List.getElem?_eq_getElem (by simpa using h2)]
    simp only [Array.getElem_toList]
    exact congrArg some h3
theorem spP_none {s : ByteArray} {b : UInt8} (k : Nat) (hk : k ≤ s.size) (h : ∀ x ∈ s.data.toList.take k, x ≠ b) : spP s b k = ([], 0) := by
  induction k with
  | zero => rfl
  | succ k ih =>
    have h2 := take_snoc s k (by omega)
    rw [spP_miss (by omega) (h _ (by rw [h2]; simp)), ih (by omega) (fun x hx => h x (by rw [h2]; exact List.mem_append_left _ hx))]
theorem spP_some {s : ByteArray} {b : UInt8} (k : Nat) (hk : k ≤ s.size) (h : ∃ x ∈ s.data.toList.take k, x = b) : (spP s b k).1.head? = some (headB s b) := by
  induction k with
  | zero => obtain ⟨x, hx, _⟩ := h; simp at hx
  | succ k ih =>
    have h2 := take_snoc s k (by omega)
    by_cases h0 : ∃ x ∈ s.data.toList.take k, x = b
    · have h3 := ih (by omega) h0
      by_cases he : s[k] = b
      · rw [spP_hit (by omega) he]
        show ((spP s b k).1 ++ [_]).head? = _
        rw [List.head?_append, h3]
        rfl
      · rw [spP_miss (by omega) he]; exact h3
    · have hn : ∀ x ∈ s.data.toList.take k, x ≠ b := fun x hx he => h0 ⟨x, hx, he⟩
      have he : s[k] = b := by
        obtain ⟨x, hx, hxb⟩ := h
        rw [h2, List.mem_append, List.mem_singleton] at hx
        rcases hx with hx | hx
        · exact absurd hxb (hn x hx)
        · rw [← hx]; exact hxb
      rw [spP_hit (by omega) he, spP_none k (by omega) hn]
      show some (s.extract 0 k) = _
      rw [headB_at hn (.inr ⟨by omega, he⟩)]
theorem spL_head (s : ByteArray) (b : UInt8) : (spL s b).getD 0 ByteArray.empty = headB s b := by
  unfold spL
  by_cases h0 : ∃ x ∈ s.data.toList.take s.size, x = b
  · have h := spP_some s.size (Nat.le_refl _) h0
    cases hp : (spP s b s.size).1 with
    | nil => rw [hp] at h; cases h
    | cons a r =>
      rw [hp] at h
      have h2 : a = headB s b := Option.some.inj h
      simp [h2]
  · have hn : ∀ x ∈ s.data.toList.take s.size, x ≠ b := fun x hx he => h0 ⟨x, hx, he⟩
    rw [spP_none s.size (Nat.le_refl _) hn, headB_at hn (.inl rfl)]
    simp
theorem spL_pos (s : ByteArray) (b : UInt8) : 0 < (spL s b).length := by unfold spL; rw [List.length_append]; simp
theorem index_cases (l : List UInt8) (c : UInt8) : (Lib.indexByte l c = -1 ∧ l.takeWhile (· != c) = l) ∨ ∃ k : Nat, Lib.indexByte l c = (k : Int) ∧ k < l.length ∧ l.takeWhile (· != c) = l.take k := by
  induction l with
  | nil => exact .inl ⟨rfl, rfl⟩
  | cons b l ih =>
    unfold Lib.indexByte
    by_cases h : b = c
    · subst h
      exact .inr ⟨0, by simp, by simp, by simp⟩
    · have h2 : (b == c) = false := by simp [h]
      rw [h2, if_neg (by simp)]
      have h3 : (b :: l).takeWhile (· != c) = b :: l.takeWhile (· != c) := by rw [List.takeWhile_cons, if_pos (by simp [h])]
      rw [h3]
      rcases ih with ⟨h4, h5⟩ | ⟨k, h4, h5, h6⟩
      · left; rw [h4, h5]; exact ⟨rfl, rfl⟩
      · right
        refine ⟨k + 1, ?_, by simp; omega, by rw [h6]; rfl⟩
        rw [h4, if_neg (by first | (simp; done) | (simp; omega))]
        first | done | omega | (simp; done)
/-- What the program's Cut hands back: the text in front, and something. -/
def CutRet (t : ByteArray) (w : World) (e : Ending) (w' : World) : Prop := ∃ r ok, e = .returned (.tuple #[.string t, .string r, .bool ok]) ∧ Ext w w'
set_option maxHeartbeats 1000000 in
theorem cutLite_any (s : ByteArray) (c : UInt8) (w : World) (hs : s.size ≤ 1048576) : Calls Tryd.prog 72 #[.string s, .string ⟨#[c]⟩] w (CutRet (headB s c) w) := by
  rcases index_cases s.data.toList c with ⟨h1, h2⟩ | ⟨k, h1, h2, h3⟩
  · have HI := Lib.hid (fun w => Tryd.stringslite_Index_one s c w)
    rw [h1] at HI
    have HE := Lib.hid (show headB s c = s from by
      apply ByteArray.ext
      apply Array.toList_inj.1
      rw [headB_list, h2])
    clear h1 h2
    go_enter Tryd.func72, Tryd.ntmps72
    go_wp2_with (go_at_call 88; refine (HI.out _).mono ?_; rintro e w1 ⟨rfl, rfl⟩)
    go_ret3
    exact ⟨_, _, by rw [HE.out]; rfl, by repeat (with_reducible first | exact Ext.refl _ | refine Ext.setCell ?_ (by first | (simp; done) | (simp; omega)) _ | refine Ext.alloc ?_ _ | refine Ext.gw ?_ _ | refine Ext.drew ?_)⟩
  · have HI := Lib.hid (fun w => Tryd.stringslite_Index_one s c w)
    rw [h1] at HI
    have hk : k < s.size := by simpa using h2
    have HE := Lib.hid (show headB s c = s.extract 0 k from by
      apply ByteArray.ext
      apply Array.toList_inj.1
      rw [headB_list, h3, extract_take])
    have k0 : (0 : Int) ≤ (k : Int) := by omega
    clear h1 h2 h3
    go_enter Tryd.func72, Tryd.ntmps72
    go_wp2_with (go_at_call 88; refine (HI.out _).mono ?_; rintro e w1 ⟨rfl, rfl⟩)
    refine wp_region_grow (by kernel_rfl) (by kernel_rfl) ?_
    repeat (go_big_quiet_step (fail))
    refine wpQuiet_nil ?_
    rintro _ ⟨xq, rfl⟩
    go_wp2
    go_ret3
    exact ⟨_, _, by rw [HE.out]; rfl, by repeat (with_reducible first | exact Ext.refl _ | refine Ext.setCell ?_ (by first | (simp; done) | (simp; omega)) _ | refine Ext.alloc ?_ _ | refine Ext.gw ?_ _ | refine Ext.drew ?_)⟩
theorem cut_any (s : ByteArray) (c : UInt8) (w : World) (hs : s.size ≤ 1048576) : Calls Tryd.prog 51 #[.string s, .string ⟨#[c]⟩] w (CutRet (headB s c) w) := by
  have HS := Lib.hid hs
  clear hs
  go_enter Tryd.func51, Tryd.ntmps51
  go_wp2_with (go_at_call 72; refine (cutLite_any s c _ HS.out).mono ?_; rintro e w1 ⟨r, ok, rfl, hx⟩; obtain ⟨x, rfl⟩ := hx.to_gw; clear hx)
  go_ret3
  exact ⟨_, _, rfl, by repeat (with_reducible first | exact Ext.refl _ | refine Ext.setCell ?_ (by first | (simp; done) | (simp; omega)) _ | refine Ext.alloc ?_ _ | refine Ext.gw ?_ _ | refine Ext.drew ?_)⟩
open Classical in
noncomputable def verC (s : ByteArray) : Bool := decide (s.size ≤ 4000 ∧ sealB (headB s 35) = s)
noncomputable def verS (s : ByteArray) : ByteArray := if verC s = true then headB s 35 else ⟨#[]⟩
open Classical in
theorem ver_yes {s : ByteArray} (h1 : s.size ≤ 4000) (h2 : sealB (headB s 35) = s) : verC s = true ∧ verS s = headB s 35 := by
  have h : verC s = true := by unfold verC; exact decide_eq_true ⟨h1, h2⟩
  exact ⟨h, by unfold verS; rw [if_pos h]⟩
open Classical in
theorem ver_no {s : ByteArray} (hn : ¬ (s.size ≤ 4000 ∧ sealB (headB s 35) = s)) : verC s = false ∧ verS s = ⟨#[]⟩ := by
  have h : verC s = false := by unfold verC; exact decide_eq_false hn
  exact ⟨h, by unfold verS; rw [if_neg (by rw [h]; simp)]⟩
set_option maxHeartbeats 1000000 in
theorem specVer_any (s : ByteArray) (w : World) (hs : s.size ≤ 1048576) : Calls Tryd.prog 35 #[.string s] w fun e w' => e = .returned (.tuple #[.string (verS s), .bool (verC s)]) ∧ Ext w w' := by
  by_cases h4 : s.size ≤ 4000
  · have HSP := Lib.hid (fun w => l1Split_any s 35 w hs)
    have HL := Lib.hid (fun w => l1Seal_any (headB s 35) w (by have := headB_size s 35; omega))
    have HH := Lib.hid (spL_head s 35)
    have hpos := spL_pos s 35
    have hpos2 : (0 : Int) < ((spL s 35).length : Int) := by omega
    by_cases he : sealB (headB s 35) = s
    · have HX := Lib.hid (ver_yes h4 he)
      have q := bs_eq he
      clear he
      go_enter Tryd.func35, Tryd.ntmps35
      go_wp2_with fail
      refine (HSP.out _).mono ?_
      rintro e w1 ⟨v, rfl, hown, hx⟩
      obtain ⟨A1, c1, rfl, hc1, hnc1, hr1⟩ := hown.rd
      obtain ⟨g1, off1, rfl, hg1, hcell⟩ := hr1.atS hpos
      rw [HH.out, Nat.add_zero] at hcell
      obtain ⟨x, rfl⟩ := hx.to_gw
      unfold maxLen at hc1
      clear hx hown hr1
      go_wp2_with (go_at_call 64; refine (HL.out _).mono ?_; rintro e w1 ⟨rfl, hx⟩; (try replace hx := Ext.flat hx); obtain ⟨x2, rfl⟩ := hx.to_gw; clear hx)
      go_ret2
      exact ⟨by rw [HX.out.1, HX.out.2]; first | done | rfl, by repeat (with_reducible first | exact Ext.refl _ | refine Ext.setCell ?_ (by first | (simp; done) | (simp; omega)) _ | refine Ext.alloc ?_ _ | refine Ext.gw ?_ _ | refine Ext.drew ?_)⟩
    · have HX := Lib.hid (ver_no (s := s) (fun h => he h.2))
      have q := bs_ne he
      clear he
      go_enter Tryd.func35, Tryd.ntmps35
      go_wp2_with fail
      refine (HSP.out _).mono ?_
      rintro e w1 ⟨v, rfl, hown, hx⟩
      obtain ⟨A1, c1, rfl, hc1, hnc1, hr1⟩ := hown.rd
      obtain ⟨g1, off1, rfl, hg1, hcell⟩ := hr1.atS hpos
      rw [HH.out, Nat.add_zero] at hcell
      obtain ⟨x, rfl⟩ := hx.to_gw
      unfold maxLen at hc1
      clear hx hown hr1
      go_wp2_with (go_at_call 64; refine (HL.out _).mono ?_; rintro e w1 ⟨rfl, hx⟩; (try replace hx := Ext.flat hx); obtain ⟨x2, rfl⟩ := hx.to_gw; clear hx)
      go_ret2
      exact ⟨by rw [HX.out.1, HX.out.2]; first | done | rfl, by repeat (with_reducible first | exact Ext.refl _ | refine Ext.setCell ?_ (by first | (simp; done) | (simp; omega)) _ | refine Ext.alloc ?_ _ | refine Ext.gw ?_ _ | refine Ext.drew ?_)⟩
  · have HX := Lib.hid (ver_no (s := s) (fun h => h4 h.1))
    have h5 : 4000 < s.size := by omega
    clear h4
    go_enter Tryd.func35, Tryd.ntmps35
    go_wp2
    go_ret2
    exact ⟨by rw [HX.out.1, HX.out.2]; first | done | rfl, by repeat (with_reducible first | exact Ext.refl _ | refine Ext.setCell ?_ (by first | (simp; done) | (simp; omega)) _ | refine Ext.alloc ?_ _ | refine Ext.gw ?_ _ | refine Ext.drew ?_)⟩
theorem appC_seal {s t : ByteArray} (ht : hasB t 35 = false) (h : sealB t = s) (h4 : s.size ≤ 4000) : appC t = true := by
  have h2 := sealB_size t
  rw [h] at h2
  unfold appC
  rw [ht, h]
  simp
  exact ⟨by omega, h4⟩
set_option maxHeartbeats 1000000 in
theorem implVer_any (s : ByteArray) (w : World) (hs : s.size ≤ 1048576) (ht : TabW w) : Calls Tryd.prog 25 #[.string s] w fun e w' => e = .returned (.tuple #[.string (verS s), .bool (verC s)]) ∧ Ext w w' := by
  have HT := Lib.hid ht
  have HS := Lib.hid hs
  have HZ := Lib.hid (show (headB s 35).size ≤ 1048576 by have := headB_size s 35; omega)
  clear ht
  cases ha : appC (headB s 35)
  · have HX := Lib.hid (ver_no (s := s) (fun h => by rw [appC_seal (headB_has s 35) h.2 h.1] at ha; cases ha))
    go_enter Tryd.func25, Tryd.ntmps25
    go_wp2_with (first | (go_at_call 51; refine (cut_any s 35 _ HS.out).mono ?_; rintro e w1 ⟨r, ok, rfl, hx⟩; obtain ⟨x, rfl⟩ := hx.to_gw; clear hx) | (go_at_call 23; refine (implApp_any _ _ HZ.out (HT.out.ext (by repeat (with_reducible first | exact Ext.refl _ | refine Ext.setCell ?_ (by first | (simp; done) | (simp; omega)) _ | refine Ext.alloc ?_ _ | refine Ext.gw ?_ _ | refine Ext.drew ?_) : Ext w _))).mono ?_; rintro e w1 ⟨rfl, hx⟩; (try replace hx := Ext.flat hx); obtain ⟨x2, rfl⟩ := hx.to_gw; clear hx))
    go_ret2
    exact ⟨by rw [HX.out.1, HX.out.2]; first | done | rfl, by repeat (with_reducible first | exact Ext.refl _ | refine Ext.setCell ?_ (by first | (simp; done) | (simp; omega)) _ | refine Ext.alloc ?_ _ | refine Ext.gw ?_ _ | refine Ext.drew ?_)⟩
  · have hS : appS (headB s 35) = sealB (headB s 35) := by unfold appS; rw [if_pos ha]
    by_cases he : sealB (headB s 35) = s
    · have h4 : s.size ≤ 4000 := by
        unfold appC at ha
        rw [he] at ha
        simp at ha
        exact ha.2
      have HX := Lib.hid (ver_yes h4 he)
      have q := bs_eq (hS.trans he)
      clear he hS
      go_enter Tryd.func25, Tryd.ntmps25
      go_wp2_with (first | (go_at_call 51; refine (cut_any s 35 _ HS.out).mono ?_; rintro e w1 ⟨r, ok, rfl, hx⟩; obtain ⟨x, rfl⟩ := hx.to_gw; clear hx) | (go_at_call 23; refine (implApp_any _ _ HZ.out (HT.out.ext (by repeat (with_reducible first | exact Ext.refl _ | refine Ext.setCell ?_ (by first | (simp; done) | (simp; omega)) _ | refine Ext.alloc ?_ _ | refine Ext.gw ?_ _ | refine Ext.drew ?_) : Ext w _))).mono ?_; rintro e w1 ⟨rfl, hx⟩; (try replace hx := Ext.flat hx); obtain ⟨x2, rfl⟩ := hx.to_gw; clear hx))
      go_ret2
      exact ⟨by rw [HX.out.1, HX.out.2]; first | done | rfl, by repeat (with_reducible first | exact Ext.refl _ | refine Ext.setCell ?_ (by first | (simp; done) | (simp; omega)) _ | refine Ext.alloc ?_ _ | refine Ext.gw ?_ _ | refine Ext.drew ?_)⟩
    · have HX := Lib.hid (ver_no (s := s) (fun h => he h.2))
      have q := bs_ne (a := appS (headB s 35)) (b := s) (by rw [hS]; exact he)
      clear he hS
      go_enter Tryd.func25, Tryd.ntmps25
      go_wp2_with (first | (go_at_call 51; refine (cut_any s 35 _ HS.out).mono ?_; rintro e w1 ⟨r, ok, rfl, hx⟩; obtain ⟨x, rfl⟩ := hx.to_gw; clear hx) | (go_at_call 23; refine (implApp_any _ _ HZ.out (HT.out.ext (by repeat (with_reducible first | exact Ext.refl _ | refine Ext.setCell ?_ (by first | (simp; done) | (simp; omega)) _ | refine Ext.alloc ?_ _ | refine Ext.gw ?_ _ | refine Ext.drew ?_) : Ext w _))).mono ?_; rintro e w1 ⟨rfl, hx⟩; (try replace hx := Ext.flat hx); obtain ⟨x2, rfl⟩ := hx.to_gw; clear hx))
      go_ret2
      exact ⟨by rw [HX.out.1, HX.out.2]; first | done | rfl, by repeat (with_reducible first | exact Ext.refl _ | refine Ext.setCell ?_ (by first | (simp; done) | (simp; omega)) _ | refine Ext.alloc ?_ _ | refine Ext.gw ?_ _ | refine Ext.drew ?_)⟩
theorem FnExactVerifyChecksum_walk (s : ByteArray) (hm : s.size ≤ maxLen) (w : World) (ht : TabW w) : Calls Tryd.prog 10 #[.string s] w fun e w' => e = .returned (.bool true) ∧ Ext w w' := by
  have HT := Lib.hid ht
  clear ht
  unfold maxLen at hm
  by_cases hs : s.size ≤ 1048576
  · have HS := Lib.hid hs
    go_enter Tryd.func10, Tryd.ntmps10
    go_wp2_with (first | (go_at_call 35; refine (specVer_any _ _ HS.out).mono ?_; rintro e w1 ⟨rfl, hx⟩; (try replace hx := Ext.flat hx); obtain ⟨x, rfl⟩ := hx.to_gw; clear hx) | (go_at_call 25; refine (implVer_any _ _ HS.out (HT.out.ext (by repeat (with_reducible first | exact Ext.refl _ | refine Ext.setCell ?_ (by first | (simp; done) | (simp; omega)) _ | refine Ext.alloc ?_ _ | refine Ext.gw ?_ _ | refine Ext.drew ?_) : Ext w _))).mono ?_; rintro e w1 ⟨rfl, hx⟩; (try replace hx := Ext.flat hx); obtain ⟨x, rfl⟩ := hx.to_gw; clear hx))
    go_ret
    exact ⟨rfl, by repeat (with_reducible first | exact Ext.refl _ | refine Ext.setCell ?_ (by first | (simp; done) | (simp; omega)) _ | refine Ext.alloc ?_ _ | refine Ext.gw ?_ _ | refine Ext.drew ?_)⟩
  · have hs2 : 1048576 < s.size := by omega
    clear hs
    go_enter Tryd.func10, Tryd.ntmps10
    go_wp2
    go_ret
    exact ⟨rfl, by repeat (with_reducible first | exact Ext.refl _ | refine Ext.setCell ?_ (by first | (simp; done) | (simp; omega)) _ | refine Ext.alloc ?_ _ | refine Ext.gw ?_ _ | refine Ext.drew ?_)⟩
end Go.Proofs.YtpmbnfoilhfobaaDoor
