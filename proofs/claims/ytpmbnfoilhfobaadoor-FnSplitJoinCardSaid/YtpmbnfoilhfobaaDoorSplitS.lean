/- SplitString: the contracts and the walk of its law. -/
import Derived.Test.YtpmbnfoilhfobaaDoorStrS
import Derived.Test.YtpmbnfoilhfobaaDoorSplitL
import Derived.Test.YtpmbnfoilhfobaaDoorShSplit
namespace Go.Proofs.YtpmbnfoilhfobaaDoor
open Go.RowKit
set_option linter.unusedVariables false

/-- The library's longest text at a time is some number. -/
def MaxW (w : World) : Prop := ∃ m, w.cell? ⟨2, 0, none⟩ = some (.int .i64 m)
theorem cell_lt {w : World} {b o : Nat} {v : Value} (h : w.cell? ⟨b, o, none⟩ = some v) : b < w.heap.size := by
  rcases Nat.lt_or_ge b w.heap.size with h1 | h1
  · exact h1
  · simp [World.cell?, Array.getElem?_eq_none h1] at h
theorem MaxW.ext {w w' : World} (h : MaxW w) (hx : Ext w w') : MaxW w' := by
  obtain ⟨m, h⟩ := h
  exact ⟨m, (hx.cell (cell_lt h)).trans h⟩
theorem max_shaped {w : World} (h : w.ShapedOpen Tryd.prog) : MaxW w :=
  cell_of_shapedOpen_int (zero := #[.int .i64 0]) (t := 3) h (of_decide_eq_true (by kernel_rfl)) (by kernel_rfl) rfl (by kernel_rfl) (by kernel_rfl) Tryd.underlying3
theorem own_lit {e n : Nat} (w : World) (cs : Array Value) (hs : cs.size = n) (hn : n ≤ maxLen) (f : Nat → Nat → Value) (hf : ∀ i, i < n → cs[i]? = some (f i 0)) :
    OwnS (w.alloc (.cells cs e)) w.heap.size e 1 (.slice (some ⟨w.heap.size, 0, none⟩) n n) n f := by
  refine ⟨_, World.ownsRow_lit w _ n (Nat.le_refl _) hn (by omega), fun i j hi hj => ?_⟩
  obtain rfl : j = 0 := by omega
  rw [Array.getElem?_toList, Nat.mul_one, Nat.add_zero]
  exact hf i hi
theorem spL_len (s : ByteArray) (b : UInt8) : (spL s b).length = Lib.countB s ⟨#[b]⟩ + 1 := by
  rw [← splitB_spL]
  exact Lib.splitB_all ⟨#[b]⟩ (Nat.le_refl 1) 0 _ s rfl
theorem split_any (s : ByteArray) (b : UInt8) (w : World) (hs : s.size ≤ 1048576) (hm : MaxW w) : Calls Tryd.prog 66 #[.string s, .string ⟨#[b]⟩] w (RetO 9 1 (spL s b).length (mkS (spL s b)) w) := by
  obtain ⟨m, hm⟩ := hm
  refine (Tryd.strings_Split s ⟨#[b]⟩ m w (by omega) hm (Nat.le_refl 1)).mono fun e w' ⟨he, hw⟩ => ?_
  rw [splitB_spL, ← spL_len] at *
  subst hw
  refine ⟨_, he, own_lit w _ (by simp) ?_ _ (fun i hi => ?_), Ext.alloc (Ext.refl w) _⟩
  · have h1 := (spP_le s b s.size).2
    unfold spL maxLen
    rw [List.length_append]
    simp
    omega
  · simp [mkS, List.getD_eq_getElem?_getD, List.getElem?_eq_getElem hi]
theorem spL_small (s : ByteArray) (b : UInt8) (hs : s.size ≤ 1048576) : (spL s b).length ≤ 1000000000 := by
  have h1 := (spP_le s b s.size).2
  unfold spL
  rw [List.length_append]
  simp
  omega
/-- Is the text not too long, and the separator one byte? -/
def splC (s sep : ByteArray) : Bool := decide (s.size ≤ 4000) && decide (sep.size = 1)
set_option maxHeartbeats 1000000 in
theorem specSplit_no (s sep : ByteArray) (w : World) (hs : s.size ≤ 1048576) (hp : sep.size ≤ 1048576) (h : splC s sep = false) : Calls Tryd.prog 30 #[.string s, .string sep] w (RetS 9 1 0 (mkS []) false w) := by
  by_cases h1 : sep.size = 1
  · have h2 : 4000 < s.size := by
      unfold splC at h
      rw [decide_eq_true h1, Bool.and_true] at h
      have := of_decide_eq_false h
      omega
    have q : ((sep.size : Int) != 1) = false := by simp; omega
    have q2 : (sep.size != 1) = false := by simp; omega
    clear h h1
    go_enter Tryd.func30, Tryd.ntmps30
    go_wp2
    go_ret2
    exact ⟨_, rfl, own_empty _ _ rfl (Nat.le_refl _), by repeat (with_reducible first | exact Ext.refl _ | refine Ext.setCell ?_ (by first | (simp; done) | (simp; omega)) _ | refine Ext.alloc ?_ _ | refine Ext.gw ?_ _ | refine Ext.drew ?_)⟩
  · have q : ((sep.size : Int) != 1) = true := by simp; omega
    have q2 : (sep.size != 1) = true := by simp; omega
    clear h h1
    go_enter Tryd.func30, Tryd.ntmps30
    go_wp2
    go_ret2
    exact ⟨_, rfl, own_empty _ _ rfl (Nat.le_refl _), by repeat (with_reducible first | exact Ext.refl _ | refine Ext.setCell ?_ (by first | (simp; done) | (simp; omega)) _ | refine Ext.alloc ?_ _ | refine Ext.gw ?_ _ | refine Ext.drew ?_)⟩
set_option maxHeartbeats 1000000 in
theorem implSplit_no (s sep : ByteArray) (w : World) (hs : s.size ≤ 1048576) (hp : sep.size ≤ 1048576) (h : splC s sep = false) : Calls Tryd.prog 31 #[.string s, .string sep] w (RetS 9 1 0 (mkS []) false w) := by
  by_cases h1 : s.size ≤ 4000
  · have h2 : ¬ sep.size = 1 := fun h2 => by
      unfold splC at h
      rw [decide_eq_true h1, decide_eq_true h2] at h
      cases h
    have q : ((sep.size : Int) != 1) = true := by simp; omega
    have q2 : (sep.size != 1) = true := by simp; omega
    clear h h2
    go_enter Tryd.func31, Tryd.ntmps31
    go_wp2
    go_ret2
    exact ⟨_, rfl, OwnS.nil, by repeat (with_reducible first | exact Ext.refl _ | refine Ext.setCell ?_ (by first | (simp; done) | (simp; omega)) _ | refine Ext.alloc ?_ _ | refine Ext.gw ?_ _ | refine Ext.drew ?_)⟩
  · have h2 : 4000 < s.size := by omega
    clear h h1
    go_enter Tryd.func31, Tryd.ntmps31
    go_wp2
    go_ret2
    exact ⟨_, rfl, OwnS.nil, by repeat (with_reducible first | exact Ext.refl _ | refine Ext.setCell ?_ (by first | (simp; done) | (simp; omega)) _ | refine Ext.alloc ?_ _ | refine Ext.gw ?_ _ | refine Ext.drew ?_)⟩
set_option maxHeartbeats 1000000 in
theorem specSplit_yes (s : ByteArray) (b : UInt8) (w : World) (hs : s.size ≤ 4000) : Calls Tryd.prog 30 #[.string s, .string ⟨#[b]⟩] w (RetS 9 1 (spL s b).length (mkS (spL s b)) true w) := by
  have HS := Lib.hid (fun w => l1Split_any s b w (by omega))
  go_enter Tryd.func30, Tryd.ntmps30
  go_wp2_with fail
  refine (HS.out _).mono ?_
  rintro e w1 ⟨v, rfl, hown, hx⟩
  go_wp2
  go_ret2
  exact ⟨_, rfl, hown, hx⟩
set_option maxHeartbeats 1000000 in
theorem implSplit_yes (s : ByteArray) (b : UInt8) (w : World) (hs : s.size ≤ 4000) (hm : MaxW w) : Calls Tryd.prog 31 #[.string s, .string ⟨#[b]⟩] w (RetS 9 1 (spL s b).length (mkS (spL s b)) true w) := by
  have HS := Lib.hid (split_any s b w (by omega) hm)
  clear hm
  go_enter Tryd.func31, Tryd.ntmps31
  go_wp2_with fail
  refine HS.out.mono ?_
  rintro e w1 ⟨v, rfl, hown, hx⟩
  go_wp2
  go_ret2
  exact ⟨_, rfl, hown, hx⟩
set_option maxHeartbeats 4000000 in
theorem FnExactSplitString_law (s sep : ByteArray) (N : Nat) (p : List ByteArray) (ok : Bool) (hN : N ≤ 1000000000) (hs : Hid (∀ w, Calls Tryd.prog 30 #[.string s, .string sep] w (RetS 9 1 N (mkS p) ok w)))
    (hi : Hid (∀ w, MaxW w → Calls Tryd.prog 31 #[.string s, .string sep] w (RetS 9 1 N (mkS p) ok w))) (w : World) (h1 : s.size ≤ 1048576) (h2 : sep.size ≤ 1048576) (hm : MaxW w) :
    Calls Tryd.prog 8 #[.string s, .string sep] w fun e w' => e = .returned (.bool true) ∧ Ext w w' := by
  have HM := Lib.hid hm
  clear hm
  have hx := Ext.refl w
  go_enter Tryd.func8, Tryd.ntmps8
  go_wp2_with fail
  refine (hs.out _).mono ?_
  rintro e w2 ⟨u0, rfl, g0, hx2⟩
  replace hx := hx.trans hx2
  clear hx2
  go_wp2_with fail
  refine (hi.out _ (HM.out.ext hx)).mono ?_
  rintro e w4 ⟨u1, rfl, g1, hx2⟩
  have ap01 := g0.apart g1 (Nat.le_refl _)
  have hb3 := hx.size_le
  replace g0 := g0.ext hx2
  replace hx := hx.trans hx2
  clear hx2
  go_wp2_with fail
  refine (eqStringS_any _ _ N p _ g1 g0).mono ?_
  rintro e w5 ⟨rfl, hx2⟩
  replace g0 := g0.ext hx2
  replace g1 := g1.ext hx2
  replace hx := hx.trans hx2
  clear hx2
  go_wp2_with fail
  refine (markStringS_any _ N _ _ g1 hN).mono ?_
  rintro e w9 ⟨rfl, hm, hg⟩
  replace g0 := g0.kept hg ap01
  replace hx := g1.ext_of hx hb3 hg
  clear g1 hg ap01 hb3
  go_wp2_with fail
  refine (heldStringS_any _ N _ hm hN).mono ?_
  rintro e wh ⟨rfl, hx2⟩
  replace g0 := g0.ext hx2
  replace hm := hm.ext hx2
  replace hx := hx.trans hx2
  clear hx2
  go_wp2_with fail
  refine (hi.out _ (HM.out.ext hx)).mono ?_
  rintro e wa ⟨u2, rfl, g2, hx2⟩
  replace g0 := g0.ext hx2
  replace hm := hm.ext hx2
  replace hx := hx.trans hx2
  clear hx2
  go_wp2_with fail
  refine (eqStringS_any _ _ N p _ g2 g0).mono ?_
  rintro e wb ⟨rfl, hx2⟩
  clear g0 g2
  replace hm := hm.ext hx2
  replace hx := hx.trans hx2
  clear hx2
  go_wp2_with fail
  refine (heldStringS_any _ N _ hm hN).mono ?_
  rintro e wk ⟨rfl, hx2⟩
  replace hx := hx.trans hx2
  clear hx2 hm
  go_wp2
  go_ret
  exact ⟨rfl, hx⟩
theorem FnExactSplitString_walk (s sep : ByteArray) (h1 : s.size ≤ maxLen) (h2 : sep.size ≤ maxLen) (w : World) (hm : MaxW w) : Calls Tryd.prog 8 #[.string s, .string sep] w fun e w' => e = .returned (.bool true) ∧ Ext w w' := by
  unfold maxLen at *
  by_cases hs : s.size ≤ 1048576
  · by_cases hp : sep.size ≤ 1048576
    · cases hc : splC s sep
      · exact FnExactSplitString_law s sep 0 [] false (by omega) (Lib.hid fun w => specSplit_no s sep w hs hp hc) (Lib.hid fun w _ => implSplit_no s sep w hs hp hc) w hs hp hm
      · have h3 : s.size ≤ 4000 ∧ sep.size = 1 := by simpa [splC] using hc
        obtain ⟨b, rfl⟩ := Lib.one_byte sep h3.2
        exact FnExactSplitString_law s ⟨#[b]⟩ (spL s b).length (spL s b) true (spL_small s b hs) (Lib.hid fun w => specSplit_yes s b w h3.1) (Lib.hid fun w hm => implSplit_yes s b w h3.1 hm) w hs hp hm
    · have h3 : 1048576 < sep.size := by omega
      clear hp hm
      go_enter Tryd.func8, Tryd.ntmps8
      go_wp2
      go_ret
      exact ⟨rfl, by repeat (with_reducible first | exact Ext.refl _ | refine Ext.setCell ?_ (by first | (simp; done) | (simp; omega)) _ | refine Ext.alloc ?_ _ | refine Ext.gw ?_ _ | refine Ext.drew ?_)⟩
  · have h3 : 1048576 < s.size := by omega
    clear hs hm
    go_enter Tryd.func8, Tryd.ntmps8
    go_wp2
    go_ret
    exact ⟨rfl, by repeat (with_reducible first | exact Ext.refl _ | refine Ext.setCell ?_ (by first | (simp; done) | (simp; omega)) _ | refine Ext.alloc ?_ _ | refine Ext.gw ?_ _ | refine Ext.drew ?_)⟩
end Go.Proofs.YtpmbnfoilhfobaaDoor
