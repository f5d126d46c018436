/- ParseBrine: the contracts and the walk of its law. -/
import Derived.Test.YtpmbnfoilhfobaaDoorPBrineP
import Derived.Test.YtpmbnfoilhfobaaDoorSplitS
import Derived.Test.YtpmbnfoilhfobaaDoorShCut
import Derived.Test.YtpmbnfoilhfobaaDoorShPre
import Derived.Test.YtpmbnfoilhfobaaDoorShTrim
import Derived.Shelf.Strings.SlTrimAscii
import Derived.Deep.RegionHeld3
import Derived.Deep.Cut
namespace Go.Proofs.YtpmbnfoilhfobaaDoor
open Go.RowKit
set_option linter.unusedVariables false

theorem dropWhile_none {p : UInt8 → Bool} : ∀ l : List UInt8, l.dropWhile p = [] ↔ ∀ x ∈ l, p x = true := by
  intro l
  induction l with
  | nil => simp
  | cons c l ih =>
    rw [List.dropWhile_cons]
    by_cases h : p c = true
    · rw [if_pos h, ih]; simp [h]
    · rw [if_neg h]; simp [h]
theorem dropWhile_head {p : UInt8 → Bool} : ∀ (l : List UInt8) (c : UInt8) (r : List UInt8), l.dropWhile p = c :: r → p c = false := by
  intro l
  induction l with
  | nil => intro c r h; simp at h
  | cons d l ih =>
    intro c r h
    rw [List.dropWhile_cons] at h
    by_cases hp : p d = true
    · rw [if_pos hp] at h; exact ih c r h
    · rw [if_neg hp] at h
      injection h with h1 _
      rw [← h1]
      simpa using hp
theorem trimS_none {l cs : List UInt8} : Lib.trimS l cs = [] ↔ ∀ x ∈ l, cs.contains x = true := by
  unfold Lib.trimS Lib.trimLeftS Lib.trimRightS
  rw [dropWhile_none]
  constructor
  · intro h
    cases hd : l.reverse.dropWhile (cs.contains ·) with
    | nil =>
      have h2 := (dropWhile_none l.reverse).1 hd
      exact fun x hx => h2 x (List.mem_reverse.2 hx)
    | cons c r =>
      have h2 := dropWhile_head _ c r hd
      have h3 := h c (by rw [hd]; simp)
      rw [h2] at h3
      cases h3
  · intro h x hx
    rw [List.mem_reverse] at hx
    exact h x (List.mem_reverse.1 ((List.dropWhile_suffix _).subset hx))
theorem digs_has (c : UInt8) : ([48, 49, 50, 51, 52, 53, 54, 55, 56, 57] : List UInt8).contains c = true ↔ isD c := by
  have e : ∀ n : Nat, n < 256 → (([48, 49, 50, 51, 52, 53, 54, 55, 56, 57] : List UInt8).contains (UInt8.ofNat n) = true ↔ 48 ≤ n ∧ n ≤ 57) := by decide +kernel
  have h := e c.toNat c.toNat_lt
  rw [UInt8.ofNat_toNat] at h
  rw [h]
  unfold isD
  omega
theorem okD_trim {s : ByteArray} (h1 : 1 ≤ s.size) (h7 : s.size ≤ 7) : okD7 s.data.toList ↔ Lib.trimS s.data.toList [48, 49, 50, 51, 52, 53, 54, 55, 56, 57] = [] := by
  rw [trimS_none]
  unfold okD7
  constructor
  · intro h x hx; exact (digs_has x).2 (h.1 x hx)
  · intro h; exact ⟨fun c hc => (digs_has c).1 (h c hc), by simpa using h1, by simpa using h7⟩
theorem trim_any (s : ByteArray) (w : World) (hs : s.size ≤ 1048576) : Calls Tryd.prog 74 #[.string s, .string ⟨#[48, 49, 50, 51, 52, 53, 54, 55, 56, 57]⟩] w fun e w' => e = .returned (.string ⟨(Lib.trimS s.data.toList [48, 49, 50, 51, 52, 53, 54, 55, 56, 57]).toArray⟩) ∧ Ext w w' :=
  Any.strings_Trim_laid Tryd.ShTrim_lays160 (by kernel_rfl) s ⟨#[48, 49, 50, 51, 52, 53, 54, 55, 56, 57]⟩ w (by omega) (by decide) (ascii_of_all (by decide))
set_option maxHeartbeats 2000000 in
theorem digitsOf_any (s : ByteArray) (w : World) (hs : s.size ≤ 1048576) : Calls Tryd.prog 53 #[.string s] w fun e w' => e = .returned (.int .i64 (rd7 s.data.toList)) ∧ Ext w w' := by
  have HS := Lib.hid hs
  by_cases h0 : s.size = 0
  · have HX := Lib.hid (rd7_no (l := s.data.toList) (fun h => by have := h.2.1; simp at this; omega))
    have hse : s = ⟨#[]⟩ := bs_of_list (List.eq_nil_of_length_eq_zero (by simpa using h0))
    subst hse
    clear h0
    go_enter Tryd.func53, Tryd.ntmps53
    go_wp2
    go_ret
    exact ⟨by rw [HX.out]; first | done | rfl, Ext.refl _⟩
  · have h1 : 1 ≤ s.size := by omega
    have q0 : (s.toList == []) = false := by
      rw [beq_eq_false_iff_ne, ByteArray.toList_eq]
      intro h
      have hz : s.size = s.data.toList.length := by simp
      rw [h, List.length_nil] at hz
      omega
    have q1 : ¬ s.toList = [] := by simpa using q0
    have q2 : s.toList.isEmpty = false := by simpa using q1
    clear h0
    by_cases h7 : s.size ≤ 7
    · have HOK := Lib.hid (okD_trim h1 h7)
      by_cases hok : okD7 s.data.toList
      · have HX := Lib.hid (rd7_yes hok)
        have HT := Lib.hid (HOK.out.1 hok)
        have HD := Lib.hid hok.1
        clear hok HOK
        go_enter Tryd.func53, Tryd.ntmps53
        go_wp2_with fail
        refine (trim_any s _ HS.out).mono ?_
        rintro e w1 ⟨rfl, hx⟩
        rw [HT.out]
        obtain ⟨x, rfl⟩ := hx.to_gw
        clear hx
        dsimp only
        clear HT q0 q1 q2
        go_wp2_with fail
        go_loop [3, 19] (fun n i => ∃ k : Nat, k ≤ s.size ∧ i = .int .i64 k ∧ n = .int .i64 (dval (s.data.toList.take k))) (fun _ i => s.size - (intOf i).toNat)
        case atStart => exact ⟨0, Nat.zero_le _, rfl, rfl⟩
        case round =>
          obtain ⟨k, hk, rfl, rfl⟩ := hrel
          obtain ⟨hb0, hb1⟩ := dval_small7 (s.data.toList.take k) (fun c hc => HD.out c (List.mem_of_mem_take hc)) (by rw [List.length_take]; omega)
          by_cases hlt : k < s.size
          · have hb3 : (s[k].toNat : Int) < 256 := by have := s[k].toNat_lt; omega
            obtain ⟨e1, e2⟩ : isD s[k] := HD.out _ (by
              rw [show s[k] = s.data.toList[k]'(by simpa using hlt) by simp; rfl]
              exact List.getElem_mem _)
            have HE := Lib.hid (show dval (s.data.toList.take (k + 1)) = dval (s.data.toList.take k) * 10 + ((s[k].toNat : Int) - 48) by rw [take_snoc s k hlt, dval_snoc]; omega)
            go_wp2
            go_round
            case rel => exact ⟨k + 1, by omega, by go_num, by rw [HE.out]⟩
            case measure => simp [intOf]; omega
          · have HW := Lib.hid (show s.data.toList.take k = s.data.toList from List.take_of_length_le (by first | (simp; done) | (simp; omega)))
            go_wp2
            go_ret
            exact ⟨by rw [HX.out, HW.out]; first | done | rfl, ext_gw _ _⟩
      · have HX := Lib.hid (rd7_no hok)
        obtain ⟨z, hz⟩ : ∃ z : ByteArray, (⟨(Lib.trimS s.data.toList [48, 49, 50, 51, 52, 53, 54, 55, 56, 57]).toArray⟩ : ByteArray) = z := ⟨_, rfl⟩
        have hzn : z.toList ≠ [] := fun h => hok (HOK.out.2 (by
          rw [← hz, ByteArray.toList_eq] at h
          simpa using h))
        have r0 : (z.toList == []) = false := beq_eq_false_iff_ne.2 hzn
        have r2 : z.toList.isEmpty = false := by simpa using hzn
        have HT := Lib.hid (fun w => trim_any s w HS.out)
        rw [hz] at HT
        clear hok HOK hz
        go_enter Tryd.func53, Tryd.ntmps53
        go_wp2_with fail
        refine (HT.out _).mono ?_
        rintro e w1 ⟨rfl, hx⟩
        obtain ⟨x, rfl⟩ := hx.to_gw
        clear hx
        dsimp only
        go_wp2
        go_ret
        exact ⟨by rw [HX.out]; first | done | rfl, ext_gw _ _⟩
    · have HX := Lib.hid (rd7_no (l := s.data.toList) (fun h => by have := h.2.2; simp at this; omega))
      have h8 : 7 < s.size := by omega
      clear h7
      go_enter Tryd.func53, Tryd.ntmps53
      go_wp2
      go_ret
      exact ⟨by rw [HX.out]; first | done | rfl, Ext.refl _⟩
theorem cutW_any (s : ByteArray) (w : World) (hs : s.size ≤ 1048576) (hm : MaxW w) : Calls Tryd.prog 51 #[.string s, .string ⟨#[32, 115]⟩] w fun e w' => e = .returned (.tuple #[.string ⟨(Lib.cut s.data.toList [32, 115]).1.toArray⟩, .string ⟨(Lib.cut s.data.toList [32, 115]).2.1.toArray⟩, .bool (Lib.cut s.data.toList [32, 115]).2.2]) ∧ Ext w w' := by
  obtain ⟨m, hm⟩ := hm
  refine (Tryd.strings_Cut s ⟨#[32, 115]⟩ m w (by omega) hm).mono fun e w' ⟨he, n, hw⟩ => ?_
  subst hw
  exact ⟨he, (Ext.refl w).drewN n⟩
theorem preW_any (s : ByteArray) (w : World) : Calls Tryd.prog 52 #[.string s, .string ⟨#[119]⟩] w fun e w' => e = .returned (.tuple #[.string ⟨(Lib.trimPrefix s.data.toList [119]).toArray⟩, .bool (Lib.hasPrefix s.data.toList [119])]) ∧ w = w' :=
  (Tryd.strings_CutPrefix s ⟨#[119]⟩ w).mono fun e w' ⟨he, hw⟩ => ⟨he, hw.symm⟩
theorem cut_len (l : List UInt8) : (Lib.cut l [32, 115]).1.length ≤ l.length ∧ (Lib.cut l [32, 115]).2.1.length ≤ l.length := by
  unfold Lib.cut
  split
  · exact ⟨List.length_take_le' _ _, by rw [List.length_drop]; omega⟩
  · exact ⟨Nat.le_refl _, Nat.zero_le _⟩
theorem trimPrefix_len (l p : List UInt8) : (Lib.trimPrefix l p).length ≤ l.length := by
  unfold Lib.trimPrefix
  split
  · rw [List.length_drop]; omega
  · exact Nat.le_refl _
set_option maxHeartbeats 2000000 in
theorem implPB_any (s : ByteArray) (w : World) (hs : s.size ≤ 1048576) (hm : MaxW w) (ht : TabW w) : Calls Tryd.prog 15 #[.string s] w fun e w' => e = .returned (.tuple #[.agg #[.int .i64 (pbA s), .int .i64 (pbB s)], .bool (pbC s)]) ∧ Ext w w' := by
  have HS := Lib.hid hs
  have HT := Lib.hid ht
  have HM := Lib.hid hm
  obtain ⟨c1, hc1⟩ : ∃ c1 : ByteArray, (⟨(Lib.cut s.data.toList [32, 115]).1.toArray⟩ : ByteArray) = c1 := ⟨_, rfl⟩
  obtain ⟨c2, hc2⟩ : ∃ c2 : ByteArray, (⟨(Lib.cut s.data.toList [32, 115]).2.1.toArray⟩ : ByteArray) = c2 := ⟨_, rfl⟩
  obtain ⟨c3, hc3⟩ : ∃ c3 : Bool, (Lib.cut s.data.toList [32, 115]).2.2 = c3 := ⟨_, rfl⟩
  have l1 : c1.data.toList = (Lib.cut s.data.toList [32, 115]).1 := by rw [← hc1]
  have l2 : c2.data.toList = (Lib.cut s.data.toList [32, 115]).2.1 := by rw [← hc2]
  obtain ⟨d1, hd1⟩ : ∃ d1 : ByteArray, (⟨(Lib.trimPrefix c1.data.toList [119]).toArray⟩ : ByteArray) = d1 := ⟨_, rfl⟩
  obtain ⟨d2, hd2⟩ : ∃ d2 : Bool, Lib.hasPrefix c1.data.toList [119] = d2 := ⟨_, rfl⟩
  have l3 : d1.data.toList = Lib.trimPrefix c1.data.toList [119] := by rw [← hd1]
  have hx : rd7 d1.data.toList = pX s := by rw [l3, l1]; rfl
  have hy : rd7 c2.data.toList = pY s := by rw [l2]; rfl
  obtain ⟨x, hxx⟩ : ∃ x, pX s = x := ⟨_, rfl⟩
  obtain ⟨y, hyy⟩ : ∃ y, pY s = y := ⟨_, rfl⟩
  have bx := rd7_bd d1.data.toList
  have by' := rd7_bd c2.data.toList
  rw [hx, hxx] at bx
  rw [hy, hyy] at by'
  have z := cut_len s.data.toList
  have z1 := trimPrefix_len c1.data.toList [119]
  have sz : ∀ q : ByteArray, q.size = q.data.toList.length := fun q => by simp
  have H1 := Lib.hid (fun w hm => cutW_any s w hs hm)
  have H2 := Lib.hid (fun w => preW_any c1 w)
  have H3 := Lib.hid (fun w => digitsOf_any d1 w (by rw [sz, l3]; rw [← l1, ← sz s] at z; omega))
  have H4 := Lib.hid (fun w => digitsOf_any c2 w (by rw [sz, l2]; have := sz s; omega))
  rw [hc1, hc2, hc3] at H1
  rw [hd1, hd2] at H2
  rw [hx, hxx] at H3
  rw [hy, hyy] at H4
  have HP := Lib.hid (pb_prog (s := s))
  rw [hxx, hyy] at HP
  clear hc1 hc2 hc3 hd1 hd2 l1 l2 l3 hx hy hxx hyy z z1 sz hs hm ht
  cases hb : brineB x y
  · have HX := Lib.hid (pb_no (s := s) (fun hp => by rw [(HP.out.1 hp).1] at hb; cases hb))
    go_enter Tryd.func15, Tryd.ntmps15
    go_wp2_with fail
    refine (H1.out _ (HM.out.ext (by repeat (with_reducible first | exact Ext.refl _ | refine Ext.setCell ?_ (by first | (simp; done) | (simp; omega)) _ | refine Ext.alloc ?_ _ | refine Ext.gw ?_ _ | refine Ext.drew ?_) : Ext w _))).mono ?_
    rintro e w1 ⟨rfl, hx1⟩
    obtain ⟨x1, rfl⟩ := hx1.to_gw
    clear hx1
    dsimp only
    go_wp2_with fail
    refine (H2.out _).mono ?_
    rintro e w1 ⟨rfl, rfl⟩
    dsimp only
    go_wp2_with fail
    refine (H3.out _).mono ?_
    rintro e w1 ⟨rfl, hx1⟩
    replace hx1 := Ext.flat hx1
    obtain ⟨x2, rfl⟩ := hx1.to_gw
    clear hx1
    dsimp only
    go_wp2_with fail
    refine (H4.out _).mono ?_
    rintro e w1 ⟨rfl, hx1⟩
    replace hx1 := Ext.flat hx1
    obtain ⟨x3, rfl⟩ := hx1.to_gw
    clear hx1
    dsimp only
    go_wp2_with fail
    refine (implBrineText_any x y _ (HT.out.ext (by repeat (with_reducible first | exact Ext.refl _ | refine Ext.setCell ?_ (by first | (simp; done) | (simp; omega)) _ | refine Ext.alloc ?_ _ | refine Ext.gw ?_ _ | refine Ext.drew ?_) : Ext w _))).mono ?_
    rintro e w1 ⟨rfl, hx1⟩
    obtain ⟨x4, rfl⟩ := hx1.to_gw
    clear hx1
    rw [hb]
    dsimp only
    go_wp2
    exact bodyPost_ret (v := .tuple #[.agg #[.int .i64 0, .int .i64 0], .bool false]) (by simp [results, Tryd.results15, go_sem]) rfl ⟨by rw [HX.out.1, HX.out.2.1, HX.out.2.2], by repeat (with_reducible first | exact Ext.refl _ | refine Ext.setCell ?_ (by first | (simp; done) | (simp; omega)) _ | refine Ext.alloc ?_ _ | refine Ext.gw ?_ _ | refine Ext.drew ?_)⟩
  · have hS : bTextV x y = bText x y := by unfold bTextV; rw [if_pos hb]
    by_cases he : bText x y = s
    · have HX := Lib.hid (pb_yes hb he)
      have q := bs_eq (hS.trans he)
      clear he hS
      go_enter Tryd.func15, Tryd.ntmps15
      go_wp2_with fail
      refine (H1.out _ (HM.out.ext (by repeat (with_reducible first | exact Ext.refl _ | refine Ext.setCell ?_ (by first | (simp; done) | (simp; omega)) _ | refine Ext.alloc ?_ _ | refine Ext.gw ?_ _ | refine Ext.drew ?_) : Ext w _))).mono ?_
      rintro e w1 ⟨rfl, hx1⟩
      obtain ⟨x1, rfl⟩ := hx1.to_gw
      clear hx1
      dsimp only
      go_wp2_with fail
      refine (H2.out _).mono ?_
      rintro e w1 ⟨rfl, rfl⟩
      dsimp only
      go_wp2_with fail
      refine (H3.out _).mono ?_
      rintro e w1 ⟨rfl, hx1⟩
      replace hx1 := Ext.flat hx1
      obtain ⟨x2, rfl⟩ := hx1.to_gw
      clear hx1
      dsimp only
      go_wp2_with fail
      refine (H4.out _).mono ?_
      rintro e w1 ⟨rfl, hx1⟩
      replace hx1 := Ext.flat hx1
      obtain ⟨x3, rfl⟩ := hx1.to_gw
      clear hx1
      dsimp only
      go_wp2_with fail
      refine (implBrineText_any x y _ (HT.out.ext (by repeat (with_reducible first | exact Ext.refl _ | refine Ext.setCell ?_ (by first | (simp; done) | (simp; omega)) _ | refine Ext.alloc ?_ _ | refine Ext.gw ?_ _ | refine Ext.drew ?_) : Ext w _))).mono ?_
      rintro e w1 ⟨rfl, hx1⟩
      obtain ⟨x4, rfl⟩ := hx1.to_gw
      clear hx1
      rw [hb]
      dsimp only
      go_wp2
      exact bodyPost_ret (v := .tuple #[.agg #[.int .i64 x, .int .i64 y], .bool true]) (by simp [results, Tryd.results15, go_sem]) rfl ⟨by rw [HX.out.1, HX.out.2.1, HX.out.2.2], by repeat (with_reducible first | exact Ext.refl _ | refine Ext.setCell ?_ (by first | (simp; done) | (simp; omega)) _ | refine Ext.alloc ?_ _ | refine Ext.gw ?_ _ | refine Ext.drew ?_)⟩
    · have HX := Lib.hid (pb_no (s := s) (fun hp => he (HP.out.1 hp).2))
      have q := bs_ne (a := bTextV x y) (b := s) (by rw [hS]; exact he)
      clear he hS
      go_enter Tryd.func15, Tryd.ntmps15
      go_wp2_with fail
      refine (H1.out _ (HM.out.ext (by repeat (with_reducible first | exact Ext.refl _ | refine Ext.setCell ?_ (by first | (simp; done) | (simp; omega)) _ | refine Ext.alloc ?_ _ | refine Ext.gw ?_ _ | refine Ext.drew ?_) : Ext w _))).mono ?_
      rintro e w1 ⟨rfl, hx1⟩
      obtain ⟨x1, rfl⟩ := hx1.to_gw
      clear hx1
      dsimp only
      go_wp2_with fail
      refine (H2.out _).mono ?_
      rintro e w1 ⟨rfl, rfl⟩
      dsimp only
      go_wp2_with fail
      refine (H3.out _).mono ?_
      rintro e w1 ⟨rfl, hx1⟩
      replace hx1 := Ext.flat hx1
      obtain ⟨x2, rfl⟩ := hx1.to_gw
      clear hx1
      dsimp only
      go_wp2_with fail
      refine (H4.out _).mono ?_
      rintro e w1 ⟨rfl, hx1⟩
      replace hx1 := Ext.flat hx1
      obtain ⟨x3, rfl⟩ := hx1.to_gw
      clear hx1
      dsimp only
      go_wp2_with fail
      refine (implBrineText_any x y _ (HT.out.ext (by repeat (with_reducible first | exact Ext.refl _ | refine Ext.setCell ?_ (by first | (simp; done) | (simp; omega)) _ | refine Ext.alloc ?_ _ | refine Ext.gw ?_ _ | refine Ext.drew ?_) : Ext w _))).mono ?_
      rintro e w1 ⟨rfl, hx1⟩
      obtain ⟨x4, rfl⟩ := hx1.to_gw
      clear hx1
      rw [hb]
      dsimp only
      go_wp2
      exact bodyPost_ret (v := .tuple #[.agg #[.int .i64 0, .int .i64 0], .bool false]) (by simp [results, Tryd.results15, go_sem]) rfl ⟨by rw [HX.out.1, HX.out.2.1, HX.out.2.2], by repeat (with_reducible first | exact Ext.refl _ | refine Ext.setCell ?_ (by first | (simp; done) | (simp; omega)) _ | refine Ext.alloc ?_ _ | refine Ext.gw ?_ _ | refine Ext.drew ?_)⟩
theorem spP_small (s : ByteArray) (b : UInt8) (k : Nat) : ∀ x ∈ (spP s b k).1, x.size ≤ s.size := by
  induction k with
  | zero => intro x hx; cases hx
  | succ k ih =>
    intro x hx
    unfold spP at hx
    split at hx
    · rcases List.mem_append.1 hx with h | h
      · exact ih x h
      · rw [List.mem_singleton] at h
        rw [h, ByteArray.size_extract]
        omega
    · exact ih x hx
theorem spL_at (s : ByteArray) (b : UInt8) (k : Nat) (hk : k < (spL s b).length) : ((spL s b).getD k ByteArray.empty).size ≤ s.size := by
  have h : (spL s b).getD k ByteArray.empty ∈ spL s b := by
    rw [List.getD_eq_getElem?_getD, List.getElem?_eq_getElem hk]
    exact List.getElem_mem hk
  unfold spL at h ⊢
  rcases List.mem_append.1 h with h | h
  · exact spP_small s b s.size _ h
  · rw [List.mem_singleton] at h
    rw [h, ByteArray.size_extract]
    omega
set_option maxRecDepth 100000 in
set_option maxHeartbeats 2000000 in
theorem l2Read_any (t : ByteArray) (w : World) (hs : t.size ≤ 1048576) : Calls Tryd.prog 48 #[.string t] w fun e w' => e = .returned (.int .i64 (rd7 t.data.toList)) ∧ w = w' := by
  go_enter Tryd.func48, Tryd.ntmps48
  go_wp2
  go_loop [3, 4] (fun n i => ∃ k : Nat, k ≤ t.size ∧ k ≤ 7 ∧ i = .int .i64 k ∧ n = .int .i64 (dval (t.data.toList.take k)) ∧ Hid (∀ c ∈ t.data.toList.take k, isD c)) (fun _ i => t.size - (intOf i).toNat)
  case atStart => exact ⟨0, Nat.zero_le _, by omega, rfl, rfl, Lib.hid (fun c hc => by simp at hc)⟩
  case round =>
    obtain ⟨k, hk, hk7, rfl, rfl, HD⟩ := hrel
    obtain ⟨hb0, hb1⟩ := dval_small7 (t.data.toList.take k) HD.out (by rw [List.length_take]; omega)
    by_cases hlt : k < t.size
    · have hb3 : (t[k].toNat : Int) < 256 := by have := t[k].toNat_lt; omega
      have HMEM := Lib.hid (show t[k] ∈ t.data.toList from by
        rw [show t[k] = t.data.toList[k]'(by simpa using hlt) by simp; rfl]
        exact List.getElem_mem _)
      by_cases hd : 48 ≤ (t[k].toNat : Int) ∧ (t[k].toNat : Int) ≤ 57
      · by_cases hk6 : k ≤ 6
        · have HD2 := Lib.hid (show ∀ c ∈ t.data.toList.take (k + 1), isD c from by
            intro c hc
            rw [take_snoc t k hlt, List.mem_append, List.mem_singleton] at hc
            rcases hc with h | h
            · exact HD.out c h
            · rw [h]; exact hd)
          have HE := Lib.hid (show dval (t.data.toList.take (k + 1)) = 10 * dval (t.data.toList.take k) + ((t[k].toNat : Int) - 48) by rw [take_snoc t k hlt, dval_snoc])
          obtain ⟨e1, e2⟩ := hd
          have k6 : (k : Int) ≤ 6 := by omega
          go_wp2
          go_round
          case rel => exact ⟨k + 1, by omega, by omega, by go_num, by rw [HE.out], HD2⟩
          case measure => simp [intOf]; omega
        · have HX := Lib.hid (rd7_no (l := t.data.toList) (fun h => by have := h.2.2; simp at this; omega))
          obtain ⟨e1, e2⟩ := hd
          have k6 : (6 : Int) < (k : Int) := by omega
          clear hk6
          go_wp2
          go_ret
          exact ⟨by rw [HX.out]; first | done | rfl, rfl⟩
      · have HX := Lib.hid (rd7_no (l := t.data.toList) (fun h => hd (h.1 _ HMEM.out)))
        by_cases hd1 : (t[k].toNat : Int) < 48
        · clear hd
          go_wp2
          go_ret
          exact ⟨by rw [HX.out]; first | done | rfl, rfl⟩
        · have hd2 : 57 < (t[k].toNat : Int) := by omega
          have hd3 : 48 ≤ (t[k].toNat : Int) := by omega
          clear hd hd1
          go_wp2
          go_ret
          exact ⟨by rw [HX.out]; first | done | rfl, rfl⟩
    · obtain rfl : k = t.size := by omega
      have HW := Lib.hid (show t.data.toList.take t.size = t.data.toList from List.take_of_length_le (by first | (simp; done) | (simp; omega)))
      rw [HW.out] at HD ⊢
      by_cases h0 : t.size = 0
      · have HX := Lib.hid (rd7_no (l := t.data.toList) (fun h => by have := h.2.1; simp at this; omega))
        have h0' : (t.size : Int) = 0 := by omega
        have q : ((t.size : Int) == 0) = true := by simpa using h0
        have q' : (t.size == 0) = true := by simpa using h0
        clear h0 h0'
        go_wp2
        go_ret
        exact ⟨by rw [HX.out]; first | done | rfl, rfl⟩
      · have HX := Lib.hid (rd7_yes (l := t.data.toList) ⟨HD.out, by simp; omega, by simp; omega⟩)
        have q : ((t.size : Int) == 0) = false := by rw [beq_eq_false_iff_ne]; omega
        have q' : (t.size == 0) = false := by rw [beq_eq_false_iff_ne]; omega
        clear h0
        go_wp2
        go_ret
        exact ⟨by rw [HX.out]; first | done | rfl, rfl⟩
theorem extract_drop1 (p : ByteArray) : (p.extract 1 p.size).data.toList = p.data.toList.drop 1 := by
  simp only [ByteArray.data_extract, Array.toList_extract, List.extract_eq_take_drop]
  refine List.take_of_length_le ?_
  simp
set_option maxRecDepth 100000 in
set_option maxHeartbeats 2000000 in
theorem specPB_any (s : ByteArray) (w : World) (hs : s.size ≤ 1048576) : Calls Tryd.prog 14 #[.string s] w fun e w' => e = .returned (.tuple #[.agg #[.int .i64 (pbA s), .int .i64 (pbB s)], .bool (pbC s)]) ∧ Ext w w' := by
  have HSP := Lib.hid (fun w => l1Split_any s 32 w hs)
  have HP := Lib.hid (pb_spec (s := s))
  have HSM := Lib.hid (spL_at s 32)
  obtain ⟨n, hn⟩ : ∃ n, (spL s 32).length = n := ⟨_, rfl⟩
  rw [hn] at HSP HP HSM
  have hsm := spL_small s 32 hs
  rw [hn] at hsm
  clear hn
  by_cases h2 : n = 2
  · subst h2
    have hp0 := HSM.out 0 (by omega)
    have hp1 := HSM.out 1 (by omega)
    obtain ⟨p0, hq0⟩ : ∃ p, (spL s 32).getD 0 ByteArray.empty = p := ⟨_, rfl⟩
    obtain ⟨p1, hq1⟩ : ∃ p, (spL s 32).getD 1 ByteArray.empty = p := ⟨_, rfl⟩
    have hx : qX s = rd7 (p0.data.toList.drop 1) := by rw [← hq0]; rfl
    have hy : qY s = rd7 (p1.data.toList.drop 1) := by rw [← hq1]; rfl
    rw [hq0, hq1] at HP
    rw [hq0] at hp0
    rw [hq1] at hp1
    have HQ0 := Lib.hid hq0
    have HQ1 := Lib.hid hq1
    have b0 : p0.size ≤ 1048576 := by omega
    have b1 : p1.size ≤ 1048576 := by omega
    clear hq0 hq1 hp0 hp1
    by_cases hc : 2 ≤ p0.size ∧ 2 ≤ p1.size
    · obtain ⟨c0, c1⟩ := hc
      obtain ⟨x, hxx⟩ : ∃ x, qX s = x := ⟨_, rfl⟩
      obtain ⟨y, hyy⟩ : ∃ y, qY s = y := ⟨_, rfl⟩
      have z0 : (1 : Int) ≤ (p0.size : Int) := by omega
      have z1 : (1 : Int) ≤ (p1.size : Int) := by omega
      have z2 : 1 ≤ p0.size := by omega
      have z3 : 1 ≤ p1.size := by omega
      obtain ⟨t0, ht0⟩ : ∃ t, p0.extract 1 p0.size = t := ⟨_, rfl⟩
      obtain ⟨t1, ht1⟩ : ∃ t, p1.extract 1 p1.size = t := ⟨_, rfl⟩
      have H0 := Lib.hid (fun w => l2Read_any t0 w (by rw [← ht0, ByteArray.size_extract]; omega))
      have H1 := Lib.hid (fun w => l2Read_any t1 w (by rw [← ht1, ByteArray.size_extract]; omega))
      rw [show t0.data.toList = p0.data.toList.drop 1 by rw [← ht0]; exact extract_drop1 p0, ← hx, hxx] at H0
      rw [show t1.data.toList = p1.data.toList.drop 1 by rw [← ht1]; exact extract_drop1 p1, ← hy, hyy] at H1
      rw [hxx, hyy] at HP
      clear hx hy hxx hyy
      go_enter Tryd.func14, Tryd.ntmps14
      go_wp2_with fail
      refine (HSP.out _).mono ?_
      rintro e w1 ⟨v, rfl, hown, hx⟩
      obtain ⟨A1, k1, rfl, hc1, hnc1, hr1⟩ := hown.rd
      obtain ⟨g1, off1, rfl, hg1, d0⟩ := hr1.atS (i := 0) (by omega)
      obtain ⟨g2, off2, hA, hg2, d1⟩ := hr1.atS (i := 1) (by omega)
      injection hA with hA
      injection hA with e1 e2 _
      subst e1 e2
      rw [HQ0.out, Nat.add_zero] at d0
      rw [HQ1.out] at d1
      obtain ⟨xg, rfl⟩ := hx.to_gw
      unfold maxLen at hc1
      clear hx hown hr1
      go_upto_region 4 with fail
      go_cut [5] from 26 (fun s5 wx => ∃ b, s5 = .pointer (some ⟨b, 0, none⟩) ∧ b < wx.heap.size ∧ wx.cell? ⟨b, 0, none⟩ = some (.int .i64 x) ∧ wx.cell? ⟨b, 1, none⟩ = some (.int .i64 y) ∧ Ext (w.alloc (.cells #[.int .i64 0, .int .i64 0] 26)) wx)
      case first =>
        have HS := Lib.hid (show ∀ W, Ext (gw (w.alloc (.cells #[.int .i64 0, .int .i64 0] 26)) xg) W → W.cell? ⟨g1, off1, none⟩ = some (.string p0) ∧ W.cell? ⟨g1, off1 + 1, none⟩ = some (.string p1) from
          fun W hW => ⟨(hW.cell (p := ⟨g1, off1, none⟩) hg1).trans d0, (hW.cell (p := ⟨g1, off1 + 1, none⟩) hg1).trans d1⟩)
        go_region_held3 (fun w' => w'.cell? ⟨g1, off1, none⟩ = some (.string p0) ∧ w'.cell? ⟨g1, off1 + 1, none⟩ = some (.string p1))
          (first | (exact HS.out _ (by repeat (with_reducible first | assumption | exact Ext.refl _ | refine Ext.drewN ?_ _ | refine Ext.drew ?_ | refine Ext.alloc ?_ _ | refine Ext.setCell ?_ (by first | (simp; done) | (simp; omega)) _))) | go_keep)
          ((first | (go_at_call 48; with_reducible refine (H0.out _).mono ?_; rintro e w1 ⟨rfl, rfl⟩) | (go_at_call 48; with_reducible refine (H1.out _).mono ?_; rintro e w1 ⟨rfl, rfl⟩)))
        all_goals
          go_wp2_with fail
          go_meet
          case rel => exact ⟨_, rfl, by simp, by simp [go_sem], by simp [go_sem], (by repeat (with_reducible first | exact Ext.refl _ | refine Ext.setCell ?_ (by first | (simp; done) | (simp; omega)) _ | refine Ext.alloc ?_ _ | refine Ext.gw ?_ _ | refine Ext.drew ?_))⟩
      case rest =>
        obtain ⟨b, rfl, hb, e0, e1, hx⟩ := hcut
        clear d0 d1 H0 H1 ht0 ht1
        have hbr : w.heap.size < wc.heap.size := Nat.lt_of_lt_of_le (by simp) hx.size_le
        go_wp2_with fail
        refine (l2Brine_any x y _).mono ?_
        rintro e w5 ⟨rfl, hx5⟩
        replace e0 := (hx5.cell (p := ⟨b, 0, none⟩) hb).trans e0
        replace e1 := (hx5.cell (p := ⟨b, 1, none⟩) hb).trans e1
        replace hb := Nat.lt_of_lt_of_le hb hx5.size_le
        replace hx := hx.trans hx5
        have r0 : w5.cell? ⟨w.heap.size, 0, none⟩ = some (.int .i64 0) := (hx.cell (p := ⟨w.heap.size, 0, none⟩) (by simp)).trans (by simp [go_sem])
        have r1 : w5.cell? ⟨w.heap.size, 1, none⟩ = some (.int .i64 0) := (hx.cell (p := ⟨w.heap.size, 1, none⟩) (by simp)).trans (by simp [go_sem])
        have f0 : w5.frozen? ⟨w.heap.size, 0, none⟩ = false := (hx.frozen (p := ⟨w.heap.size, 0, none⟩) (by simp)).trans (by simp [go_sem])
        have f1 : w5.frozen? ⟨w.heap.size, 1, none⟩ = false := (hx.frozen (p := ⟨w.heap.size, 1, none⟩) (by simp)).trans (by simp [go_sem])
        clear hx5 hbr
        have HXW := Lib.hid ((Ext.alloc (Ext.refl w) _).trans hx)
        have hw5 : w.heap.size < w5.heap.size := Nat.lt_of_lt_of_le (by simp) hx.size_le
        cases hbv : brineB x y
        · have HX := Lib.hid (pb_no (s := s) (fun hp => by rw [(HP.out.1 hp).2.2.2.1] at hbv; cases hbv))
          clear hx
          dsimp only
          go_wp2
          exact bodyPost_ret (v := .tuple #[.agg #[.int .i64 0, .int .i64 0], .bool false]) (by simp [results, Tryd.results14, go_sem, r0, r1]) rfl ⟨by rw [HX.out.1, HX.out.2.1, HX.out.2.2], (HXW.out.setCell (Nat.le_refl _) _).setCell (Nat.le_refl _) _⟩
        · have HB := Lib.hid (brineB_iff.1 hbv)
          have HT := Lib.hid (fun w => l2Text_any x y w HB.out)
          by_cases he : bText x y = s
          · have HX := Lib.hid (pb_yes hbv he)
            have q := bs_eq he
            clear he
            go_wp2_with fail
            refine (HT.out _).mono ?_
            rintro e w6 ⟨rfl, hx6⟩
            replace r0 := (hx6.cell (p := ⟨w.heap.size, 0, none⟩) hw5).trans r0
            replace r1 := (hx6.cell (p := ⟨w.heap.size, 1, none⟩) hw5).trans r1
            replace f0 := (hx6.frozen (p := ⟨w.heap.size, 0, none⟩) hw5).trans f0
            replace f1 := (hx6.frozen (p := ⟨w.heap.size, 1, none⟩) hw5).trans f1
            replace e0 := (hx6.cell (p := ⟨b, 0, none⟩) hb).trans e0
            replace e1 := (hx6.cell (p := ⟨b, 1, none⟩) hb).trans e1
            have HXY := Lib.hid (HXW.out.trans hx6)
            clear hx6 hx
            dsimp only
            go_wp2
            exact bodyPost_ret (v := .tuple #[.agg #[.int .i64 x, .int .i64 y], .bool true]) (by simp [results, Tryd.results14, go_sem, r0, r1]) rfl ⟨by rw [HX.out.1, HX.out.2.1, HX.out.2.2], (HXY.out.setCell (Nat.le_refl _) _).setCell (Nat.le_refl _) _⟩
          · have HX := Lib.hid (pb_no (s := s) (fun hp => he (HP.out.1 hp).2.2.2.2))
            have q := bs_ne he
            clear he
            go_wp2_with fail
            refine (HT.out _).mono ?_
            rintro e w6 ⟨rfl, hx6⟩
            replace r0 := (hx6.cell (p := ⟨w.heap.size, 0, none⟩) hw5).trans r0
            replace r1 := (hx6.cell (p := ⟨w.heap.size, 1, none⟩) hw5).trans r1
            replace f0 := (hx6.frozen (p := ⟨w.heap.size, 0, none⟩) hw5).trans f0
            replace f1 := (hx6.frozen (p := ⟨w.heap.size, 1, none⟩) hw5).trans f1
            replace e0 := (hx6.cell (p := ⟨b, 0, none⟩) hb).trans e0
            replace e1 := (hx6.cell (p := ⟨b, 1, none⟩) hb).trans e1
            have HXY := Lib.hid (HXW.out.trans hx6)
            clear hx6 hx
            dsimp only
            go_wp2
            exact bodyPost_ret (v := .tuple #[.agg #[.int .i64 0, .int .i64 0], .bool false]) (by simp [results, Tryd.results14, go_sem, r0, r1]) rfl ⟨by rw [HX.out.1, HX.out.2.1, HX.out.2.2], (HXY.out.setCell (Nat.le_refl _) _).setCell (Nat.le_refl _) _⟩
    · have HX := Lib.hid (pb_no (s := s) (fun hp => hc ⟨(HP.out.1 hp).2.1, (HP.out.1 hp).2.2.1⟩))
      by_cases hc0 : p0.size < 2
      · clear hc hx hy
        go_enter Tryd.func14, Tryd.ntmps14
        go_wp2_with fail
        refine (HSP.out _).mono ?_
        rintro e w1 ⟨v, rfl, hown, hx⟩
        obtain ⟨A1, k1, rfl, hc1, hnc1, hr1⟩ := hown.rd
        obtain ⟨g1, off1, rfl, hg1, d0⟩ := hr1.atS (i := 0) (by omega)
        rw [HQ0.out, Nat.add_zero] at d0
        obtain ⟨x, rfl⟩ := hx.to_gw
        unfold maxLen at hc1
        clear hx hown hr1
        go_wp2
        exact bodyPost_ret (v := .tuple #[.agg #[.int .i64 0, .int .i64 0], .bool false]) (by simp [results, Tryd.results14, go_sem]) rfl ⟨by rw [HX.out.1, HX.out.2.1, HX.out.2.2], by repeat (with_reducible first | exact Ext.refl _ | refine Ext.setCell ?_ (by first | (simp; done) | (simp; omega)) _ | refine Ext.alloc ?_ _ | refine Ext.gw ?_ _ | refine Ext.drew ?_)⟩
      · have c0 : 2 ≤ p0.size := by omega
        have c1 : p1.size < 2 := by omega
        clear hc hc0 hx hy
        go_enter Tryd.func14, Tryd.ntmps14
        go_wp2_with fail
        refine (HSP.out _).mono ?_
        rintro e w1 ⟨v, rfl, hown, hx⟩
        obtain ⟨A1, k1, rfl, hc1, hnc1, hr1⟩ := hown.rd
        obtain ⟨g1, off1, rfl, hg1, d0⟩ := hr1.atS (i := 0) (by omega)
        obtain ⟨g2, off2, hA, hg2, d1⟩ := hr1.atS (i := 1) (by omega)
        injection hA with hA
        injection hA with e1 e2 _
        subst e1 e2
        rw [HQ0.out, Nat.add_zero] at d0
        rw [HQ1.out] at d1
        obtain ⟨x, rfl⟩ := hx.to_gw
        unfold maxLen at hc1
        clear hx hown hr1
        go_wp2
        exact bodyPost_ret (v := .tuple #[.agg #[.int .i64 0, .int .i64 0], .bool false]) (by simp [results, Tryd.results14, go_sem]) rfl ⟨by rw [HX.out.1, HX.out.2.1, HX.out.2.2], by repeat (with_reducible first | exact Ext.refl _ | refine Ext.setCell ?_ (by first | (simp; done) | (simp; omega)) _ | refine Ext.alloc ?_ _ | refine Ext.gw ?_ _ | refine Ext.drew ?_)⟩
  · have HX := Lib.hid (pb_no (s := s) (fun hp => h2 (HP.out.1 hp).1))
    have q : ((n : Int) != 2) = true := by rw [bne_iff_ne]; omega
    have q' : (n != 2) = true := by rw [bne_iff_ne]; omega
    clear h2
    go_enter Tryd.func14, Tryd.ntmps14
    go_wp2_with fail
    refine (HSP.out _).mono ?_
    rintro e w1 ⟨v, rfl, hown, hx⟩
    obtain ⟨A1, k1, rfl, hc1, hnc1, hr1⟩ := hown.rd
    obtain ⟨x, rfl⟩ := hx.to_gw
    unfold maxLen at hc1
    clear hx hown hr1
    go_wp2
    exact bodyPost_ret (v := .tuple #[.agg #[.int .i64 0, .int .i64 0], .bool false]) (by simp [results, Tryd.results14, go_sem]) rfl ⟨by rw [HX.out.1, HX.out.2.1, HX.out.2.2], by repeat (with_reducible first | exact Ext.refl _ | refine Ext.setCell ?_ (by first | (simp; done) | (simp; omega)) _ | refine Ext.alloc ?_ _ | refine Ext.gw ?_ _ | refine Ext.drew ?_)⟩
theorem eqBr_any (a b : Int) (w : World) : Calls Tryd.prog 16 #[.agg #[.int .i64 a, .int .i64 b], .agg #[.int .i64 a, .int .i64 b]] w fun e w' => e = .returned (.bool true) ∧ Ext w w' := by
  go_enter Tryd.func16, Tryd.ntmps16
  go_wp2
  go_ret
  exact ⟨rfl, by repeat (with_reducible first | exact Ext.refl _ | refine Ext.setCell ?_ (by first | (simp; done) | (simp; omega)) _ | refine Ext.alloc ?_ _ | refine Ext.gw ?_ _ | refine Ext.drew ?_)⟩
set_option maxHeartbeats 1000000 in
theorem FnExactParseBrine_walk (s : ByteArray) (hm : s.size ≤ maxLen) (w : World) (ht : TabW w) (hx : MaxW w) : Calls Tryd.prog 4 #[.string s] w fun e w' => e = .returned (.bool true) ∧ Ext w w' := by
  have HT := Lib.hid ht
  have HM := Lib.hid hx
  clear ht hx
  unfold maxLen at hm
  by_cases hs : s.size ≤ 1048576
  · have HS := Lib.hid hs
    obtain ⟨a, ha⟩ : ∃ a, pbA s = a := ⟨_, rfl⟩
    obtain ⟨b, hb⟩ : ∃ b, pbB s = b := ⟨_, rfl⟩
    obtain ⟨c, hc⟩ : ∃ c, pbC s = c := ⟨_, rfl⟩
    have H1 := Lib.hid (fun w => specPB_any s w hs)
    have H2 := Lib.hid (fun w hm ht => implPB_any s w hs hm ht)
    rw [ha, hb, hc] at H1 H2
    clear ha hb hc
    go_enter Tryd.func4, Tryd.ntmps4
    go_wp2_with fail
    refine (H1.out _).mono ?_
    rintro e w1 ⟨rfl, hx1⟩
    obtain ⟨x1, rfl⟩ := hx1.to_gw
    clear hx1
    dsimp only
    go_wp2_with fail
    refine (H2.out _ (HM.out.ext (by repeat (with_reducible first | exact Ext.refl _ | refine Ext.setCell ?_ (by first | (simp; done) | (simp; omega)) _ | refine Ext.alloc ?_ _ | refine Ext.gw ?_ _ | refine Ext.drew ?_) : Ext w _)) (HT.out.ext (by repeat (with_reducible first | exact Ext.refl _ | refine Ext.setCell ?_ (by first | (simp; done) | (simp; omega)) _ | refine Ext.alloc ?_ _ | refine Ext.gw ?_ _ | refine Ext.drew ?_) : Ext w _))).mono ?_
    rintro e w1 ⟨rfl, hx1⟩
    obtain ⟨x2, rfl⟩ := hx1.to_gw
    clear hx1
    dsimp only
    go_wp2_with (go_at_call 16; refine (eqBr_any _ _ _).mono ?_; rintro e w1 ⟨rfl, hx⟩; obtain ⟨x3, rfl⟩ := hx.to_gw; clear hx)
    go_ret
    exact ⟨rfl, by repeat (with_reducible first | exact Ext.refl _ | refine Ext.setCell ?_ (by first | (simp; done) | (simp; omega)) _ | refine Ext.alloc ?_ _ | refine Ext.gw ?_ _ | refine Ext.drew ?_)⟩
  · have hs2 : 1048576 < s.size := by omega
    clear hs
    go_enter Tryd.func4, Tryd.ntmps4
    go_wp2
    go_ret
    exact ⟨rfl, by repeat (with_reducible first | exact Ext.refl _ | refine Ext.setCell ?_ (by first | (simp; done) | (simp; omega)) _ | refine Ext.alloc ?_ _ | refine Ext.gw ?_ _ | refine Ext.drew ?_)⟩
end Go.Proofs.YtpmbnfoilhfobaaDoor
