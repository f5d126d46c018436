/- The drawing of a list of texts and of a mark to join them with. -/
import Derived.Test.YtpmbnfoilhfobaaDoorDrawS
import Derived.Test.YtpmbnfoilhfobaaDoorCurS
import Derived.Test.YtpmbnfoilhfobaaDoorJoin
import Derived.Deep.Cut
namespace Go.Proofs.YtpmbnfoilhfobaaDoor
open Go.RowKit
set_option linter.unusedVariables false

theorem tS_pre (l : List ByteArray) (x : ByteArray) : ∀ k, k ≤ l.length → tS (l ++ [x]) k = tS l k := by
  intro k
  induction k with
  | zero => intro _; rfl
  | succ k ih =>
    intro hk
    show tS (l ++ [x]) k + ((l ++ [x]).getD k ByteArray.empty).size = tS l k + (l.getD k ByteArray.empty).size
    rw [ih (by omega), List.getD_eq_getElem?_getD, List.getElem?_append_left (by omega), List.getD_eq_getElem?_getD]
theorem tS_app (l : List ByteArray) (x : ByteArray) : tS (l ++ [x]) (l ++ [x]).length = tS l l.length + x.size := by
  rw [List.length_append]
  show tS (l ++ [x]) l.length + ((l ++ [x]).getD l.length ByteArray.empty).size = _
  rw [tS_pre l x _ (Nat.le_refl _)]
  simp [List.getD_eq_getElem?_getD]
theorem own_start (w : World) (o : Obj) (t : TypeId) : OwnS ((w.alloc o).alloc (.cells #[] t)) (w.heap.size + 1) t 1 (.slice (some ⟨w.heap.size + 1, 0, none⟩) 0 0) 0 (mkS []) :=
  own_empty (w.alloc o) _ (by simp) (Nat.le_refl _)
/-- A drawn list of texts and a mark. -/
def DrawnLT (w : World) (e : Ending) (w' : World) : Prop := ∃ (A : Option Addr) (c : Nat) (l : List ByteArray) (p : ByteArray),
  e = .returned (.tuple #[.slice A l.length c, .string p]) ∧ c ≤ maxLen ∧ l.length ≤ c ∧ l.length ≤ 4 ∧ tS l l.length ≤ 5000 ∧ p.size ≤ 2 ∧ Rd w' A l.length 1 (mkS l) ∧ Ext w w'
set_option maxRecDepth 100000 in
set_option maxHeartbeats 4000000 in
theorem drawJoin_any (w : World) (A : Option Addr) (n c : Nat) (h : Code w A n) : Calls Tryd.prog 37 #[.slice A n c] w (DrawnLT w) := by
  have HC := Lib.hid h
  clear h
  go_enter Tryd.func37, Tryd.ntmps37
  go_wp2_with fail
  refine (pick_any w _ w.heap.size 0 4 ((cur_new HC.out (Ext.refl w) c _ rfl).ext (Ext.alloc (Ext.refl _) _)) (by omega) (by omega) (by omega)).mono ?_
  rintro e w1 ⟨k, rfl, k0, k1, h1, g1⟩
  have hown := (own_start w _ _).far g1 (Nat.lt_succ_self _)
  clear g1
  obtain ⟨q0, rfl⟩ : ∃ q : Nat, k = (q : Int) := ⟨k.toNat, by omega⟩
  go_wp2_with fail
  go_loopw [5, 7] (fun s5 s7 wr => ∃ (i : Nat) (l : List ByteArray) (g cap : Nat), s7 = .int .i64 (i : Int) ∧ i ≤ q0 ∧ l.length = i ∧ s5 = .slice (some ⟨g, 0, none⟩) i cap ∧ Hid (tS l l.length ≤ 10 * l.length) ∧ OwnS wr (w.heap.size + 1) 9 1 (.slice (some ⟨g, 0, none⟩) i cap) i (mkS l) ∧ Cur w wr w.heap.size (2 + 2 * i)) (fun _ s7 _ => 20 - (intOf s7).toNat)
  case atStart => exact ⟨0, [], _, _, rfl, by omega, rfl, rfl, Lib.hid (Nat.zero_le _), hown, h1.mono (by omega)⟩
  case round =>
    obtain ⟨i, l, g, cap, rfl, hi, hl, rfl, HT, hown, hc⟩ := hrel
    clear h1
    by_cases hlt : i < q0
    · have i1 : (i : Int) < (q0 : Int) := by omega
      go_wp2_with fail
      refine (any1_any w _ w.heap.size _ hc (by omega)).mono ?_
      rintro e w2 ⟨x, rfl, hx, h2, g2⟩
      replace hown := hown.far g2 (Nat.lt_succ_self _)
      have hown2 := hown.congr (f' := mkS (l ++ [x])) (fun a j ha hj => mkS_app l x a j (by omega) hj)
      have HT2 := Lib.hid (show tS (l ++ [x]) (l ++ [x]).length ≤ 10 * (l ++ [x]).length by have := HT.out; rw [tS_app, List.length_append]; simp; omega)
      have HL := Lib.hid hl
      have hw2 := h2.lt
      clear hc g2
      go_wp2_with (at_builtin; refine wpList_append_C rfl _ _ elStr rfl rfl hown2 rfl rfl rfl (fun j hj => by
        match j, hj with
        | 0, _ => rw [← HL.out, mkS_last]; rfl) (fun j _ => by rw [← HL.out, mkS_last]; rfl) (by omega) (by omega) ?_)
      intro v' w' hown3 gown
      have h3 := hown2.cur gown (Nat.lt_succ_self _) (Nat.le_succ _) h2
      clear hown hown2 gown h2
      obtain ⟨A1, cap1, rfl, hnc1, hcm1, hf⟩ := hown3.form
      obtain ⟨ga, rfl, _⟩ := hf (by omega)
      clear hf
      go_wp2_with fail
      go_roundw
      case rel => exact ⟨i + 1, l ++ [x], ga, cap1, by go_num, by omega, by rw [List.length_append, HL.out]; rfl, rfl, HT2, hown3, h3.mono (by omega)⟩
      case measure => simp [intOf]; omega
    · have hi3 : i ≤ 3 := by omega
      go_wp2_with fail
      refine (one_any w _ w.heap.size _ 20 hc (by omega) (by omega) (by omega)).mono ?_
      rintro e w2 ⟨z, rfl, h2, g2⟩
      replace hown := hown.far g2 (Nat.lt_succ_self _)
      clear hc g2
      dsimp only
      cases z
      · go_wp2_with fail
        refine (of_lit w _ w.heap.size _ [⟨#[44]⟩, ⟨#[59]⟩, ⟨#[59]⟩, ⟨#[]⟩, ⟨#[97, 98]⟩] 2 h2 rfl rfl rfl (by omega) (by decide) (by decide) (by decide)).mono ?_
        rintro e w3 ⟨p, rfl, hp, h3, g3⟩
        replace hown := hown.far g3 (Nat.lt_succ_self _)
        go_wp2_with fail
        go_ret2
        obtain ⟨A1, c1, hv, hcm, hnc, hr⟩ := hown.rd
        injection hv with ha _ hcc
        subst ha hcc hl
        have := HT.out
        exact ⟨_, _, l, p, rfl, hcm, hnc, by omega, by omega, hp, hr, h3.base⟩
      · go_wp2_with fail
        refine (pick_any w _ w.heap.size _ 20 h2 (by omega) (by omega) (by omega)).mono ?_
        rintro e w3 ⟨x, rfl, x0, x1, h3, g3⟩
        replace hown := hown.far g3 (Nat.lt_succ_self _)
        clear h2 g3
        obtain ⟨N, hN⟩ : ∃ N : Nat, 3990 + x = (N : Int) := ⟨(3990 + x).toNat, by omega⟩
        obtain ⟨Z, y, hy, hmk, hcv⟩ := zero_text N (by omega)
        have hN2 : N ≤ 4009 := by omega
        have hown2 := (hown.ext (Ext.alloc (Ext.refl _) (.cells Z 5))).congr (f' := mkS (l ++ [y])) (fun a j ha hj => mkS_app l y a j (by omega) hj)
        have h4 := h3.ext (Ext.alloc (Ext.refl _) (.cells Z 5))
        have HT2 := Lib.hid (show tS (l ++ [y]) (l ++ [y]).length ≤ 5000 by have := HT.out; rw [tS_app]; omega)
        have HL := Lib.hid hl
        have hw4 := h4.lt
        clear h3 hown hy
        go_wp2_with (at_builtin; refine wpList_append_C rfl _ _ elStr rfl rfl hown2 rfl (by simp) rfl (fun j hj => by
          match j, hj with
          | 0, _ => rw [← HL.out, mkS_last]; rfl) (fun j _ => by rw [← HL.out, mkS_last]; rfl) (by omega) (by simp at hw4 ⊢; omega) ?_)
        intro v' w' hown3 gown
        have h5 := hown2.cur gown (Nat.lt_succ_self _) (Nat.le_succ _) h4
        clear hown2 gown h4 hmk hcv
        obtain ⟨A1, cap1, rfl, hnc1, hcm1, hf⟩ := hown3.form
        clear hf
        go_wp2_with fail
        refine (of_lit w _ w.heap.size _ [⟨#[44]⟩, ⟨#[59]⟩, ⟨#[59]⟩, ⟨#[]⟩, ⟨#[97, 98]⟩] 2 h5 rfl rfl rfl (by omega) (by decide) (by decide) (by decide)).mono ?_
        rintro e w6 ⟨p, rfl, hp, h6, g6⟩
        replace hown3 := hown3.far g6 (Nat.lt_succ_self _)
        go_wp2_with fail
        go_ret2
        obtain ⟨A2, c2, hv, hcm, hnc, hr⟩ := hown3.rd
        injection hv with ha _ hcc
        subst ha hcc
        have he : i + 1 = (l ++ [y]).length := by rw [List.length_append, HL.out]; rfl
        rw [he] at hr hnc ⊢
        exact ⟨_, _, l ++ [y], p, rfl, hcm, hnc, by omega, HT2.out, hp, hr, h6.base⟩
end Go.Proofs.YtpmbnfoilhfobaaDoor
