/- The drawings of lists of ponds. -/
import Derived.Test.YtkgnfmdeimaedaaPondD
import Derived.Test.YtkgnfmdeimaedaaPonds
import Derived.Test.YtkgnfmdeimaedaaAppAll
import Derived.Test.YtkgnfmdeimaedaaStepApp
import Derived.Deep.Cut
import Derived.Deep.RegionHeld3
import Derived.Deep.AppendLies
namespace Go.Proofs.Ytkgnfmdeimaedaa
open Go.RowKit
set_option linter.unusedVariables false

/-- A method of the cursor that gives a list of ponds. -/
def PondsRet (w0 w : World) (b m : Nat) (e : Ending) (w' : World) : Prop :=
  ∃ (A : Option Addr) (n c : Nat) (p : Nat → Pd), e = .returned (.slice A n c) ∧ c ≤ maxLen ∧ n ≤ c ∧ n ≤ 100 ∧ Rd w' A n 6 (pdF p) ∧ (∀ a, A = some a → a.block ≠ b) ∧ Cur w0 w' b m ∧ w.grownBy w' (some b)
theorem pdF_put (p : Nat → Pd) (x : Pd) (n i j : Nat) (h : i < n) : pdF (fun i => if i = n then x else p i) i j = pdF p i j := by
  have h2 : ¬ i = n := by omega
  simp only [pdF, if_neg h2]
theorem pdF_new (p : Nat → Pd) (x : Pd) (n j : Nat) (hj : j < 6) : (#[.int .i64 x.id, .int .i64 x.left, .int .i64 x.top, .int .i64 x.wide, .int .i64 x.high, .int .i64 x.depth] : Array Value)[j]? = some (pdF (fun i => if i = n then x else p i) n j) := by
  match j, hj with
  | 0, _ => simp [pdF]
  | 1, _ => simp [pdF]
  | 2, _ => simp [pdF]
  | 3, _ => simp [pdF]
  | 4, _ => simp [pdF]
  | 5, _ => simp [pdF]
theorem Rd.farP {w w' : World} {A : Option Addr} {n k b : Nat} {f : Nat → Nat → Value} (h : Rd w A n k f) (hg : w.grownBy w' (some b)) (hne : ∀ a, A = some a → a.block ≠ b) : Rd w' A n k f := fun hn => by
  obtain ⟨g, off, hA, hgl, hc⟩ := h hn
  exact ⟨g, off, hA, Nat.lt_of_lt_of_le hgl hg.size, fun i j hi hj => hg.cell (hc i j hi hj) (fun h' => hne _ hA (Option.some.inj h'))⟩
theorem OwnS.rdA {w : World} {base e size n c : Nat} {A : Option Addr} {f : Nat → Nat → Value} (h : OwnS w base e size (.slice A n c) n f) : Rd w A n size f := by
  obtain ⟨A', c', hv, _, _, hr⟩ := h.rd
  injection hv with h1 _ _
  subst h1
  exact hr
/-- What a list of the call's own gives back. -/
theorem own_ret {w0 w w' : World} {base e n b m : Nat} {v : Value} {p : Nat → Pd} (h : OwnS w' base e 6 v n (pdF p)) (hb : b < base) (hn : n ≤ 100) (hc : Cur w0 w' b m) (hg : w.grownBy w' (some b)) : PondsRet w0 w b m (.returned v) w' := by
  obtain ⟨A, c, hv, hcm, hnc, hr⟩ := h.rd
  refine ⟨A, n, c, p, by rw [hv], hcm, hnc, hn, hr, fun a ha => ?_, hc, hg⟩
  have := h.block a.block (by rw [hv, ha]; rfl)
  omega
set_option maxRecDepth 100000 in
set_option maxHeartbeats 4000000 in
theorem ponds_any (w0 w : World) (b m : Nat) (h : Cur w0 w b m) (hm : m ≤ 1000000000) : Calls Try.prog 74 #[.pointer (some ⟨b, 0, none⟩)] w (PondsRet w0 w b (m + 400)) := by
  have hbw := h.lt
  go_enter Try.func74, Try.ntmps74
  go_wp2_with fail
  have hxA := Ext.alloc (Ext.refl w) (Obj.cells #[] 51)
  have hown := own_empty (e := 51) (size := 6) (f := pdF fun _ => ⟨0, 0, 0, 0, 0, 0⟩) w w.heap.size rfl (Nat.le_refl _)
  refine (pick_any w0 _ b m 16 (h.ext hxA) (by omega) (by omega) (by omega)).mono ?_
  rintro e w1 ⟨k, rfl, k0, k1, h1, g1⟩
  replace hown := hown.far g1 hbw.2
  replace g1 := grownBy_trans (grownBy_ext hxA (some b)) g1
  obtain ⟨q0, rfl⟩ : ∃ q : Nat, k = (q : Int) := ⟨k.toNat, by omega⟩
  clear h hxA
  go_wp2_with fail
  go_loopw [3, 4, 5, 6] (fun s3 s4 s5 _ wr => ∃ (q n g cap : Nat) (id : Int) (p : Nat → Pd), s5 = .int .i64 (q : Int) ∧ q ≤ 15 ∧ n + q ≤ 15 ∧ s4 = .int .i64 id ∧ 0 ≤ id ∧ id + 2 * q ≤ 30 ∧ s3 = .slice (some ⟨g, 0, none⟩) n cap ∧ n ≤ cap ∧ OwnS wr w.heap.size 51 6 (.slice (some ⟨g, 0, none⟩) n cap) n (pdF p) ∧ Cur w0 wr b (m + 300 - 18 * q) ∧ w.grownBy wr (some b)) (fun _ _ s5 _ _ => (intOf s5).toNat)
  case atStart => exact ⟨q0, 0, _, 0, 0, _, rfl, by omega, by omega, rfl, by omega, by omega, rfl, Nat.le_refl _, hown, h1.mono (by omega), g1⟩
  case round =>
    obtain ⟨q, n, g, cap, id, p, rfl, hq, hnq, rfl, id0, id1, rfl, hncap, hown, hc, hg⟩ := hrel
    clear h1 g1
    by_cases hq0 : 0 < q
    · have hqi : (0 : Int) < (q : Int) := by omega
      go_wp2_with fail
      refine (pick_any w0 _ b _ 2 hc (by omega) (by omega) (by omega)).mono ?_
      rintro e w4 ⟨x, rfl, x0, x1, h4, g4⟩
      replace hown := hown.far g4 hbw.2
      replace g4 := grownBy_trans hg g4
      have HB := Lib.hid (show ∀ i j, i < n → j < 6 → g < w4.heap.size ∧ w4.cell? ⟨g, 0 + i * 6 + j, none⟩ = some (pdF p i j) from fun i j hi hj => by
        obtain ⟨A1, cap1, hv, _, _, hf1⟩ := hown.form
        injection hv with hA _ hcp
        subst hA hcp
        obtain ⟨g1, hg1, _, _, hgl1, hcell1⟩ := hf1 (by omega)
        injection hg1 with hg1
        injection hg1 with hg1 _ _
        subst hg1
        rw [Nat.zero_add]
        exact ⟨hgl1, (hcell1 i j hi hj).1⟩)
      clear hc hg
      go_wp2_with (at_builtin; refine wpList_append_all rfl _ _ elPond rfl rfl (own_empty w4 w4.heap.size rfl (Nat.le_refl _)) rfl (fun i j hi hj => ((Ext.alloc (Ext.refl w4) _).cell (HB.out i j hi hj).1).trans (HB.out i j hi hj).2) (fun i l _ hl => pdF_one p i l hl) (by omega) (by simp) ?_)
      intro v5 w5 hown5 hext
      have hE5 : Ext w4 w5 := hext w4 (Ext.alloc (Ext.refl w4) _) (Nat.le_refl _)
      have h5 := h4.ext hE5
      have g5 := grownBy_trans g4 (grownBy_ext hE5 (some b))
      have hb5 : b < w4.heap.size := h4.lt.2
      have hwb : w.heap.size ≤ w4.heap.size := g4.size
      have hw0 : w0.heap.size ≤ w4.heap.size := by have := h4.lt; omega
      have hown4 := hown
      replace hown := hown.ext hE5
      clear HB hext h4 g4
      go_wp2_with fail
      refine (pond_any w0 _ b _ _ h5 (by omega)).mono ?_
      rintro e w6 ⟨y, rfl, h6, g6⟩
      replace hown := hown.far g6 hbw.2
      replace hown5 := hown5.far g6 hb5
      have g56 := g6
      replace g6 := grownBy_trans g5 g6
      have hb6 : w4.heap.size ≤ w6.heap.size := Nat.le_trans hE5.size_le g56.size
      clear h5 g5 g56
      have hown6 := hown5.congr (f' := pdF fun i => if i = n then y else p i) (fun i j hi _ => pdF_put p y n i j hi)
      go_wp2_with (at_builtin; refine wpList_append_C rfl _ _ elPond rfl rfl hown6 rfl rfl rfl (pdF_new p y n) (pdF_one _ _) (by omega) hb6 ?_)
      intro v7 w7 hown7 gown
      have h7 := hown6.cur gown hb5 hw0 h6
      have g7 := hown6.since gown hwb g6
      replace hown := hown.kept gown (hown4.apart hown6 (Nat.le_refl _))
      clear hown4 hown5 hown6 gown h6 g6 hE5
      obtain ⟨p7, hp7⟩ : ∃ p7 : Nat → Pd, p7 = fun i => if i = n then y else p i := ⟨_, rfl⟩
      rw [← hp7] at hown7
      clear hp7
      replace hown7 := hown7.lower hwb
      obtain ⟨A7, cap7, rfl, hn7, hc7, hf7⟩ := hown7.form
      obtain ⟨ga, rfl, _⟩ := hf7 (by omega)
      clear hf7
      have hr7 := hown7.rdA
      go_wp2_with fail
      refine (l3Good_any _ (n + 1) cap7 p7 _ hc7 hn7 hr7).mono ?_
      rintro e w8 ⟨rfl, hx8⟩
      replace h7 := h7.ext hx8
      replace g7 := grownBy_trans g7 (grownBy_ext hx8 _)
      replace hown := hown.ext hx8
      replace hown7 := hown7.ext hx8
      clear hx8 hr7
      generalize pondsB (n + 1) p7 = gd
      cases gd
      · go_wp2_with fail
        refine (one_any w0 _ b _ 60 h7 (by omega) (by omega) (by omega)).mono ?_
        rintro e w9 ⟨z, rfl, h9, g9⟩
        replace hown := hown.far g9 hbw.2
        replace hown7 := hown7.far g9 hbw.2
        replace g9 := grownBy_trans g7 g9
        clear h7 g7
        cases z
        · go_wp2_with fail
          go_roundw
          case rel => exact ⟨q - 1, n, g, cap, _, p, by go_num, by omega, by omega, rfl, by omega, by omega, rfl, hncap, hown, h9.mono (by omega), g9⟩
          case measure => simp [intOf]; omega
        · go_wp2_with fail
          go_roundw
          case rel => exact ⟨q - 1, n + 1, ga, cap7, _, p7, by go_num, by omega, by omega, rfl, by omega, by omega, rfl, hn7, hown7, h9.mono (by omega), g9⟩
          case measure => simp [intOf]; omega
      · go_wp2_with fail
        go_roundw
        case rel => exact ⟨q - 1, n + 1, ga, cap7, _, p7, by go_num, by omega, by omega, rfl, by omega, by omega, rfl, hn7, hown7, h7.mono (by omega), g7⟩
        case measure => simp [intOf]; omega
    · have hqi : (q : Int) = 0 := by omega
      have hq3 : q = 0 := by omega
      subst hq3
      go_wp2_with fail
      refine (pick_any w0 _ b _ 30 hc (by omega) (by omega) (by omega)).mono ?_
      rintro e w4 ⟨k, rfl, k0, k1, h4, g4⟩
      replace hown := hown.far g4 hbw.2
      replace g4 := grownBy_trans hg g4
      clear hc hg
      by_cases hk0 : k = 0
      · subst hk0
        clear hown
        go_wp2_with fail
        have hown := own_empty (e := 51) (size := 6) (base := w.heap.size) (f := pdF fun _ => ⟨0, 0, 0, 0, 0, 0⟩) w4 w4.heap.size rfl g4.size
        have h5 := h4.ext (Ext.alloc (Ext.refl w4) (Obj.cells #[] 51))
        have g5 := grown_alloc g4 (.cells #[] 51)
        clear h4 g4
        go_loopw [3, 7] (fun s3 s7 wr => ∃ (n : Nat) (p : Nat → Pd), s7 = .int .i64 (n : Int) ∧ OwnS wr w.heap.size 51 6 s3 n (pdF p) ∧ n ≤ 12 ∧ Cur w0 wr b (m + 310 + 2 * n) ∧ w.grownBy wr (some b)) (fun _ s7 _ => 20 - (intOf s7).toNat)
        case atStart => exact ⟨0, _, rfl, hown, by omega, h5.mono (by omega), g5⟩
        case round =>
          obtain ⟨n, p, rfl, hown, hn, hc, hg⟩ := hrel
          clear h5 g5
          obtain ⟨A0, cap, rfl, hnc, hcm, _⟩ := hown.form
          go_wp2_with fail
          refine (pick_any w0 _ b _ 2 hc (by omega) (by omega) (by omega)).mono ?_
          rintro e w6 ⟨x, rfl, x0, x1, h6, g6⟩
          replace hown := hown.far g6 hbw.2
          replace g6 := grownBy_trans hg g6
          clear hc hg
          by_cases hlt : (n : Int) < 10 + x
          · have hown2 := hown.congr (f' := pdF fun i => if i = n then ⟨(n : Int) + 1, 4 * ((n : Int) % 5), 3 * ((n : Int) / 5), 4, 3, 30⟩ else p i) (fun i j hi _ => pdF_put p _ n i j hi)
            go_wp2_with (at_builtin; refine wpList_append_C rfl _ _ elPond rfl rfl hown2 rfl rfl rfl (pdF_new p ⟨(n : Int) + 1, 4 * ((n : Int) % 5), 3 * ((n : Int) / 5), 4, 3, 30⟩ n) (pdF_one _ _) (by omega) g6.size ?_)
            intro v' w' hown3 gown
            replace h6 := hown.cur gown hbw.2 (by omega) h6
            replace g6 := hown.since gown (Nat.le_refl _) g6
            clear hown hown2 gown
            obtain ⟨A1, cap1, rfl, hnc1, hcm1, _⟩ := hown3.form
            go_wp2_with fail
            go_roundw
            case rel => exact ⟨n + 1, _, by go_num, hown3, by omega, h6.mono (by omega), g6⟩
            case measure => simp [intOf]; omega
          · go_wp2_with fail
            go_ret
            exact own_ret hown hbw.2 (by omega) (h6.mono (by omega)) g6
      · have hq0 : (k == 0) = false := by simpa using hk0
        by_cases hk1 : k = 1
        · subst hk1
          by_cases hn1 : 1 < n
          · have i1 : (1 : Int) < (n : Int) := by omega
            have i2 : (1 : Int) ≤ (n : Int) := by omega
            have i3 : (n : Int) ≤ (cap : Int) := by omega
            have i4 : 0 < n := by omega
            have i5 : (1 : Int) < (cap : Int) := by omega
            have i6 : ¬ cap = 1 := by omega
            have i7 : 1 < cap := by omega
            obtain ⟨hgw, hcells⟩ : g < w4.heap.size ∧ ∀ i j, i < n → j < 6 → w4.cell? ⟨g, i * 6 + j, none⟩ = some (pdF p i j) := by
              obtain ⟨A1, cap1, hv, _, _, hf1⟩ := hown.form
              injection hv with hA _ hcp
              subst hA hcp
              obtain ⟨g1, hg1, _, _, hgl1, hcell1⟩ := hf1 (by omega)
              injection hg1 with hg1
              injection hg1 with hg1 _ _
              subst hg1
              exact ⟨hgl1, fun i j hi hj => (hcell1 i j hi hj).1⟩
            have HB := Lib.hid hcells
            have c0 : w4.cell? ⟨g, 0, none⟩ = some (.int .i64 (p 0).id) := hcells 0 0 (by omega) (by omega)
            have c1 : w4.cell? ⟨g, 1, none⟩ = some (.int .i64 (p 0).left) := hcells 0 1 (by omega) (by omega)
            have c2 : w4.cell? ⟨g, 2, none⟩ = some (.int .i64 (p 0).top) := hcells 0 2 (by omega) (by omega)
            have c3 : w4.cell? ⟨g, 3, none⟩ = some (.int .i64 (p 0).wide) := hcells 0 3 (by omega) (by omega)
            have c4 : w4.cell? ⟨g, 4, none⟩ = some (.int .i64 (p 0).high) := hcells 0 4 (by omega) (by omega)
            have c5 : w4.cell? ⟨g, 5, none⟩ = some (.int .i64 (p 0).depth) := hcells 0 5 (by omega) (by omega)
            have HS := Lib.hid (show ∀ W, Ext w4 W → W.cell? ⟨g, 0, none⟩ = some (.int .i64 (p 0).id) ∧ W.cell? ⟨g, 1, none⟩ = some (.int .i64 (p 0).left) ∧ W.cell? ⟨g, 2, none⟩ = some (.int .i64 (p 0).top) ∧ W.cell? ⟨g, 3, none⟩ = some (.int .i64 (p 0).wide) ∧ W.cell? ⟨g, 4, none⟩ = some (.int .i64 (p 0).high) ∧ W.cell? ⟨g, 5, none⟩ = some (.int .i64 (p 0).depth) from
              fun W hW => ⟨(hW.cell hgw).trans c0, (hW.cell hgw).trans c1, (hW.cell hgw).trans c2, (hW.cell hgw).trans c3, (hW.cell hgw).trans c4, (hW.cell hgw).trans c5⟩)
            have hcur := Lib.hid h4
            have hgr := Lib.hid g4
            have hF : ∀ j, j < 6 → pdF (fun i => if i = n - 1 then p 0 else p (i + 1)) (n - 1) j = pdF (fun _ => p 0) 0 j := fun j _ => by simp [pdF]
            have HF := Lib.hid hF
            clear hown hcells h4 g4 hF
            go_wp2_with fail
            go_region_held3 (fun w' => w'.cell? ⟨g, 0, none⟩ = some (.int .i64 (p 0).id) ∧ w'.cell? ⟨g, 1, none⟩ = some (.int .i64 (p 0).left) ∧ w'.cell? ⟨g, 2, none⟩ = some (.int .i64 (p 0).top) ∧ w'.cell? ⟨g, 3, none⟩ = some (.int .i64 (p 0).wide) ∧ w'.cell? ⟨g, 4, none⟩ = some (.int .i64 (p 0).high) ∧ w'.cell? ⟨g, 5, none⟩ = some (.int .i64 (p 0).depth))
              (first | go_keep | (exact HS.out _ (by first | assumption | (repeat (with_reducible first | assumption | exact Ext.refl _ | refine Ext.drewN ?_ _ | refine Ext.drew ?_ | refine Ext.alloc ?_ _)))))
              ((first
                | (refine step_fresh rfl (.tmp 64) (.tmp 66) elPond (by rfl) (base := w4.heap.size) (m := n - 1) (c := cap - 1) (g := g) (off := 6) (by rfl) (pdF fun i => if i = n - 1 then p 0 else p (i + 1)) (by rfl) (fun i j hi hj => by
                    have e1 : 6 + (i * 6 + j) = (i + 1) * 6 + j := by omega
                    have e2 : pdF (fun i => if i = n - 1 then p 0 else p (i + 1)) i j = pdF p (i + 1) j := by
                      have h2 : ¬ i = n - 1 := by omega
                      simp only [pdF, if_neg h2]
                    rw [e1, e2]
                    exact (Ext.cell (w := w4) (by repeat (with_reducible first | exact Ext.refl _ | refine Ext.drewN ?_ _ | refine Ext.drew ?_ | refine Ext.alloc ?_ _)) hgw).trans (HB.out (i + 1) j (by omega) hj)) (by omega) (by omega) (Ext.size_le (by repeat (with_reducible first | exact Ext.refl _ | refine Ext.drewN ?_ _ | refine Ext.drew ?_ | refine Ext.alloc ?_ _))) ?_; intro v1 wa hown1 hxa; have hE1 : Ext w4 wa := Ext.trans (by repeat (with_reducible first | exact Ext.refl _ | refine Ext.drewN ?_ _ | refine Ext.drew ?_ | refine Ext.alloc ?_ _)) hxa)
                | (refine step_one rfl (.tmp 67) (.tmp 71) elPond (by rfl) (base := w4.heap.size) (n := n - 1) (c := 1) (v := v1) (pdF fun i => if i = n - 1 then p 0 else p (i + 1)) (by rfl) (by first | exact hown1 | exact hown1.ext (by repeat (with_reducible first | exact Ext.refl _ | refine Ext.drewN ?_ _ | refine Ext.drew ?_ | refine Ext.alloc ?_ _))) (by rfl) (fun j hj => by
                    rw [HF.out j hj]
                    match j, hj with
                    | 0, _ => first | (simp [pdF, go_sem]; done) | (refine (hxa.cell (by first | (simp; done) | (simp; omega))).trans ?_; simp [pdF, go_sem])
                    | 1, _ => first | (simp [pdF, go_sem]; done) | (refine (hxa.cell (by first | (simp; done) | (simp; omega))).trans ?_; simp [pdF, go_sem])
                    | 2, _ => first | (simp [pdF, go_sem]; done) | (refine (hxa.cell (by first | (simp; done) | (simp; omega))).trans ?_; simp [pdF, go_sem])
                    | 3, _ => first | (simp [pdF, go_sem]; done) | (refine (hxa.cell (by first | (simp; done) | (simp; omega))).trans ?_; simp [pdF, go_sem])
                    | 4, _ => first | (simp [pdF, go_sem]; done) | (refine (hxa.cell (by first | (simp; done) | (simp; omega))).trans ?_; simp [pdF, go_sem])
                    | 5, _ => first | (simp [pdF, go_sem]; done) | (refine (hxa.cell (by first | (simp; done) | (simp; omega))).trans ?_; simp [pdF, go_sem])) (fun j hj => pdF_one _ _ _ hj) (by omega) (Ext.size_le (by repeat (with_reducible first | exact hE1 | refine Ext.drewN ?_ _ | refine Ext.drew ?_ | refine Ext.alloc ?_ _))) ?_; intro v2 wb hown2 hxb; have hE2 : Ext w4 wb := hxb w4 (by repeat (with_reducible first | exact hE1 | refine Ext.drewN ?_ _ | refine Ext.drew ?_ | refine Ext.alloc ?_ _)) (Nat.le_refl _))))
            all_goals
              go_wp2_with fail
              go_ret
              exact own_ret (hown2.lower hgr.out.size) hbw.2 (by omega) ((hcur.out.ext hE2).mono (by omega)) (grownBy_trans hgr.out (grownBy_ext hE2 _))
          · have hn2 : (n : Int) ≤ 1 := by omega
            go_wp2_with fail
            go_ret
            exact own_ret hown hbw.2 (by omega) (h4.mono (by omega)) g4
        · have hq1 : (k == 1) = false := by simpa using hk1
          go_wp2_with fail
          go_ret
          exact own_ret hown hbw.2 (by omega) (h4.mono (by omega)) g4
end Go.Proofs.Ytkgnfmdeimaedaa
